/- Decompilation core: typed readings of values, the state of a walk, and its frame. -/
import Derived.WalkKit
import Derived.KernelRfl
import Derived.Lib.AppendStr
import Derived.Lib.ConvBytes
namespace Go
def fzOk (fz : Nat × Nat) (n : Nat) : Prop := fz = (0, 0) ∨ fz = (n, n + 1)
def World.ownsRowS (w : World) (base : Nat) (e : TypeId) (size : Nat) (v : Value) (n : Nat) (xs : List Value) : Prop :=
  xs.length = n * size ∧
  ((v = .slice none 0 0 ∧ n = 0) ∨
   ∃ g cap cur fz, v = .slice (some ⟨g, 0, none⟩) n cap ∧ base ≤ g ∧ w.heap[g]? = some (.cells cur e fz) ∧ fzOk fz cur.size ∧ n ≤ cap ∧ cap ≤ maxLen ∧ cur.size = cap * size ∧ cur.toList.take (n * size) = xs)
section
variable {w : World} {base : Nat} {e : TypeId} {size : Nat} {v : Value} {n : Nat} {xs : List Value}
theorem World.ownsRowS_nil (w : World) (base : Nat) (e : TypeId) (size : Nat) : w.ownsRowS base e size (.slice none 0 0) 0 [] := ⟨by simp, .inl ⟨rfl, rfl⟩⟩
theorem World.ownsRowS.lt (h : w.ownsRowS base e size v n xs) : ∀ k, v.ownBlock = some k → base ≤ k ∧ k < w.heap.size := by
  intro k hk
  rcases h.2 with ⟨rfl, _⟩ | ⟨g, cap, cur, fz, rfl, hb, hg, _⟩
  · simp [Value.ownBlock] at hk
  · simp [Value.ownBlock] at hk
    subst hk
    exact ⟨hb, (Array.getElem?_eq_some_iff.1 hg).1⟩
theorem World.ownsRowS.cells (h : w.ownsRowS base e size v n xs) {g : Nat} (hg : v.ownBlock = some g) : ∀ j u, xs[j]? = some u → w.cell? ((⟨g, 0, none⟩ : Addr).add j) = some u := by
  intro j u hu
  rcases h.2 with ⟨rfl, _⟩ | ⟨g', cap, cur, fz, rfl, _, hgg, _, _, _, _, htake⟩
  · simp [Value.ownBlock] at hg
  · simp [Value.ownBlock] at hg
    subst hg
    have hadd : (⟨g', 0, none⟩ : Addr).add j = ⟨g', j, none⟩ := by unfold Addr.add; split <;> simp_all
    rw [hadd, cell_of_row w g' j cur e fz hgg]
    rw [← htake, List.getElem?_take] at hu
    split at hu
    · simpa using hu
    · cases hu
end
theorem run_storeCells_atS (P : Program) (g o : Nat) (t : TypeId) (fz : Nat × Nat) : ∀ (vs : List Value) (i : Nat) (cur : Array Value) (w : World), w.heap[g]? = some (.cells cur t fz) → fzOk fz cur.size → o + i + vs.length ≤ cur.size → (∀ v ∈ vs, v.oneCell' = true) →
    (storeCells ⟨g, o, none⟩ vs i).run P w = .ok () (w.setRow g (cur.toList.take (o + i) ++ vs ++ cur.toList.drop (o + i + vs.length)).toArray)
  | [], i, cur, w, hg, _, _, _ => by
    simp only [storeCells, List.append_nil, List.length_nil, Nat.add_zero, List.take_append_drop, Array.toArray_toList]
    rw [setRow_self w g cur t fz hg]
    rfl
  | v :: rest, i, cur, w, hg, hfz, hl, h1 => by
    have hi : o + i < cur.size := by simp at hl; omega
    have hadd : (⟨g, o, none⟩ : Addr).add i = ⟨g, o + i, none⟩ := by unfold Addr.add; split <;> simp_all
    have hcell : w.cell? ⟨g, o + i, none⟩ = some cur[o + i] := by simp [World.cell?, hg, hi]
    have hfro : w.frozen? ⟨g, o + i, none⟩ = false := by
      rcases hfz with rfl | rfl
      · simp [World.frozen?, hg]
      · simp only [World.frozen?, hg, Bool.and_eq_false_iff, decide_eq_false_iff_not]
        left
        omega
    have hst : (store ((⟨g, o, none⟩ : Addr).add i) v).run P w = .ok () (w.setRow g (cur.setIfInBounds (o + i) v)) := by
      rw [hadd, run_store P w _ v _ (h1 v (by simp)), hcell]
      simp [hfro, setCell_eq_setRow w g (o + i) cur t fz v hg]
    have ih := run_storeCells_atS P g o t fz rest (i + 1) (cur.setIfInBounds (o + i) v) (w.setRow g (cur.setIfInBounds (o + i) v)) (setRow_heap w g cur _ t _ hg) (by simpa using hfz) (by simp at hl ⊢; omega) (fun x hx => h1 x (by simp [hx]))
    simp only [storeCells, Sem.run_bind, hst, Result.andThen_ok, ih, setRow_setRow]
    congr 3
    have e := list_seg_step cur.toList (o + i) v rest (by simp at hl ⊢; omega)
    simpa [Array.toList_setIfInBounds, Nat.add_assoc] using e
end Go
namespace Gd
open Go Go.RowKit
set_option linter.unusedVariables false
set_option linter.unusedSimpArgs false
abbrev Ok := Nat → Nat → Prop
structure Evo (ok : Ok) (w w' : World) : Prop where
  size : w.heap.size ≤ w'.heap.size
  cell : ∀ b o, ok b o → w'.cell? ⟨b, o, none⟩ = w.cell? ⟨b, o, none⟩
  map : ∀ b es c, ok b 0 → w.heap[b]? = some (.map es c) → w'.heap[b]? = some (.map es c)
theorem Evo.refl (ok : Ok) (w : World) : Evo ok w w := ⟨Nat.le_refl _, fun _ _ _ => rfl, fun _ _ _ _ h => h⟩
def lt (w : World) : Ok := fun b _ => b < w.heap.size
theorem Evo.of_below {w w' : World} (h : Below w.heap.size w w') : Evo (lt w) w w' :=
  ⟨h.size, fun b o hb => h.cell (p := ⟨b, o, none⟩) hb, fun b es c hb hm => by rw [h.block b hb]; exact hm⟩
theorem Evo.mono {ok ok' : Ok} {w w' : World} (h : Evo ok' w w') (hk : ∀ b o, ok b o → ok' b o) : Evo ok w w' :=
  ⟨h.size, fun b o hb => h.cell b o (hk b o hb), fun b es c hb hm => h.map b es c (hk b 0 hb) hm⟩
theorem Evo.trans {ok : Ok} {w w1 w2 : World} (h : Evo ok w w1) (k : Evo ok w1 w2) : Evo ok w w2 :=
  ⟨Nat.le_trans h.size k.size, fun b o hb => (k.cell b o hb).trans (h.cell b o hb), fun b es c hb hm => k.map b es c hb (h.map b es c hb hm)⟩
theorem Evo.of_blocks {ok : Ok} {w w' : World} (hs : w.heap.size ≤ w'.heap.size) (h : ∀ b o, ok b o → w'.heap[b]? = w.heap[b]?) : Evo ok w w' :=
  ⟨hs, fun b o hb => World.cell?_of_block (w := w) (h b o hb), fun b es c hb hm => by rw [h b 0 hb]; exact hm⟩
structure BelowL (L : List Nat) (B : Nat) (w w' : World) : Prop where
  os : w'.os = w.os
  tape : w'.tape = w.tape
  output : w'.output = w.output
  size : w.heap.size ≤ w'.heap.size
  block : ∀ k, k < B → k ∉ L → w'.heap[k]? = w.heap[k]?
theorem BelowL.refl (L : List Nat) (B : Nat) (w : World) : BelowL L B w w := ⟨rfl, rfl, rfl, Nat.le_refl _, fun _ _ _ => rfl⟩
theorem BelowL.of (L : List Nat) {B : Nat} {w w' : World} (h : Below B w w') : BelowL L B w w' := ⟨h.os, h.tape, h.output, h.size, fun k hk _ => h.block k hk⟩
theorem BelowL.nil {B : Nat} {w w' : World} (h : BelowL [] B w w') : Below B w w' := ⟨h.os, h.tape, h.output, h.size, fun k hk => h.block k hk (by simp)⟩
theorem BelowL.trans {L : List Nat} {B : Nat} {a b c : World} (h : BelowL L B a b) (k : BelowL L B b c) : BelowL L B a c :=
  ⟨k.os.trans h.os, k.tape.trans h.tape, k.output.trans h.output, Nat.le_trans h.size k.size, fun i hi hn => (k.block i hi hn).trans (h.block i hi hn)⟩
theorem BelowL.mono {L : List Nat} {B B' : Nat} {w w' : World} (h : BelowL L B w w') (hB : B' ≤ B) : BelowL L B' w w' := ⟨h.os, h.tape, h.output, h.size, fun k hk hn => h.block k (Nat.lt_of_lt_of_le hk hB) hn⟩
theorem BelowL.drew {L : List Nat} {B : Nat} {a w : World} (h : BelowL L B a w) : BelowL L B a w.drew := ⟨h.os, h.tape, h.output, h.size, h.block⟩
structure RT (τ : Type) where
  size : Nat
  agg : Bool
  rep : Ok → World → τ → List Value → Prop
  len : ∀ {ok w x cs}, rep ok w x cs → cs.length = size
  one : agg = false → size = 1
  flat : ∀ {ok w x cs}, rep ok w x cs → ∀ c ∈ cs, c.oneCell' = true
  evo : ∀ {ok w w' x cs}, rep ok w x cs → Evo ok w w' → rep ok w' x cs
  weak : ∀ {ok ok' w x cs}, rep ok w x cs → (∀ b o, ok b o → ok' b o) → rep ok' w x cs
def RT.val {τ : Type} (r : RT τ) (cs : List Value) : Value := if r.agg then .agg cs.toArray else cs.headD undef
def isV {τ : Type} (r : RT τ) (ok : Ok) (w : World) (x : τ) (v : Value) : Prop := ∃ cs, r.rep ok w x cs ∧ v = r.val cs
theorem isV.evo {τ : Type} {r : RT τ} {ok : Ok} {w w' : World} {x : τ} {v : Value} (h : isV r ok w x v) (he : Evo ok w w') : isV r ok w' x v :=
  let ⟨cs, hr, hv⟩ := h; ⟨cs, r.evo hr he, hv⟩
theorem isV.weak {τ : Type} {r : RT τ} {ok ok' : Ok} {w : World} {x : τ} {v : Value} (h : isV r ok w x v) (hk : ∀ b o, ok b o → ok' b o) : isV r ok' w x v :=
  let ⟨cs, hr, hv⟩ := h; ⟨cs, r.weak hr hk, hv⟩
def atCells (ok : Ok) (w : World) (b o : Nat) (cs : List Value) : Prop := ∀ (j : Nat) u, cs[j]? = some u → ok b (o + j) ∧ w.cell? ⟨b, o + j, none⟩ = some u
theorem atCells.evo {ok : Ok} {w w' : World} {b o : Nat} {cs : List Value} (h : atCells ok w b o cs) (he : Evo ok w w') : atCells ok w' b o cs :=
  fun j u hu => ⟨(h j u hu).1, (he.cell _ _ (h j u hu).1).trans (h j u hu).2⟩
theorem atCells.weak {ok ok' : Ok} {w : World} {b o : Nat} {cs : List Value} (h : atCells ok w b o cs) (hk : ∀ b o, ok b o → ok' b o) : atCells ok' w b o cs :=
  fun j u hu => ⟨hk _ _ (h j u hu).1, (h j u hu).2⟩
def isAt {τ : Type} (r : RT τ) (ok : Ok) (w : World) (x : τ) (p : Value) : Prop :=
  ∃ b o cs, p = .pointer (some ⟨b, o, none⟩) ∧ r.rep ok w x cs ∧ atCells ok w b o cs
theorem isAt.evo {τ : Type} {r : RT τ} {ok : Ok} {w w' : World} {x : τ} {v : Value} (h : isAt r ok w x v) (he : Evo ok w w') : isAt r ok w' x v :=
  let ⟨b, o, cs, hv, hr, hc⟩ := h; ⟨b, o, cs, hv, r.evo hr he, hc.evo he⟩
theorem isAt.weak {τ : Type} {r : RT τ} {ok ok' : Ok} {w : World} {x : τ} {v : Value} (h : isAt r ok w x v) (hk : ∀ b o, ok b o → ok' b o) : isAt r ok' w x v :=
  let ⟨b, o, cs, hv, hr, hc⟩ := h; ⟨b, o, cs, hv, r.weak hr hk, hc.weak hk⟩
def rInt (k : IntKind) : RT Int where
  size := 1
  agg := false
  rep := fun _ _ x cs => cs = [.int k x]
  len := by rintro _ _ x cs rfl; rfl
  one := fun _ => rfl
  flat := by rintro _ _ x cs rfl c hc; simp at hc; subst hc; rfl
  evo := fun h _ => h
  weak := fun h _ => h
def rBool : RT Bool where
  size := 1
  agg := false
  rep := fun _ _ x cs => cs = [.bool x]
  len := by rintro _ _ x cs rfl; rfl
  one := fun _ => rfl
  flat := by rintro _ _ x cs rfl c hc; simp at hc; subst hc; rfl
  evo := fun h _ => h
  weak := fun h _ => h
abbrev Str := List UInt8
def strV (s : Str) : Value := .string ⟨s.toArray⟩
def rStr : RT Str where
  size := 1
  agg := false
  rep := fun _ _ x cs => cs = [strV x]
  len := by rintro _ _ x cs rfl; rfl
  one := fun _ => rfl
  flat := by rintro _ _ x cs rfl c hc; simp at hc; subst hc; rfl
  evo := fun h _ => h
  weak := fun h _ => h
def slRep {τ : Type} (r : RT τ) (ok : Ok) (w : World) (xs : List τ) (v : Value) : Prop :=
  ∃ A n c, v = .slice A n c ∧ xs.length = n ∧ n ≤ c ∧
    (0 < n → ∃ b o, A = some ⟨b, o, none⟩ ∧ ∀ i x, xs[i]? = some x → ∃ cs, r.rep ok w x cs ∧ atCells ok w b (o + i * r.size) cs)
def rSl {τ : Type} (r : RT τ) : RT (List τ) where
  size := 1
  agg := false
  rep := fun ok w xs cs => ∃ v, cs = [v] ∧ slRep r ok w xs v
  len := by rintro _ _ x cs ⟨v, rfl, _⟩; rfl
  one := fun _ => rfl
  flat := by rintro _ _ x cs ⟨v, rfl, A, n, c, rfl, _⟩ d hd; simp at hd; subst hd; rfl
  evo := by
    rintro ok w w' xs cs ⟨v, rfl, A, n, c, rfl, hl, hc, hn⟩ he
    refine ⟨_, rfl, A, n, c, rfl, hl, hc, fun h0 => ?_⟩
    obtain ⟨b, o, hA, hx⟩ := hn h0
    refine ⟨b, o, hA, fun i x hi => ?_⟩
    obtain ⟨cs, hr, ha⟩ := hx i x hi
    exact ⟨cs, r.evo hr he, ha.evo he⟩
  weak := by
    rintro ok ok' w xs cs ⟨v, rfl, A, n, c, rfl, hl, hc, hn⟩ hk
    refine ⟨_, rfl, A, n, c, rfl, hl, hc, fun h0 => ?_⟩
    obtain ⟨b, o, hA, hx⟩ := hn h0
    refine ⟨b, o, hA, fun i x hi => ?_⟩
    obtain ⟨cs, hr, ha⟩ := hx i x hi
    exact ⟨cs, r.weak hr hk, ha.weak hk⟩
theorem isV_int {k : IntKind} {ok : Ok} {w : World} {x : Int} {v : Value} : isV (rInt k) ok w x v ↔ v = .int k x := by
  constructor
  · rintro ⟨cs, rfl, rfl⟩; rfl
  · rintro rfl; exact ⟨_, rfl, rfl⟩
theorem isV_bool {ok : Ok} {w : World} {x : Bool} {v : Value} : isV rBool ok w x v ↔ v = .bool x := by
  constructor
  · rintro ⟨cs, rfl, rfl⟩; rfl
  · rintro rfl; exact ⟨_, rfl, rfl⟩
theorem isV_str {ok : Ok} {w : World} {x : Str} {v : Value} : isV rStr ok w x v ↔ v = strV x := by
  constructor
  · rintro ⟨cs, rfl, rfl⟩; rfl
  · rintro rfl; exact ⟨_, rfl, rfl⟩
theorem isV_sl {τ : Type} {r : RT τ} {ok : Ok} {w : World} {xs : List τ} {v : Value} : isV (rSl r) ok w xs v ↔ slRep r ok w xs v := by
  constructor
  · rintro ⟨cs, ⟨v', rfl, h⟩, rfl⟩; exact h
  · intro h; exact ⟨[v], ⟨v, rfl, h⟩, rfl⟩
structure Fld (σ : Type) where
  τ : Type
  r : RT τ
  get : σ → τ
def sizeF {σ : Type} : List (Fld σ) → Nat
  | [] => 0
  | f :: fs => f.r.size + sizeF fs
def offF {σ : Type} (fs : List (Fld σ)) (i : Nat) : Nat := sizeF (fs.take i)
def repA {τ : Type} (r : RT τ) (ok : Ok) (w : World) : List τ → List Value → Prop
  | [], cs => cs = []
  | x :: xs, cs => ∃ c1 c2, cs = c1 ++ c2 ∧ r.rep ok w x c1 ∧ repA r ok w xs c2
theorem repA_len {τ : Type} {r : RT τ} {ok : Ok} {w : World} {xs : List τ} {cs : List Value} (h : repA r ok w xs cs) : cs.length = xs.length * r.size := by
  induction xs generalizing cs with
  | nil => simp only [repA] at h; subst h; simp
  | cons x xs ih => obtain ⟨c1, c2, rfl, h1, h2⟩ := h; simp [r.len h1, ih h2, Nat.add_mul, Nat.add_comm]
def rArr {τ : Type} (n : Nat) (r : RT τ) : RT (List τ) where
  size := n * r.size
  agg := true
  rep := fun ok w xs cs => xs.length = n ∧ repA r ok w xs cs
  len := by rintro ok w xs cs ⟨rfl, h⟩; exact repA_len h
  one := fun h => by cases h
  flat := by
    rintro ok w xs cs ⟨hl, h⟩
    clear hl
    induction xs generalizing cs with
    | nil => simp only [repA] at h; subst h; simp
    | cons f fs ih =>
      obtain ⟨c1, c2, rfl, h1, h2⟩ := h
      intro c hc
      rcases List.mem_append.1 hc with hc | hc
      · exact r.flat h1 c hc
      · exact ih h2 c hc
  evo := by
    rintro ok w w' xs cs ⟨hl, h⟩ he
    refine ⟨hl, ?_⟩
    clear hl
    induction xs generalizing cs with
    | nil => exact h
    | cons f fs ih => obtain ⟨c1, c2, rfl, h1, h2⟩ := h; exact ⟨c1, c2, rfl, r.evo h1 he, ih h2⟩
  weak := by
    rintro ok ok' w xs cs ⟨hl, h⟩ he
    refine ⟨hl, ?_⟩
    clear hl
    induction xs generalizing cs with
    | nil => exact h
    | cons f fs ih => obtain ⟨c1, c2, rfl, h1, h2⟩ := h; exact ⟨c1, c2, rfl, r.weak h1 he, ih h2⟩
structure DF where
  p : Ok → World → Prop
  evo : ∀ {ok w w'}, p ok w → Evo ok w w' → p ok w'
  weak : ∀ {ok ok' w}, p ok w → (∀ b o, ok b o → ok' b o) → p ok' w
def DF.v {τ : Type} (r : RT τ) (x : τ) (v : Value) : DF := ⟨fun ok w => isV r ok w x v, fun h he => h.evo he, fun h hk => h.weak hk⟩
def DF.at {τ : Type} (r : RT τ) (x : τ) (p : Value) : DF := ⟨fun ok w => isAt r ok w x p, fun h he => h.evo he, fun h hk => h.weak hk⟩
def AllD (ok : Ok) (w : World) : List DF → Prop
  | [] => True
  | d :: ds => d.p ok w ∧ AllD ok w ds
theorem AllD.evo {ok : Ok} {w w' : World} {D : List DF} (h : AllD ok w D) (he : Evo ok w w') : AllD ok w' D := by
  induction D with
  | nil => trivial
  | cons d ds ih => exact ⟨d.evo h.1 he, ih h.2⟩
theorem AllD.weak {ok ok' : Ok} {w : World} {D : List DF} (h : AllD ok w D) (hk : ∀ b o, ok b o → ok' b o) : AllD ok' w D := by
  induction D with
  | nil => trivial
  | cons d ds ih => exact ⟨d.weak h.1 hk, ih h.2⟩
theorem AllD.get {ok : Ok} {w : World} {D : List DF} (h : AllD ok w D) {i : Nat} {d : DF} (hi : D[i]? = some d) : d.p ok w := by
  induction D generalizing i with
  | nil => simp at hi
  | cons e ds ih =>
    cases i with
    | zero => simp at hi; subst hi; exact h.1
    | succ i => simp at hi; exact ih h.2 hi
inductive AV where
  | v (x : Value)
  | o (id off : Nat)
structure HB where
  cs : List Value
  t : TypeId
def lookN {α : Type} : List (Nat × α) → Nat → Option α
  | [], _ => none
  | (k, x) :: l, t => bif Nat.beq k t then some x else lookN l t
theorem lookN_mem {α : Type} {l : List (Nat × α)} {t : Nat} {x : α} (h : lookN l t = some x) : (t, x) ∈ l := by
  induction l with
  | nil => simp [lookN] at h
  | cons p l ih =>
    obtain ⟨k, y⟩ := p
    simp only [lookN] at h
    cases hb : Nat.beq k t with
    | true => rw [hb] at h; simp only [cond_true, Option.some.injEq] at h; subst h; have := Nat.eq_of_beq_eq_true hb; subst this; exact .head _
    | false => rw [hb] at h; exact .tail _ (ih h)
def remN {α : Type} : List (Nat × α) → Nat → List (Nat × α)
  | [], _ => []
  | (k, x) :: l, t => bif Nat.beq k t then remN l t else (k, x) :: remN l t
theorem remN_mem {α : Type} {l : List (Nat × α)} {t : Nat} {p : Nat × α} (h : p ∈ remN l t) : p ∈ l ∧ p.1 ≠ t := by
  induction l with
  | nil => simp [remN] at h
  | cons q l ih =>
    obtain ⟨k, y⟩ := q
    simp only [remN] at h
    cases hb : Nat.beq k t with
    | true => rw [hb] at h; exact ⟨.tail _ (ih h).1, (ih h).2⟩
    | false =>
      rw [hb] at h
      simp only [cond_false, List.mem_cons] at h
      rcases h with rfl | h
      · exact ⟨.head _, fun e => by simp only at e; subst e; simp [Nat.beq_refl] at hb⟩
      · exact ⟨.tail _ (ih h).1, (ih h).2⟩
def setN {α : Type} (l : List (Nat × α)) (t : Nat) (x : α) : List (Nat × α) := (t, x) :: remN l t
def den (β : Nat → Nat) : AV → Value
  | .v x => x
  | .o id off => .pointer (some ⟨β id, off, none⟩)
def lenV : Value → Nat
  | .slice _ n _ => n
  | _ => 0
structure TL where
  blks : Nat → Prop
  cov : Nat → Nat → Prop
  cb : ∀ {b o}, cov b o → blks b
  p : Ok → World → Prop
  keep : ∀ {ok w w'}, p ok w → (∀ g, blks g → w'.heap[g]? = w.heap[g]?) → Evo ok w w' → p ok w'
  weak : ∀ {ok ok' w}, p ok w → (∀ b o, ok b o → ok' b o) → p ok' w
  lt : ∀ {ok w}, p ok w → ∀ g, blks g → g < w.heap.size
theorem ownsRow_keep {base e s : Nat} {v : Value} {n : Nat} {xs : List Value} {w w' : World} (hx : w.ownsRowS base e s v n xs) (hb : ∀ g, v.ownBlock = some g → w'.heap[g]? = w.heap[g]?) : w'.ownsRowS base e s v n xs := by
  refine ⟨hx.1, ?_⟩
  rcases hx.2 with h1 | ⟨g, cap, cur, fz, hv, hg, hh, r⟩
  · exact .inl h1
  · refine .inr ⟨g, cap, cur, fz, hv, hg, ?_, r⟩
    rw [hb g (by rw [hv]; rfl)]; exact hh
def tl (v : Value) (e s : Nat) : TL where
  blks := fun g => v.ownBlock = some g
  cov := fun b o => v.ownBlock = some b ∧ lenV v * s ≤ o
  cb := fun h => h.1
  p := fun _ w => ∃ xs, w.ownsRowS 0 e s v (lenV v) xs
  keep := fun ⟨xs, h⟩ hb _ => ⟨xs, ownsRow_keep h hb⟩
  weak := fun h _ => h
  lt := fun ⟨_, h⟩ g hg => (h.lt g hg).2
abbrev GL := List (Nat × AV)
abbrev HL := List (Nat × HB)
def okOf (ok0 : Ok) (B : Nat) (β : Nat → Nat) (H : HL) (O : List TL) (w : World) : Ok := fun b o =>
  (ok0 b o ∨ B ≤ b) ∧ b < w.heap.size ∧ (∀ h ∈ H, β h.1 ≠ b) ∧ (∀ t ∈ O, ¬ t.cov b o)
structure Cx where
  n : Nat
  ok : Ok
  w : World
  res : List Nat
  a0 : Act
  pin : Option (Nat → Nat)
  lent : List Nat
  lok : ∀ g ∈ lent, ∀ o, ok g o
def okL (L : List Nat) (ok : Ok) : Ok := fun b o => ok b o ∨ b ∈ L
abbrev cxL (L : List Nat) (n : Nat) (ok : Ok) (w : World) : Cx := ⟨n, okL L ok, w, [], ⟨#[], []⟩, none, L, fun _ hg _ => .inr hg⟩
def Cx.mine (X : Cx) (g : Nat) : Prop := X.w.heap.size ≤ g ∨ g ∈ X.lent
theorem Cx.mine_ok {X : Cx} {g : Nat} (h : X.mine g) (o : Nat) : X.ok g o ∨ X.w.heap.size ≤ g := h.elim .inr fun h => .inl (X.lok g h o)
def noPin (X : Cx) : Bool := match X.pin with
  | none => true
  | some _ => false
theorem noPin_ok {X : Cx} (h : noPin X = true) : X.pin = none := by
  unfold noPin at h
  split at h
  · assumption
  · cases h
def notIn : List Nat → Nat → Bool
  | [], _ => true
  | k :: l, t => bif Nat.beq k t then false else notIn l t
theorem notIn_ok {l : List Nat} {t : Nat} (h : notIn l t = true) : t ∉ l := by
  induction l with
  | nil => simp
  | cons k l ih =>
    simp only [notIn] at h
    cases hb : Nat.beq k t with
    | true => rw [hb] at h; cases h
    | false =>
      rw [hb] at h
      intro hm
      rcases List.mem_cons.1 hm with rfl | hm
      · simp [Nat.beq_refl] at hb
      · exact ih h hm
def okD (X : Cx) (d : Nat) : Bool := Nat.blt d X.n && (notIn X.res d && Nat.blt d 100000)
theorem okD_lt {X : Cx} {d : Nat} (h : okD X d = true) : d < X.n := by
  simp only [okD, Bool.and_eq_true] at h
  exact Nat.lt_of_succ_le (Nat.le_of_ble_eq_true h.1)
theorem okD_res {X : Cx} {d : Nat} (h : okD X d = true) : d ∉ X.res := by
  simp only [okD, Bool.and_eq_true] at h
  exact notIn_ok h.2.1
theorem okD_small {X : Cx} {d : Nat} (h : okD X d = true) : Nat.blt d 100000 = true := by
  simp only [okD, Bool.and_eq_true] at h
  exact h.2.2
structure Sb (β : Nat → Nat) (X : Cx) (G : GL) (D : List DF) (H : HL) (O : List TL) (a : Act) (w : World) : Prop where
  sz : a.tmps.size = X.n
  df : a.defers = []
  fr : ∀ t ∈ X.res, a.tmps[t]? = X.a0.tmps[t]?
  pn : ∀ f, X.pin = some f → ∀ h ∈ H, β h.1 = f h.1
  tm : ∀ p ∈ G, a.tmps[p.1]? = some (den β p.2)
  bel : BelowL X.lent X.w.heap.size X.w w
  dat : AllD (okOf X.ok X.w.heap.size β H O w) w D
  obj : ∀ h ∈ H, w.heap[β h.1]? = some (.cells h.2.cs.toArray h.2.t (0, 0)) ∧ X.mine (β h.1)
  own : ∀ t ∈ O, t.p (okOf X.ok X.w.heap.size β H O w) w ∧ ∀ g, t.blks g → X.mine g
  dHH : ∀ h ∈ H, ∀ h' ∈ H, h.1 ≠ h'.1 → β h.1 ≠ β h'.1
  dHO : ∀ h ∈ H, ∀ t ∈ O, ¬ t.blks (β h.1)
  dOO : O.Pairwise fun s t => ∀ g, s.blks g → ¬ t.blks g
def St (X : Cx) (G : GL) (D : List DF) (H : HL) (O : List TL) (a : Act) (w : World) : Prop := ∃ β, Sb β X G D H O a w
section
variable {β : Nat → Nat} {X : Cx} {G : GL} {D : List DF} {H : HL} {O : List TL} {a : Act} {w w' : World}
theorem okOf_grow {ok0 : Ok} (h : w.heap.size ≤ w'.heap.size) {B : Nat} (b o : Nat) : okOf ok0 B β H O w b o → okOf ok0 B β H O w' b o :=
  fun ⟨h1, h2, h3, h4⟩ => ⟨h1, by omega, h3, h4⟩
theorem heap_lt {w : World} {g : Nat} {o : Obj} (h : w.heap[g]? = some o) : g < w.heap.size := by
  rcases Nat.lt_or_ge g w.heap.size with hlt | hge
  · exact hlt
  · rw [Array.getElem?_eq_none hge] at h; cases h
theorem Sb.olt (h : Sb β X G D H O a w) {t : TL} (ht : t ∈ O) {g : Nat} (hg : t.blks g) : g < w.heap.size := t.lt (h.own t ht).1 g hg
theorem Sb.hlt (h : Sb β X G D H O a w) {p : Nat × HB} (hp : p ∈ H) : β p.1 < w.heap.size := heap_lt (h.obj p hp).1
theorem Sb.below (h : Sb β X G D H O a w) (hb : Below w.heap.size w w') : Sb β X G D H O a w' where
  sz := h.sz
  df := h.df
  fr := h.fr
  pn := h.pn
  tm := h.tm
  bel := h.bel.trans (BelowL.of _ (hb.mono h.bel.size))
  dat := (h.dat.evo ((Evo.of_below hb).mono fun b o hk => hk.2.1)).weak (okOf_grow hb.size)
  obj := fun o ho => ⟨by rw [hb.block _ (heap_lt (h.obj o ho).1), (h.obj o ho).1], (h.obj o ho).2⟩
  own := fun t ht => ⟨t.weak (t.keep (h.own t ht).1 (fun g hg => hb.block g (h.olt ht hg)) ((Evo.of_below hb).mono fun b o hk => hk.2.1)) (okOf_grow hb.size), (h.own t ht).2⟩
  dHH := h.dHH
  dHO := h.dHO
  dOO := h.dOO
theorem Sb.act {a' : Act} {G' : GL} (h : Sb β X G D H O a w) (hs : a'.tmps.size = a.tmps.size) (hd : a'.defers = a.defers) (hr : ∀ t ∈ X.res, a'.tmps[t]? = a.tmps[t]?)
    (hg : ∀ p ∈ G', a'.tmps[p.1]? = some (den β p.2)) : Sb β X G' D H O a' w :=
  { h with sz := hs.trans h.sz, df := hd.trans h.df, fr := fun t ht => (hr t ht).trans (h.fr t ht), tm := hg }
theorem Sb.put (h : Sb β X G D H O a w) {t : Nat} (ht : okD X t = true) (x : AV) : Sb β X (setN G t x) D H O (a.put (some t) (den β x)) w := by
  refine h.act (by simp [Act.put]) rfl (fun k hk => ?_) fun p hp => ?_
  · have hne : t ≠ k := fun e => okD_res ht (e ▸ hk)
    simp [Act.put, hne]
  simp only [setN, List.mem_cons] at hp
  rcases hp with rfl | hp
  · simp [Act.put, h.sz, okD_lt ht]
  · obtain ⟨hp, hne⟩ := remN_mem hp
    have hne' : t ≠ p.1 := fun e => hne e.symm
    simp [Act.put, hne', h.tm p hp]
theorem Sb.lessG {G' : GL} (h : Sb β X G D H O a w) (hg : ∀ p ∈ G', p ∈ G) : Sb β X G' D H O a w :=
  { h with tm := fun p hp => h.tm p (hg p hp) }
theorem AllD.less {ok : Ok} {D D' : List DF} (h : AllD ok w D) (hd : ∀ d ∈ D', d ∈ D) : AllD ok w D' := by
  have key : ∀ d ∈ D, d.p ok w := by
    intro d hm
    obtain ⟨i, hi, rfl⟩ := List.getElem_of_mem hm
    exact h.get (List.getElem?_eq_getElem hi)
  clear h
  induction D' with
  | nil => trivial
  | cons e ds ih => exact ⟨key e (hd e (.head _)), ih fun d hm => hd d (.tail _ hm)⟩
end
end Gd

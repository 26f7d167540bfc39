/- Types of data, abstract values, what they mean. -/
import Derived.Test.YtnlnadfpfekeiaaDoorGFlat
namespace Gx
open Go Go.RowKit Gd
set_option linter.unusedVariables false
set_option linter.unusedSimpArgs false
inductive Rose (α : Type) where
  | mk (x : α) (ks : List (Rose α))
def Rose.x {α : Type} : Rose α → α
  | .mk x _ => x
def Rose.ks {α : Type} : Rose α → List (Rose α)
  | .mk _ ks => ks
inductive Ty where
  | int (k : IntKind) | bool | str
  | sl (e : Ty) | arr (n : Nat) (e : Ty)
  | unit | pr (f r : Ty) | st (fs : Ty) | ref | rose (fs : Ty)
@[reducible] def Ty.De : Ty → Type
  | .int _ => Int | .bool => Bool | .str => Str
  | .sl e => List e.De | .arr _ e => List e.De
  | .unit => Unit | .pr f r => f.De × r.De | .st fs => fs.De | .ref => Unit | .rose fs => Rose fs.De
def Ty.beq : Ty → Ty → Bool
  | .int a, .int b => sameK a b
  | .bool, .bool => true
  | .str, .str => true
  | .sl a, .sl b => Ty.beq a b
  | .arr n a, .arr m b => Nat.beq n m && Ty.beq a b
  | .unit, .unit => true
  | .pr a b, .pr c d => Ty.beq a c && Ty.beq b d
  | .st a, .st b => Ty.beq a b
  | .ref, .ref => true
  | .rose a, .rose b => Ty.beq a b
  | _, _ => false
theorem Ty.beq_eq : ∀ {a b : Ty}, Ty.beq a b = true → a = b
  | .int a, b, h => by cases b <;> simp [Ty.beq] at h; rw [sameK_eq h]
  | .bool, b, h => by cases b <;> simp [Ty.beq] at h; rfl
  | .str, b, h => by cases b <;> simp [Ty.beq] at h; rfl
  | .sl a, b, h => by cases b <;> simp [Ty.beq] at h; rw [Ty.beq_eq h]
  | .arr n a, b, h => by cases b <;> simp [Ty.beq] at h; rw [h.1, Ty.beq_eq h.2]
  | .unit, b, h => by cases b <;> simp [Ty.beq] at h; rfl
  | .pr a c, b, h => by cases b <;> simp [Ty.beq] at h; rw [Ty.beq_eq h.1, Ty.beq_eq h.2]
  | .st a, b, h => by cases b <;> simp [Ty.beq] at h; rw [Ty.beq_eq h]
  | .ref, b, h => by cases b <;> simp [Ty.beq] at h; rfl
  | .rose a, b, h => by cases b <;> simp [Ty.beq] at h; rw [Ty.beq_eq h]
theorem Ty.beq_refl : ∀ a : Ty, Ty.beq a a = true
  | .int k => by cases k <;> rfl
  | .bool => rfl | .str => rfl | .unit => rfl
  | .sl a => Ty.beq_refl a
  | .arr n a => by simp [Ty.beq, Ty.beq_refl a, Nat.beq_refl]
  | .pr a b => by simp [Ty.beq, Ty.beq_refl a, Ty.beq_refl b]
  | .st a => Ty.beq_refl a
  | .ref => rfl
  | .rose a => Ty.beq_refl a
def Ty.cast (a b : Ty) (x : a.De) : Option b.De := if h : Ty.beq a b = true then some (Ty.beq_eq h ▸ x) else none
theorem Ty.cast_ok {a b : Ty} {x : a.De} {y : b.De} (h : Ty.cast a b x = some y) : ∃ e : a = b, y = e ▸ x := by
  unfold Ty.cast at h
  split at h
  · rename_i hb; exact ⟨Ty.beq_eq hb, (Option.some.inj h).symm⟩
  · cases h
def rUnit : RT Unit where
  size := 0
  agg := true
  rep := fun _ _ _ cs => cs = []
  len := by rintro _ _ x cs rfl; rfl
  one := fun h => by cases h
  flat := by rintro _ _ x cs rfl c hc; simp at hc
  evo := fun h _ => h
  weak := fun h _ => h
def rPair {τ σ : Type} (r : RT τ) (s : RT σ) : RT (τ × σ) where
  size := r.size + s.size
  agg := true
  rep := fun ok w x cs => ∃ c1 c2, cs = c1 ++ c2 ∧ r.rep ok w x.1 c1 ∧ s.rep ok w x.2 c2
  len := by rintro _ _ x cs ⟨c1, c2, rfl, h1, h2⟩; simp [r.len h1, s.len h2]
  one := fun h => by cases h
  flat := by
    rintro _ _ x cs ⟨c1, c2, rfl, h1, h2⟩ c hc
    rcases List.mem_append.1 hc with hc | hc
    · exact r.flat h1 c hc
    · exact s.flat h2 c hc
  evo := by rintro _ _ _ x cs ⟨c1, c2, rfl, h1, h2⟩ he; exact ⟨c1, c2, rfl, r.evo h1 he, s.evo h2 he⟩
  weak := by rintro _ _ _ x cs ⟨c1, c2, rfl, h1, h2⟩ he; exact ⟨c1, c2, rfl, r.weak h1 he, s.weak h2 he⟩
def rAgg {τ : Type} (r : RT τ) : RT τ where
  size := r.size
  agg := true
  rep := r.rep
  len := r.len
  one := fun h => by cases h
  flat := r.flat
  evo := r.evo
  weak := r.weak
def rNone : RT Unit where
  size := 1
  agg := false
  rep := fun _ _ _ _ => False
  len := fun h => h.elim
  one := fun _ => rfl
  flat := fun h => h.elim
  evo := fun h _ => h
  weak := fun h _ => h
def rRose0 {τ : Type} (r : RT τ) : RT (Rose τ) where
  size := r.size + 1
  agg := true
  rep := fun _ _ _ _ => False
  len := fun h => h.elim
  one := fun h => by cases h
  flat := fun h => h.elim
  evo := fun h _ => h
  weak := fun h _ => h
def rRoseS {τ : Type} (r : RT τ) (k : RT (Rose τ)) : RT (Rose τ) where
  size := r.size + 1
  agg := true
  rep := fun ok w x cs => ∃ c1 c2, cs = c1 ++ c2 ∧ r.rep ok w x.x c1 ∧ (rSl k).rep ok w x.ks c2
  len := by rintro _ _ x cs ⟨c1, c2, rfl, h1, h2⟩; simp [r.len h1, (rSl k).len h2, rSl]
  one := fun h => by cases h
  flat := by
    rintro _ _ x cs ⟨c1, c2, rfl, h1, h2⟩ c hc
    rcases List.mem_append.1 hc with hc | hc
    · exact r.flat h1 c hc
    · exact (rSl k).flat h2 c hc
  evo := by rintro _ _ _ x cs ⟨c1, c2, rfl, h1, h2⟩ he; exact ⟨c1, c2, rfl, r.evo h1 he, (rSl k).evo h2 he⟩
  weak := by rintro _ _ _ x cs ⟨c1, c2, rfl, h1, h2⟩ he; exact ⟨c1, c2, rfl, r.weak h1 he, (rSl k).weak h2 he⟩
def rRoseN {τ : Type} (r : RT τ) : Nat → RT (Rose τ)
  | 0 => rRose0 r
  | n + 1 => rRoseS r (rRoseN r n)
theorem rRoseN_size {τ : Type} (r : RT τ) : ∀ n, (rRoseN r n).size = r.size + 1
  | 0 => rfl
  | _ + 1 => rfl
theorem slRep_mono {τ : Type} {r s : RT τ} {ok : Ok} {w : World} (hs : r.size = s.size) (h : ∀ {x cs}, r.rep ok w x cs → s.rep ok w x cs) {xs : List τ} {cs : List Value} : (rSl r).rep ok w xs cs → (rSl s).rep ok w xs cs := by
  rintro ⟨v, rfl, A, n, c, rfl, hl, hc, hn⟩
  refine ⟨_, rfl, A, n, c, rfl, hl, hc, fun h0 => ?_⟩
  obtain ⟨b, o, hA, hx⟩ := hn h0
  refine ⟨b, o, hA, fun i x hi => ?_⟩
  obtain ⟨cs, hr, ha⟩ := hx i x hi
  exact ⟨cs, h hr, by rw [← hs]; exact ha⟩
theorem rRoseN_mono {τ : Type} (r : RT τ) {ok : Ok} {w : World} : ∀ (n : Nat) {x : Rose τ} {cs : List Value}, (rRoseN r n).rep ok w x cs → (rRoseN r (n + 1)).rep ok w x cs
  | 0, _, _, h => h.elim
  | n + 1, x, cs, ⟨c1, c2, e, h1, h2⟩ => ⟨c1, c2, e, h1, slRep_mono (by rw [rRoseN_size, rRoseN_size]) (rRoseN_mono r n) h2⟩
theorem rRoseN_le {τ : Type} (r : RT τ) {ok : Ok} {w : World} {n m : Nat} (h : n ≤ m) {x : Rose τ} {cs : List Value} (hx : (rRoseN r n).rep ok w x cs) : (rRoseN r m).rep ok w x cs := by
  induction h with
  | refl => exact hx
  | step _ ih => exact rRoseN_mono r _ ih
def rRose {τ : Type} (r : RT τ) : RT (Rose τ) where
  size := r.size + 1
  agg := true
  rep := fun ok w x cs => ∃ n, (rRoseN r n).rep ok w x cs
  len := by rintro _ _ x cs ⟨n, h⟩; rw [(rRoseN r n).len h, rRoseN_size]
  one := fun h => by cases h
  flat := by rintro _ _ x cs ⟨n, h⟩; exact (rRoseN r n).flat h
  evo := by rintro _ _ _ x cs ⟨n, h⟩ he; exact ⟨n, (rRoseN r n).evo h he⟩
  weak := by rintro _ _ _ x cs ⟨n, h⟩ he; exact ⟨n, (rRoseN r n).weak h he⟩
theorem rRose_out {τ : Type} {r : RT τ} {ok : Ok} {w : World} {x : Rose τ} {cs : List Value} (h : (rRose r).rep ok w x cs) : ∃ c1 c2, cs = c1 ++ c2 ∧ r.rep ok w x.x c1 ∧ (rSl (rRose r)).rep ok w x.ks c2 := by
  obtain ⟨n, h⟩ := h
  cases n with
  | zero => exact h.elim
  | succ n =>
    obtain ⟨c1, c2, e, h1, h2⟩ := h
    exact ⟨c1, c2, e, h1, slRep_mono (s := rRose r) (rRoseN_size r n) (fun h => ⟨n, h⟩) h2⟩
theorem rRose_in {τ : Type} {r : RT τ} {ok : Ok} {w : World} {x : τ} {ks : List (Rose τ)} {c1 c2 : List Value} (h1 : r.rep ok w x c1) (h2 : (rSl (rRose r)).rep ok w ks c2) : (rRose r).rep ok w (.mk x ks) (c1 ++ c2) := by
  obtain ⟨v, rfl, A, n, c, rfl, hl, hc, hn⟩ := h2
  rcases Nat.eq_zero_or_pos n with h0 | h0
  · subst h0
    refine ⟨1, c1, _, rfl, h1, _, rfl, A, 0, c, rfl, hl, hc, fun h => absurd h (by omega)⟩
  · obtain ⟨b, o, hA, hx⟩ := hn h0
    have key2 : ∀ (k : Nat), ∃ m, ∀ (i : Nat) (y : Rose τ), i < k → ks[i]? = some y → ∃ cs, (rRoseN r m).rep ok w y cs ∧ atCells ok w b (o + i * (rRose r).size) cs := by
      intro k
      induction k with
      | zero => exact ⟨0, fun i y hi => absurd hi (by omega)⟩
      | succ k ih =>
        obtain ⟨m, hm⟩ := ih
        cases hk : ks[k]? with
        | none =>
          refine ⟨m, fun i y hi hy => ?_⟩
          rcases Nat.lt_or_ge i k with hlt | hge
          · exact hm i y hlt hy
          · have : i = k := by omega
            subst this; rw [hk] at hy; cases hy
        | some z =>
          obtain ⟨cs, ⟨m2, h3⟩, h4⟩ := hx k z hk
          refine ⟨max m m2, fun i y hi hy => ?_⟩
          rcases Nat.lt_or_ge i k with hlt | hge
          · obtain ⟨cs', h5, h6⟩ := hm i y hlt hy
            exact ⟨cs', rRoseN_le r (Nat.le_max_left _ _) h5, h6⟩
          · have : i = k := by omega
            subst this; rw [hk] at hy; injection hy with hy; subst hy
            exact ⟨cs, rRoseN_le r (Nat.le_max_right _ _) h3, h4⟩
    obtain ⟨m, hm⟩ := key2 ks.length
    refine ⟨m + 1, c1, _, rfl, h1, _, rfl, A, n, c, rfl, hl, hc, fun _ => ⟨b, o, hA, fun i y hy => ?_⟩⟩
    obtain ⟨cs, h5, h6⟩ := hm i y (List.getElem?_eq_some_iff.1 hy).1 hy
    exact ⟨cs, h5, by rw [rRoseN_size]; exact h6⟩
def rt : (t : Ty) → RT t.De
  | .int k => rInt k
  | .bool => rBool
  | .str => rStr
  | .sl e => rSl (rt e)
  | .arr n e => rArr n (rt e)
  | .unit => rUnit
  | .pr f r => rPair (rt f) (rt r)
  | .st fs => rAgg (rt fs)
  | .ref => rNone
  | .rose fs => rRose (rt fs)
def Ty.size : Ty → Nat
  | .int _ => 1 | .bool => 1 | .str => 1 | .sl _ => 1
  | .arr n e => n * e.size
  | .unit => 0 | .pr f r => f.size + r.size | .st fs => fs.size | .ref => 1 | .rose fs => fs.size + 1
def Ty.agg : Ty → Bool
  | .int _ => false | .bool => false | .str => false | .sl _ => false
  | .arr _ _ => true
  | .unit => true | .pr _ _ => true | .st _ => true | .ref => false | .rose _ => true
theorem rt_size : ∀ t : Ty, (rt t).size = t.size
  | .int _ => rfl | .bool => rfl | .str => rfl | .sl _ => rfl
  | .arr n e => by simp [rt, rArr, Ty.size, rt_size e]
  | .unit => rfl
  | .pr f r => by simp [rt, rPair, Ty.size, rt_size f, rt_size r]
  | .st fs => by simp [rt, rAgg, Ty.size, rt_size fs]
  | .ref => rfl
  | .rose fs => by simp [rt, rRose, Ty.size, rt_size fs]
theorem rt_agg : ∀ t : Ty, (rt t).agg = t.agg
  | .int _ => rfl | .bool => rfl | .str => rfl | .sl _ => rfl | .arr _ _ => rfl | .unit => rfl | .pr _ _ => rfl | .st _ => rfl | .ref => rfl | .rose _ => rfl
inductive PS where
  | f (k off : Nat) | i (j : Int) (size : Nat)
def PS.off : PS → Nat
  | .f _ o => o | .i j s => j.toNat * s
def offP : List PS → Nat
  | [] => 0
  | p :: l => p.off + offP l
inductive AV where
  | d (t : Ty) (x : t.De)
  | p (id : Nat) (path : List PS)
  | e (id : Nat) (path : List PS)
  | s (id : Nat)
  | m (id : Nat)
  | w (id : Nat) (j n : Int)
  | a (t : Ty) (x : t.De)
  | z | ns | np | nm | nf
  | f (fn : FuncId) (caps : AV)
  | ag (l : AV)
  | tp (l : AV)
  | nil
  | cons (x r : AV)
def AV.isAgg : AV → Bool
  | .d t _ => t.agg
  | .ag _ => true
  | _ => false
def AV.val (x : AV) (cs : List Value) : Value := bif x.isAgg then .agg cs.toArray else cs.headD undef
def AV.size : AV → Nat
  | .d t _ => t.size
  | .ag l => l.size
  | .nil => 0
  | .cons x r => x.size + r.size
  | _ => 1
def AV.inMem : AV → Bool
  | .tp _ => false
  | .f _ _ => true
  | .ag l => l.inMem
  | .cons x r => x.inMem && r.inMem
  | _ => true
def zal (v u : Value) : Prop := v = u ∨ (u = .slice none 0 0 ∧ ∃ A, v = .slice A 0 0)
theorem zal.form {v u : Value} (h : zal v u) (hu : ∃ A n c, u = .slice A n c) : ∃ A n c, v = .slice A n c := by
  rcases h with rfl | ⟨_, A, rfl⟩
  · exact hu
  · exact ⟨_, _, _, rfl⟩
section
variable (β : Nat → Nat) (ρ : Nat → Value) (ok : Ok) (w : World)
def cr : Bool → AV → List Value → Prop
  | _, .d t x, cs => (rt t).rep ok w x cs
  | _, .p id path, cs => cs = [.pointer (some ⟨β id, offP path, none⟩)]
  | _, .e id path, cs => ∃ g, (ρ id).ownBlock = some g ∧ cs = [.pointer (some ⟨g, offP path, none⟩)]
  | _, .s id, cs => (∃ v, cs = [v] ∧ zal v (ρ id)) ∧ ∃ A n c, ρ id = .slice A n c
  | _, .m id, cs => cs = [.map (some (β id))]
  | _, .w id j n, cs => ∃ A c, cs = [.slice (some A) n.toNat c] ∧ (0 < n.toNat → A = ⟨β id, j.toNat, none⟩)
  | _, .a t x, cs => ∃ v, cs = [v] ∧ isAt (rt t) ok w x v
  | _, .z, cs => ∃ A, cs = [.slice A 0 0]
  | _, .ns, cs => cs = [.slice none 0 0]
  | _, .np, cs => cs = [.pointer none]
  | _, .nm, cs => cs = [.map none]
  | _, .nf, cs => cs = [.nilFunc]
  | _, .f fn caps, cs => ∃ vs, cs = [.func (.func fn) #[] vs.toArray] ∧ cr true caps vs
  | _, .ag l, cs => cr false l cs
  | _, .tp l, cs => ∃ vs, cs = [.tuple vs.toArray] ∧ cr true l vs
  | _, .nil, cs => cs = []
  | true, .cons x r, cs => ∃ c1 vs, cs = x.val c1 :: vs ∧ cr false x c1 ∧ cr true r vs
  | false, .cons x r, cs => ∃ c1 c2, cs = c1 ++ c2 ∧ cr false x c1 ∧ cr false r c2
end
section
variable {β : Nat → Nat} {ρ : Nat → Value} {ok ok' : Ok} {w w' : World}
theorem cr_evo : ∀ {m : Bool} {x : AV} {cs : List Value}, cr β ρ ok w m x cs → Evo ok w w' → cr β ρ ok w' m x cs
  | m, .d t x, cs, h, he => by cases m <;> exact (rt t).evo h he
  | m, .p .., cs, h, he => by cases m <;> exact h
  | m, .e .., cs, h, he => by cases m <;> exact h
  | m, .s _, cs, h, he => by cases m <;> exact h
  | m, .m _, cs, h, he => by cases m <;> exact h
  | m, .w .., cs, h, he => by cases m <;> exact h
  | m, .a t x, cs, h, he => by cases m <;> exact let ⟨v, h1, h2⟩ := h; ⟨v, h1, h2.evo he⟩
  | m, .z, cs, h, he => by cases m <;> exact h
  | m, .ns, cs, h, he => by cases m <;> exact h
  | m, .np, cs, h, he => by cases m <;> exact h
  | m, .nm, cs, h, he => by cases m <;> exact h
  | m, .nf, cs, h, he => by cases m <;> exact h
  | m, .f fn caps, cs, h, he => by cases m <;> exact let ⟨vs, h1, h2⟩ := h; ⟨vs, h1, cr_evo h2 he⟩
  | m, .ag l, cs, h, he => by cases m <;> exact cr_evo (m := false) (x := l) h he
  | m, .tp l, cs, h, he => by cases m <;> exact let ⟨vs, h1, h2⟩ := h; ⟨vs, h1, cr_evo h2 he⟩
  | m, .nil, cs, h, he => by cases m <;> exact h
  | true, .cons x r, cs, h, he => let ⟨c1, vs, h1, h2, h3⟩ := h; ⟨c1, vs, h1, cr_evo h2 he, cr_evo h3 he⟩
  | false, .cons x r, cs, h, he => let ⟨c1, vs, h1, h2, h3⟩ := h; ⟨c1, vs, h1, cr_evo h2 he, cr_evo h3 he⟩
theorem cr_weak : ∀ {m : Bool} {x : AV} {cs : List Value}, cr β ρ ok w m x cs → (∀ b o, ok b o → ok' b o) → cr β ρ ok' w m x cs
  | m, .d t x, cs, h, he => by cases m <;> exact (rt t).weak h he
  | m, .p .., cs, h, he => by cases m <;> exact h
  | m, .e .., cs, h, he => by cases m <;> exact h
  | m, .s _, cs, h, he => by cases m <;> exact h
  | m, .m _, cs, h, he => by cases m <;> exact h
  | m, .w .., cs, h, he => by cases m <;> exact h
  | m, .a t x, cs, h, he => by cases m <;> exact let ⟨v, h1, h2⟩ := h; ⟨v, h1, h2.weak he⟩
  | m, .z, cs, h, he => by cases m <;> exact h
  | m, .ns, cs, h, he => by cases m <;> exact h
  | m, .np, cs, h, he => by cases m <;> exact h
  | m, .nm, cs, h, he => by cases m <;> exact h
  | m, .nf, cs, h, he => by cases m <;> exact h
  | m, .f fn caps, cs, h, he => by cases m <;> exact let ⟨vs, h1, h2⟩ := h; ⟨vs, h1, cr_weak h2 he⟩
  | m, .ag l, cs, h, he => by cases m <;> exact cr_weak (m := false) (x := l) h he
  | m, .tp l, cs, h, he => by cases m <;> exact let ⟨vs, h1, h2⟩ := h; ⟨vs, h1, cr_weak h2 he⟩
  | m, .nil, cs, h, he => by cases m <;> exact h
  | true, .cons x r, cs, h, he => let ⟨c1, vs, h1, h2, h3⟩ := h; ⟨c1, vs, h1, cr_weak h2 he, cr_weak h3 he⟩
  | false, .cons x r, cs, h, he => let ⟨c1, vs, h1, h2, h3⟩ := h; ⟨c1, vs, h1, cr_weak h2 he, cr_weak h3 he⟩
theorem cr_len : ∀ {x : AV} {cs : List Value}, cr β ρ ok w false x cs → cs.length = x.size
  | .d t x, cs, h => by rw [AV.size, ← rt_size]; exact (rt t).len h
  | .p .., cs, h => by subst h; rfl
  | .e .., cs, ⟨_, _, h⟩ => by subst h; rfl
  | .s _, cs, ⟨⟨_, h, _⟩, _⟩ => by subst h; rfl
  | .m _, cs, h => by subst h; rfl
  | .w .., cs, ⟨_, _, h, _⟩ => by subst h; rfl
  | .a t x, cs, ⟨_, h, _⟩ => by subst h; rfl
  | .z, cs, ⟨_, h⟩ => by subst h; rfl
  | .ns, cs, h => by subst h; rfl
  | .np, cs, h => by subst h; rfl
  | .nm, cs, h => by subst h; rfl
  | .nf, cs, h => by subst h; rfl
  | .f .., cs, ⟨_, h, _⟩ => by subst h; rfl
  | .ag l, cs, h => by rw [AV.size]; exact cr_len (x := l) h
  | .tp l, cs, ⟨_, h, _⟩ => by subst h; rfl
  | .nil, cs, h => by subst h; rfl
  | .cons x r, cs, ⟨c1, c2, h, h1, h2⟩ => by subst h; rw [List.length_append, cr_len h1, cr_len h2]; rfl
theorem cr_flat : ∀ {x : AV} {cs : List Value}, cr β ρ ok w false x cs → x.inMem = true → ∀ c ∈ cs, c.oneCell' = true
  | .d t x, cs, h, _ => (rt t).flat h
  | .p .., cs, h, _ => by subst h; simp; rfl
  | .e .., cs, ⟨_, _, h⟩, _ => by subst h; simp; rfl
  | .s id, cs, ⟨⟨v, h, hz⟩, hs⟩, _ => by
    subst h; obtain ⟨A, n, c, rfl⟩ := hz.form hs
    intro c hc; simp at hc; subst hc; rfl
  | .m _, cs, h, _ => by subst h; simp; rfl
  | .w .., cs, ⟨_, _, h, _⟩, _ => by subst h; simp; rfl
  | .a t x, cs, ⟨v, h, hv⟩, _ => by obtain ⟨b, o, c, rfl, _⟩ := hv; subst h; simp; rfl
  | .z, cs, ⟨_, h⟩, _ => by subst h; simp; rfl
  | .ns, cs, h, _ => by subst h; simp; rfl
  | .np, cs, h, _ => by subst h; simp; rfl
  | .nm, cs, h, _ => by subst h; simp; rfl
  | .nf, cs, h, _ => by subst h; simp; rfl
  | .f .., cs, ⟨_, h, _⟩, _ => by subst h; simp; rfl
  | .ag l, cs, h, hm => cr_flat (x := l) h hm
  | .tp l, cs, _, hm => by cases hm
  | .nil, cs, h, _ => by subst h; simp
  | .cons x r, cs, ⟨c1, c2, h, h1, h2⟩, hm => by
    simp only [AV.inMem, Bool.and_eq_true] at hm
    subst h
    intro c hc
    rcases List.mem_append.1 hc with hc | hc
    · exact cr_flat h1 hm.1 c hc
    · exact cr_flat h2 hm.2 c hc
theorem cr_one {x : AV} {cs : List Value} (h : cr β ρ ok w false x cs) (ha : x.isAgg = false) (hn : x.size = 1) : ∃ c, cs = [c] := by
  have := cr_len h
  rw [hn] at this
  match cs, this with
  | [c], _ => exact ⟨c, rfl⟩
theorem oneTy : ∀ {t : Ty}, t.agg = false → t.size = 1
  | .int _, _ => rfl | .bool, _ => rfl | .str, _ => rfl | .sl _, _ => rfl | .ref, _ => rfl
def AV.isVal : AV → Bool
  | .nil => false
  | .cons _ _ => false
  | .d t _ => true
  | _ => true
theorem cellsL_val' {x : AV} {cs : List Value} (h : cr β ρ ok w false x cs) (hv : x.isVal = true) (hm : x.inMem = true) : cellsL (x.val cs) = cs := by
  unfold AV.val
  cases ha : x.isAgg with
  | true => simp [cellsL]
  | false =>
    have hsz : x.size = 1 := by
      cases x <;> first | rfl | (simp [AV.isAgg] at ha; done) | (simp [AV.isVal] at hv; done) | skip
      · exact oneTy ha
    obtain ⟨c, rfl⟩ := cr_one h ha hsz
    have := cr_flat h hm c (.head _)
    simp only [cond_false, List.headD_cons]
    cases c <;> first | rfl | (simp [Value.oneCell'] at this)
theorem cr_d_val {t : Ty} {x : t.De} {cs : List Value} : (AV.d t x).val cs = (rt t).val cs := by
  simp only [AV.val, AV.isAgg, RT.val, rt_agg]
  cases t.agg <;> simp
theorem isV_of_cr {t : Ty} {x : t.De} {cs : List Value} (h : cr β ρ ok w false (.d t x) cs) : isV (rt t) ok w x ((AV.d t x).val cs) := ⟨cs, h, cr_d_val⟩
theorem cr_of_isV {t : Ty} {x : t.De} {v : Value} (h : isV (rt t) ok w x v) : ∃ cs, cr β ρ ok w false (.d t x) cs ∧ v = (AV.d t x).val cs := by
  obtain ⟨cs, hr, rfl⟩ := h
  exact ⟨cs, hr, cr_d_val.symm⟩
end
end Gx

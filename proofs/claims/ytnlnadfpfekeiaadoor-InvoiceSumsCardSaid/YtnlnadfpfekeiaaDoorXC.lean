/- Parts of values; values as data. -/
import Derived.Test.YtnlnadfpfekeiaaDoorXB
namespace Gx
open Go Go.RowKit Gd
set_option linter.unusedVariables false
set_option linter.unusedSimpArgs false
def exF : (fs : Ty) → fs.De → AV
  | .pr f r, x => .cons (.d f x.1) (exF r x.2)
  | .unit, _ => .nil
  | .int k, x => .cons (.d (.int k) x) .nil
  | .bool, x => .cons (.d .bool x) .nil
  | .str, x => .cons (.d .str x) .nil
  | .sl e, x => .cons (.d (.sl e) x) .nil
  | .arr n e, x => .cons (.d (.arr n e) x) .nil
  | .st fs, x => .cons (.d (.st fs) x) .nil
  | .ref, x => .cons (.d .ref x) .nil
  | .rose fs, x => .cons (.d (.rose fs) x) .nil
def appA : AV → AV → AV
  | .cons x r, m => .cons x (appA r m)
  | .nil, m => m
  | x, _ => x
def listA : AV → Bool
  | .cons _ r => listA r
  | .nil => true
  | _ => false
@[reducible] def snoc : Ty → Ty → Ty
  | .pr f g, u => .pr f (snoc g u)
  | .int k, u => .pr (.int k) u
  | .bool, u => .pr .bool u
  | .str, u => .pr .str u
  | .sl e, u => .pr (.sl e) u
  | .arr n e, u => .pr (.arr n e) u
  | .st fs, u => .pr (.st fs) u
  | .ref, u => .pr .ref u
  | .rose fs, u => .pr (.rose fs) u
  | .unit, u => .pr .unit u
def roll : (fs u : Ty) → (snoc fs u).De → fs.De × u.De
  | .pr f g, u, x => match roll g u x.2 with
    | (y, z) => ((x.1, y), z)
  | .int _, _, x => x
  | .bool, _, x => x
  | .str, _, x => x
  | .sl _, _, x => x
  | .arr _ _, _, x => x
  | .st _, _, x => x
  | .ref, _, x => x
  | .rose _, _, x => x
  | .unit, _, x => x
def kidsOf : AV → Option AV
  | .d (.st fs) x => some (exF fs x)
  | .d (.rose fs) x => some (appA (exF fs x.x) (.cons (.d (.sl (.rose fs)) x.ks) .nil))
  | .ag l => some l
  | _ => none
def kid : AV → Nat → Option (AV × Nat)
  | .cons x _, 0 => some (x, 0)
  | .cons x r, k + 1 => match kid r k with
    | some (y, o) => some (y, x.size + o)
    | none => none
  | _, _ => none
def nav : List PS → AV → Option AV
  | [], x => some x
  | .f k off :: ps, x => match kidsOf x with
    | some l => match kid l k with
      | some (y, o) => bif Nat.beq o off then nav ps y else none
      | none => none
    | none => none
  | .i _ _ :: _, _ => none
def updKid (g : AV → Option AV) : AV → Nat → Option (AV × Nat)
  | .cons x r, 0 => match g x with
    | some y => some (.cons y r, 0)
    | none => none
  | .cons x r, k + 1 => match updKid g r k with
    | some (r', o) => some (.cons x r', x.size + o)
    | none => none
  | _, _ => none
def okNew (cur new : AV) : Bool := Nat.beq new.size cur.size && new.inMem && new.isVal && cur.isVal
def setP : List PS → AV → AV → Option AV
  | [], cur, new => bif okNew cur new then some new else none
  | .f k off :: ps, cur, new => match kidsOf cur with
    | some l => match updKid (fun c => setP ps c new) l k with
      | some (l', o) => bif Nat.beq o off then some (.ag l') else none
      | none => none
    | none => none
  | .i _ _ :: _, _, _ => none
def asD (M : List (Nat × Ob)) : AV → (t : Ty) → Option t.De
  | .d t x, u => Ty.cast t u x
  | .ns, .sl _ => some []
  | .z, .sl _ => some []
  | .s id, .sl e => match lookM M id with
    | some (.tail _ t xs) => Ty.cast (.sl t) (.sl e) xs
    | _ => none
  | .ag l, .st fs => asD M l fs
  | .ag l, .rose fs => match asD M l (snoc fs (.sl (.rose fs))) with
    | some x => match roll fs (.sl (.rose fs)) x with
      | (a, ks) => some (.mk a ks)
    | none => none
  | .nil, .unit => some ()
  | .cons x r, .pr f g => match asD M x f, asD M r g with
    | some a, some b => some (a, b)
    | _, _ => none
  | .cons x .nil, .int k => asD M x (.int k)
  | .cons x .nil, .bool => asD M x .bool
  | .cons x .nil, .str => asD M x .str
  | .cons x .nil, .sl e => asD M x (.sl e)
  | .cons x .nil, .arr n e => asD M x (.arr n e)
  | .cons x .nil, .st fs => asD M x (.st fs)
  | .cons x .nil, .rose fs => asD M x (.rose fs)
  | _, _ => none
section
variable {β : Nat → Nat} {ρ : Nat → Value} {ok : Ok} {w : World}
theorem exF_ok : ∀ {fs : Ty} {x : fs.De} {cs : List Value}, (rt fs).rep ok w x cs → cr β ρ ok w false (exF fs x) cs
  | .pr f r, x, cs, ⟨c1, c2, h, h1, h2⟩ => ⟨c1, c2, h, h1, exF_ok h2⟩
  | .unit, _, cs, h => h
  | .int k, x, cs, h => ⟨cs, [], by simp, h, rfl⟩
  | .bool, x, cs, h => ⟨cs, [], by simp, h, rfl⟩
  | .str, x, cs, h => ⟨cs, [], by simp, h, rfl⟩
  | .sl e, x, cs, h => ⟨cs, [], by simp, h, rfl⟩
  | .arr n e, x, cs, h => ⟨cs, [], by simp, h, rfl⟩
  | .st fs, x, cs, h => ⟨cs, [], by simp, h, rfl⟩
  | .ref, x, cs, h => h.elim
  | .rose fs, x, cs, h => ⟨cs, [], by simp, h, rfl⟩
theorem exF_list : ∀ (fs : Ty) (x : fs.De), listA (exF fs x) = true
  | .pr f r, x => exF_list r x.2
  | .unit, _ => rfl
  | .int k, x => rfl
  | .bool, x => rfl
  | .str, x => rfl
  | .sl e, x => rfl
  | .arr n e, x => rfl
  | .st fs, x => rfl
  | .ref, x => rfl
  | .rose fs, x => rfl
theorem appA_ok : ∀ {l m : AV} {c1 c2 : List Value}, listA l = true → cr β ρ ok w false l c1 → cr β ρ ok w false m c2 → cr β ρ ok w false (appA l m) (c1 ++ c2)
  | .cons x r, m, c1, c2, hl, ⟨d1, d2, e, h1, h2⟩, hm => ⟨d1, d2 ++ c2, by rw [e, List.append_assoc], h1, appA_ok (l := r) hl h2 hm⟩
  | .nil, m, c1, c2, _, h, hm => by
    have h : c1 = [] := h
    subst h; exact hm
theorem roll_ok : ∀ {fs u : Ty} {x : (snoc fs u).De} {cs : List Value}, (rt (snoc fs u)).rep ok w x cs → ∃ c1 c2, cs = c1 ++ c2 ∧ (rt fs).rep ok w (roll fs u x).1 c1 ∧ (rt u).rep ok w (roll fs u x).2 c2
  | .pr f g, u, x, cs, ⟨c1, c2, e, h1, h2⟩ => by
    obtain ⟨d1, d2, e2, h3, h4⟩ := roll_ok (fs := g) (u := u) h2
    exact ⟨c1 ++ d1, d2, by rw [e, e2, List.append_assoc], ⟨c1, d1, rfl, h1, h3⟩, h4⟩
  | .int _, _, x, cs, h => h
  | .bool, _, x, cs, h => h
  | .str, _, x, cs, h => h
  | .sl _, _, x, cs, h => h
  | .arr _ _, _, x, cs, h => h
  | .st _, _, x, cs, h => h
  | .ref, _, x, cs, h => h
  | .rose _, _, x, cs, h => h
  | .unit, _, x, cs, h => h
theorem kidsOf_ok {x l : AV} {cs : List Value} (h : kidsOf x = some l) (hc : cr β ρ ok w false x cs) : cr β ρ ok w false l cs := by
  unfold kidsOf at h
  split at h
  · simp at h; subst h; exact exF_ok hc
  · simp at h; subst h
    obtain ⟨c1, c2, rfl, h1, h2⟩ := rRose_out hc
    exact appA_ok (exF_list _ _) (exF_ok h1) ⟨c2, [], by simp, h2, rfl⟩
  · simp at h; subst h; exact hc
  · cases h
theorem kid_ok : ∀ {l : AV} {k : Nat} {y : AV} {o : Nat} {cs : List Value}, kid l k = some (y, o) → cr β ρ ok w false l cs →
    cr β ρ ok w false y ((cs.drop o).take y.size) ∧ o + y.size ≤ cs.length
  | .cons x r, 0, y, o, cs, h, ⟨c1, c2, e, h1, h2⟩ => by
    simp [kid] at h
    obtain ⟨rfl, rfl⟩ := h
    subst e
    rw [← cr_len h1, List.drop_zero, List.take_left]
    exact ⟨h1, by simp⟩
  | .cons x r, k + 1, y, o, cs, h, ⟨c1, c2, e, h1, h2⟩ => by
    simp only [kid] at h
    split at h
    · rename_i y' o' hk
      simp at h
      obtain ⟨rfl, rfl⟩ := h
      obtain ⟨h3, h4⟩ := kid_ok hk h2
      subst e
      have hl := cr_len h1
      refine ⟨?_, by rw [List.length_append, hl]; omega⟩
      rw [← hl, ← List.drop_drop, List.drop_left]
      exact h3
    · cases h
  | .d .., _, _, _, _, h, _ => by simp [kid] at h
  | .p .., _, _, _, _, h, _ => by simp [kid] at h
  | .e .., _, _, _, _, h, _ => by simp [kid] at h
  | .s .., _, _, _, _, h, _ => by simp [kid] at h
  | .m .., _, _, _, _, h, _ => by simp [kid] at h
  | .w .., _, _, _, _, h, _ => by simp [kid] at h
  | .a .., _, _, _, _, h, _ => by simp [kid] at h
  | .z, _, _, _, _, h, _ => by simp [kid] at h
  | .ns, _, _, _, _, h, _ => by simp [kid] at h
  | .np, _, _, _, _, h, _ => by simp [kid] at h
  | .nm, _, _, _, _, h, _ => by simp [kid] at h
  | .nf, _, _, _, _, h, _ => by simp [kid] at h
  | .f .., _, _, _, _, h, _ => by simp [kid] at h
  | .ag .., _, _, _, _, h, _ => by simp [kid] at h
  | .tp .., _, _, _, _, h, _ => by simp [kid] at h
  | .nil, _, _, _, _, h, _ => by simp [kid] at h
theorem nav_ok : ∀ {ps : List PS} {x y : AV} {cs : List Value}, nav ps x = some y → cr β ρ ok w false x cs →
    cr β ρ ok w false y ((cs.drop (offP ps)).take y.size) ∧ offP ps + y.size ≤ cs.length
  | [], x, y, cs, h, hc => by
    simp [nav] at h; subst h
    have := cr_len hc
    simp only [offP, List.drop_zero]
    rw [List.take_of_length_le (by omega)]
    exact ⟨hc, by omega⟩
  | .f k off :: ps, x, y, cs, h, hc => by
    simp only [nav] at h
    split at h
    · rename_i l hl
      split at h
      · rename_i y' o hk
        cases hb : Nat.beq o off with
        | false => rw [hb] at h; cases h
        | true =>
          rw [hb] at h
          simp only [cond_true] at h
          have := Nat.eq_of_beq_eq_true hb
          subst this
          obtain ⟨h1, h2⟩ := kid_ok hk (kidsOf_ok hl hc)
          obtain ⟨h3, h4⟩ := nav_ok h h1
          have hl := cr_len h1
          rw [hl] at h4
          refine ⟨?_, by simp only [offP, PS.off]; omega⟩
          simp only [offP, PS.off]
          rw [List.drop_take, List.drop_drop, List.take_take] at h3
          rwa [Nat.min_eq_left (by omega)] at h3
      · cases h
    · cases h
  | .i _ _ :: _, _, _, _, h, _ => by simp [nav] at h
theorem updKid_ok {g : AV → Option AV} {off : Nat} {ds : List Value}
    (hg : ∀ {c c' : AV} {cs : List Value}, g c = some c' → cr β ρ ok w false c cs → cr β ρ ok w false c' (cs.take off ++ ds ++ cs.drop (off + ds.length)) ∧ off + ds.length ≤ cs.length) :
    ∀ {l l' : AV} {k o : Nat} {cs : List Value}, updKid g l k = some (l', o) → cr β ρ ok w false l cs →
      cr β ρ ok w false l' (cs.take (o + off) ++ ds ++ cs.drop (o + off + ds.length)) ∧ o + off + ds.length ≤ cs.length
  | .cons x r, l', 0, o, cs, h, ⟨c1, c2, e, h1, h2⟩ => by
    simp only [updKid] at h
    split at h
    · rename_i y hy
      simp at h
      obtain ⟨rfl, rfl⟩ := h
      obtain ⟨h3, h4⟩ := hg hy h1
      subst e
      refine ⟨⟨_, c2, ?_, h3, h2⟩, by rw [List.length_append]; omega⟩
      rw [Nat.zero_add, List.take_append_of_le_length (by omega), List.drop_append_of_le_length (by omega)]
      simp only [List.append_assoc]
    · cases h
  | .cons x r, l', k + 1, o, cs, h, ⟨c1, c2, e, h1, h2⟩ => by
    simp only [updKid] at h
    split at h
    · rename_i r' o' hr
      simp at h
      obtain ⟨rfl, rfl⟩ := h
      obtain ⟨h3, h4⟩ := updKid_ok hg hr h2
      subst e
      have hl := cr_len h1
      refine ⟨⟨c1, _, ?_, h1, h3⟩, by rw [List.length_append, hl]; omega⟩
      have e1 : x.size + o' + off = c1.length + (o' + off) := by rw [hl]; omega
      rw [e1, List.take_append, List.take_of_length_le (by omega), Nat.add_sub_cancel_left]
      simp only [List.append_assoc]
      congr 3
      rw [Nat.add_assoc, ← List.drop_drop, List.drop_left]
    · cases h
  | .d .., _, _, _, _, h, _ => by simp [updKid] at h
  | .p .., _, _, _, _, h, _ => by simp [updKid] at h
  | .e .., _, _, _, _, h, _ => by simp [updKid] at h
  | .s .., _, _, _, _, h, _ => by simp [updKid] at h
  | .m .., _, _, _, _, h, _ => by simp [updKid] at h
  | .w .., _, _, _, _, h, _ => by simp [updKid] at h
  | .a .., _, _, _, _, h, _ => by simp [updKid] at h
  | .z, _, _, _, _, h, _ => by simp [updKid] at h
  | .ns, _, _, _, _, h, _ => by simp [updKid] at h
  | .np, _, _, _, _, h, _ => by simp [updKid] at h
  | .nm, _, _, _, _, h, _ => by simp [updKid] at h
  | .nf, _, _, _, _, h, _ => by simp [updKid] at h
  | .f .., _, _, _, _, h, _ => by simp [updKid] at h
  | .ag .., _, _, _, _, h, _ => by simp [updKid] at h
  | .tp .., _, _, _, _, h, _ => by simp [updKid] at h
  | .nil, _, _, _, _, h, _ => by simp [updKid] at h
theorem setP_ok {new : AV} {ds : List Value} (hn : cr β ρ ok w false new ds) : ∀ {ps : List PS} {cur av' : AV} {cs : List Value}, setP ps cur new = some av' → cr β ρ ok w false cur cs →
    cr β ρ ok w false av' (cs.take (offP ps) ++ ds ++ cs.drop (offP ps + ds.length)) ∧ offP ps + ds.length ≤ cs.length
  | [], cur, av', cs, h, hc => by
    simp only [setP] at h
    cases hb : okNew cur new with
    | false => rw [hb] at h; cases h
    | true =>
      rw [hb] at h
      simp at h; subst h
      simp only [okNew, Bool.and_eq_true] at hb
      have h1 := Nat.eq_of_beq_eq_true hb.1.1.1
      have h2 := cr_len hn
      have h3 := cr_len hc
      simp only [offP, List.take_zero, List.nil_append, Nat.zero_add]
      rw [List.drop_of_length_le (by omega), List.append_nil]
      exact ⟨hn, by omega⟩
  | .f k off :: ps, cur, av', cs, h, hc => by
    simp only [setP] at h
    split at h
    · rename_i l hl
      split at h
      · rename_i l' o hk
        cases hb : Nat.beq o off with
        | false => rw [hb] at h; cases h
        | true =>
          rw [hb] at h
          simp only [cond_true, Option.some.injEq] at h
          have := Nat.eq_of_beq_eq_true hb
          subst this; subst h
          have := updKid_ok (off := offP ps) (ds := ds) (fun {c c' cs'} hg hcc => setP_ok hn (ps := ps) hg hcc) hk (kidsOf_ok hl hc)
          exact this
      · cases h
    · cases h
  | .i _ _ :: _, _, _, _, h, _ => by simp [setP] at h
theorem slRep_nil {τ : Type} {r : RT τ} {A : Option Addr} {c : Nat} : slRep r ok w [] (.slice A 0 c) := ⟨A, 0, c, rfl, rfl, Nat.zero_le _, fun h => absurd h (by omega)⟩
theorem zal_isV {τ : Type} {r : RT τ} {xs : List τ} {v u : Value} (hz : zal v u) (h : isV (rSl r) ok w xs u) : isV (rSl r) ok w xs v := by
  rcases hz with rfl | ⟨h0, A, rfl⟩
  · exact h
  · rw [h0] at h
    have hnil : xs = [] := by
      obtain ⟨A', c', h1, _⟩ := slForm h
      injection h1 with _ h2
      exact List.length_eq_zero_iff.1 h2.symm
    subst hnil
    exact isV_sl.2 slRep_nil
theorem zal_isV' {τ : Type} {r : RT τ} {xs : List τ} {v u : Value} (hz : zal v u) (h : isV (rSl r) ok w xs v) : isV (rSl r) ok w xs u := by
  rcases hz with rfl | ⟨rfl, A, rfl⟩
  · exact h
  · have hnil : xs = [] := by
      obtain ⟨A', c', h1, _⟩ := slForm h
      injection h1 with _ h2
      exact List.length_eq_zero_iff.1 h2.symm
    subst hnil
    exact isV_sl.2 slRep_nil
theorem asD_ok {M : List (Nat × Ob)} (hM : ∀ id o, lookM M id = some o → (tlOf β ρ id o).p ok w) :
    ∀ {x : AV} {t : Ty} {y : t.De} {cs : List Value}, asD M x t = some y → cr β ρ ok w false x cs → (rt t).rep ok w y cs
  | .d t x, u, y, cs, h, hc => by
    obtain ⟨rfl, rfl⟩ := Ty.cast_ok (by simpa only [asD] using h)
    exact hc
  | .ns, u, y, cs, h, hc => by
    cases u <;> simp [asD] at h
    subst h
    exact ⟨_, hc, slRep_nil⟩
  | .z, u, y, cs, h, ⟨A, hc⟩ => by
    cases u <;> simp [asD] at h
    subst h
    exact ⟨_, hc, slRep_nil⟩
  | .s id, u, y, cs, h, hc => by
    cases u <;> simp [asD] at h
    rename_i e
    split at h
    · rename_i e' t xs ho
      obtain ⟨he, rfl⟩ := Ty.cast_ok h
      injection he with he
      subst he
      have := (hM _ _ ho).1
      obtain ⟨⟨v, hv, hz⟩, _⟩ := hc
      exact ⟨_, hv, isV_sl.1 (zal_isV hz this)⟩
    · cases h
  | .ag l, u, y, cs, h, hc => by
    cases u <;> simp only [asD] at h <;> first | (cases h; done) | skip
    · rename_i fs
      exact asD_ok hM (x := l) (t := fs) h hc
    · rename_i fs
      split at h
      · rename_i y hy
        simp at h; subst h
        obtain ⟨c1, c2, rfl, h1, h2⟩ := roll_ok (asD_ok hM (x := l) hy hc)
        exact rRose_in h1 h2
      · cases h
  | .nil, u, y, cs, h, hc => by
    cases u <;> simp [asD] at h
    exact hc
  | .cons x r, u, y, cs, h, ⟨c1, c2, e, h1, h2⟩ => by
    have key : ∀ {v : Ty} {z : v.De}, r = .nil → asD M x v = some z → (rt v).rep ok w z cs := by
      intro v z hr hx
      subst hr
      have : c2 = [] := h2
      subst this; subst e
      rw [List.append_nil]
      exact asD_ok hM hx h1
    cases u with
    | pr f g =>
      simp only [asD] at h
      split at h
      · rename_i a b ha hb
        simp at h; subst h
        exact ⟨c1, c2, e, asD_ok hM ha h1, asD_ok hM hb h2⟩
      · cases h
    | unit => simp [asD] at h
    | int k => cases r <;> simp [asD] at h; exact key rfl h
    | bool => cases r <;> simp [asD] at h; exact key rfl h
    | str => cases r <;> simp [asD] at h; exact key rfl h
    | sl e => cases r <;> simp [asD] at h; exact key rfl h
    | arr n e => cases r <;> simp [asD] at h; exact key rfl h
    | st fs => cases r <;> simp [asD] at h; exact key rfl h
    | ref => cases r <;> simp [asD] at h
    | rose fs => cases r <;> simp only [asD] at h <;> first | (cases h; done) | exact key rfl h
  | .p .., u, _, _, h, _ => by cases u <;> simp [asD] at h
  | .e .., u, _, _, h, _ => by cases u <;> simp [asD] at h
  | .m .., u, _, _, h, _ => by cases u <;> simp [asD] at h
  | .w .., u, _, _, h, _ => by cases u <;> simp [asD] at h
  | .a .., u, _, _, h, _ => by cases u <;> simp [asD] at h
  | .np, u, _, _, h, _ => by cases u <;> simp [asD] at h
  | .nm, u, _, _, h, _ => by cases u <;> simp [asD] at h
  | .nf, u, _, _, h, _ => by cases u <;> simp [asD] at h
  | .f .., u, _, _, h, _ => by cases u <;> simp [asD] at h
  | .tp .., u, _, _, h, _ => by cases u <;> simp [asD] at h
end
end Gx

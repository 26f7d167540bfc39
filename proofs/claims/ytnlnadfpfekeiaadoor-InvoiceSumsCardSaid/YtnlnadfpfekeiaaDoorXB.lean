/- Abstract states. -/
import Derived.Test.YtnlnadfpfekeiaaDoorXA
namespace Gx
open Go Go.RowKit Gd
set_option linter.unusedVariables false
set_option linter.unusedSimpArgs false
inductive Ob where
  | var (tid : TypeId) (c : AV)
  | row (e : TypeId) (t : Ty) (xs : List t.De)
  | tail (e : TypeId) (t : Ty) (xs : List t.De)
  | map (k v : Ty) (xs : List (k.De × v.De))
  | mapT (k v : Ty) (path : List PS) (e : TypeId) (u : Ty) (xs : List (k.De × v.De)) (hole : Option (k.De × Nat))
def slF : (fs : Ty) → Nat → Option (Σ t : Ty, (fs.De → t.De) × Nat)
  | .pr f _, 0 => some ⟨f, fun x => x.1, 0⟩
  | .pr f r, k + 1 => match slF r k with
    | some ⟨t, g, o⟩ => some ⟨t, fun x => g x.2, f.size + o⟩
    | none => none
  | .int k, 0 => some ⟨.int k, fun x => x, 0⟩
  | .bool, 0 => some ⟨.bool, fun x => x, 0⟩
  | .str, 0 => some ⟨.str, fun x => x, 0⟩
  | .sl e, 0 => some ⟨.sl e, fun x => x, 0⟩
  | .arr n e, 0 => some ⟨.arr n e, fun x => x, 0⟩
  | .st fs, 0 => some ⟨.st fs, fun x => x, 0⟩
  | _, _ => none
def slAt : (v : Ty) → List PS → Option (Σ u : Ty, v.De → List u.De)
  | .sl u, [] => some ⟨u, fun x => x⟩
  | .st fs, .f k off :: ps => match slF fs k with
    | some ⟨t, g, o⟩ => bif Nat.beq o off then (match slAt t ps with
      | some ⟨u, f⟩ => some ⟨u, fun x => f (g x)⟩
      | none => none) else none
    | none => none
  | _, _ => none
def tlVar (β : Nat → Nat) (ρ : Nat → Value) (g : Nat) (tid : TypeId) (c : AV) : TL where
  blks := fun b => b = g
  cov := fun b _ => b = g
  cb := fun h => h
  p := fun ok w => ∃ cs, w.heap[g]? = some (.cells cs.toArray tid (0, 0)) ∧ cr β ρ ok w false c cs
  keep := fun ⟨cs, h1, h2⟩ hb he => ⟨cs, by rw [hb _ rfl]; exact h1, cr_evo h2 he⟩
  weak := fun ⟨cs, h1, h2⟩ hk => ⟨cs, h1, cr_weak h2 hk⟩
  lt := fun ⟨_, h, _⟩ b hb => by subst hb; exact heap_lt h
def tlTail {τ : Type} (v : Value) (e : Nat) (r : RT τ) (xs : List τ) : TL where
  blks := fun g => v.ownBlock = some g
  cov := fun b o => v.ownBlock = some b ∧ lenV v * r.size ≤ o
  cb := fun h => h.1
  p := fun ok w => isV (rSl r) ok w xs v ∧ ∃ ys, w.ownsRowS 0 e r.size v (lenV v) ys
  keep := fun ⟨h1, ys, h⟩ hb he => ⟨h1.evo he, ys, ownsRow_keep h hb⟩
  weak := fun ⟨h1, h⟩ hk => ⟨h1.weak hk, h⟩
  lt := fun ⟨_, _, h⟩ g hg => (h.lt g hg).2
def mapP {κ ν : Type} (r : RT κ) (s : RT ν) (ok : Ok) (w : World) : List (κ × ν) → List MapEntry → Prop
  | [], es => es = []
  | x :: xs, es => ∃ e es', es = e :: es' ∧ isV r ok w x.1 e.key ∧ isV s ok w x.2 e.val ∧ mapP r s ok w xs es'
theorem mapP_evo {κ ν : Type} {r : RT κ} {s : RT ν} {ok : Ok} {w w' : World} : ∀ {xs : List (κ × ν)} {es : List MapEntry}, mapP r s ok w xs es → Evo ok w w' → mapP r s ok w' xs es
  | [], _, h, _ => h
  | x :: xs, es, ⟨e, es', h, h1, h2, h3⟩, he => ⟨e, es', h, h1.evo he, h2.evo he, mapP_evo h3 he⟩
theorem mapP_weak {κ ν : Type} {r : RT κ} {s : RT ν} {ok ok' : Ok} {w : World} : ∀ {xs : List (κ × ν)} {es : List MapEntry}, mapP r s ok w xs es → (∀ b o, ok b o → ok' b o) → mapP r s ok' w xs es
  | [], _, h, _ => h
  | x :: xs, es, ⟨e, es', h, h1, h2, h3⟩, he => ⟨e, es', h, h1.weak he, h2.weak he, mapP_weak h3 he⟩
def tlMap {κ ν : Type} (g : Nat) (r : RT κ) (s : RT ν) (xs : List (κ × ν)) : TL where
  blks := fun b => b = g
  cov := fun b _ => b = g
  cb := fun h => h
  p := fun ok w => ∃ es clock, w.heap[g]? = some (.map es clock) ∧ mapP r s ok w xs es.toList ∧ (xs.map Prod.fst).Nodup ∧ (es.toList.map MapEntry.born).Nodup ∧ ∀ e ∈ es.toList, e.born < clock
  keep := fun ⟨es, c, h1, h2, h3⟩ hb he => ⟨es, c, by rw [hb _ rfl]; exact h1, mapP_evo h2 he, h3⟩
  weak := fun ⟨es, c, h1, h2, h3⟩ hk => ⟨es, c, h1, mapP_weak h2 hk, h3⟩
  lt := fun ⟨_, _, h, _⟩ b hb => by subst hb; exact heap_lt h
def mapQ {κ ν τ : Type} (r : RT κ) (s : RT ν) (u : RT τ) (e off : Nat) (f : ν → List τ) (hole : Option κ) (hv : Value) (ok : Ok) (w : World) : List (κ × ν) → List MapEntry → List Value → Prop
  | [], [], [] => True
  | x :: xs, en :: es, v :: vs => isV r ok w x.1 en.key ∧ isV s ok w x.2 en.val ∧
    ((hole = some x.1 ∧ v = undef ∧ ∃ c, (cellsL en.val)[off]? = some c ∧ zal c hv) ∨ (hole ≠ some x.1 ∧ (∃ c, (cellsL en.val)[off]? = some c ∧ zal c v) ∧ ∃ ys, w.ownsRowS 0 e u.size v (lenV v) ys)) ∧ mapQ r s u e off f hole hv ok w xs es vs
  | _, _, _ => False
section
variable {κ ν τ : Type} {r : RT κ} {s : RT ν} {u : RT τ} {e off : Nat} {f : ν → List τ} {hole : Option κ} {hv : Value} {ok ok' : Ok} {w w' : World}
theorem mapQ_evo : ∀ {xs : List (κ × ν)} {es : List MapEntry} {vs : List Value}, mapQ r s u e off f hole hv ok w xs es vs → (∀ v ∈ vs, ∀ b, v.ownBlock = some b → w'.heap[b]? = w.heap[b]?) → Evo ok w w' → mapQ r s u e off f hole hv ok w' xs es vs
  | [], [], [], h, _, _ => h
  | x :: xs, en :: es, v :: vs, ⟨h1, h2, h3, h4⟩, hb, he => ⟨h1.evo he, h2.evo he, h3.imp id fun ⟨q1, q2, ys, q3⟩ => ⟨q1, q2, ys, ownsRow_keep q3 (hb v (.head _))⟩, mapQ_evo h4 (fun v hv => hb v (.tail _ hv)) he⟩
  | [], [], _ :: _, h, _, _ => h.elim
  | [], _ :: _, _, h, _, _ => h.elim
  | _ :: _, [], _, h, _, _ => h.elim
  | _ :: _, _ :: _, [], h, _, _ => h.elim
theorem mapQ_weak : ∀ {xs : List (κ × ν)} {es : List MapEntry} {vs : List Value}, mapQ r s u e off f hole hv ok w xs es vs → (∀ b o, ok b o → ok' b o) → mapQ r s u e off f hole hv ok' w xs es vs
  | [], [], [], h, _ => h
  | x :: xs, en :: es, v :: vs, ⟨h1, h2, h3, h4⟩, hk => ⟨h1.weak hk, h2.weak hk, h3, mapQ_weak h4 hk⟩
  | [], [], _ :: _, h, _ => h.elim
  | [], _ :: _, _, h, _ => h.elim
  | _ :: _, [], _, h, _ => h.elim
  | _ :: _, _ :: _, [], h, _ => h.elim
theorem mapQ_lt : ∀ {xs : List (κ × ν)} {es : List MapEntry} {vs : List Value}, mapQ r s u e off f hole hv ok w xs es vs → ∀ v ∈ vs, ∀ b, v.ownBlock = some b → b < w.heap.size
  | [], [], [], h => by simp
  | x :: xs, en :: es, v :: vs, ⟨h1, h2, h3, h4⟩ => by
    intro y hy b hb
    rcases List.mem_cons.1 hy with rfl | hy
    · rcases h3 with ⟨_, rfl, _⟩ | ⟨_, _, ys, h3⟩
      · cases hb
      · exact (h3.lt b hb).2
    · exact mapQ_lt h4 y hy b hb
  | [], [], _ :: _, h => h.elim
  | [], _ :: _, _, h => h.elim
  | _ :: _, [], _, h => h.elim
  | _ :: _, _ :: _, [], h => h.elim
end
def vsOf : Value → List Value
  | .tuple vs => vs.toList
  | _ => []
def mapTP {κ ν τ : Type} (g : Nat) (r : RT κ) (s : RT ν) (u : RT τ) (e off : Nat) (f : ν → List τ) (vs : List Value) (xs : List (κ × ν)) (hole : Option κ) (hv : Value) (ok : Ok) (w : World) : Prop :=
  ∃ es clock, w.heap[g]? = some (.map es clock) ∧ mapQ r s u e off f hole hv ok w xs es.toList vs ∧ (xs.map Prod.fst).Nodup ∧ ((es.toList.map MapEntry.born).Nodup ∧ ∀ e ∈ es.toList, e.born < clock) ∧
    (vs.Pairwise fun a b => ∀ g, a.ownBlock = some g → b.ownBlock ≠ some g) ∧ (∀ v ∈ vs, v.ownBlock ≠ some g) ∧ ∀ k, hole = some k → k ∉ xs.map Prod.fst → hv = .slice none 0 0
def tlMapT (g : Nat) (vs : List Value) {κ ν : Type} (r : RT κ) (s : RT ν) (u : Ty) (e off : Nat) (fo : Option (Σ u : Ty, ν → List u.De)) (xs : List (κ × ν)) (hole : Option κ) (hv : Value) : TL where
  blks := fun b => b = g ∨ ∃ v ∈ vs, v.ownBlock = some b
  cov := fun b o => b = g ∨ ∃ v ∈ vs, v.ownBlock = some b ∧ lenV v * (rt u).size ≤ o
  cb := fun h => h.imp id fun ⟨v, h1, h2, _⟩ => ⟨v, h1, h2⟩
  p := fun ok w => ∃ f, fo = some ⟨u, f⟩ ∧ mapTP g r s (rt u) e off f vs xs hole hv ok w
  keep := fun ⟨f, hf, es, c, h1, h2, h3⟩ hb he => ⟨f, hf, es, c, by rw [hb _ (.inl rfl)]; exact h1, mapQ_evo h2 (fun v hv b hvb => hb b (.inr ⟨v, hv, hvb⟩)) he, h3⟩
  weak := fun ⟨f, hf, es, c, h1, h2, h3⟩ hk => ⟨f, hf, es, c, h1, mapQ_weak h2 hk, h3⟩
  lt := fun ⟨_, _, _, _, h, h2, _⟩ b hb => by
    rcases hb with rfl | ⟨v, hv, hb⟩
    · exact heap_lt h
    · exact mapQ_lt h2 v hv b hb
def holeK {k : Ty} (hole : Option (k.De × Nat)) : Option k.De := match hole with
  | some q => some q.1
  | none => none
def holeV {k : Ty} (ρ : Nat → Value) (hole : Option (k.De × Nat)) : Value := match hole with
  | some q => ρ q.2
  | none => undef
def tlOf (β : Nat → Nat) (ρ : Nat → Value) (id : Nat) : Ob → TL
  | .var tid c => tlVar β ρ (β id) tid c
  | .row e t xs => ml (ρ id) e (rt t) xs
  | .tail e t xs => tlTail (ρ id) e (rt t) xs
  | .map k v xs => tlMap (β id) (rt k) (rt v) xs
  | .mapT k v path e u xs hole => tlMapT (β id) (vsOf (ρ id)) (rt k) (rt v) u e (offP path) (slAt v path) xs (holeK hole) (holeV ρ hole)
abbrev Conds := List (Nat × Bool)
structure En where
  t : Nat
  cs : Conds
  av : AV
structure St where
  env : List En
  mem : List (Nat × Ob)
def holdsC (a : Act) (cs : Conds) : Prop := ∀ c ∈ cs, a.tmps[c.1]? = some (.bool c.2)
def rd (a : Act) (t : Nat) : Option Value := bif Nat.blt t 100000 then a.tmps[t]? else some (.pointer (some ⟨t - 100000, 0, none⟩))
theorem rd_lt {a : Act} {t : Nat} (h : Nat.blt t 100000 = true) : rd a t = a.tmps[t]? := by unfold rd; rw [h]; rfl
def enD (β : Nat → Nat) (ρ : Nat → Value) (a : Act) (e : En) : DF where
  p := fun ok w => (holdsC a e.cs → ∃ cs, rd a e.t = some (e.av.val cs) ∧ cr β ρ ok w false e.av cs) ∧ (holdsC a e.cs ∨ rd a e.t = some undef)
  evo := fun h he => ⟨fun hc => let ⟨cs, h1, h2⟩ := h.1 hc; ⟨cs, h1, cr_evo h2 he⟩, h.2⟩
  weak := fun h hk => ⟨fun hc => let ⟨cs, h1, h2⟩ := h.1 hc; ⟨cs, h1, cr_weak h2 hk⟩, h.2⟩
abbrev memO (β : Nat → Nat) (ρ : Nat → Value) (mem : List (Nat × Ob)) : List TL := mem.map fun q => tlOf β ρ q.1 q.2
abbrev okR (X : Cx) (β : Nat → Nat) (ρ : Nat → Value) (mem : List (Nat × Ob)) (w : World) : Ok := okOf X.ok X.w.heap.size (fun _ => 0) [] (memO β ρ mem) w
def Rel (X : Cx) (β : Nat → Nat) (ρ : Nat → Value) (S : St) (a : Act) (w : World) : Prop :=
  Sb (fun _ => 0) X [] (S.env.map (enD β ρ a)) [] (memO β ρ S.mem) a w
def lookE1 : List En → Nat → Option En
  | [], _ => none
  | e :: l, t => bif Nat.beq e.t t then some e else lookE1 l t
theorem lookE1_ok {l : List En} {t : Nat} {e : En} (h : lookE1 l t = some e) : e ∈ l ∧ e.t = t := by
  induction l with
  | nil => simp [lookE1] at h
  | cons x l ih =>
    simp only [lookE1] at h
    cases hb : Nat.beq x.t t with
    | true => rw [hb] at h; simp only [cond_true, Option.some.injEq] at h; subst h; exact ⟨.head _, Nat.eq_of_beq_eq_true hb⟩
    | false => rw [hb] at h; exact ⟨.tail _ (ih h).1, (ih h).2⟩
def lookE (l : List En) (t : Nat) : Option En := bif Nat.blt t 100000 then lookE1 l t else none
theorem lookE_lt {l : List En} {t : Nat} {e : En} (h : lookE l t = some e) : Nat.blt t 100000 = true := by
  unfold lookE at h
  cases hb : Nat.blt t 100000 with
  | true => rfl
  | false => rw [hb] at h; cases h
theorem lookE_ok {l : List En} {t : Nat} {e : En} (h : lookE l t = some e) : e ∈ l ∧ e.t = t := by
  have hb := lookE_lt h
  unfold lookE at h
  rw [hb] at h
  exact lookE1_ok h
theorem lookE_rd {l : List En} {t : Nat} {e : En} (h : lookE l t = some e) (a : Act) : rd a e.t = a.tmps[e.t]? := rd_lt (by rw [(lookE_ok h).2]; exact lookE_lt h)
def lookV (l : List En) (g : Nat) : Option En := lookE1 l (100000 + g)
theorem rd_var (a : Act) (g : Nat) : rd a (100000 + g) = some (.pointer (some ⟨g, 0, none⟩)) := by
  unfold rd
  have : Nat.blt (100000 + g) 100000 = false := by
    cases hb : Nat.blt (100000 + g) 100000 with
    | false => rfl
    | true => exact absurd (Nat.le_of_ble_eq_true hb) (by omega)
  rw [this]
  simp
def memC : Conds → Nat × Bool → Bool
  | [], _ => false
  | (t, b) :: l, c => (Nat.beq t c.1 && (b == c.2)) || memC l c
theorem memC_ok : ∀ {l : Conds} {c : Nat × Bool}, memC l c = true → c ∈ l
  | (t, b) :: l, (u, v), h => by
    simp only [memC, Bool.or_eq_true, Bool.and_eq_true] at h
    rcases h with ⟨h1, h2⟩ | h
    · have := Nat.eq_of_beq_eq_true h1
      simp only [beq_iff_eq] at h2
      subst this; subst h2; exact .head _
    · exact .tail _ (memC_ok h)
def subC : Conds → Conds → Bool
  | [], _ => true
  | c :: l, cur => memC cur c && subC l cur
theorem subC_ok : ∀ {l cur : Conds} {a : Act}, subC l cur = true → holdsC a cur → holdsC a l
  | [], cur, a, _, _ => by intro c hc; cases hc
  | c :: l, cur, a, h, hc => by
    simp only [subC, Bool.and_eq_true] at h
    intro x hx
    rcases List.mem_cons.1 hx with rfl | hx
    · exact hc _ (memC_ok h.1)
    · exact subC_ok h.2 hc x hx
def const1 : Value → Option AV
  | .int k n => some (.d (.int k) n)
  | .bool b => some (.d .bool b)
  | .string ⟨⟨l⟩⟩ => some (.d .str l)
  | .slice none 0 0 => some .ns
  | .pointer none => some .np
  | .map none => some .nm
  | .nilFunc => some .nf
  | _ => none
def constL : List Value → Option AV
  | [] => some .nil
  | v :: l => match const1 v, constL l with
    | some x, some r => some (.cons x r)
    | _, _ => none
def constAV : Value → Option AV
  | .agg ⟨l⟩ => match constL l with
    | some r => some (.ag r)
    | none => none
  | v => const1 v
section
variable {β : Nat → Nat} {ρ : Nat → Value} {ok : Ok} {w : World}
theorem const1_ok {v : Value} {x : AV} (h : const1 v = some x) : cr β ρ ok w false x [v] ∧ x.val [v] = v := by
  unfold const1 at h
  split at h <;> first | (simp at h; done) | skip
  all_goals
    simp only [Option.some.injEq] at h
    subst h
    exact ⟨rfl, rfl⟩
theorem constL_ok : ∀ {l : List Value} {x : AV}, constL l = some x → cr β ρ ok w false x l
  | [], x, h => by simp [constL] at h; subst h; rfl
  | v :: l, x, h => by
    simp only [constL] at h
    split at h
    · rename_i y r h1 h2
      simp at h; subst h
      exact ⟨[v], l, rfl, (const1_ok h1).1, constL_ok h2⟩
    · cases h
theorem constAV_ok {v : Value} {x : AV} (h : constAV v = some x) : ∃ cs, v = x.val cs ∧ cr β ρ ok w false x cs := by
  unfold constAV at h
  split at h
  · rename_i l
    split at h
    · rename_i r hr
      simp at h; subst h
      exact ⟨l, rfl, constL_ok (x := r) hr⟩
    · cases h
  · obtain ⟨h1, h2⟩ := const1_ok (β := β) (ρ := ρ) (ok := ok) (w := w) h
    exact ⟨_, h2.symm, h1⟩
end
def ev (S : St) (cur : Conds) : Operand → Option AV
  | .tmp t => match lookE S.env t with
    | some e => bif subC e.cs cur then some e.av else none
    | none => none
  | .const v => constAV v
  | .func f => some (.f f .nil)
  | .global g => match lookV S.env g with
    | some e => bif subC e.cs cur then some e.av else none
    | none => none
def usesT (t : Nat) : Conds → Bool
  | [] => false
  | c :: l => Nat.beq c.1 t || usesT t l
theorem usesT_ok {t : Nat} : ∀ {l : Conds}, usesT t l = false → ∀ c ∈ l, c.1 ≠ t
  | [], _, c, hc => by cases hc
  | d :: l, h, c, hc => by
    simp only [usesT, Bool.or_eq_false_iff] at h
    rcases List.mem_cons.1 hc with rfl | hc
    · intro e; rw [e] at h; simp [Nat.beq_refl] at h
    · exact usesT_ok h.2 c hc
def remE : List En → Nat → List En
  | [], _ => []
  | e :: l, t => bif Nat.beq e.t t || usesT t e.cs then remE l t else e :: remE l t
theorem remE_mem {l : List En} {t : Nat} {e : En} (h : e ∈ remE l t) : e ∈ l ∧ e.t ≠ t ∧ ∀ c ∈ e.cs, c.1 ≠ t := by
  induction l with
  | nil => simp [remE] at h
  | cons x l ih =>
    simp only [remE] at h
    cases hb : (Nat.beq x.t t || usesT t x.cs) with
    | true => rw [hb] at h; exact ⟨.tail _ (ih h).1, (ih h).2⟩
    | false =>
      rw [hb] at h
      simp only [cond_false, List.mem_cons] at h
      rcases h with rfl | h
      · simp only [Bool.or_eq_false_iff] at hb
        exact ⟨.head _, fun e => by rw [e] at hb; simp [Nat.beq_refl] at hb, usesT_ok hb.2⟩
      · exact ⟨.tail _ (ih h).1, (ih h).2⟩
def St.put (S : St) (d : Nat) (cs : Conds) (x : AV) : St := ⟨⟨d, cs, x⟩ :: remE S.env d, S.mem⟩
section
variable {X : Cx} {β : Nat → Nat} {ρ : Nat → Value} {S : St} {a a' : Act} {w w' : World}
theorem AllD_mem {ok : Ok} {w : World} : ∀ {D : List DF}, AllD ok w D ↔ ∀ d ∈ D, d.p ok w
  | [] => by simp [AllD]
  | d :: D => by simp [AllD, AllD_mem (D := D)]
theorem Rel.en (h : Rel X β ρ S a w) {e : En} (he : e ∈ S.env) : (enD β ρ a e).p (okR X β ρ S.mem w) w := AllD_mem.1 h.dat _ (List.mem_map.2 ⟨e, he, rfl⟩)
theorem Rel.get (h : Rel X β ρ S a w) {t : Nat} {e : En} (he : lookE S.env t = some e) (hc : holdsC a e.cs) :
    ∃ cs, a.tmps[t]? = some (e.av.val cs) ∧ cr β ρ (okR X β ρ S.mem w) w false e.av cs := by
  have hr := lookE_rd he a
  obtain ⟨hm, rfl⟩ := lookE_ok he
  rw [← hr]
  exact (h.en hm).1 hc
theorem Rel.ev (h : Rel X β ρ S a w) {cur : Conds} (hc : holdsC a cur) {x : Operand} {v : AV} (hx : ev S cur x = some v) :
    ∃ cs, a.eval x = v.val cs ∧ cr β ρ (okR X β ρ S.mem w) w false v cs := by
  cases x with
  | tmp t =>
    simp only [Gx.ev] at hx
    split at hx
    · rename_i e he
      cases hb : subC e.cs cur with
      | false => rw [hb] at hx; cases hx
      | true =>
        rw [hb] at hx
        simp at hx; subst hx
        obtain ⟨cs, h1, h2⟩ := h.get he (subC_ok hb hc)
        exact ⟨cs, by simp [Act.eval, h1], h2⟩
    · cases hx
  | const v =>
    obtain ⟨cs, h1, h2⟩ := constAV_ok (β := β) (ρ := ρ) (ok := okR X β ρ S.mem w) (w := w) hx
    exact ⟨cs, h1, h2⟩
  | func f =>
    simp [Gx.ev] at hx; subst hx
    exact ⟨[.func (.func f) #[] #[]], rfl, [], rfl, rfl⟩
  | global g =>
    simp only [Gx.ev] at hx
    split at hx
    · rename_i e he
      cases hb : subC e.cs cur with
      | false => rw [hb] at hx; cases hx
      | true =>
        rw [hb] at hx
        simp at hx; subst hx
        obtain ⟨hm, ht⟩ := lookE1_ok he
        obtain ⟨cs, h1, h2⟩ := (h.en hm).1 (subC_ok hb hc)
        rw [ht, rd_var] at h1
        exact ⟨cs, Option.some.inj h1, h2⟩
    · cases hx
theorem Rel.act (h : Rel X β ρ S a w) {env' : List En} (hs : a'.tmps.size = a.tmps.size) (hd : a'.defers = a.defers) (hr : ∀ t ∈ X.res, a'.tmps[t]? = a.tmps[t]?)
    (he : ∀ e ∈ env', (enD β ρ a' e).p (okR X β ρ S.mem w) w) : Rel X β ρ ⟨env', S.mem⟩ a' w :=
  { sz := hs.trans h.sz, df := hd.trans h.df, fr := fun t ht => (hr t ht).trans (h.fr t ht), pn := h.pn, tm := by simp, bel := h.bel,
    dat := AllD_mem.2 fun d hd => by obtain ⟨e, hm, rfl⟩ := List.mem_map.1 hd; exact he e hm,
    obj := h.obj, own := h.own, dHH := h.dHH, dHO := h.dHO, dOO := h.dOO }
theorem put_other {d t : Nat} (hne : t ≠ d) (v : Value) : (a.put (some d) v).tmps[t]? = a.tmps[t]? := by
  have : d ≠ t := fun e => hne e.symm
  simp [Act.put, this]
theorem rd_other {d t : Nat} (hne : t ≠ d) (v : Value) : rd (a.put (some d) v) t = rd a t := by
  unfold rd
  rw [put_other hne]
theorem en_put (h : Rel X β ρ S a w) {d : Nat} (v : Value) {e : En} (he : e ∈ remE S.env d) : (enD β ρ (a.put (some d) v) e).p (okR X β ρ S.mem w) w := by
  obtain ⟨h1, h2, h3⟩ := remE_mem he
  have hcc : holdsC (a.put (some d) v) e.cs ↔ holdsC a e.cs := ⟨fun hc c hm => by rw [← put_other (h3 c hm) v]; exact hc c hm, fun hc c hm => by rw [put_other (h3 c hm) v]; exact hc c hm⟩
  refine ⟨fun hc => ?_, ?_⟩
  · obtain ⟨cs, h4, h5⟩ := (h.en h1).1 (hcc.1 hc)
    exact ⟨cs, by rw [rd_other h2]; exact h4, h5⟩
  · rw [hcc, rd_other h2]; exact (h.en h1).2
theorem Rel.put (h : Rel X β ρ S a w) {d : Nat} (hd : okD X d = true) {cs : Conds} {x : AV} {v : Value}
    (hx : holdsC (a.put (some d) v) cs → ∃ c, v = x.val c ∧ cr β ρ (okR X β ρ S.mem w) w false x c) (hu : holdsC (a.put (some d) v) cs ∨ v = undef) : Rel X β ρ (S.put d cs x) (a.put (some d) v) w := by
  refine h.act (by simp [Act.put]) rfl (fun k hk => put_other (fun (e : k = d) => okD_res hd (e ▸ hk)) v) fun e he => ?_
  rcases List.mem_cons.1 he with rfl | he
  · refine ⟨fun hc => ?_, hu.imp id fun e => by rw [rd_lt (okD_small hd)]; simp [Act.put, h.sz, okD_lt hd, e]⟩
    obtain ⟨c, h1, h2⟩ := hx hc
    exact ⟨c, by rw [rd_lt (okD_small hd)]; simp [Act.put, h.sz, okD_lt hd, h1], h2⟩
  · exact en_put h v he
theorem Rel.less (h : Rel X β ρ S a w) {env' : List En} (he : ∀ e ∈ env', e ∈ S.env) : Rel X β ρ ⟨env', S.mem⟩ a w :=
  h.act rfl rfl (fun _ _ => rfl) fun e hm => h.en (he e hm)
theorem holdsC_nil (a : Act) : holdsC a [] := fun _ h => by cases h
theorem Rel.put0 (h : Rel X β ρ S a w) {d : Nat} (hd : okD X d = true) {x : AV} {c : List Value} (hx : cr β ρ (okR X β ρ S.mem w) w false x c) : Rel X β ρ (S.put d [] x) (a.put (some d) (x.val c)) w :=
  h.put hd (fun _ => ⟨c, rfl, hx⟩) (.inl (holdsC_nil _))
def lookM : List (Nat × Ob) → Nat → Option Ob
  | [], _ => none
  | q :: l, t => bif Nat.beq q.1 t then some q.2 else lookM l t
def setM : List (Nat × Ob) → Nat → Ob → List (Nat × Ob)
  | [], _, _ => []
  | q :: l, t, o => bif Nat.beq q.1 t then (t, o) :: l else q :: setM l t o
def remM : List (Nat × Ob) → Nat → List (Nat × Ob)
  | [], _ => []
  | q :: l, t => bif Nat.beq q.1 t then l else q :: remM l t
theorem lookM_split : ∀ {l : List (Nat × Ob)} {t : Nat} {o : Ob}, lookM l t = some o → ∃ l1 l2, l = l1 ++ (t, o) :: l2 ∧ (∀ o', setM l t o' = l1 ++ (t, o') :: l2) ∧ remM l t = l1 ++ l2
  | q :: l, t, o, h => by
    simp only [lookM] at h
    cases hb : Nat.beq q.1 t with
    | true =>
      rw [hb] at h
      simp at h
      have := Nat.eq_of_beq_eq_true hb
      subst h; subst this
      exact ⟨[], l, rfl, fun o' => by simp [setM, hb], by simp [remM, hb]⟩
    | false =>
      rw [hb] at h
      obtain ⟨l1, l2, h1, h2, h3⟩ := lookM_split h
      exact ⟨q :: l1, l2, by rw [h1]; rfl, fun o' => by simp [setM, hb, h2 o'], by simp [remM, hb, h3]⟩
theorem Rel.ob (h : Rel X β ρ S a w) {id : Nat} {o : Ob} (ho : lookM S.mem id = some o) :
    (tlOf β ρ id o).p (okR X β ρ S.mem w) w ∧ ∀ g, (tlOf β ρ id o).blks g → X.mine g := by
  obtain ⟨l1, l2, h1, _⟩ := lookM_split ho
  exact h.own _ (by rw [h1]; simp [memO])
end
end Gx

/- The quiet operations. -/
import Derived.Test.YtnlnadfpfekeiaaDoorXC
import Derived.Test.YtnlnadfpfekeiaaDoorXMa
namespace Gx
open Go Go.RowKit Gd
set_option linter.unusedVariables false
set_option linter.unusedSimpArgs false
structure TX where
  T : Tab
  tys : List (Nat × Ty)
  gl : List (Nat × Σ t : Ty, t.De)
def lit : AV → Option Value
  | .d (.int k) n => some (.int k n)
  | .d .bool b => some (.bool b)
  | .d .str l => some (strV l)
  | _ => none
def unlit : Value → Option AV
  | .int k n => some (.d (.int k) n)
  | .bool b => some (.d .bool b)
  | .string ⟨⟨l⟩⟩ => some (.d .str l)
  | _ => none
def nth : AV → Nat → Option AV
  | .cons x _, 0 => some x
  | .cons _ r, k + 1 => nth r k
  | _, _ => none
def evs (S : St) (cur : Conds) : List Operand → Option AV
  | [] => some .nil
  | x :: xs => match ev S cur x, evs S cur xs with
    | some v, some r => some (.cons v r)
    | _, _ => none
def pickA (c : Bool) (x y : Option AV) : Option AV :=
  match x, y with
  | some (.d .bool p), some (.d .bool q) => some (.d .bool (bif c then p else q))
  | some (.d (.int k) p), some (.d (.int k') q) => bif sameK k k' then some (.d (.int k) (bif c then p else q)) else none
  | _, _ => match c with
    | true => x
    | false => y
def withC (cur : Conds) (c : Operand) (b : Bool) : Conds := match c with
  | .tmp t => (t, b) :: cur
  | _ => cur
def isInt : AV → Option (IntKind × Int)
  | .d (.int k) n => some (k, n)
  | _ => none
def lenA (M : List (Nat × Ob)) : AV → Option Nat
  | .d (.sl _) xs => some xs.length
  | .d .str l => some l.length
  | .ns => some 0
  | .z => some 0
  | .s id => match lookM M id with
    | some (.row _ _ xs) => some xs.length
    | some (.tail _ _ xs) => some xs.length
    | _ => none
  | _ => none
def nestA {α : Type} (f : List Value → Option (α × List Value)) : Nat → List Value → Option (List α × List Value)
  | 0, cs => some ([], cs)
  | n + 1, cs => match f cs with
    | some (y, r) => match nestA f n r with
      | some (ys, r') => some (y :: ys, r')
      | none => none
    | none => none
def nest : Ty → List Value → Option (AV × List Value)
  | .arr n e, cs => match nestA (fun cs => match nest e cs with
      | some (x, r) => (match asD [] x e with
        | some y => some (y, r)
        | none => none)
      | none => none) n cs with
    | some (l, r) => some (.d (.arr n e) l, r)
    | none => none
  | .st fs, cs => match nest fs cs with
    | some (l, r) => bif l.isVal then some (.ag (.cons l .nil), r) else some (.ag l, r)
    | none => none
  | .pr f g, cs => match nest f cs with
    | some (x, r) => match nest g r with
      | some (l, r') => bif l.isVal then some (.cons x (.cons l .nil), r') else some (.cons x l, r')
      | none => none
    | none => none
  | .rose fs, cs => match nest fs cs with
    | some (l, .slice none 0 0 :: r) => bif listA l then some (.ag (appA l (.cons .ns .nil)), r) else none
    | _ => none
  | .unit, cs => some (.nil, cs)
  | _, v :: cs => match const1 v with
    | some x => some (x, cs)
    | none => none
  | _, [] => none
def zeroAV (ty : Ty) (z : Value) : Option AV := match nest ty (cellsL z) with
  | some (x, []) => some x
  | _ => none
def evParts' (S : St) (cur : Conds) : List (Nat × Operand) → Option (List (Nat × AV))
  | [] => some []
  | (i, x) :: xs => match ev S cur x, evParts' S cur xs with
    | some v, some r => some ((i, v) :: r)
    | _, _ => none
def isSliceD : TypeDesc → Option TypeId
  | .slice e => some e
  | _ => none
def flatV : (t : Ty) → t.De → Option (List Value)
  | .int k, n => some [.int k n]
  | .bool, b => some [.bool b]
  | .str, s => some [strV s]
  | .unit, _ => some []
  | .pr f r, x => match flatV f x.1, flatV r x.2 with
    | some a, some b => some (a ++ b)
    | _, _ => none
  | .st fs, x => flatV fs x
  | _, _ => none
def cellsA : AV → Option (List Value)
  | .d t x => flatV t x
  | .ag l => cellsA l
  | .nil => some []
  | .cons x r => match cellsA x, cellsA r with
    | some a, some b => some (a ++ b)
    | _, _ => none
  | _ => none
def eqOp : BinOp → Option Bool
  | .eql => some false
  | .neq => some true
  | _ => none
def nilP : AV → Option Bool
  | .np => some true
  | .p _ _ => some false
  | .e _ _ => some false
  | .a _ _ => some false
  | _ => none
def nilM : AV → Option Bool
  | .nm => some true
  | .m _ => some false
  | _ => none
def nilF : AV → Option Bool
  | .nf => some true
  | .f _ _ => some false
  | _ => none
def isNp : AV → Bool
  | .np => true
  | _ => false
def isNm : AV → Bool
  | .nm => true
  | _ => false
def isNf : AV → Bool
  | .nf => true
  | _ => false
def nilT (T : Tab) (op : BinOp) (t : TypeId) (x y : AV) : Option Bool := match eqOp op, lookT T t with
  | some neg, some te => match te.d with
    | .pointer _ => bif isNp y then (match nilP x with
      | some b => some (bif neg then !b else b)
      | none => none) else none
    | .map _ _ => bif isNm y then (match nilM x with
      | some b => some (bif neg then !b else b)
      | none => none) else none
    | .func _ _ _ => bif isNf y then (match nilF x with
      | some b => some (bif neg then !b else b)
      | none => none) else none
    | _ => none
  | _, _ => none
def isAggV : Value → Bool
  | .agg _ => true
  | _ => false
theorem val_cells {t : Ty} {v : Value} (h : t.agg = isAggV v) : (rt t).val (cellsL v) = v := by
  cases v <;> simp_all [isAggV, RT.val, rt_agg, cellsL]
def mapD : Option Ob → Option (Σ k v : Ty, List (k.De × v.De))
  | some (.map k v xs) => some ⟨k, v, xs⟩
  | some (.mapT k v _ _ _ xs none) => some ⟨k, v, xs⟩
  | _ => none
def asLs (M : List (Nat × Ob)) (u : Ty) : List (Nat × AV) → Nat → Option (List u.De)
  | [], _ => some []
  | (i, v) :: l, j => bif Nat.beq i j && (u.agg == v.isAgg) then (match asD M v u, asLs M u l (j + 1) with
    | some x, some xs => some (x :: xs)
    | _, _ => none) else none
def evalP (Y : TX) (S : St) (cur : Conds) : Op → Option AV
  | .move x | .assign x => ev S cur x
  | .pick c a b => match ev S cur c with
    | some (.d .bool v) => pickA v (ev S (withC cur c true) a) (ev S (withC cur c false) b)
    | _ => none
  | .binOp op t x y _ => match ev S cur x, ev S cur y with
    | some x, some y => match lit x, lit y with
      | some u, some v => match valBin Y.T op t u v with
        | some r => unlit r
        | none => none
      | _, _ => match nilT Y.T op t x y with
        | some b => some (.d .bool b)
        | none => match eqOp op, lookT Y.T t, cellsA x, cellsA y with
        | some neg, some ⟨_, .struct ⟨fs⟩, _, _, _⟩, some us, some vs => bif blankB fs && x.isAgg && y.isAgg then (match eqFs Y.T fs us vs with
          | some r => some (.d .bool (bif neg then !r else r))
          | none => none) else none
        | _, _, _, _ => none
    | _, _ => none
  | .unOp op _ x => match ev S cur x with
    | some x => match lit x with
      | some u => match valUn op u with
        | some r => unlit r
        | none => none
      | none => none
    | none => none
  | .convert s t x => match lookT Y.T s, lookT Y.T t, ev S cur x with
    | some ⟨_, .int _, _, _, _⟩, some ⟨_, .int k, _, _, _⟩, some (.d (.int _) n) => some (.d (.int k) (k.wrap n))
    | _, _, _ => none
  | .field s x f => match lookT Y.T s, ev S cur x with
    | some ⟨_, .struct fs, _, _, _⟩, some x => match fs[f]? with
      | some fd => match nav [.f f fd.offset] x, lookT Y.T fd.type with
        | some y, some e => bif Nat.beq e.size y.size && (isAggD e.d == y.isAgg) && x.isAgg && y.isVal && (y.isAgg || Nat.beq y.size 1) then some y else none
        | _, _ => none
      | none => none
    | _, _ => none
  | .fieldAddr s x f => match lookT Y.T s, ev S cur x with
    | some ⟨_, .struct fs, _, _, _⟩, some x => match fieldOff Y.T fs f with
      | some off => match x with
        | .p id path => some (.p id (path ++ [.f f off]))
        | .e id path => some (.e id (path ++ [.f f off]))
        | .a t y => match nav [.f f off] (.d t y) with
          | some (.d u z) => some (.a u z)
          | _ => none
        | _ => none
      | none => none
    | _, _ => none
  | .load t x => match lookT Y.T t, ev S cur x with
    | some e, some (.p id path) => match lookM S.mem id with
      | some (.var _ c) => match nav path c with
        | some y => bif Nat.beq e.size y.size && (isAggD e.d == y.isAgg) && y.isVal && (y.isAgg || Nat.beq y.size 1) then some y else none
        | none => none
      | _ => none
    | some e, some (.a t y) => bif Nat.beq e.size t.size && (isAggD e.d == t.agg) then some (.d t y) else none
    | _, _ => none
  | .extract x i => match ev S cur x with
    | some (.tp l) => nth l i
    | _ => none
  | .call { callee := .builtin .len, args := ⟨[x]⟩, argTypes := ⟨[t]⟩ } => match lookT Y.T t, ev S cur x with
    | some e, some x => match e.d with
      | .slice _ => match x with
        | .d .str _ => none
        | x => match lenA S.mem x with
          | some n => some (.d (.int .i64) n)
          | none => none
      | .string => match x with
        | .d .str l => some (.d (.int .i64) l.length)
        | _ => none
      | _ => none
    | _, _ => none
  | .call { callee := .builtin .max, args := ⟨[x, y]⟩, argTypes := _ } => match ev S cur x, ev S cur y with
    | some x, some y => match isInt x, isInt y with
      | some (k, a), some (_, b) => some (.d (.int k) (if b > a then b else a))
      | _, _ => none
    | _, _ => none
  | .call { callee := .builtin .min, args := ⟨[x, y]⟩, argTypes := _ } => match ev S cur x, ev S cur y with
    | some x, some y => match isInt x, isInt y with
      | some (k, a), some (_, b) => some (.d (.int k) (if b < a then b else a))
      | _, _ => none
    | _, _ => none
  | .build t ⟨parts⟩ => match lookT Y.T t, lookN Y.tys t with
    | some ⟨_, .struct ⟨fs⟩, z, _, _⟩, some ty => match zeroAV ty z, placesT Y.T fs, evParts' S cur parts with
      | some (.ag l), some ps, some vs => match fillP ps l vs with
        | some l' => some (.ag l')
        | none => none
      | _, _, _ => none
    | some ⟨_, .array _ e, z, _, _⟩, some (.arr m u) => match lookT Y.T e, evParts' S cur parts with
      | some ee, some vs => match asLs S.mem u vs 0 with
        | some xs => bif Nat.beq ee.size u.size && Nat.beq xs.length m && Nat.beq (cellsL z).length (m * u.size) then some (.d (.arr m u) xs) else none
        | none => none
      | _, _ => none
    | _, _ => none
  | .nilCheck x => match ev S cur x with
    | some (.p id path) => some (.p id path)
    | some (.e id path) => some (.e id path)
    | some (.a t y) => some (.a t y)
    | some (.f fn caps) => some (.f fn caps)
    | _ => none
  | .makeFunc (.func f) ⟨[]⟩ ⟨caps⟩ => match evs S cur caps with
    | some l => some (.f f l)
    | none => none
  | .lookup t x ix c => match lookT Y.T t, ev S cur x, ev S cur ix with
    | some te, some (.m id), some iv => match te.d, mapD (lookM S.mem id) with
      | .map kt et, some ⟨k, v, xs⟩ => match lookT Y.T kt, lookT Y.T et, asD [] iv k with
        | some tk, some tz, some key => match zeroAV v tz.z with
          | some za => match asD [] za v with
            | some z => bif descK Y.T k tk.d && (k.agg == iv.isAgg) && (v.agg == isAggV tz.z) then some (match c with
              | true => .tp (.cons (.d v ((findL key xs).getD z)) (.cons (.d .bool (findL key xs).isSome) .nil))
              | false => .d v ((findL key xs).getD z)) else none
            | none => none
          | none => none
        | _, _, _ => none
      | _, _ => none
    | _, _, _ => none
  | _ => none
where
  fillP (ps : List (Nat × Nat)) (l : AV) : List (Nat × AV) → Option AV
  | [] => some l
  | (i, x) :: r => match ps[i]? with
    | some (off, size) => match updKid (fun c => bif okNew c x then some x else none) l i with
      | some (l', o) => bif Nat.beq o off && Nat.beq x.size size then fillP ps l' r else none
      | none => none
    | none => none
section
variable {β : Nat → Nat} {ρ : Nat → Value} {ok : Ok} {w : World}
theorem lit_ok {x : AV} {v : Value} (h : lit x = some v) {cs : List Value} (hc : cr β ρ ok w false x cs) : x.val cs = v := by
  unfold lit at h
  split at h <;> first | (simp at h; done) | skip
  all_goals
    simp only [Option.some.injEq] at h
    subst h
    have hc' : cs = _ := hc
    subst hc'
    rfl
theorem unlit_ok {x : AV} {v : Value} (h : unlit v = some x) : ∃ cs, v = x.val cs ∧ cr β ρ ok w false x cs := by
  unfold unlit at h
  split at h <;> first | (simp at h; done) | skip
  all_goals
    simp only [Option.some.injEq] at h
    subst h
    exact ⟨_, rfl, rfl⟩
theorem nth_ok : ∀ {l : AV} {k : Nat} {x : AV} {vs : List Value}, nth l k = some x → cr β ρ ok w true l vs → ∃ cs, vs[k]? = some (x.val cs) ∧ cr β ρ ok w false x cs
  | .cons x r, 0, y, vs, h, ⟨c1, vs', h1, h2, h3⟩ => by
    simp [nth] at h; subst h; subst h1
    exact ⟨c1, rfl, h2⟩
  | .cons x r, k + 1, y, vs, h, ⟨c1, vs', h1, h2, h3⟩ => by
    subst h1
    obtain ⟨c2, h4, h5⟩ := nth_ok (l := r) (k := k) (x := y) (by simpa only [nth] using h) h3
    exact ⟨c2, by simpa using h4, h5⟩
  | .d .., _, _, _, h, _ => by simp [nth] at h
  | .p .., _, _, _, h, _ => by simp [nth] at h
  | .e .., _, _, _, h, _ => by simp [nth] at h
  | .s .., _, _, _, h, _ => by simp [nth] at h
  | .m .., _, _, _, h, _ => by simp [nth] at h
  | .w .., _, _, _, h, _ => by simp [nth] at h
  | .a .., _, _, _, h, _ => by simp [nth] at h
  | .z, _, _, _, h, _ => by simp [nth] at h
  | .ns, _, _, _, h, _ => by simp [nth] at h
  | .np, _, _, _, h, _ => by simp [nth] at h
  | .nm, _, _, _, h, _ => by simp [nth] at h
  | .nf, _, _, _, h, _ => by simp [nth] at h
  | .f .., _, _, _, h, _ => by simp [nth] at h
  | .ag .., _, _, _, h, _ => by simp [nth] at h
  | .tp .., _, _, _, h, _ => by simp [nth] at h
  | .nil, _, _, _, h, _ => by simp [nth] at h
theorem isInt_ok {x : AV} {k : IntKind} {n : Int} (h : isInt x = some (k, n)) : x = .d (.int k) n := by
  unfold isInt at h
  split at h
  · simp at h; obtain ⟨rfl, rfl⟩ := h; rfl
  · cases h
theorem lenA_ok {M : List (Nat × Ob)} (hM : ∀ id o, lookM M id = some o → (tlOf β ρ id o).p ok w) {x : AV} {n : Nat} {cs : List Value} (h : lenA M x = some n) (hs : ∀ l, x ≠ .d .str l) (hc : cr β ρ ok w false x cs) :
    ∃ A c, x.val cs = .slice A n c := by
  cases x with
  | d t y =>
    cases t <;> simp [lenA] at h
    · exact absurd rfl (hs _)
    · subst h
      obtain ⟨v, rfl, A, m, c, rfl, rfl, _⟩ := hc
      exact ⟨A, c, rfl⟩
  | s id =>
    simp only [lenA] at h
    obtain ⟨⟨v, rfl, hz⟩, A, m, c, hv⟩ := hc
    suffices hm : m = n by
      subst hm
      rcases hz with rfl | ⟨h0, A', rfl⟩
      · exact ⟨A, c, hv⟩
      · rw [hv] at h0
        injection h0 with _ h1
        exact ⟨A', 0, by rw [h1]; rfl⟩
    split at h <;> first | (simp at h; done) | skip
    · rename_i ho
      simp at h; subst h
      have := (hM _ _ ho).1
      rw [hv] at this
      exact this
    · rename_i ho
      simp at h; subst h
      have := (hM _ _ ho).1
      rw [hv] at this
      obtain ⟨A', c', h1, _⟩ := slForm this
      injection h1 with h1 h2 h3
  | ns => simp [lenA] at h; subst h; have : cs = _ := hc; subst this; exact ⟨_, _, rfl⟩
  | z => simp [lenA] at h; subst h; obtain ⟨A, rfl⟩ := hc; exact ⟨_, _, rfl⟩
  | _ => simp [lenA] at h
theorem nestA_ok {τ : Type} {r : RT τ} {f : List Value → Option (τ × List Value)} (hf : ∀ {cs r' : List Value} {y : τ}, f cs = some (y, r') → ∃ c1, cs = c1 ++ r' ∧ r.rep ok w y c1) :
    ∀ {n : Nat} {cs r' : List Value} {ys : List τ}, nestA f n cs = some (ys, r') → ∃ c1, cs = c1 ++ r' ∧ ys.length = n ∧ repA r ok w ys c1
  | 0, cs, r', ys, h => by simp [nestA] at h; obtain ⟨rfl, rfl⟩ := h; exact ⟨[], rfl, rfl, rfl⟩
  | n + 1, cs, r', ys, h => by
    simp only [nestA] at h
    split at h
    · rename_i y r1 h1
      split at h
      · rename_i ys' r2 h2
        simp at h; obtain ⟨rfl, rfl⟩ := h
        obtain ⟨c1, rfl, p1⟩ := hf h1
        obtain ⟨c2, rfl, p2, p3⟩ := nestA_ok hf h2
        exact ⟨c1 ++ c2, by simp, by simp [p2], c1, c2, rfl, p1, p3⟩
      · cases h
    · cases h
theorem nest_ok : ∀ {ty : Ty} {cs r : List Value} {x : AV}, nest ty cs = some (x, r) → ∃ c1, cs = c1 ++ r ∧ cr β ρ ok w false x c1
  | .st fs, cs, r, x, h => by
    simp only [nest] at h
    split at h
    · rename_i l r' hl
      obtain ⟨c1, h1, h2⟩ := nest_ok hl
      cases hv : l.isVal with
      | true =>
        rw [hv] at h
        simp at h; obtain ⟨rfl, rfl⟩ := h
        exact ⟨c1, h1, c1, [], by simp, h2, rfl⟩
      | false =>
        rw [hv] at h
        simp at h; obtain ⟨rfl, rfl⟩ := h
        exact ⟨c1, h1, h2⟩
    · cases h
  | .rose fs, cs, r, x, h => by
    simp only [nest] at h
    split at h
    · rename_i l r' hl
      cases hb : listA l with
      | false => rw [hb] at h; cases h
      | true =>
        rw [hb] at h
        simp at h; obtain ⟨rfl, rfl⟩ := h
        obtain ⟨c1, h1, h2⟩ := nest_ok hl
        refine ⟨c1 ++ [.slice none 0 0], by rw [h1]; simp, appA_ok hb h2 ?_⟩
        exact ⟨[.slice none 0 0], [], rfl, rfl, rfl⟩
    · cases h
  | .pr f g, cs, r, x, h => by
    simp only [nest] at h
    split at h
    · rename_i y r1 h1
      split at h
      · rename_i l r2 h2
        obtain ⟨c1, rfl, hc1⟩ := nest_ok h1
        obtain ⟨c2, rfl, hc2⟩ := nest_ok h2
        cases hv : l.isVal with
        | true =>
          rw [hv] at h
          simp at h; obtain ⟨rfl, rfl⟩ := h
          exact ⟨c1 ++ c2, by simp, c1, c2, rfl, hc1, c2, [], by simp, hc2, rfl⟩
        | false =>
          rw [hv] at h
          simp at h; obtain ⟨rfl, rfl⟩ := h
          exact ⟨c1 ++ c2, by simp, c1, c2, rfl, hc1, hc2⟩
      · cases h
    · cases h
  | .unit, cs, r, x, h => by
    simp [nest] at h; obtain ⟨rfl, rfl⟩ := h
    exact ⟨[], rfl, rfl⟩
  | .int k, cs, r, x, h => nest1 (by cases cs <;> (simp only [nest] at h; exact h))
  | .bool, cs, r, x, h => nest1 (by cases cs <;> (simp only [nest] at h; exact h))
  | .str, cs, r, x, h => nest1 (by cases cs <;> (simp only [nest] at h; exact h))
  | .sl e, cs, r, x, h => nest1 (by cases cs <;> (simp only [nest] at h; exact h))
  | .ref, cs, r, x, h => nest1 (by cases cs <;> (simp only [nest] at h; exact h))
  | .arr n e, cs, r, x, h => by
    simp only [nest] at h
    split at h
    · rename_i l r' hl
      simp at h; obtain ⟨rfl, rfl⟩ := h
      obtain ⟨c1, h1, h2, h3⟩ := nestA_ok (r := rt e) (ok := ok) (w := w) (fun {cs r' y} hf => by
        split at hf
        · rename_i x r1 hx
          split at hf
          · rename_i y' hy
            simp at hf; obtain ⟨rfl, rfl⟩ := hf
            obtain ⟨c1, p1, p2⟩ := nest_ok hx
            exact ⟨c1, p1, asD_ok (M := []) (by simp [lookM]) hy p2⟩
          · cases hf
        · cases hf) hl
      exact ⟨c1, h1, h2, h3⟩
    · cases h
where
  nest1 {cs r : List Value} {x : AV} (h : (match cs with
    | v :: cs => match const1 v with
      | some x => some (x, cs)
      | none => none
    | [] => none) = some (x, r)) : ∃ c1, cs = c1 ++ r ∧ cr β ρ ok w false x c1 := by
    cases cs with
    | nil => cases h
    | cons v cs =>
      simp only at h
      split at h
      · rename_i y hy
        simp at h; obtain ⟨rfl, rfl⟩ := h
        exact ⟨[v], rfl, (const1_ok hy).1⟩
      · cases h
theorem zeroAV_ok {ty : Ty} {z : Value} {x : AV} (h : zeroAV ty z = some x) : cr β ρ ok w false x (cellsL z) := by
  unfold zeroAV at h
  split at h
  · rename_i y hy
    simp at h; subst h
    obtain ⟨c1, h1, h2⟩ := nest_ok hy
    rw [h1, List.append_nil]; exact h2
  · cases h
inductive All2 {α β : Type} (R : α → β → Prop) : List α → List β → Prop
  | nil : All2 R [] []
  | cons {a : α} {b : β} {l : List α} {m : List β} (h : R a b) (t : All2 R l m) : All2 R (a :: l) (b :: m)
theorem fillP_ok (ps : List (Nat × Nat)) : ∀ {vs : List (Nat × AV)} {us : List (Nat × Value)} {l l' : AV} {cs : List Value}, evalP.fillP ps l vs = some l' →
    cr β ρ ok w false l cs → All2 (fun (p : Nat × AV) (q : Nat × Value) => p.1 = q.1 ∧ ∃ c, q.2 = p.2.val c ∧ cr β ρ ok w false p.2 c) vs us →
    ∃ cs', fillL (fun i => ps[i]?) cs us = some cs' ∧ cr β ρ ok w false l' cs'
  | [], _, l, l', cs, h, hc, .nil => by simp [evalP.fillP] at h; subst h; exact ⟨cs, rfl, hc⟩
  | (i, x) :: vs, _, l, l', cs, h, hc, @All2.cons _ _ _ _ q _ us hq hr => by
    obtain ⟨j, v⟩ := q
    obtain ⟨rfl, c, hv, hcx⟩ := hq
    simp only at hv hcx
    simp only [evalP.fillP] at h
    split at h
    · rename_i off size hp
      split at h
      · rename_i l1 o hu
        cases hb : (Nat.beq o off && Nat.beq x.size size) with
        | false => rw [hb] at h; cases h
        | true =>
          rw [hb] at h
          simp only [Bool.and_eq_true] at hb
          have e1 := Nat.eq_of_beq_eq_true hb.1
          have e2 := Nat.eq_of_beq_eq_true hb.2
          subst e1; subst e2
          simp only [cond_true] at h
          have hg : ∀ {c0 c' : AV} {cs0 : List Value}, (fun c0 => bif okNew c0 x then some x else none) c0 = some c' → cr β ρ ok w false c0 cs0 →
              cr β ρ ok w false c' (cs0.take 0 ++ c ++ cs0.drop (0 + c.length)) ∧ 0 + c.length ≤ cs0.length := by
            intro c0 c' cs0 h1 h2
            have := setP_ok (β := β) (ρ := ρ) (ok := ok) (w := w) (new := x) (ds := c) hcx (ps := []) (cur := c0) (av' := c') (by simpa [setP] using h1) h2
            simpa [offP] using this
          have hx : x.inMem = true ∧ x.isVal = true := by
            have : ∃ c0, okNew c0 x = true := by
              clear hr hc hp h hb hg
              induction l generalizing i l1 o with
              | cons y r _ ihr =>
                cases i with
                | zero =>
                  simp only [updKid] at hu
                  cases hk : okNew y x with
                  | true => exact ⟨y, hk⟩
                  | false => rw [hk] at hu; simp at hu
                | succ i =>
                  simp only [updKid] at hu
                  split at hu
                  · rename_i r' o' hr
                    exact ihr _ _ _ hr
                  · cases hu
              | _ => simp [updKid] at hu
            obtain ⟨c0, hc0⟩ := this
            simp only [okNew, Bool.and_eq_true] at hc0
            exact ⟨hc0.1.1.2, hc0.1.2⟩
          obtain ⟨h3, h4⟩ := updKid_ok (off := 0) (ds := c) hg hu hc
          have hcl : cellsL v = c := by rw [hv]; exact cellsL_val' hcx hx.2 hx.1
          have hlen := cr_len hcx
          obtain ⟨cs', h5, h6⟩ := fillP_ok ps h h3 hr
          refine ⟨cs', ?_, h6⟩
          simp only [fillL, hp, hcl]
          have hb' : (Nat.beq c.length x.size && Nat.ble (o + c.length) cs.length) = true := by
            simp only [Bool.and_eq_true]
            exact ⟨by rw [hlen]; exact Nat.beq_refl _, Nat.ble_eq_true_of_le (by omega)⟩
          rw [hb']
          simp only [cond_true, layL]
          simpa using h5
      · cases h
    · cases h
end
end Gx

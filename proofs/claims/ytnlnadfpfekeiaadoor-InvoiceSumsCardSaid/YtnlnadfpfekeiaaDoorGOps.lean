/- The quiet operations of a walk, evaluated by a function; its soundness. -/
import Derived.Test.YtnlnadfpfekeiaaDoorGCore
namespace Gd
open Go Go.RowKit
set_option linter.unusedVariables false
set_option linter.unusedSimpArgs false
structure TE where
  t : TypeId
  d : TypeDesc
  z : Value
  size : Nat
  bytes : Nat
abbrev Tab := List TE
def TabOk (P : Program) : Tab → Prop
  | [] => True
  | e :: T => (((P.info? e.t).map (fun i => (i.zero, i.size, i.bytes)) = some (some e.z, e.size, e.bytes) ∧ P.underlying e.t = some e.d) ∧ (P.stoodInHeld e.t || P.eqGuardType P.depth e.t) = false) ∧ TabOk P T
def lookT : Tab → TypeId → Option TE
  | [], _ => none
  | e :: T, t => bif Nat.beq e.t t then some e else lookT T t
theorem lookT_ok {P : Program} {T : Tab} (h : TabOk P T) {t : TypeId} {e : TE} (he : lookT T t = some e) :
    (P.info? t).map (fun i => (i.zero, i.size, i.bytes)) = some (some e.z, e.size, e.bytes) ∧ P.underlying t = some e.d := by
  induction T with
  | nil => simp [lookT] at he
  | cons x T ih =>
    simp only [lookT] at he
    cases hb : Nat.beq x.t t with
    | true => rw [hb] at he; simp only [cond_true, Option.some.injEq] at he; subst he; have := Nat.eq_of_beq_eq_true hb; subst this; exact h.1.1
    | false => rw [hb] at he; exact ih h.2 he
theorem lookT_eq {P : Program} {T : Tab} (h : TabOk P T) {t : TypeId} {e : TE} (he : lookT T t = some e) : P.stoodInHeld t = false ∧ P.eqGuardType P.depth t = false := by
  induction T with
  | nil => simp [lookT] at he
  | cons x T ih =>
    simp only [lookT] at he
    cases hb : Nat.beq x.t t with
    | true => rw [hb] at he; simp only [cond_true, Option.some.injEq] at he; subst he; have := Nat.eq_of_beq_eq_true hb; subst this; simpa [Bool.or_eq_false_iff] using h.1.2
    | false => rw [hb] at he; exact ih h.2 he
theorem lookT_info {P : Program} {T : Tab} (h : TabOk P T) {t : TypeId} {e : TE} (he : lookT T t = some e) :
    ∃ i, P.info? t = some i ∧ i.zero = some e.z ∧ i.size = e.size ∧ i.bytes = e.bytes := by
  have := (lookT_ok h he).1
  cases hi : P.info? t with
  | none => rw [hi] at this; simp at this
  | some i => rw [hi] at this; simp at this; exact ⟨i, rfl, this.1, this.2.1, this.2.2⟩
def isAggD : TypeDesc → Bool
  | .struct _ | .array _ _ => true
  | _ => false
section
variable {P : Program} {T : Tab} (hT : TabOk P T) (w : World)
include hT
theorem run_typeInfo {t : TypeId} {e : TE} (he : lookT T t = some e) : ∃ i, (typeInfo t).run P w = .ok i w ∧ i.zero = some e.z ∧ i.size = e.size ∧ i.bytes = e.bytes := by
  obtain ⟨i, hi, h1, h2, h3⟩ := lookT_info hT he
  exact ⟨i, by simp [typeInfo, hi], h1, h2, h3⟩
theorem run_sizeOf' {t : TypeId} {e : TE} (he : lookT T t = some e) : (Go.sizeOf t).run P w = .ok e.size w := by
  obtain ⟨i, hi, h1, h2, h3⟩ := run_typeInfo hT w he
  simp [Go.sizeOf, hi, h2]
theorem run_zeroValue {t : TypeId} {e : TE} (he : lookT T t = some e) : (zeroValue t).run P w = .ok e.z w := by
  obtain ⟨i, hi, h1, h2, h3⟩ := run_typeInfo hT w he
  simp [zeroValue, hi, h1]
theorem run_under {t : TypeId} {e : TE} (he : lookT T t = some e) : (underlying t).run P w = .ok e.d w :=
  run_underlying (lookT_ok hT he).2 w
theorem run_isAgg {t : TypeId} {e : TE} (he : lookT T t = some e) : (isAgg t).run P w = .ok (isAggD e.d) w := by
  simp only [isAgg, Sem.run_bind, run_under hT w he, Result.andThen_ok]
  cases e.d <;> rfl
theorem run_part {t : TypeId} {e : TE} (he : lookT T t = some e) (cs : List Value) (off : Nat) {v : Value}
    (hv : (if isAggD e.d then some (.agg ((cs.drop off).take e.size).toArray) else cs[off]?) = some v) : (part t cs.toArray off).run P w = .ok v w := by
  simp only [part, Sem.run_bind, run_isAgg hT w he, Result.andThen_ok]
  cases ha : isAggD e.d with
  | true =>
    rw [ha] at hv
    simp only [if_true, Option.some.injEq] at hv
    subst hv
    simp [run_sizeOf' hT w he, List.take_drop]
  | false =>
    rw [ha] at hv
    simp at hv
    simp [hv]
theorem run_loadVar_cells {t : TypeId} {e : TE} (he : lookT T t = some e) (b o : Nat) (cs : List Value) (hl : cs.length = e.size) (hone : isAggD e.d = false → cs.length = 1)
    (hc : ∀ (j : Nat) u, cs[j]? = some u → w.cell? ⟨b, o + j, none⟩ = some u) :
    (loadVar t ⟨b, o, none⟩).run P w = .ok (if isAggD e.d then .agg cs.toArray else cs.headD undef) w := by
  simp only [loadVar, Sem.run_bind, run_isAgg hT w he, Result.andThen_ok]
  cases ha : isAggD e.d with
  | true =>
    simp only [if_true, Sem.run_bind, run_sizeOf' hT w he, Result.andThen_ok, ← hl]
    rw [run_loadCells_list w ⟨b, o, none⟩ cs (fun j v hj => by rw [Addr.add_lit]; exact hc j v hj)]
    simp
  | false =>
    have h1 := hone ha
    match cs, h1 with
    | [c], _ =>
      have := hc 0 c rfl
      simp at this
      simp [this]
end
theorem den_v (β : Nat → Nat) (x : Value) : den β (.v x) = x := rfl
theorem den_o (β : Nat → Nat) (id off : Nat) : den β (.o id off) = .pointer (some ⟨β id, off, none⟩) := rfl
def gv (G : GL) : Operand → Option AV
  | .tmp t => lookN G t
  | .const v => some (.v v)
  | .func f => some (.v (.func (.func f) #[] #[]))
  | .global g => some (.v (.pointer (some ⟨g, 0, none⟩)))
def intBin (op : BinOp) (k : IntKind) (a b : Int) : Option Value :=
  match op with
  | .add => some (.int k (k.wrap (a + b)))
  | .sub => some (.int k (k.wrap (a - b)))
  | .mul => some (.int k (k.wrap (a * b)))
  | .eql => some (.bool (a == b))
  | .neq => some (.bool (a != b))
  | .lss => some (.bool (decide (a < b)))
  | .leq => some (.bool (decide (a ≤ b)))
  | .gtr => some (.bool (decide (a > b)))
  | .geq => some (.bool (decide (a ≥ b)))
  | .and => some (.int k (Go.bits .and k a b))
  | .or => some (.int k (Go.bits .or k a b))
  | .xor => some (.int k (Go.bits .xor k a b))
  | .andNot => some (.int k (Go.bits .andNot k a b))
  | _ => none
def intDivC (op : BinOp) (k : IntKind) (a : Int) : Int → Option Value
  | .ofNat (b + 1) => match op with
    | .quo => some (.int k (k.wrap (a.tdiv (.ofNat (b + 1)))))
    | .rem => some (.int k (a.tmod (.ofNat (b + 1))))
    | _ => none
  | _ => none
def strBin (op : BinOp) (a b : Str) : Option Value :=
  match op with
  | .eql => some (.bool (a == b))
  | .neq => some (.bool !(a == b))
  | .lss => some (.bool (Op.bytesLess a b))
  | .leq => some (.bool (Op.bytesLess a b || a == b))
  | .gtr => some (.bool !(Op.bytesLess a b || a == b))
  | .geq => some (.bool !(Op.bytesLess a b))
  | _ => none
def sameK : IntKind → IntKind → Bool
  | .i8, .i8 | .i16, .i16 | .i32, .i32 | .i64, .i64 | .u8, .u8 | .u16, .u16 | .u32, .u32 | .u64, .u64 => true
  | _, _ => false
theorem sameK_eq {a b : IntKind} (h : sameK a b = true) : a = b := by cases a <;> cases b <;> simp_all [sameK]
def isDiv : BinOp → Bool
  | .quo | .rem => true
  | _ => false
def isBoolT (T : Tab) (t : TypeId) : Bool :=
  match lookT T t with
  | some ⟨_, .bool, _, _, _⟩ => true
  | _ => false
def valBin (T : Tab) (op : BinOp) (t : TypeId) (x y : Value) : Option Value :=
  match x, y with
  | .int k a, .int k' b => bif sameK k k' then (bif isDiv op then intDivC op k a b else intBin op k a b) else none
  | .bool a, .bool b => bif isBoolT T t then (match op with
    | .eql => some (.bool (a == b))
    | .neq => some (.bool (a != b))
    | _ => none) else none
  | .string ⟨⟨a⟩⟩, .string ⟨⟨b⟩⟩ => strBin op a b
  | _, _ => none
def valUn (op : UnOp) (x : Value) : Option Value :=
  match op, x with
  | .neg, .int k n => some (.int k (k.wrap (0 - n)))
  | .not, .bool b => some (.bool !b)
  | _, _ => none
def pickV (c : Bool) (x y : Option AV) : Option AV :=
  match x, y with
  | some (.v (.bool p)), some (.v (.bool q)) => some (.v (.bool (bif c then p else q)))
  | _, _ => match c with
    | true => x
    | false => y
def fieldOff (T : Tab) (fs : Array Field) (f : Nat) : Option Nat :=
  match fs[f]? with
  | some fd => match lookT T fd.type with
    | some ⟨_, _, _, _ + 1, _⟩ => some fd.offset
    | _ => none
  | none => none
def cellsOf? (T : Tab) (t : TypeId) (cs : List Value) (off : Nat) : Option Value :=
  match lookT T t with
  | some e => bif isAggD e.d then (if off + e.size ≤ cs.length then some (.agg ⟨(cs.drop off).take e.size⟩) else none) else (bif Nat.beq e.size 1 then cs[off]? else none)
  | none => none
def placesT (T : Tab) : List Field → Option (List (Nat × Nat))
  | [] => some []
  | f :: fs => match lookT T f.type, placesT T fs with
    | some e, some ps => some ((f.offset, e.size) :: ps)
    | _, _ => none
def evParts (G : GL) : List (Nat × Operand) → Option (List (Nat × Value))
  | [] => some []
  | (i, x) :: xs => match gv G x, evParts G xs with
    | some (.v v), some vs => some ((i, v) :: vs)
    | _, _ => none
def layL (cs : List Value) (off : Nat) (vs : List Value) : List Value := cs.take off ++ vs ++ cs.drop (off + vs.length)
def cellsL : Value → List Value
  | .agg ⟨cs⟩ => cs
  | v => [v]
theorem cellsL_eq (v : Value) : cellsL v = v.cells.toList := by cases v <;> rfl
def fillL (ps : Nat → Option (Nat × Nat)) (cs : List Value) : List (Nat × Value) → Option (List Value)
  | [] => some cs
  | (i, v) :: rest => match ps i with
    | none => none
    | some (off, size) =>
      bif Nat.beq (cellsL v).length size && Nat.ble (off + (cellsL v).length) cs.length then fillL ps (layL cs off (cellsL v)) rest else none
def evalOp (T : Tab) (G : GL) (H : HL) : Op → Option AV
  | .move x | .assign x => gv G x
  | .pick c a b => match gv G c with
    | some (.v (.bool c)) => pickV c (gv G a) (gv G b)
    | _ => none
  | .binOp op t x y _ => match gv G x, gv G y with
    | some (.v x), some (.v y) => (valBin T op t x y).map .v
    | _, _ => none
  | .unOp op _ x => match gv G x with
    | some (.v x) => (valUn op x).map .v
    | _ => none
  | .fieldAddr s x f => match lookT T s, gv G x with
    | some ⟨_, .struct fs, _, _, _⟩, some (.o id off) => (fieldOff T fs f).map fun k => .o id (off + k)
    | _, _ => none
  | .load t x => match gv G x with
    | some (.o id off) => match lookN H id with
      | some o => (cellsOf? T t o.cs off).map .v
      | none => none
    | _ => none
  | .field s x f => match lookT T s, gv G x with
    | some ⟨_, .struct fs, _, _, _⟩, some (.v (.agg ⟨cs⟩)) => match fs[f]? with
      | some fd => (cellsOf? T fd.type cs fd.offset).map .v
      | none => none
    | _, _ => none
  | .extract x i => match gv G x with
    | some (.v (.tuple ⟨vs⟩)) => (vs[i]?).map .v
    | _ => none
  | .call { callee := .builtin .len, args := ⟨[x]⟩, argTypes := ⟨[t]⟩ } => match lookT T t, gv G x with
    | some ⟨_, .slice _, _, _, _⟩, some (.v (.slice _ n _)) => some (.v (.int .i64 n))
    | some ⟨_, .string, _, _, _⟩, some (.v (.string ⟨⟨l⟩⟩)) => some (.v (.int .i64 l.length))
    | some ⟨_, .array n _, _, _, _⟩, _ => some (.v (.int .i64 n))
    | _, _ => none
  | .call { callee := .builtin .max, args := ⟨[x, y]⟩, argTypes := _ } => match gv G x, gv G y with
    | some (.v (.int k a)), some (.v (.int _ b)) => some (.v (.int k (if b > a then b else a)))
    | _, _ => none
  | .call { callee := .builtin .min, args := ⟨[x, y]⟩, argTypes := _ } => match gv G x, gv G y with
    | some (.v (.int k a)), some (.v (.int _ b)) => some (.v (.int k (if b < a then b else a)))
    | _, _ => none
  | .build t ⟨parts⟩ => match lookT T t with
    | some ⟨_, .struct ⟨fs⟩, .agg ⟨z⟩, _, _⟩ => match placesT T fs, evParts G parts with
      | some ps, some vs => match fillL (fun i => ps[i]?) z vs with
        | some cs => some (.v (.agg ⟨cs⟩))
        | none => none
      | _, _ => none
    | _ => none
  | .convert s t x => match lookT T s, lookT T t, gv G x with
    | some ⟨_, .int _, _, _, _⟩, some ⟨_, .int k, _, _, _⟩, some (.v (.int _ n)) => some (.v (.int k (k.wrap n)))
    | _, _, _ => none
  | _ => none
section
variable {P : Program} {T : Tab} {β : Nat → Nat} {X : Cx} {G : GL} {D : List DF} {H : HL} {O : List TL} {a : Act} {w w' : World}
theorem Sb.ev (h : Sb β X G D H O a w) {x : Operand} {v : AV} (hx : gv G x = some v) : a.eval x = den β v := by
  cases x with
  | tmp t =>
    have := h.tm _ (lookN_mem hx)
    simp only at this
    simp [Act.eval, this]
  | const v => simp [gv] at hx; subst hx; rfl
  | func f => simp [gv] at hx; subst hx; rfl
  | global g => simp [gv] at hx; subst hx; rfl
theorem strBin_ok {op : BinOp} {t : TypeId} {a b : Str} {v : Value} (h : strBin op a b = some v) : (binOp op t (.string ⟨⟨a⟩⟩) (.string ⟨⟨b⟩⟩)) = (pure v : Sem Value) := by
  have ha : (ByteArray.mk ⟨a⟩).toList = a := ByteArray.toList_mk a
  have hb : (ByteArray.mk ⟨b⟩).toList = b := ByteArray.toList_mk b
  cases op <;> simp [strBin] at h <;> subst h <;> simp [binOp, Op.stringOp, ha, hb]
theorem intBin_ok {op : BinOp} {t : TypeId} {k : IntKind} {a b : Int} {v : Value} (h : intBin op k a b = some v) : (binOp op t (.int k a) (.int k b)) = (pure v : Sem Value) := by
  cases op <;> simp [intBin] at h <;> subst h <;> simp [binOp, Op.intArith, Op.intCmp] <;> rfl
theorem intDivC_ok {op : BinOp} {t : TypeId} {k : IntKind} {a b : Int} {v : Value} (h : intDivC op k a b = some v) : (binOp op t (.int k a) (.int k b)) = (pure v : Sem Value) := by
  unfold intDivC at h
  split at h
  · rename_i m
    have hm : (Int.ofNat (m + 1)) ≠ 0 := by simp only [Int.ofNat_eq_natCast]; omega
    cases op <;> first | (simp at h; done) | skip
    · simp only [Option.some.injEq] at h; subst h; rw [binOp_quo]; unfold Op.intDiv; rw [if_neg hm]
    · simp only [Option.some.injEq] at h; subst h; rw [binOp_rem]; unfold Op.intDiv; rw [if_neg hm]
  · cases h
theorem isBoolT_ok (hT : TabOk P T) {t : TypeId} (h : isBoolT T t = true) : P.underlying t = some .bool := by
  unfold isBoolT at h
  split at h
  · rename_i he; exact (lookT_ok hT he).2
  · cases h
theorem equal_bool {t : TypeId} (ht : P.underlying t = some .bool) (a b : Bool) (w : World) : (Op.equal t (.bool a) (.bool b)).run P w = .ok (a == b) w := by
  have h : ∀ d : Nat, (Op.equalIn (d + 1) t (.bool a) (.bool b)).run P w = .ok (a == b) w := fun d => by
    simp [Op.equalIn, run_underlying ht]
  exact h 9999
theorem valBin_ok (hT : TabOk P T) {op : BinOp} {t : TypeId} {x y v : Value} (h : valBin T op t x y = some v) (w : World) : (binOp op t x y).run P w = .ok v w := by
  unfold valBin at h
  split at h
  · rename_i k a k' b
    cases hk : sameK k k' with
    | false => rw [hk] at h; cases h
    | true =>
      rw [hk] at h
      have := sameK_eq hk
      subst this
      simp only [cond_true] at h
      cases hd : isDiv op with
      | true => rw [hd] at h; rw [intDivC_ok h]; rfl
      | false => rw [hd] at h; rw [intBin_ok h]; rfl
  · rename_i a b
    cases hb : isBoolT T t with
    | false => rw [hb] at h; cases h
    | true =>
      rw [hb] at h
      have hu := isBoolT_ok hT hb
      cases op <;> simp at h <;> subst h <;> simp [binOp, equal_bool hu]
      cases a <;> cases b <;> rfl
  · rw [strBin_ok h]; rfl
  · cases h
theorem valUn_ok {op : UnOp} {x v : Value} (h : valUn op x = some v) (w : World) : (Op.unary op x).run P w = .ok v w := by
  unfold valUn at h
  split at h <;> simp at h <;> subst h <;> simp [Op.unary, Op.intArith]
theorem valBin_guard {op : BinOp} {t : TypeId} {x y : Value} {p q : Operand} {v : Value} (h : valBin T op t x y = some v) : eqGuard op t p q x y = pure () := by
  unfold valBin at h
  split at h
  · exact eqGuard_at_int _ _ _ _ _ _ _
  · exact eqGuard_at_bool _ _ _ _ _ _
  · exact eqGuard_at_string _ _ _ _ _ _
  · cases h
theorem pickV_ok {c : Bool} {x y : Option AV} {v : AV} (h : pickV c x y = some v) : (if c then x else y) = some v := by
  unfold pickV at h
  split at h
  · simp at h; subst h; cases c <;> rfl
  · cases c <;> simpa using h
theorem cellsOf?_ok (hT : TabOk P T) {t : TypeId} {cs : List Value} {off : Nat} {v : Value} (h : cellsOf? T t cs off = some v) :
    ∃ e, lookT T t = some e ∧ (if isAggD e.d then some (Value.agg ((cs.drop off).take e.size).toArray) else cs[off]?) = some v ∧ off + e.size ≤ cs.length ∧ (isAggD e.d = false → e.size = 1) := by
  unfold cellsOf? at h
  split at h
  · rename_i e he
    refine ⟨e, he, ?_⟩
    cases ha : isAggD e.d with
    | true =>
      rw [ha] at h
      simp only [cond_true] at h
      split at h
      · rename_i hle
        refine ⟨by simpa using h, hle, by simp⟩
      · cases h
    | false =>
      rw [ha] at h
      simp only [cond_false] at h
      cases hb : Nat.beq e.size 1 with
      | false => rw [hb] at h; cases h
      | true =>
        rw [hb] at h
        simp only [cond_true] at h
        have := Nat.eq_of_beq_eq_true hb
        refine ⟨by simpa using h, ?_, fun _ => this⟩
        have := (List.getElem?_eq_some_iff.1 h).1
        omega
  · cases h
theorem Sb.cell (h : Sb β X G D H O a w) {id : Nat} {o : HB} (ho : lookN H id = some o) (i : Nat) : w.cell? ⟨β id, i, none⟩ = o.cs[i]? := by
  have := (h.obj _ (lookN_mem ho)).1
  simp only at this
  simp [World.cell?, this]
theorem fieldOff_ok {fs : Array Field} {f k : Nat} (h : fieldOff T fs f = some k) : ∃ fd, fs[f]? = some fd ∧ fd.offset = k ∧ ∃ e, lookT T fd.type = some e ∧ e.size ≠ 0 := by
  unfold fieldOff at h
  split at h
  · rename_i fd hf
    split at h
    · rename_i he
      simp at h
      exact ⟨fd, hf, h, _, he, by simp⟩
    · cases h
  · cases h
theorem size_str (l : List UInt8) : (ByteArray.mk ⟨l⟩).size = l.length := rfl
theorem placesT_ok (hT : TabOk P T) : ∀ {fs : List Field} {ps : List (Nat × Nat)}, placesT T fs = some ps → fs.mapM (fun f => (P.info? f.type).map fun i => (f.offset, i.size)) = some ps
  | [], ps, h => by simp [placesT] at h; subst h; rfl
  | f :: fs, ps, h => by
    simp only [placesT] at h
    split at h
    · rename_i e ps' he hp
      simp at h; subst h
      obtain ⟨i, hi, _, hs, _⟩ := lookT_info hT he
      simp [List.mapM_cons, hi, hs, placesT_ok hT hp]
    · cases h
theorem evParts_ok (h : Sb β X G D H O a w) : ∀ {xs : List (Nat × Operand)} {vs : List (Nat × Value)}, evParts G xs = some vs → xs.map (fun p => (p.1, a.eval p.2)) = vs
  | [], vs, hv => by simp [evParts] at hv; subst hv; rfl
  | (i, x) :: xs, vs, hv => by
    simp only [evParts] at hv
    split at hv
    · rename_i v us h1 h2
      simp at hv; subst hv
      simp [h.ev h1, den_v, evParts_ok h h2]
    · cases hv
theorem layL_ok (cs : List Value) (off : Nat) (vs : List Value) (hle : off + vs.length ≤ cs.length) :
    (vs.toArray.zipIdx.foldl (fun cs (c, j) => cs.setIfInBounds (off + j) c) cs.toArray) = (layL cs off vs).toArray := by
  have key : ∀ (vs : List Value) (k : Nat) (cs : List Value), off + k + vs.length ≤ cs.length →
      (vs.zipIdx k).foldl (fun (cs : Array Value) (p : Value × Nat) => cs.setIfInBounds (off + p.2) p.1) cs.toArray = (cs.take (off + k) ++ vs ++ cs.drop (off + k + vs.length)).toArray := by
    intro vs
    induction vs with
    | nil => intro k cs _; simp
    | cons v vs ih =>
      intro k cs hl
      simp only [List.zipIdx_cons, List.foldl_cons, List.length_cons] at hl ⊢
      have hlt : off + k < cs.length := by omega
      rw [List.setIfInBounds_toArray, ih (k + 1) _ (by simp; omega)]
      congr 1
      have e1 : off + (k + 1) = off + k + 1 := by omega
      rw [e1, List.take_set, List.drop_set_of_lt (by omega)]
      rw [List.take_succ_eq_append_getElem hlt, List.set_append_right _ _ (by simp; omega)]
      simp only [List.length_take, Nat.min_eq_left (Nat.le_of_lt hlt), Nat.sub_self, List.set_cons_zero]
      have e2 : off + k + 1 + vs.length = off + k + (vs.length + 1) := by omega
      rw [e2]
      simp
  have := key vs 0 cs (by simpa using hle)
  simp only [Nat.add_zero] at this
  rw [← Array.foldl_toList]
  simpa [layL] using this
theorem fillL_ok (ps : Nat → Option (Nat × Nat)) : ∀ {vs : List (Nat × Value)} {cs cs' : List Value}, fillL ps cs vs = some cs' → Instr.fill ps cs.toArray vs = some cs'.toArray
  | [], cs, cs', h => by simp [fillL] at h; subst h; rfl
  | (i, v) :: rest, cs, cs', h => by
    simp only [fillL] at h
    split at h
    · cases h
    · rename_i off size hp
      rw [cellsL_eq] at h
      cases hb : (Nat.beq v.cells.toList.length size && Nat.ble (off + v.cells.toList.length) cs.length) with
      | false => rw [hb] at h; cases h
      | true =>
        rw [hb] at h
        simp only [cond_true] at h
        simp only [Bool.and_eq_true] at hb
        have h1 := Nat.eq_of_beq_eq_true hb.1
        have h2 := Nat.le_of_ble_eq_true hb.2
        have := fillL_ok ps h
        simp only [Array.length_toList] at h1 h2
        unfold Instr.fill
        simp only [hp]
        rw [if_neg (by simp; omega)]
        have hl := layL_ok cs off v.cells.toList (by simpa using h2)
        simp only [Array.toArray_toList] at hl
        rw [hl]
        exact this
theorem evalOp_ok (hT : TabOk P T) (h : Sb β X G D H O a w) {o : Oper} {v : AV} (hv : evalOp T G H o.op = some v) :
    (execOp a.eval o).run P w = .ok (.value (den β v)) w := by
  unfold execOp
  generalize o.op = op at hv
  unfold evalOp at hv
  split at hv
  · dsimp only; rw [h.ev hv]; rfl
  · dsimp only; rw [h.ev hv]; rfl
  · split at hv
    · rename_i c hc
      have hp := pickV_ok hv
      simp only [h.ev hc, den_v, den_o]
      cases c with
      | true => simp at hp; simp [asBool, h.ev hp]
      | false => simp at hp; simp [asBool, h.ev hp]
    · cases hv
  · split at hv
    · rename_i x y hx hy
      obtain ⟨u, hu, rfl⟩ := Option.map_eq_some_iff.1 hv
      simp only [h.ev hx, h.ev hy, den_v, den_o]
      simp [valBin_guard hu, valBin_ok hT hu]
    · cases hv
  · split at hv
    · rename_i x hx
      obtain ⟨u, hu, rfl⟩ := Option.map_eq_some_iff.1 hv
      simp only [h.ev hx, den_v, den_o]
      simp [valUn_ok hu]
    · cases hv
  · split at hv
    · rename_i fs _ _ _ id off hs hx
      obtain ⟨k, hk, rfl⟩ := Option.map_eq_some_iff.1 hv
      obtain ⟨f, hf, rfl, e, he, hne⟩ := fieldOff_ok hk
      simp only [h.ev hx, den_v, den_o]
      simp [Instr.fieldAt, run_under hT w hs, hf, Instr.sureAddr, fieldPlace, Addr.add_lit, run_sizeOf' hT w he, hne]
    · cases hv
  · split at hv
    · rename_i id off hx
      split at hv
      · rename_i ob hob
        obtain ⟨u, hu, rfl⟩ := Option.map_eq_some_iff.1 hv
        obtain ⟨e, he, hc, hle, h1⟩ := cellsOf?_ok hT hu
        simp only [h.ev hx, den_v, den_o]
        have hlen : ((ob.cs.drop off).take e.size).length = e.size := by simp; omega
        have := run_loadVar_cells hT w he (β id) off ((ob.cs.drop off).take e.size) hlen (fun ha => by rw [hlen]; exact h1 ha) (fun j u hj => by
          rw [h.cell hob]
          have hj' : j < e.size := by have := (List.getElem?_eq_some_iff.1 hj).1; omega
          rw [List.getElem?_take_of_lt hj', List.getElem?_drop] at hj
          exact hj)
        simp only [Instr.loadAt, Instr.sureAddr, Sem.run_bind, Sem.run_pure, Result.andThen_ok, this]
        cases ha : isAggD e.d with
        | true => rw [ha] at hc; simp at hc; simp [hc]
        | false =>
          rw [ha] at hc
          simp at hc
          have h1' := h1 ha
          have hlt := (List.getElem?_eq_some_iff.1 hc).1
          have : (ob.cs.drop off).take e.size = [u] := by
            rw [h1', List.drop_eq_getElem_cons hlt, (List.getElem?_eq_some_iff.1 hc).2]; rfl
          simp [this]
      · cases hv
    · cases hv
  · split at hv
    · rename_i fs _ _ _ cs hs hx
      split at hv
      · rename_i fd hf
        obtain ⟨u, hu, rfl⟩ := Option.map_eq_some_iff.1 hv
        obtain ⟨e, he, hc, hle, h1⟩ := cellsOf?_ok hT hu
        simp only [h.ev hx, den_v, den_o]
        simp [Instr.field, run_under hT w hs, hf, asAgg, run_part hT w he cs fd.offset hc]
      · cases hv
    · cases hv
  · split at hv
    · rename_i vs hx
      obtain ⟨u, hu, rfl⟩ := Option.map_eq_some_iff.1 hv
      simp only [h.ev hx, den_v, den_o]
      simp [Instr.extract, hu]
    · cases hv
  · split at hv
    · rename_i _ _ _ _ n _ hs hx
      simp at hv; subst hv
      simp [resolve, invoke, builtin, Builtin.len_, run_under hT w hs, h.ev hx, den_v, den_o, goInt]
    · rename_i _ _ _ l hs hx
      simp at hv; subst hv
      simp [resolve, invoke, builtin, Builtin.len_, run_under hT w hs, h.ev hx, den_v, goInt, size_str]
    · rename_i n _ _ _ _ hs
      simp at hv; subst hv
      simp [resolve, invoke, builtin, Builtin.len_, run_under hT w hs, den_v, den_o, goInt]
    · cases hv
  · split at hv
    · rename_i k p _ q hx hy
      simp at hv; subst hv
      simp [resolve, invoke, builtin, Builtin.max_, Builtin.max2, h.ev hx, h.ev hy, den_v]
    · cases hv
  · split at hv
    · rename_i k p _ q hx hy
      simp at hv; subst hv
      simp [resolve, invoke, builtin, Builtin.min_, Builtin.min2, h.ev hx, h.ev hy, den_v]
    · cases hv
  · split at hv
    · rename_i t parts _ _ fs z _ _ hs
      split at hv
      · rename_i ps vs hp hvs
        split at hv
        · rename_i cs hc
          simp at hv; subst hv
          have hpl := placesT_ok hT hp
          have hev := evParts_ok h hvs
          have hf := fillL_ok _ hc
          have hm : (Array.mk parts).map (fun (x : Nat × Operand) => (x.1, a.eval x.2)) = ⟨vs⟩ := by rw [← hev]; simp
          have hpr := run_places (P := P) w fs ps hpl
          simp only [Instr.build, Sem.run_bind, run_zeroValue hT w hs, run_under hT w hs, Result.andThen_ok, hm, den_v]
          simp only [Array.mapM_eq_mapM_toList, Sem.run_map, bind_pure_comp, hpr, Result.andThen_ok]
          have hf' : Instr.fill (fun x => ps.toArray[x]?) z.toArray vs = some cs.toArray := by simpa using hf
          simp only [Value.cells, hf', Sem.run_pure, Result.andThen_ok]
        · cases hv
      · cases hv
    · cases hv
  · split at hv
    · rename_i _ _ _ _ k _ _ _ _ n hs ht hx
      simp at hv; subst hv
      simp [convert, run_under hT w hs, run_under hT w ht, h.ev hx, den_v, den_o, Conv.intToInt]
    · cases hv
  · cases hv
end
end Gd

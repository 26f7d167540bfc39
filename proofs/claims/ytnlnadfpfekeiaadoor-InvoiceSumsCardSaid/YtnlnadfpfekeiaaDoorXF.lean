/- Operations that may fail, without a change of memory. -/
import Derived.Test.YtnlnadfpfekeiaaDoorXMc
namespace Gx
open Go Go.RowKit Gd
set_option linter.unusedVariables false
set_option linter.unusedSimpArgs false
def isConst : Operand → Bool
  | .const _ => true
  | _ => false
def opKind : BinOp → Operand → Nat
  | .quo, y => bif isConst y then 0 else 1
  | .rem, y => bif isConst y then 0 else 2
  | .shl, _ => 3
  | .shr, _ => 4
  | .add, _ => 5
  | _, _ => 0
def isStrA : AV → Option Str
  | .d .str l => some l
  | _ => none
def isSl (M : List (Nat × Ob)) : AV → Option (Σ t : Ty, List t.De)
  | .d (.sl e) xs => some ⟨e, xs⟩
  | .s id => match lookM M id with
    | some (.tail _ t xs) => some ⟨t, xs⟩
    | _ => none
  | _ => none
def bnd (S : St) (cur : Conds) (dflt : Int) : Option Operand → Option Int
  | none => some dflt
  | some x => match ev S cur x with
    | some v => match isInt v with
      | some (_, n) => some n
      | none => none
    | none => none
def chk (b : Bool) : Option Unit := bif b then some () else none
section
variable {R : Type} (Y : TX) (S : St) (cur : Conds)
def tot (op : Op) (k : AV → Option R) : Option R := match evalP Y S cur op with
  | some av => k av
  | none => none
def stepQ0 (op : Op) (k : AV → Option R) : Option R :=
  match op with
  | .binOp b t x y yt => match opKind b y with
    | 0 => tot Y S cur (.binOp b t x y yt) k
    | 5 => match ev S cur x, ev S cur y with
      | some u, some v => match isStrA u, isStrA v with
        | some p, some q => (scat p q).bind fun s => k (.d .str s)
        | _, _ => tot Y S cur (.binOp b t x y yt) k
      | _, _ => none
    | n => match ev S cur x, ev S cur y with
      | some u, some v => match isInt u, isInt v with
        | some (kk, p), some (k2, q) => match n with
          | 1 => bif sameK kk k2 then (quoW kk p q).bind fun z => k (.d (.int kk) z) else none
          | 2 => bif sameK kk k2 then (remW p q).bind fun z => k (.d (.int kk) z) else none
          | 3 => (shlW kk p q).bind fun z => k (.d (.int kk) z)
          | 4 => (shrW kk p q).bind fun z => k (.d (.int kk) z)
          | _ => none
        | _, _ => none
      | _, _ => none
  | .indexAddr t x i => match lookT Y.T t, ev S cur x, ev S cur i with
    | some te, some v, some iv => match isInt iv, isSliceD te.d with
      | some (_, j), some e => match lookT Y.T e with
        | some ee => match v with
          | .d (.sl u) xs => bif Nat.beq ee.size u.size then (idx xs j).bind fun y => k (.a u y) else none
          | .s id => match lookM S.mem id with
            | some (.row _ u xs) => bif Nat.beq ee.size u.size && Nat.ble 1 u.size then (idx xs j).bind fun _ => k (.e id [.i j u.size]) else none
            | some (.tail _ u xs) => bif Nat.beq ee.size u.size then (idx xs j).bind fun y => k (.a u y) else none
            | _ => none
          | _ => none
        | none => none
      | _, _ => none
    | _, _, _ => none
  | .index t x i => match lookT Y.T t, ev S cur x, ev S cur i with
    | some te, some v, some iv => match isInt iv, isStrA v, te.d with
      | some (_, j), some l, .string => (sidx l j).bind fun c => k (.d (.int .u8) c)
      | some (_, j), none, .array m e => match v, lookT Y.T e with
        | .d (.arr m' u) xs, some ee => bif Nat.beq m m' && Nat.beq ee.size u.size && (isAggD ee.d == u.agg) then (idx xs j).bind fun y => k (.d u y) else none
        | _, _ => none
      | _, _, _ => none
    | _, _, _ => none
  | .load t x => match lookT Y.T t, ev S cur x with
    | some e, some (.e id (.i j sz :: ps)) => match lookM S.mem id with
      | some (.row _ u xs) => bif Nat.beq sz u.size && Nat.ble 1 u.size then (idx xs j).bind fun y => match nav ps (.d u y) with
          | some zv => bif Nat.beq e.size zv.size && (isAggD e.d == zv.isAgg) && zv.isVal && (zv.isAgg || Nat.beq zv.size 1) then k zv else none
          | none => none
        else none
      | _ => none
    | _, _ => tot Y S cur (.load t x) k
  | .slice t x lo hi none => match lookT Y.T t, ev S cur x with
    | some te, some v => match te.d with
      | .string => match isStrA v with
        | some l => match bnd S cur 0 lo, bnd S cur l.length hi with
          | some a, some b => (slc l a b).bind fun s => k (.d .str s)
          | _, _ => none
        | none => none
      | .slice e => match lookT Y.T e, isSl S.mem v with
        | some ee, some ⟨u, xs⟩ => bif Nat.beq ee.size u.size then match bnd S cur 0 lo, bnd S cur xs.length hi with
            | some a, some b => (slc xs a b).bind fun ys => k (.d (.sl u) ys)
            | _, _ => none
          else none
        | _, _ => none
      | _ => none
    | _, _ => none
  | .convert s t x => match lookT Y.T s, lookT Y.T t with
    | some se, some te => match isSliceD se.d, te.d with
      | some e, .string => match lookT Y.T e, ev S cur x with
        | some ⟨_, .int .u8, _, _, _⟩, some v => match asD S.mem v (.sl (.int .u8)) with
          | some xs => k (.d .str (bstr xs))
          | none => none
        | _, _ => none
      | _, _ => tot Y S cur (.convert s t x) k
    | _, _ => none
  | .lookup t x ix c => match ev S cur x with
    | some (.m id) => match lookM S.mem id with
      | some (.mapT kk v path _ _ xs (some (kh, h))) => match lookT Y.T t, ev S cur ix with
        | some te, some iv => match te.d with
          | .map kt et => match lookT Y.T kt, lookT Y.T et, asD [] iv kk with
            | some tk, some tz, some key => match zeroAV v tz.z with
              | some za => match asD [] za v with
                | some z0 => match setP path (.d v ((findL kh xs).getD z0)) (.s h) with
                  | some av => bif descK Y.T kk tk.d && (kk.agg == iv.isAgg) && (v.agg == isAggV tz.z) && nilAt (cellsL tz.z) (offP path) && (v.agg == av.isAgg) then
                      (chk (eqK kk key kh)).bind fun _ => k (match c with
                        | true => .tp (.cons av (.cons (.d .bool (findL kh xs).isSome) .nil))
                        | false => av) else none
                  | none => none
                | none => none
              | none => none
            | _, _, _ => none
          | _ => none
        | _, _ => none
      | _ => tot Y S cur (.lookup t x ix c) k
    | _ => tot Y S cur (.lookup t x ix c) k
  | op => tot Y S cur op k
end
section
variable {P : Program} {X : Cx} {β : Nat → Nat} {ρ : Nat → Value} {S : St} {a : Act} {w : World} {cur : Conds} {ok : Ok}
theorem isStrA_ok {x : AV} {l : Str} (h : isStrA x = some l) : x = .d .str l := by
  unfold isStrA at h
  split at h
  · simp at h; subst h; rfl
  · cases h
theorem opKind_ok {b : BinOp} {y : Operand} {n : Nat} (h : opKind b y = n) : n = 0 ∨ (n = 1 ∧ b = .quo) ∨ (n = 2 ∧ b = .rem) ∨ (n = 3 ∧ b = .shl) ∨ (n = 4 ∧ b = .shr) ∨ (n = 5 ∧ b = .add) := by
  subst h
  cases b <;> simp only [opKind] <;> first | (simp; done) | (cases isConst y <;> simp)
theorem RelW.int (h : RelW β ρ ok S a w) (hc : holdsC a cur) {x : Operand} {v : AV} {k : IntKind} {n : Int} (hx : Gx.ev S cur x = some v) (hi : isInt v = some (k, n)) : a.eval x = .int k n := by
  have := isInt_ok hi
  subst this
  obtain ⟨cs, h1, h2⟩ := h.ev hc hx
  have h2' : cs = _ := h2
  subst h2'
  exact h1
theorem RelW.str (h : RelW β ρ ok S a w) (hc : holdsC a cur) {x : Operand} {v : AV} {l : Str} (hx : Gx.ev S cur x = some v) (hi : isStrA v = some l) : a.eval x = strV l := by
  have := isStrA_ok hi
  subst this
  obtain ⟨cs, h1, h2⟩ := h.ev hc hx
  have h2' : cs = _ := h2
  subst h2'
  exact h1
theorem isSl_ok (h : RelW β ρ ok S a w) (hc : holdsC a cur) {x : Operand} {v : AV} {u : Ty} {xs : List u.De} (hx : ev S cur x = some v) (hi : isSl S.mem v = some ⟨u, xs⟩) :
    isV (rSl (rt u)) (ok) w xs (a.eval x) := by
  unfold isSl at hi
  obtain ⟨cs, h1, h2⟩ := h.ev hc hx
  split at hi
  · simp at hi; obtain ⟨rfl, hi⟩ := hi
    obtain rfl := eq_of_heq hi
    have := isV_of_cr h2
    rw [← h1] at this
    exact this
  · rename_i id
    split at hi
    · rename_i e t ys ho
      simp at hi; obtain ⟨rfl, hi⟩ := hi
      obtain rfl := eq_of_heq hi
      obtain ⟨⟨v0, rfl, hz0⟩, _⟩ := h2
      have h1' : a.eval x = v0 := h1
      rw [h1']
      exact zal_isV hz0 (h.mm _ _ ho).1
    · cases hi
  · cases hi
theorem RelW.bnd (h : RelW β ρ ok S a w) (hc : holdsC a cur) {dflt n : Int} {x : Option Operand} (hb : Gx.bnd S cur dflt x = some n) : (x = none ∧ n = dflt) ∨ ∃ y k, x = some y ∧ a.eval y = .int k n := by
  unfold Gx.bnd at hb
  split at hb
  · simp at hb; exact .inl ⟨rfl, hb.symm⟩
  · rename_i y
    split at hb
    · rename_i v hv
      split at hb
      · rename_i k m hi
        simp at hb; subst hb
        exact .inr ⟨y, k, rfl, h.int hc hv hi⟩
      · cases hb
    · cases hb
theorem run_bounds' {isS : Bool} {lo hi : Option Operand} {l h' : Int} {len cap : Nat} (hlo : (lo = none ∧ l = 0) ∨ ∃ y k, lo = some y ∧ a.eval y = .int k l) (hhi : (hi = none ∧ h' = len) ∨ ∃ y k, hi = some y ∧ a.eval y = .int k h')
    (h0 : 0 ≤ l) (h1 : l ≤ h') (h2 : h' ≤ len) (h3 : len ≤ cap) :
    (Instr.sliceBounds isS len cap (lo.map a.eval) (hi.map a.eval) none).run P w = .ok (l.toNat, h'.toNat, cap) w := by
  unfold Instr.sliceBounds
  have s1 : ∀ {k : IntKind} {i : Int} {y : Nat} {code : BoundsCode}, 0 ≤ i → i ≤ y → (Instr.sliceBound (.int k i) y code).run P w = .ok i.toNat w := fun h0 h1 => run_sliceBound' h0 h1
  rcases hhi with ⟨rfl, rfl⟩ | ⟨yh, kh, rfl, hh⟩
  · rcases hlo with ⟨rfl, rfl⟩ | ⟨yl, kl, rfl, hl⟩
    · simp
    · simp only [Option.map_none, Option.map_some, hl, Sem.run_bind, Sem.run_pure, Result.andThen_ok]
      rw [s1 h0 (by omega)]
      simp
  · have e1 : ∀ c : BoundsCode, (Instr.sliceBound (.int kh h') cap c).run P w = .ok h'.toNat w := fun c => s1 (by omega) (by omega)
    rcases hlo with ⟨rfl, rfl⟩ | ⟨yl, kl, rfl, hl⟩
    · simp only [Option.map_none, Option.map_some, hh, Sem.run_bind, Sem.run_pure, Result.andThen_ok, e1]
      simp
    · simp only [Option.map_some, hh, hl, Sem.run_bind, Sem.run_pure, Result.andThen_ok, e1]
      rw [s1 h0 (by omega)]
      simp
theorem run_b2s {Y : Tab} (hT : TabOk P Y) {s t e : TypeId} {te ee se : TE} (ht : lookT Y t = some te) (htd : te.d = .string) (hse : lookT Y s = some se) (hsd : se.d = .slice e) (he : lookT Y e = some ee) (hed : ee.d = .int .u8)
    {xs : List Int} {v : Value} (hD : isV (rSl (rInt .u8)) ok w xs v) : (convert s t v).run P w = .ok (strV (bstr xs)) w := by
  obtain ⟨A, m, c, rfl, hl, hc, hn⟩ := isV_sl.1 hD
  have hus := (lookT_ok hT hse).2; rw [hsd] at hus
  have hut := (lookT_ok hT ht).2; rw [htd] at hut
  have hue := (lookT_ok hT he).2; rw [hed] at hue
  have hconv := run_convert_bytes_string (P := P) w s t e A m c hus hue hut
  have hrun : (Conv.bytesToString (.slice A m c)).run P w = .ok (strV (bstr xs)) w := by
    cases A with
    | none =>
      have hm0 : m = 0 := by
        rcases Nat.eq_zero_or_pos m with h0 | h0
        · exact h0
        · obtain ⟨b, o, hA, _⟩ := hn h0; cases hA
      have : xs = [] := List.eq_nil_of_length_eq_zero (by omega)
      subst this
      simp [Conv.bytesToString, bstr, strV]; rfl
    | some ad =>
      have hload : (loadCells ad m).run P w = .ok (xs.map (Value.int .u8)).toArray w := by
        have := run_loadCells_list (P := P) w ad (xs.map (Value.int .u8)) (fun j v hj => by
          rw [List.getElem?_map] at hj
          obtain ⟨y, hy, rfl⟩ := Option.map_eq_some_iff.1 hj
          have hj' := (List.getElem?_eq_some_iff.1 hy).1
          obtain ⟨b, o, hA, hcs⟩ := hn (by omega)
          injection hA with hA
          subst hA
          obtain ⟨cs, hr, ha⟩ := hcs j y hy
          have hcs' : cs = [.int .u8 y] := hr
          subst hcs'
          have := (ha 0 _ rfl).2
          rw [addr_add]
          simpa [rInt] using this)
        simpa [hl] using this
      rw [run_bytesToString w ad m c xs hload]
      have := foldl_push xs []
      simp only [List.nil_append] at this
      show Result.ok (Value.string (xs.foldl _ (ByteArray.mk ([] : List UInt8).toArray))) w = _
      rw [this]; rfl
  simp [hconv, hrun]
def OpSem (P : Program) (S : St) (cur : Conds) (o : Oper) (av : AV) : Prop :=
  ∀ {β : Nat → Nat} {ρ : Nat → Value} {ok : Ok} {a : Act} {w : World}, RelW β ρ ok S a w → holdsC a cur →
    ∃ cs, (execOp a.eval o).run P w = .ok (.value (av.val cs)) w ∧ cr β ρ (ok) w false av cs
theorem tot_ok {Y : TX} (hT : TabOk P Y.T) {R : Type} {o : Oper} {op : Op} (hop : o.op = op) {k : AV → Option R} {r : R} (hv : tot Y S cur op k = some r) : ∃ av, k av = some r ∧ OpSem P S cur o av := by
  unfold tot at hv
  split at hv
  · rename_i av hav
    exact ⟨av, hv, fun {β ρ ok a w} h hc => evalP_ok hT h hc (by rw [hop]; exact hav)⟩
  · cases hv
theorem stepQ0_ok {Y : TX} (hT : TabOk P Y.T) {R : Type} {o : Oper} {op : Op} (hop : o.op = op) {k : AV → Option R} {r : R} (hv : stepQ0 Y S cur op k = some r) : ∃ av, k av = some r ∧ OpSem P S cur o av := by
  unfold stepQ0 at hv
  split at hv
  ·
    rename_i b t x y yt
    split at hv
    · exact tot_ok hT hop hv
    · rename_i hk
      split at hv
      · rename_i u v hu hv'
        split at hv
        · rename_i p q hp hq
          obtain ⟨s, hs, hk'⟩ := bindE hv
          refine ⟨_, hk', fun {β ρ ok a w} h hc => ⟨[strV s], ?_, rfl⟩⟩
          have h1 := h.str hc hu hp
          have h2 := h.str hc hv' hq
          have hb : b = .add := by
            have := opKind_ok hk
            simpa using this
          subst hb
          unfold scat at hs
          split at hs
          · rename_i hle
            have hq := (Option.some.inj hs).symm
            subst hq
            have hr : (Op.stringOp .add (ByteArray.mk p.toArray) (ByteArray.mk q.toArray)).run P w = .ok (.string (ByteArray.mk (p ++ q).toArray)) w := by
              rw [run_string_add_sum _ _ _ (by exact hle)]
              congr 2
            unfold execOp
            rw [hop]
            simp only [h1, h2, strV]
            simp [eqGuard_add, binOp_string_add, hr, AV.val, AV.isAgg, Ty.agg, strV]
          · cases hs
        · exact tot_ok hT hop hv
      · cases hv
    · rename_i n hn0 hn5
      split at hv
      · rename_i u v hu hv'
        split at hv
        · rename_i kk p k2 q hp hq
          have hb : b ≠ .eql ∧ b ≠ .neq := by
            constructor <;> (rintro rfl; exact hn0 (by rfl))
          have fin : ∀ z, (∀ w : World, (binOp b t (.int kk p) (.int k2 q)).run P w = .ok (.int kk z) w) → OpSem P S cur o (.d (.int kk) z) := by
            intro z hz β ρ ok a w h hc
            have h1 := h.int hc hu hp
            have h2 := h.int hc hv' hq
            refine ⟨[.int kk z], ?_, rfl⟩
            unfold execOp
            rw [hop]
            simp only [h1, h2]
            have hg : eqGuard b t x y (.int kk p) (.int k2 q) = pure () := by
              unfold eqGuard
              cases b <;> simp_all
            simp [hg, hz, AV.val, AV.isAgg, Ty.agg]
          split at hv
          · rename_i hk1
            obtain ⟨hs, hv2⟩ := bvT hv
            have := sameK_eq hs
            subst this
            obtain ⟨z, hz, hk'⟩ := bindE hv2
            have hb : b = .quo := by
              have := opKind_ok hk1
              simpa using this
            subst hb
            exact ⟨_, hk', fin z fun w => run_quo hz w⟩
          · rename_i hk1
            obtain ⟨hs, hv2⟩ := bvT hv
            have := sameK_eq hs
            subst this
            obtain ⟨z, hz, hk'⟩ := bindE hv2
            have hb : b = .rem := by
              have := opKind_ok hk1
              simpa using this
            subst hb
            exact ⟨_, hk', fin z fun w => run_rem hz w⟩
          · rename_i hk1
            obtain ⟨z, hz, hk'⟩ := bindE hv
            have hb : b = .shl := by
              have := opKind_ok hk1
              simpa using this
            subst hb
            exact ⟨_, hk', fin z fun w => run_shl hz w⟩
          · rename_i hk1
            obtain ⟨z, hz, hk'⟩ := bindE hv
            have hb : b = .shr := by
              have := opKind_ok hk1
              simpa using this
            subst hb
            exact ⟨_, hk', fin z fun w => run_shr hz w⟩
          · cases hv
        · cases hv
      · cases hv
  ·
    rename_i t x i
    split at hv
    · rename_i te v iv hte hx hi
      split at hv
      · rename_i ki j e hij hse
        have htd : te.d = .slice e := by
          unfold isSliceD at hse
          split at hse
          · rename_i hd; simp at hse; subst hse; assumption
          · cases hse
        split at hv
        · rename_i ee he
          have run : ∀ {β : Nat → Nat} {ρ : Nat → Value} {ok : Ok} {a : Act} {w : World}, RelW β ρ ok S a w → holdsC a cur → ∀ {b of m c : Nat}, a.eval x = .slice (some ⟨b, of, none⟩) m c → 0 ≤ j → j < (m : Int) →
              (execOp a.eval o).run P w = .ok (.value (.pointer (some ⟨b, of + j.toNat * ee.size, none⟩))) w := by
            intro β ρ ok a w h hc b of m c hv h0 h1
            have hun : (underlying t).run P w = .ok (.slice e) w := by rw [run_under hT w hte, htd]
            have hi' := h.int hc hi hij
            unfold execOp
            rw [hop]
            simp only [hv, hi']
            simp [Instr.indexAt, asIntOf, hun, h0, h1, run_sizeOf' hT w he, Addr.add_lit]
          have data : ∀ {u : Ty} {xs : List u.De} {y : u.De}, ee.size = u.size → idx xs j = some y → (∀ {β : Nat → Nat} {ρ : Nat → Value} {ok : Ok} {a : Act} {w : World}, RelW β ρ ok S a w → holdsC a cur → isV (rSl (rt u)) (ok) w xs (a.eval x)) →
              OpSem P S cur o (.a u y) := by
            intro u xs y hsz hy hsl β ρ ok a w h hc
            have h0 := (idx_ok hy).1
            obtain ⟨A, c, hev, hsl'⟩ := slForm (hsl h hc)
            obtain ⟨b, of, rfl, hlt, hat⟩ := slRep_at (isV_sl.1 hsl') (idx_ok hy).2
            refine ⟨[.pointer (some ⟨b, of + j.toNat * u.size, none⟩)], ?_, _, rfl, by rw [← rt_size]; exact hat⟩
            rw [← hsz]
            exact run h hc hev h0 (by omega)
          split at hv
          · rename_i u xs
            obtain ⟨hb, hv⟩ := bvT hv
            obtain ⟨y, hy, hk'⟩ := bindE hv
            refine ⟨_, hk', data (Nat.eq_of_beq_eq_true hb) hy fun {β ρ ok a w} h hc => isSl_ok h hc hx rfl⟩
          · rename_i id
            split at hv
            · rename_i e' u xs ho
              obtain ⟨hb, hv⟩ := bvT hv
              simp only [Bool.and_eq_true] at hb
              obtain ⟨y, hy, hk'⟩ := bindE hv
              refine ⟨_, hk', fun {β ρ ok a w} h hc => ?_⟩
              obtain ⟨cs, h1, ⟨v0, rfl, hz0⟩, A, m, c, hρ⟩ := h.ev hc hx
              have hml := (h.mm _ _ ho)
              obtain ⟨hl, cs2, hown, hr⟩ := hml
              have hev : a.eval x = ρ id := by
                rcases hz0 with rfl | ⟨h00, _⟩
                · exact h1
                · rw [h00] at hl
                  have hlt := (List.getElem?_eq_some_iff.1 (idx_ok hy).2).1
                  simp only [lenV] at hl
                  omega
              rw [hρ] at hl hown hev
              simp only [lenV] at hl hown
              have h0 := (idx_ok hy).1
              have hlt := (List.getElem?_eq_some_iff.1 (idx_ok hy).2).1
              rcases hown.2 with ⟨hv, hm⟩ | ⟨g, cap, cu, fz, hv, _⟩
              · omega
              · injection hv with e1 e2 e3
                subst e1
                refine ⟨[.pointer (some ⟨g, 0 + j.toNat * ee.size, none⟩)], run h hc hev h0 (by omega), g, by rw [hρ]; rfl, ?_⟩
                have hsz := Nat.eq_of_beq_eq_true hb.1
                simp [offP, PS.off, hsz]
            · rename_i e' u xs ho
              obtain ⟨hb, hv⟩ := bvT hv
              obtain ⟨y, hy, hk'⟩ := bindE hv
              refine ⟨_, hk', data (Nat.eq_of_beq_eq_true hb) hy fun {β ρ ok a w} h hc => isSl_ok h hc hx (by simp [isSl, ho])⟩
            · cases hv
          · cases hv
        · cases hv
      · cases hv
    · cases hv
  ·
    rename_i t x i
    split at hv
    · rename_i te v iv hte hx hi
      split at hv
      · rename_i ki j l hij hl hd
        obtain ⟨c, hc', hk'⟩ := bindE hv
        refine ⟨_, hk', fun {β ρ ok a w} h hc => ⟨[.int .u8 c], ?_, rfl⟩⟩
        have h1 := h.str hc hx hl
        have h2 := h.int hc hi hij
        obtain ⟨h0, b, hb, rfl⟩ := sidx_ok hc'
        have hun : (underlying t).run P w = .ok .string w := by rw [run_under hT w hte, hd]
        have hbb : (if 0 ≤ j then (ByteArray.mk l.toArray)[j.toNat]? else none) = some b := by
          rw [if_pos h0]
          have hlen : j.toNat < l.length := (List.getElem?_eq_some_iff.1 hb).1
          have h1 : j.toNat < (ByteArray.mk l.toArray).size := hlen
          rw [getElem?_pos (ByteArray.mk l.toArray) j.toNat h1]
          have := (List.getElem?_eq_some_iff.1 hb).2
          rw [← this]
          rfl
        unfold execOp
        rw [hop]
        simp only [h1, h2]
        simp only [Instr.index, asIntOf, Sem.run_bind, Sem.run_pure, Result.andThen_ok, hun, strV, hbb]
        rfl
      · rename_i ki j m e hij _ hd
        split at hv
        · rename_i m' u xs ee he _
          obtain ⟨hb, hv⟩ := bvT hv
          obtain ⟨y, hy, hk'⟩ := bindE hv
          simp only [Bool.and_eq_true] at hb
          have e1 := Nat.eq_of_beq_eq_true hb.1.1
          subst e1
          have hsz := Nat.eq_of_beq_eq_true hb.1.2
          have hag := bEq hb.2
          refine ⟨_, hk', fun {β ρ ok a w} h hc => ?_⟩
          have h2 := h.int hc hi hij
          obtain ⟨c1, h1, hl, hr⟩ := h.ev hc hx
          have h1' : a.eval x = .agg c1.toArray := h1
          have hr : repA (rt u) ok w xs c1 := hr
          obtain ⟨h0, hyj⟩ := idx_ok hy
          have hrep := repA_at hr hyj
          rw [rt_size] at hrep
          have hlt : j.toNat < xs.length := (List.getElem?_eq_some_iff.1 hyj).1
          refine ⟨(c1.drop (j.toNat * u.size)).take u.size, ?_, hrep⟩
          have hpart : (part e c1.toArray (j.toNat * ee.size)).run P w = .ok ((AV.d u y).val ((c1.drop (j.toNat * u.size)).take u.size)) w := by
            refine run_part hT w he c1 _ ?_
            rw [hag, hsz]
            simp only [AV.val, AV.isAgg]
            cases hua : u.agg with
            | true => simp
            | false =>
              have h1s := oneTy hua
              have hcl := (rt u).len hrep
              rw [rt_size, h1s] at hcl
              rw [h1s]
              simp only [Bool.false_eq_true, if_false, cond_false]
              cases hq : c1[j.toNat * 1]? with
              | none =>
                have := List.getElem?_eq_none_iff.1 hq
                simp only [List.length_take, List.length_drop] at hcl
                omega
              | some q =>
                have hlt2 := (List.getElem?_eq_some_iff.1 hq).1
                rw [List.drop_eq_getElem_cons hlt2, (List.getElem?_eq_some_iff.1 hq).2]
                simp
          have hun : (underlying t).run P w = .ok (.array m e) w := by rw [run_under hT w hte, hd]
          have hso : (Go.sizeOf e).run P w = .ok ee.size w := run_sizeOf' hT w he
          have hcond : 0 ≤ j ∧ j < (m : Int) := ⟨h0, by omega⟩
          unfold execOp
          rw [hop]
          simp only [h1', h2]
          simp only [Instr.index, asIntOf, Sem.run_bind, Sem.run_pure, Result.andThen_ok, hun]
          rw [if_pos hcond]
          simp only [Sem.run_bind, hso, Result.andThen_ok, hpart]
        · cases hv
      · cases hv
    · cases hv
  ·
    rename_i t x
    split at hv
    · rename_i e id j sz ps he hx
      split at hv
      · rename_i e' u xs ho
        obtain ⟨hb, hv⟩ := bvT hv
        simp only [Bool.and_eq_true] at hb
        obtain ⟨y, hy, hv⟩ := bindE hv
        split at hv
        · rename_i z0 hz
          obtain ⟨hb2, hk'⟩ := bvT hv
          simp only [Bool.and_eq_true] at hb2
          obtain ⟨⟨⟨b1, b2⟩, b3⟩, b4⟩ := hb2
          have b1 := Nat.eq_of_beq_eq_true b1
          have b2 := bEq b2
          refine ⟨_, hk', fun {β ρ ok a w} h hc => ?_⟩
          obtain ⟨cs, h1, g', hg', rfl⟩ := h.ev hc hx
          obtain ⟨hl, cs2, hown, hr⟩ := h.2 _ _ ho
          have h0 := (idx_ok hy).1
          have hlt := (List.getElem?_eq_some_iff.1 (idx_ok hy).2).1
          rcases hown.2 with ⟨hv, hm⟩ | ⟨g, cap, cu, fz, hv, _, hh, hfz, hle, hcm, hcs, htk⟩
          · rw [hv] at hl; simp only [lenV] at hl; omega
          · have hgg : g' = g := by rw [hv] at hg'; simp [Value.ownBlock] at hg'; omega
            subst hgg
            have hsz := Nat.eq_of_beq_eq_true hb.1
            have hrs := rt_size u
            have hrep := repA_at hr (idx_ok hy).2
            rw [hrs] at hrep
            obtain ⟨h3, h4⟩ := nav_ok (β := β) (ρ := ρ) (x := .d u y) hz hrep
            have hlen := cr_len h3
            refine ⟨_, ?_, h3⟩
            have h1' : a.eval x = .pointer (some ⟨g', offP (PS.i j sz :: ps), none⟩) := h1
            have hL : ((cs2.drop (j.toNat * u.size)).take u.size).length = u.size := cr_len (x := .d u y) (show cr β ρ _ w false (.d u y) _ from hrep)
            unfold execOp
            rw [hop]
            simp only [h1', Sem.run_bind]
            rw [run_load_cells hT he (y := z0) (cs := (List.drop (offP ps) (List.take u.size (List.drop (j.toNat * u.size) cs2))).take z0.size) (by rw [hlen]; exact b1) b2 (fun ha => by
              rw [ha] at b4
              rw [hlen]; exact Nat.eq_of_beq_eq_true (by simpa using b4)) (fun q v hq => by
                have hjl : q < z0.size := by
                  have := (List.getElem?_eq_some_iff.1 hq).1
                  omega
                rw [List.getElem?_take_of_lt hjl, List.getElem?_drop] at hq
                have hq2 : offP ps + q < u.size := by omega
                rw [List.getElem?_take_of_lt hq2, List.getElem?_drop, ← htk, List.getElem?_take] at hq
                split at hq
                · have e : offP (PS.i j sz :: ps) + q = j.toNat * u.size + (offP ps + q) := by simp only [offP, PS.off, hsz]; omega
                  rw [e]
                  simp only [World.cell?, hh]
                  simpa using hq
                · cases hq)]
            rfl
        · cases hv
      · cases hv
    · exact tot_ok hT hop hv
  ·
    rename_i t x lo hi
    split at hv
    · rename_i te v hte hx
      split at hv
      · rename_i hd
        split at hv
        · rename_i l hl
          split at hv
          · rename_i p q hp hq
            obtain ⟨s, hs, hk'⟩ := bindE hv
            refine ⟨_, hk', fun {β ρ ok a w} h hc => ⟨[strV s], ?_, rfl⟩⟩
            have h1 := h.str hc hx hl
            obtain ⟨h0, h1', h2, hys, hyl⟩ := slc_ok hs
            have hun : (underlying t).run P w = .ok .string w := by rw [run_under hT w hte, hd]
            have hb := run_bounds' (P := P) (w := w) (isS := false) (cap := l.length) (len := l.length) (h.bnd hc hp) (h.bnd hc hq) h0 h1' (by omega) (Nat.le_refl _)
            have hex : (ByteArray.mk l.toArray).extract p.toNat q.toNat = ByteArray.mk s.toArray := by
              rw [ByteArray.extract_mk, hys]; congr 2; congr 1; omega
            unfold execOp
            rw [hop]
            simp only [h1]
            have hsz : (ByteArray.mk l.toArray).size = l.length := rfl
            simp only [Instr.sliceAt, Sem.run_bind, hun, Result.andThen_ok, Instr.slice, strV, Option.map_none, Option.isSome_none, Bool.false_eq_true, if_false, Sem.run_pure, hsz, hb, hex]
            rfl
          · cases hv
        · cases hv
      · rename_i e hd
        split at hv
        · rename_i ee u xs he hsl
          obtain ⟨hb0, hv⟩ := bvT hv
          have hsz := Nat.eq_of_beq_eq_true hb0
          split at hv
          · rename_i p q hp hq
            obtain ⟨ys, hys, hk'⟩ := bindE hv
            refine ⟨_, hk', fun {β ρ ok a w} h hc => ?_⟩
            have hD := isSl_ok h hc hx hsl
            obtain ⟨A, m, c, hv, hl, hcc, hn⟩ := isV_sl.1 hD
            obtain ⟨h0, h1, h2, hys', hyl⟩ := slc_ok hys
            have hun : (underlying t).run P w = .ok (.slice e) w := by rw [run_under hT w hte, hd]
            have hb := run_bounds' (P := P) (w := w) (isS := true) (len := m) (cap := c) (h.bnd hc hp) (by rw [← hl]; exact h.bnd hc hq) h0 h1 (by omega) hcc
            refine ⟨[.slice (if c = p.toNat then A else A.map (·.add (p.toNat * u.size))) ys.length (c - p.toNat)], ?_, ?_⟩
            · unfold execOp
              rw [hop]
              have hlen : q.toNat - p.toNat = ys.length := by omega
              simp only [hv]
              simp [Instr.sliceAt, hun, Instr.slice, hb, run_sizeOf' hT w he, hsz, hlen, AV.val, AV.isAgg, Ty.agg]
            · refine ⟨_, rfl, ⟨_, _, _, rfl, rfl, by omega, fun hpos => ?_⟩⟩
              obtain ⟨b, of, rfl, hx'⟩ := hn (by omega)
              have hne : ¬ c = p.toNat := by omega
              rw [if_neg hne]
              refine ⟨b, of + p.toNat * u.size, by simp [Addr.add_lit], fun i y hy => ?_⟩
              have hi : i < (q - p).toNat := by have := (List.getElem?_eq_some_iff.1 hy).1; omega
              rw [hys', List.getElem?_take_of_lt hi, List.getElem?_drop] at hy
              obtain ⟨cs, hr, ha⟩ := hx' _ y hy
              refine ⟨cs, hr, ?_⟩
              rw [rt_size] at ha ⊢
              have e4 : of + (p.toNat + i) * u.size = of + p.toNat * u.size + i * u.size := by rw [Nat.add_mul]; omega
              rw [← e4]
              exact ha
          · cases hv
        · cases hv
      · cases hv
    · cases hv
  ·
    rename_i s t x
    split at hv
    · rename_i se te hse hte
      split at hv
      · rename_i e hd hd2
        have hsd : se.d = .slice e := by
          cases hsd : se.d <;> rw [hsd] at hd <;> simp [isSliceD] at hd
          subst hd; rfl
        split at hv
        · rename_i _ z0 _ _ v he hx
          split at hv
          · rename_i xs hxs
            refine ⟨_, hv, fun {β ρ ok a w} h hc => ⟨[strV (bstr xs)], ?_, rfl⟩⟩
            have hag : (Ty.sl (.int .u8)).agg = v.isAgg := by
              cases v with
              | d t' y' => obtain ⟨rfl, _⟩ := Ty.cast_ok (by simpa only [asD] using hxs); rfl
              | ag l => simp [asD] at hxs
              | _ => rfl
            have hD := h.asD hc hx hxs hag
            have := run_b2s hT hte hd2 hse hsd he rfl hD
            unfold execOp
            rw [hop]
            simp only [Sem.run_bind, this]
            rfl
          · cases hv
        · cases hv
      · exact tot_ok hT hop hv
    · cases hv
  ·
    rename_i t x ix c
    split at hv
    · rename_i id hx
      split at hv
      · rename_i kk v path e u xs kh h0 hmo
        split at hv
        · rename_i te iv hte hix
          split at hv
          · rename_i kt et htd
            split at hv
            · rename_i tk tz key htk htz hkey
              split at hv
              · rename_i za hza
                split at hv
                · rename_i z0 hz
                  split at hv
                  · rename_i av hav
                    obtain ⟨hb, hv⟩ := bvT hv
                    simp only [Bool.and_eq_true] at hb
                    obtain ⟨⟨⟨⟨b1, b2⟩, b3⟩, b4⟩, b5⟩ := hb
                    obtain ⟨_, hch, hv⟩ := bindE hv
                    have hkk : key = kh := by
                      unfold chk at hch
                      exact (eqK_iff (descK_key b1)).1 (bvT hch).1
                    subst hkk
                    refine ⟨_, hv, fun {β ρ ok a w} h hc => ?_⟩
                    obtain ⟨c1, h1, h2⟩ := h.ev hc hx
                    have h2' : c1 = [.map (some (β id))] := h2
                    subst h2'
                    have h1' : a.eval x = .map (some (β id)) := h1
                    obtain ⟨c3, h3, h4⟩ := h.ev hc hix
                    have hkr : isV (rt kk) ok w key (a.eval ix) := by
                      refine ⟨c3, asD_ok (M := []) (β := β) (ρ := ρ) (by simp [lookM]) hkey h4, ?_⟩
                      rw [h3]; simp only [AV.val, RT.val, rt_agg, bEq b2]; cases iv.isAgg <;> rfl
                    have hzv : isV (rt v) ok w z0 tz.z := ⟨cellsL tz.z, asD_ok (M := []) (β := β) (ρ := ρ) (by simp [lookM]) hz (zeroAV_ok hza), (val_cells (bEq b3)).symm⟩
                    obtain ⟨cs, hrun, hcr⟩ := look_hole hT hte htd htk htz b1 (h.mm _ _ hmo) hzv b4 hav (bEq b5) c
                    rw [← keyV_rep (descK_key b1) hkr] at hrun
                    unfold execOp
                    rw [hop]
                    cases c with
                    | true =>
                      refine ⟨[.tuple #[av.val cs, .bool (findL key xs).isSome]], ?_, [av.val cs, .bool (findL key xs).isSome], rfl, cs, [.bool (findL key xs).isSome], rfl, hcr, [.bool (findL key xs).isSome], [], rfl, rfl, rfl⟩
                      simp only [h1']
                      simp only [if_true] at hrun
                      simp [hrun, AV.val, AV.isAgg]
                    | false =>
                      refine ⟨cs, ?_, hcr⟩
                      simp only [h1']
                      simp only [Bool.false_eq_true, if_false] at hrun
                      simp [hrun]
                  · cases hv
                · cases hv
              · cases hv
            · cases hv
          · cases hv
        · cases hv
      · exact tot_ok hT hop hv
    · exact tot_ok hT hop hv
  · exact tot_ok hT hop hv
end
section
variable {X : Cx} {β : Nat → Nat} {ρ : Nat → Value} {S : St} {a : Act} {w : World} {cur : Conds}
theorem Rel.int (h : Rel X β ρ S a w) (hc : holdsC a cur) {x : Operand} {v : AV} {k : IntKind} {n : Int} (hx : Gx.ev S cur x = some v) (hi : isInt v = some (k, n)) : a.eval x = .int k n := h.toW.int hc hx hi
theorem Rel.mm (h : Rel X β ρ S a w) : ∀ id o, lookM S.mem id = some o → (tlOf β ρ id o).p (okR X β ρ S.mem w) w := fun _ _ ho => (h.ob ho).1
theorem Rel.asD (h : Rel X β ρ S a w) (hc : holdsC a cur) {x : Operand} {v : AV} {t : Ty} {y : t.De} (hx : Gx.ev S cur x = some v) (hd : Gx.asD S.mem v t = some y) (ht : t.agg = v.isAgg) :
    isV (rt t) (okR X β ρ S.mem w) w y (a.eval x) := h.toW.asD hc hx hd ht
end
end Gx

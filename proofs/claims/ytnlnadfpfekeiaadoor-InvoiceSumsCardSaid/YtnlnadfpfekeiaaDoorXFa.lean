/- Elements of arrays that lie in variables; parts of such arrays as strings. -/
import Derived.Test.YtnlnadfpfekeiaaDoorXF
namespace Gx
open Go Go.RowKit Gd
set_option linter.unusedVariables false
set_option linter.unusedSimpArgs false
set_option linter.constructorNameAsVariable false
def hasI : List PS → Bool
  | [] => false
  | .f _ _ :: l => hasI l
  | .i _ _ :: _ => true
section
variable {R : Type}
def navC : List PS → AV → (AV → Option R) → Option R
  | [], x, k => k x
  | .f i off :: ps, x, k => match nav [.f i off] x with
    | some y => navC ps y k
    | none => none
  | .i j sz :: ps, x, k => match x with
    | .d (.arr _ u) xs => bif Nat.beq sz u.size then (idx xs j).bind fun y => navC ps (.d u y) k else none
    | _ => none
def setC (M : List (Nat × Ob)) : List PS → AV → AV → (AV → Option R) → Option R
  | [], x, v, k => bif okNew x v then k v else none
  | .f i off :: ps, x, v, k => match nav [.f i off] x with
    | some y => setC M ps y v fun z => match setP [.f i off] x z with
      | some x' => k x'
      | none => none
    | none => none
  | .i j sz :: ps, x, v, k => match x with
    | .d (.arr n u) xs => bif Nat.beq sz u.size then (idx xs j).bind fun y => setC M ps (.d u y) v fun z => match asD M z u with
      | some y' => k (.d (.arr n u) (xs.set j.toNat y'))
      | none => none else none
    | _ => none
end
theorem sub_sub {α : Type} {cs : List α} {o n p m : Nat} (h : p + m ≤ n) : (((cs.drop o).take n).drop p).take m = (cs.drop (o + p)).take m := by
  rw [List.drop_take, List.drop_drop, List.take_take, Nat.min_eq_left (by omega)]
theorem splice {α : Type} {cs ds : List α} {o n p : Nat} (h : p + ds.length ≤ n) :
    cs.take o ++ (((cs.drop o).take n).take p ++ ds ++ ((cs.drop o).take n).drop (p + ds.length)) ++ cs.drop (o + n) = cs.take (o + p) ++ ds ++ cs.drop (o + p + ds.length) := by
  have e1 : cs.take (o + p) = cs.take o ++ ((cs.drop o).take n).take p := by rw [List.take_add, List.take_take, Nat.min_eq_left (by omega)]
  have e2 : cs.drop (o + p + ds.length) = ((cs.drop o).take n).drop (p + ds.length) ++ cs.drop (o + n) := by
    have e3 : cs.drop (o + n) = (cs.drop (o + (p + ds.length))).drop (n - (p + ds.length)) := by rw [List.drop_drop]; congr 1; omega
    rw [List.drop_take, List.drop_drop, e3, List.take_append_drop, Nat.add_assoc]
  rw [e1, e2]
  simp only [List.append_assoc]
theorem arr_at {u : Ty} {n : Nat} {xs : List u.De} {ok : Ok} {w : World} {cs : List Value} (h : (rt (.arr n u)).rep ok w xs cs) {j : Int} {y : u.De} (hy : idx xs j = some y) :
    (rt u).rep ok w y ((cs.drop (j.toNat * u.size)).take u.size) ∧ j.toNat * u.size + u.size ≤ cs.length ∧ 0 ≤ j ∧ j.toNat < n := by
  obtain ⟨hn, ha⟩ := h
  have h0 := (idx_ok hy).1
  have hlt := (List.getElem?_eq_some_iff.1 (idx_ok hy).2).1
  have hl := repA_len ha
  have hr := repA_at ha (idx_ok hy).2
  rw [rt_size] at hr hl
  refine ⟨hr, ?_, h0, by omega⟩
  rw [hl]
  have := Nat.mul_le_mul_right u.size (show j.toNat + 1 ≤ xs.length by omega)
  rw [Nat.add_mul] at this
  omega
theorem navC_ok {R : Type} {r : R} : ∀ {ps : List PS} {x : AV} {k : AV → Option R}, navC ps x k = some r →
    ∃ y, k y = some r ∧ ∀ {β : Nat → Nat} {ρ : Nat → Value} {ok : Ok} {w : World} {cs : List Value}, cr β ρ ok w false x cs → cr β ρ ok w false y ((cs.drop (offP ps)).take y.size) ∧ offP ps + y.size ≤ cs.length
  | [], x, k, h => by
    refine ⟨x, h, fun {β ρ ok w cs} hc => ?_⟩
    have := cr_len hc
    simp only [offP, List.drop_zero]
    rw [List.take_of_length_le (by omega)]
    exact ⟨hc, by omega⟩
  | .f i off :: ps, x, k, h => by
    simp only [navC] at h
    split at h
    · rename_i y hy
      obtain ⟨z, hz, hk⟩ := navC_ok h
      refine ⟨z, hz, fun {β ρ ok w cs} hc => ?_⟩
      obtain ⟨h1, h2⟩ := nav_ok hy hc
      obtain ⟨h3, h4⟩ := hk h1
      have hl := cr_len h1
      rw [hl] at h4
      have e : offP (PS.f i off :: ps) = offP [PS.f i off] + offP ps := by simp [offP]
      rw [sub_sub h4] at h3
      rw [e]
      exact ⟨h3, by omega⟩
    · cases h
  | .i j sz :: ps, x, k, h => by
    simp only [navC] at h
    split at h
    · rename_i n u xs
      obtain ⟨hb, h1⟩ := bvT h
      have hsz := Nat.eq_of_beq_eq_true hb
      subst hsz
      obtain ⟨y, hy, h2⟩ := bindE h1
      obtain ⟨z, hz, hk⟩ := navC_ok h2
      refine ⟨z, hz, fun {β ρ ok w cs} hc => ?_⟩
      obtain ⟨h1, h2, _⟩ := arr_at hc hy
      have h1' : cr β ρ ok w false (.d u y) ((cs.drop (j.toNat * u.size)).take u.size) := h1
      obtain ⟨h3, h4⟩ := hk h1'
      have hl : ((cs.drop (j.toNat * u.size)).take u.size).length = u.size := cr_len h1'
      rw [hl] at h4
      rw [sub_sub h4] at h3
      exact ⟨h3, by simp only [offP, PS.off]; omega⟩
    · cases h
theorem setC_ok {R : Type} {r : R} {M : List (Nat × Ob)} {v : AV} : ∀ {ps : List PS} {x : AV} {k : AV → Option R}, setC M ps x v k = some r →
    ∃ x', k x' = some r ∧ ∀ {β : Nat → Nat} {ρ : Nat → Value} {ok : Ok} {w : World} {cs ds : List Value}, (∀ id o, lookM M id = some o → (tlOf β ρ id o).p ok w) → cr β ρ ok w false v ds → cr β ρ ok w false x cs →
      cr β ρ ok w false x' (cs.take (offP ps) ++ ds ++ cs.drop (offP ps + ds.length)) ∧ offP ps + ds.length ≤ cs.length
  | [], x, k, h => by
    simp only [setC] at h
    obtain ⟨hb, h⟩ := bvT h
    refine ⟨v, h, fun {β ρ ok w cs ds} _ hv hc => ?_⟩
    have : setP [] x v = some v := by simp only [setP, hb, cond_true]
    exact setP_ok hv this hc
  | .f i off :: ps, x, k, h => by
    simp only [setC] at h
    split at h
    · rename_i y hy
      obtain ⟨z, hz, hk⟩ := setC_ok h
      split at hz
      · rename_i x' hx'
        refine ⟨x', hz, fun {β ρ ok w cs ds} hM hv hc => ?_⟩
        obtain ⟨h1, h2⟩ := nav_ok hy hc
        have hl := cr_len h1
        obtain ⟨h3, h4⟩ := hk hM hv h1
        rw [hl] at h4
        obtain ⟨h5, h6⟩ := setP_ok h3 hx' hc
        have hlen : (((cs.drop (offP [PS.f i off])).take y.size).take (offP ps) ++ ds ++ ((cs.drop (offP [PS.f i off])).take y.size).drop (offP ps + ds.length)).length = y.size := by
          simp only [List.length_append, List.length_take, List.length_drop]
          simp only [List.length_take, List.length_drop] at hl
          omega
        rw [hlen, splice h4] at h5
        have e : offP (PS.f i off :: ps) = offP [PS.f i off] + offP ps := by simp [offP]
        rw [e]
        exact ⟨h5, by omega⟩
      · cases hz
    · cases h
  | .i j sz :: ps, x, k, h => by
    simp only [setC] at h
    split at h
    · rename_i n u xs
      obtain ⟨hb, h1⟩ := bvT h
      have hsz := Nat.eq_of_beq_eq_true hb
      subst hsz
      obtain ⟨y, hy, h2⟩ := bindE h1
      obtain ⟨z, hz, hk⟩ := setC_ok h2
      split at hz
      · rename_i y' hy'
        refine ⟨_, hz, fun {β ρ ok w cs ds} hM hv hc => ?_⟩
        obtain ⟨h1, h2, h0, hjn⟩ := arr_at hc hy
        have h1' : cr β ρ ok w false (.d u y) ((cs.drop (j.toNat * u.size)).take u.size) := h1
        have hl : ((cs.drop (j.toNat * u.size)).take u.size).length = u.size := cr_len h1'
        obtain ⟨h3, h4⟩ := hk hM hv h1'
        rw [hl] at h4
        have h5 := asD_ok hM hy' h3
        obtain ⟨hn, ha⟩ := (show xs.length = n ∧ repA (rt u) ok w xs cs from hc)
        have h6 := repA_set ha (i := j.toNat) (by omega) h5
        have hlen : (((cs.drop (j.toNat * u.size)).take u.size).take (offP ps) ++ ds ++ ((cs.drop (j.toNat * u.size)).take u.size).drop (offP ps + ds.length)).length = u.size := by
          simp only [List.length_append, List.length_take, List.length_drop]
          simp only [List.length_take, List.length_drop] at hl
          omega
        rw [hlen, rt_size, splice h4] at h6
        exact ⟨⟨by simpa using hn, h6⟩, by simp only [offP, PS.off]; omega⟩
      · cases hz
    · cases h
def isArrD : TypeDesc → Option (Nat × TypeId)
  | .array n e => some (n, e)
  | _ => none
theorem isArrD_ok {d : TypeDesc} {n : Nat} {e : TypeId} (h : isArrD d = some (n, e)) : d = .array n e := by
  unfold isArrD at h
  split at h
  · simp at h; obtain ⟨rfl, rfl⟩ := h; rfl
  · cases h
section
variable {R : Type} (Y : TX) (S : St) (cur : Conds)
def arrKind : Op → Nat
  | .indexAddr t _ _ => match lookT Y.T t with
    | some te => bif isSomeA (isArrD te.d) then 1 else 0
    | none => 0
  | .load _ x => match ev S cur x with
    | some (.p _ path) => bif hasI path then 2 else 0
    | _ => 0
  | .slice t _ _ _ none => match lookT Y.T t with
    | some te => bif isSomeA (isArrD te.d) then 3 else 0
    | none => 0
  | .convert _ _ x => match ev S cur x with
    | some (.w _ _ _) => 4
    | _ => 0
  | _ => 0
where isSomeA {α : Type} : Option α → Bool
  | some _ => true
  | none => false
def arrOp (op : Op) (k : AV → Option R) : Option R := match op with
  | .indexAddr t x i => match lookT Y.T t, ev S cur x, ev S cur i with
    | some te, some v, some iv => match isInt iv, isArrD te.d with
      | some (_, j), some (n, e) => match lookT Y.T e, v with
        | some ee, .a (.arr m u) xs => bif Nat.beq m n && Nat.beq ee.size u.size then (idx xs j).bind fun y => k (.a u y) else none
        | some ee, .p id path => match lookM S.mem id with
          | some (.var _ c) => navC path c fun y => match y with
            | .d (.arr m u) xs => bif Nat.beq m n && Nat.beq ee.size u.size then (idx xs j).bind fun _ => k (.p id (path ++ [.i j u.size])) else none
            | _ => none
          | _ => none
        | _, _ => none
      | _, _ => none
    | _, _, _ => none
  | .load t x => match lookT Y.T t, ev S cur x with
    | some e, some (.p id path) => match lookM S.mem id with
      | some (.var _ c) => navC path c fun y => bif Nat.beq e.size y.size && (isAggD e.d == y.isAgg) && y.isVal && (y.isAgg || Nat.beq y.size 1) then k y else none
      | _ => none
    | _, _ => none
  | .slice t x lo hi none => match lookT Y.T t, ev S cur x with
    | some te, some (.p id []) => match isArrD te.d, lookM S.mem id with
      | some (n, e), some (.var _ (.d (.arr m (.int .u8)) xs)) => match lookT Y.T e, bnd S cur 0 lo, bnd S cur n hi with
        | some ee, some a, some b => bif Nat.beq m n && Nat.beq ee.size 1 then (slc xs a b).bind fun _ => k (.w id a (b - a)) else none
        | _, _, _ => none
      | _, _ => none
    | _, _ => none
  | .convert s t x => match lookT Y.T s, lookT Y.T t, ev S cur x with
    | some se, some te, some (.w id a n) => match isSliceD se.d, te.d, lookM S.mem id with
      | some e, .string, some (.var _ (.d (.arr m (.int .u8)) xs)) => match lookT Y.T e with
        | some ⟨_, .int .u8, _, _, _⟩ => (slc xs a (a + n)).bind fun ys => k (.d .str (bstr ys))
        | _ => none
      | _, _, _ => none
    | _, _, _ => none
  | _ => none
def stepQ (op : Op) (k : AV → Option R) : Option R := match arrKind Y S cur op with
  | 0 => stepQ0 Y S cur op k
  | _ + 1 => arrOp Y S cur op k
end
section
variable {P : Program} {X : Cx} {β : Nat → Nat} {ρ : Nat → Value} {S : St} {a : Act} {w : World} {cur : Conds} {ok : Ok}
theorem cell?_of_heap {b o : Nat} {cs : List Value} {t : TypeId} (h : w.heap[b]? = some (.cells cs.toArray t (0, 0))) : w.cell? ⟨b, o, none⟩ = cs[o]? := by simp [World.cell?, h]
theorem isAt_el {u : Ty} {n : Nat} {xs : List u.De} {v : Value} (h : isAt (rt (.arr n u)) ok w xs v) {j : Int} {y : u.De} (hy : idx xs j = some y) :
    ∃ b of, v = .pointer (some ⟨b, of, none⟩) ∧ isAt (rt u) ok w y (.pointer (some ⟨b, of + j.toNat * u.size, none⟩)) ∧ 0 ≤ j ∧ j < (n : Int) := by
  obtain ⟨b, of, cs, rfl, hr, hc⟩ := h
  obtain ⟨h1, h2, h3, h4⟩ := arr_at hr hy
  refine ⟨b, of, rfl, ⟨b, _, _, rfl, h1, fun i z hz => ?_⟩, h3, by omega⟩
  have hi := (List.getElem?_eq_some_iff.1 hz).1
  simp only [List.length_take, List.length_drop] at hi
  rw [List.getElem?_take_of_lt (by omega), List.getElem?_drop] at hz
  have := hc _ z hz
  rw [Nat.add_assoc]
  exact this
theorem arrOp_ok {Y : TX} (hT : TabOk P Y.T) {R : Type} {o : Oper} {op : Op} (hop : o.op = op) {k : AV → Option R} {r : R} (hv : arrOp Y S cur op k = some r) : ∃ av, k av = some r ∧ OpSem P S cur o av := by
  unfold arrOp at hv
  split at hv
  ·
    rename_i t x i
    split at hv
    · rename_i te v iv hte hx hi
      split at hv
      · rename_i ki j n e hij hse
        have htd := isArrD_ok hse
        have run : ∀ {β : Nat → Nat} {ρ : Nat → Value} {ok : Ok} {a : Act} {w : World}, RelW β ρ ok S a w → holdsC a cur → ∀ {ee : TE} {b of : Nat}, lookT Y.T e = some ee → a.eval x = .pointer (some ⟨b, of, none⟩) → 0 ≤ j → j < (n : Int) →
            (execOp a.eval o).run P w = .ok (.value (.pointer (some ⟨b, of + j.toNat * ee.size, none⟩))) w := by
          intro β ρ ok a w h hc ee b of he hv h0 h1
          have hun : (underlying t).run P w = .ok (.array n e) w := by rw [run_under hT w hte, htd]
          have hi' := h.int hc hi hij
          unfold execOp
          rw [hop]
          simp only [hv, hi']
          simp [Instr.indexAt, asIntOf, hun, Instr.sureAddr, h0, h1, run_sizeOf' hT w he, Addr.add_lit]
        split at hv
        · rename_i ee m u xs he
          obtain ⟨hb, hv1⟩ := bvT hv
          simp only [Bool.and_eq_true] at hb
          have hm := Nat.eq_of_beq_eq_true hb.1
          have hsz := Nat.eq_of_beq_eq_true hb.2
          obtain ⟨y, hy, hk⟩ := bindE hv1
          refine ⟨_, hk, fun {β ρ ok a w} h hc => ?_⟩
          obtain ⟨cs, h1, v0, rfl, hat⟩ := h.ev hc hx
          obtain ⟨b, of, rfl, h2, h3, h4⟩ := isAt_el hat hy
          refine ⟨[.pointer (some ⟨b, of + j.toNat * u.size, none⟩)], ?_, _, rfl, h2⟩
          rw [← hsz]
          exact run h hc he h1 h3 (by omega)
        · rename_i ee id path he
          split at hv
          · rename_i tid c ho
            obtain ⟨y, hy, hnav⟩ := navC_ok hv
            split at hy
            · rename_i m u xs
              obtain ⟨hb, hv1⟩ := bvT hy
              simp only [Bool.and_eq_true] at hb
              have hm := Nat.eq_of_beq_eq_true hb.1
              have hsz := Nat.eq_of_beq_eq_true hb.2
              obtain ⟨y, hy', hk⟩ := bindE hv1
              refine ⟨_, hk, fun {β ρ ok a w} h hc => ?_⟩
              obtain ⟨cs, h1, h2⟩ := h.ev hc hx
              have h2' : cs = _ := h2
              subst h2'
              obtain ⟨cs0, hh, hcr⟩ := h.2 _ _ ho
              obtain ⟨q1, q2⟩ := hnav hcr
              obtain ⟨_, _, h3, h4⟩ := arr_at (show (rt (.arr m u)).rep ok w xs _ from q1) hy'
              refine ⟨[.pointer (some ⟨β id, offP (path ++ [PS.i j u.size]), none⟩)], ?_, rfl⟩
              have := run h hc he h1 h3 (by omega)
              rw [this, hsz, offP_append]
              simp [offP, PS.off, AV.val, AV.isAgg]
            · cases hy
          · cases hv
        · cases hv
      · cases hv
    · cases hv
  ·
    rename_i t x
    split at hv
    · rename_i e id path he hx
      split at hv
      · rename_i tid c ho
        obtain ⟨y, hy, hnav⟩ := navC_ok hv
        obtain ⟨hb, hk⟩ := bvT hy
        simp only [Bool.and_eq_true] at hb
        obtain ⟨⟨⟨b1, b2⟩, b3⟩, b4⟩ := hb
        have b1 := Nat.eq_of_beq_eq_true b1
        have b2 := bEq b2
        refine ⟨_, hk, fun {β ρ ok a w} h hc => ?_⟩
        obtain ⟨cs, h1, h2⟩ := h.ev hc hx
        have h2' : cs = _ := h2
        subst h2'
        obtain ⟨cs0, hh, hcr⟩ := h.2 _ _ ho
        obtain ⟨q1, q2⟩ := hnav hcr
        refine ⟨_, ?_, q1⟩
        have h1' : a.eval x = .pointer (some ⟨β id, offP path, none⟩) := h1
        have hl := cr_len q1
        unfold execOp
        rw [hop]
        simp only [h1', Sem.run_bind]
        have := run_load_cells (w := w) hT he (b := β id) (o := offP path) (y := y) (cs := (cs0.drop (offP path)).take y.size) (by rw [hl]; exact b1) b2 (fun hf => by
          rw [hl]
          rw [hf] at b4
          simp only [Bool.false_or] at b4
          exact Nat.eq_of_beq_eq_true b4) (fun i z hz => by
          have hi := (List.getElem?_eq_some_iff.1 hz).1
          rw [hl] at hi
          rw [List.getElem?_take_of_lt hi, List.getElem?_drop] at hz
          rw [cell?_of_heap hh]
          simpa using hz)
        rw [this]
        rfl
      · cases hv
    · cases hv
  ·
    rename_i t x lo hi
    split at hv
    · rename_i te id hte hx
      split at hv
      · rename_i n e tid m xs hse ho
        have htd := isArrD_ok hse
        split at hv
        · rename_i ee na nb he hlo hhi
          obtain ⟨hb, hv1⟩ := bvT hv
          simp only [Bool.and_eq_true] at hb
          have hm := Nat.eq_of_beq_eq_true hb.1
          have hsz := Nat.eq_of_beq_eq_true hb.2
          obtain ⟨ys, hys, hk⟩ := bindE hv1
          refine ⟨_, hk, fun {β ρ ok a w} h hc => ?_⟩
          obtain ⟨cs, h1, h2⟩ := h.ev hc hx
          have h2' : cs = _ := h2
          subst h2'
          obtain ⟨cs0, hh, hcr⟩ := h.2 _ _ ho
          have hxs : xs.length = m := (show xs.length = m ∧ _ from hcr).1
          obtain ⟨s1, s2, s3, s4, s5⟩ := Gd.slc_ok hys
          have hbd := run_bounds' (P := P) (w := w) (isS := false) (len := n) (cap := n) (h.bnd hc hlo) (h.bnd hc hhi) s1 s2 (by omega) (Nat.le_refl _)
          have hun : (underlying t).run P w = .ok (.array n e) w := by rw [run_under hT w hte, htd]
          have h1' : a.eval x = .pointer (some ⟨β id, 0, none⟩) := h1
          refine ⟨[.slice (some (if n = na.toNat then ⟨β id, 0, none⟩ else ⟨β id, na.toNat, none⟩)) (nb - na).toNat (n - na.toNat)], ?_, _, _, rfl, fun hpos => ?_⟩
          · unfold execOp
            rw [hop]
            simp only [h1']
            simp [Instr.sliceAt, hun, Instr.sureAddr, hbd, run_sizeOf' hT w he, hsz, Addr.add_lit, AV.val, AV.isAgg]
            omega
          · rw [if_neg (by omega)]
        · cases hv
      · cases hv
    · cases hv
  ·
    rename_i s t x
    split at hv
    · rename_i se te id na n hse hte hx
      split at hv
      · rename_i e tid m xs hsd htd ho
        split at hv
        · rename_i _ _ _ _ he
          obtain ⟨ys, hys, hk⟩ := bindE hv
          refine ⟨_, hk, fun {β ρ ok a w} h hc => ⟨[strV (bstr ys)], ?_, rfl⟩⟩
          obtain ⟨cs, h1, A, c, rfl, hA⟩ := h.ev hc hx
          obtain ⟨cs0, hh, hcr⟩ := h.2 _ _ ho
          obtain ⟨hxs, hrep⟩ := (show xs.length = m ∧ repA (rInt .u8) ok w xs cs0 from hcr)
          obtain ⟨s1, s2, s3, s4, s5⟩ := Gd.slc_ok hys
          have hsd' : se.d = .slice e := by
            unfold isSliceD at hsd
            split at hsd
            · rename_i hd; simp at hsd; subst hsd; assumption
            · cases hsd
          have h1' : a.eval x = .slice (some A) n.toNat c := h1
          have hus := (lookT_ok hT hse).2; rw [hsd'] at hus
          have hut := (lookT_ok hT hte).2; rw [htd] at hut
          have hue := (lookT_ok hT he).2
          have hconv := run_convert_bytes_string (P := P) w s t e (some A) n.toNat c hus hue hut
          have hload : (loadCells A n.toNat).run P w = .ok (ys.map (Value.int .u8)).toArray w := by
            have hyl : ys.length = n.toNat := by rw [s5]; congr 1; omega
            have := run_loadCells_list (P := P) w A (ys.map (Value.int .u8)) (fun i v hi => by
              rw [List.getElem?_map] at hi
              obtain ⟨y, hy, rfl⟩ := Option.map_eq_some_iff.1 hi
              have hi' := (List.getElem?_eq_some_iff.1 hy).1
              rw [hA (by omega), addr_add]
              rw [s4, List.getElem?_take_of_lt (by omega), List.getElem?_drop] at hy
              have hr := repA_at hrep hy
              have hr' : (cs0.drop ((na.toNat + i) * 1)).take 1 = [.int .u8 y] := hr
              rw [Nat.mul_one] at hr'
              rw [cell?_of_heap hh]
              have := congrArg (fun l => l[0]?) hr'
              simp only [List.getElem?_cons_zero] at this
              rw [List.getElem?_take_of_lt (by omega), List.getElem?_drop] at this
              simpa using this)
            simpa [hyl] using this
          have hrun := run_bytesToString w A n.toNat c ys hload
          have hf := foldl_push ys []
          simp only [List.nil_append] at hf
          unfold execOp
          rw [hop]
          simp only [h1']
          simp only [Sem.run_bind, hconv, hrun]
          show Result.andThen (.ok (Value.string (ys.foldl _ (ByteArray.mk ([] : List UInt8).toArray))) w) _ = _
          rw [hf]; rfl
        · cases hv
      · cases hv
    · cases hv
  · cases hv
theorem stepQ_ok {Y : TX} (hT : TabOk P Y.T) {R : Type} {o : Oper} {op : Op} (hop : o.op = op) {k : AV → Option R} {r : R} (hv : stepQ Y S cur op k = some r) : ∃ av, k av = some r ∧ OpSem P S cur o av := by
  unfold stepQ at hv
  split at hv
  · exact stepQ0_ok hT hop hv
  · exact arrOp_ok hT hop hv
end
end Gx

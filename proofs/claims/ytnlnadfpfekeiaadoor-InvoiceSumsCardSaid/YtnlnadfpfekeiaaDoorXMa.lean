/- Maps of data: what the model does with them. -/
import Derived.Test.YtnlnadfpfekeiaaDoorXB
import Derived.Test.YtnlnadfpfekeiaaDoorGExtra
import Derived.MapKept
namespace Gx
open Go Go.RowKit Gd
set_option linter.unusedVariables false
set_option linter.unusedSimpArgs false
def keyS : Ty → Bool
  | .int _ => true
  | .bool => true
  | .str => true
  | _ => false
def keyF : Ty → Bool
  | .pr a r => keyS a && keyF r
  | .unit => true
  | t => keyS t
def keyT : Ty → Bool
  | .st fs => keyF fs
  | t => keyS t
def eqK : (t : Ty) → t.De → t.De → Bool
  | .int _, a, b => a == b
  | .bool, a, b => a == b
  | .str, a, b => a == b
  | .pr f r, a, b => eqK f a.1 b.1 && eqK r a.2 b.2
  | .unit, _, _ => true
  | .st fs, a, b => eqK fs a b
  | _, _, _ => false
def findL {k : Ty} {ν : Type} (key : k.De) : List (k.De × ν) → Option ν
  | [] => none
  | x :: l => bif eqK k key x.1 then some x.2 else findL key l
def putL {k : Ty} {ν : Type} (key : k.De) (v : ν) : List (k.De × ν) → List (k.De × ν)
  | [] => [(key, v)]
  | x :: l => bif eqK k key x.1 then (key, v) :: l else x :: putL key v l
def keyC : (t : Ty) → t.De → List Value
  | .int k, n => [.int k n]
  | .bool, b => [.bool b]
  | .str, s => [strV s]
  | .pr f r, x => keyC f x.1 ++ keyC r x.2
  | .st fs, x => keyC fs x
  | _, _ => []
def keyV : (t : Ty) → t.De → Value
  | .int k, n => .int k n
  | .bool, b => .bool b
  | .str, s => strV s
  | .st fs, x => .agg (keyC fs x).toArray
  | _, _ => undef
theorem keyS_rep {t : Ty} (ht : keyS t = true) {ok : Ok} {w : World} {x : t.De} {cs : List Value} : (rt t).rep ok w x cs ↔ cs = keyC t x := by
  cases t <;> simp [keyS] at ht <;> exact Iff.rfl
theorem keyF_rep : ∀ {t : Ty}, keyF t = true → ∀ {ok : Ok} {w : World} {x : t.De} {cs : List Value}, (rt t).rep ok w x cs ↔ cs = keyC t x
  | .pr f r, ht, ok, w, x, cs => by
    simp only [keyF, Bool.and_eq_true] at ht
    constructor
    · rintro ⟨c1, c2, rfl, h1, h2⟩
      rw [(keyS_rep ht.1).1 h1, (keyF_rep ht.2).1 h2]; rfl
    · rintro rfl
      exact ⟨_, _, rfl, (keyS_rep ht.1).2 rfl, (keyF_rep ht.2).2 rfl⟩
  | .unit, ht, ok, w, x, cs => Iff.rfl
  | .int _, ht, ok, w, x, cs => keyS_rep ht
  | .bool, ht, ok, w, x, cs => keyS_rep ht
  | .str, ht, ok, w, x, cs => keyS_rep ht
  | .sl _, ht, _, _, _, _ => by simp [keyF, keyS] at ht
  | .arr _ _, ht, _, _, _, _ => by simp [keyF, keyS] at ht
  | .st _, ht, _, _, _, _ => by simp [keyF, keyS] at ht
theorem keyV_iff {t : Ty} (ht : keyT t = true) {ok : Ok} {w : World} {x : t.De} {v : Value} : isV (rt t) ok w x v ↔ v = keyV t x := by
  cases t with
  | int k => exact isV_int
  | bool => exact isV_bool
  | str => exact isV_str
  | st fs =>
    constructor
    · rintro ⟨cs, h, rfl⟩
      rw [(keyF_rep ht).1 h]; rfl
    · rintro rfl
      exact ⟨_, (keyF_rep ht).2 rfl, rfl⟩
  | _ => simp [keyT, keyS] at ht
theorem keyV_rep {t : Ty} (ht : keyT t = true) {ok : Ok} {w : World} {x : t.De} {v : Value} (h : isV (rt t) ok w x v) : v = keyV t x := (keyV_iff ht).1 h
theorem isV_key {t : Ty} (ht : keyT t = true) {ok : Ok} {w : World} (x : t.De) : isV (rt t) ok w x (keyV t x) := (keyV_iff ht).2 rfl
theorem eqS_iff {t : Ty} (ht : keyS t = true) {x y : t.De} : eqK t x y = true ↔ x = y := by
  cases t <;> simp [keyS] at ht <;> simp [eqK]
theorem eqF_iff : ∀ {t : Ty}, keyF t = true → ∀ {x y : t.De}, eqK t x y = true ↔ x = y
  | .pr f r, ht, x, y => by
    simp only [keyF, Bool.and_eq_true] at ht
    obtain ⟨x1, x2⟩ := x
    obtain ⟨y1, y2⟩ := y
    simp only [eqK, Bool.and_eq_true, eqS_iff ht.1, eqF_iff ht.2, Prod.mk.injEq]
  | .unit, ht, x, y => by simp [eqK]
  | .int _, ht, x, y => eqS_iff ht
  | .bool, ht, x, y => eqS_iff ht
  | .str, ht, x, y => eqS_iff ht
  | .sl _, ht, _, _ => by simp [keyF, keyS] at ht
  | .arr _ _, ht, _, _ => by simp [keyF, keyS] at ht
  | .st _, ht, _, _ => by simp [keyF, keyS] at ht
theorem eqK_iff {t : Ty} (ht : keyT t = true) {x y : t.De} : eqK t x y = true ↔ x = y := by
  cases t with
  | st fs => exact eqF_iff (t := fs) ht
  | int k => exact eqS_iff (t := .int k) rfl
  | bool => exact eqS_iff (t := .bool) rfl
  | str => exact eqS_iff (t := .str) rfl
  | _ => simp [keyT, keyS] at ht
def simpK : Ty → TypeDesc → Bool
  | .int k, .int k' => sameK k k'
  | .bool, .bool => true
  | .str, .string => true
  | _, _ => false
def oneK (T : Tab) (f : Field) (t : Ty) (i : Nat) : Bool := f.name != "_" && Nat.beq f.offset i && (match lookT T f.type with
  | some e => simpK t e.d
  | none => false)
def fieldsK (T : Tab) : List Field → Ty → Nat → Bool
  | [], .unit, _ => true
  | [f], t, i => oneK T f t i
  | f :: g :: fs, .pr a r, i => oneK T f a i && fieldsK T (g :: fs) r (i + 1)
  | _, _, _ => false
def descK (T : Tab) : Ty → TypeDesc → Bool
  | .st fs, .struct ⟨fds⟩ => fieldsK T fds fs 0
  | t, d => simpK t d
theorem simpK_key {t : Ty} {d : TypeDesc} (h : simpK t d = true) : keyS t = true := by
  cases t <;> cases d <;> simp [simpK] at h <;> rfl
theorem oneK_ok {T : Tab} {f : Field} {t : Ty} {i : Nat} (h : oneK T f t i = true) : (f.name != "_") = true ∧ f.offset = i ∧ ∃ e, lookT T f.type = some e ∧ simpK t e.d = true := by
  simp only [oneK, Bool.and_eq_true] at h
  refine ⟨h.1.1, Nat.eq_of_beq_eq_true h.1.2, ?_⟩
  have h2 := h.2
  split at h2
  · exact ⟨_, by assumption, h2⟩
  · cases h2
theorem fieldsK_key {T : Tab} : ∀ {fds : List Field} {t : Ty} {i : Nat}, fieldsK T fds t i = true → keyF t = true
  | [], t, i, h => by cases t <;> simp [fieldsK] at h; rfl
  | [f], t, i, h => by
    simp only [fieldsK] at h
    obtain ⟨_, _, e, _, h3⟩ := oneK_ok h
    have := simpK_key h3
    cases t <;> simp [keyS] at this <;> rfl
  | f :: g :: fs, t, i, h => by
    cases t <;> simp only [fieldsK, Bool.and_eq_true] at h
    all_goals first | (cases h; done) | skip
    obtain ⟨_, _, e, _, h3⟩ := oneK_ok h.1
    simp only [keyF, Bool.and_eq_true]
    exact ⟨simpK_key h3, fieldsK_key h.2⟩
theorem descK_key {T : Tab} {t : Ty} {d : TypeDesc} (h : descK T t d = true) : keyT t = true := by
  cases t with
  | st fs =>
    cases d <;> simp [descK, simpK] at h
    rename_i fds
    obtain ⟨fds⟩ := fds
    exact fieldsK_key h
  | _ => cases d <;> simp [descK, simpK] at h <;> rfl
theorem keyS_one {t : Ty} (h : keyS t = true) (x : t.De) : keyC t x = [keyV t x] := by
  cases t <;> simp [keyS] at h <;> rfl
section
variable {P : Program} {T : Tab}
theorem eqFs_one (hT : TabOk P T) {f : Field} {t : Ty} {i : Nat} (h : oneK T f t i = true) {fs : List Field} {p1 p2 r1 r2 : List Value} {x y : t.De} (h1 : p1.length = i) (h2 : p2.length = i) {q : Bool}
    (hq : eqFs T fs (p1 ++ keyC t x ++ r1) (p2 ++ keyC t y ++ r2) = some q) : eqFs T (f :: fs) (p1 ++ keyC t x ++ r1) (p2 ++ keyC t y ++ r2) = some (eqK t x y && q) := by
  obtain ⟨_, ho, e, he, hs⟩ := oneK_ok h
  obtain ⟨e1, e2, e3, e4, e5⟩ := e
  have g1 : (p1 ++ keyC t x ++ r1)[f.offset]? = some (keyV t x) := by
    rw [keyS_one (simpK_key hs), ho, ← h1]; simp
  have g2 : (p2 ++ keyC t y ++ r2)[f.offset]? = some (keyV t y) := by
    rw [keyS_one (simpK_key hs), ho, ← h2]; simp
  unfold eqFs
  rw [he, g1, g2, hq]
  cases t <;> cases e2 <;> simp [simpK] at hs
  · rename_i k k'
    simp only [keyV]
    rw [show sameK k k = true from by cases k <;> rfl]
    rfl
  · rfl
  · rfl
theorem eqFs_key (hT : TabOk P T) : ∀ {fds : List Field} {t : Ty} {i : Nat}, fieldsK T fds t i = true → ∀ {p1 p2 : List Value} {x y : t.De}, p1.length = i → p2.length = i →
    eqFs T fds (p1 ++ keyC t x) (p2 ++ keyC t y) = some (eqK t x y) ∧ blankB fds = true
  | [], t, i, h, p1, p2, x, y, h1, h2 => by
    cases t <;> simp [fieldsK] at h
    exact ⟨rfl, rfl⟩
  | [f], t, i, h, p1, p2, x, y, h1, h2 => by
    simp only [fieldsK] at h
    have hb : blankB [f] = true := by simp only [blankB, List.all_cons, List.all_nil, Bool.and_true]; exact (oneK_ok h).1
    refine ⟨?_, hb⟩
    have := eqFs_one hT h (fs := []) (r1 := []) (r2 := []) (x := x) (y := y) h1 h2 rfl
    simpa using this
  | f :: g :: fs, t, i, h, p1, p2, x, y, h1, h2 => by
    cases t <;> simp only [fieldsK, Bool.and_eq_true] at h
    all_goals first | (cases h; done) | skip
    rename_i a r
    obtain ⟨x1, x2⟩ := x
    obtain ⟨y1, y2⟩ := y
    have hs := simpK_key (oneK_ok h.1).2.2.choose_spec.2
    have l1 : (keyC a x1).length = 1 := by rw [keyS_one hs]; rfl
    have l2 : (keyC a y1).length = 1 := by rw [keyS_one hs]; rfl
    obtain ⟨q1, q2⟩ := eqFs_key hT h.2 (p1 := p1 ++ keyC a x1) (p2 := p2 ++ keyC a y1) (x := x2) (y := y2) (by simp [l1, h1]) (by simp [l2, h2])
    refine ⟨?_, ?_⟩
    · have := eqFs_one hT h.1 (fs := g :: fs) (r1 := keyC r x2) (r2 := keyC r y2) (x := x1) (y := y1) h1 h2 q1
      simp only [keyC, eqK]; simpa [List.append_assoc] using this
    · simp only [blankB, List.all_cons, Bool.and_eq_true] at q2 ⊢
      exact ⟨(oneK_ok h.1).1, q2⟩
theorem run_equalK (hT : TabOk P T) {kt : TypeId} {te : TE} (ht : lookT T kt = some te) {t : Ty} (h : descK T t te.d = true) (x y : t.De) (w : World) : (Op.equal kt (keyV t x) (keyV t y)).run P w = .ok (eqK t x y) w := by
  have hu := (lookT_ok hT ht).2
  cases t with
  | st fs =>
    obtain ⟨e1, e2, e3, e4, e5⟩ := te
    cases e2 <;> simp [descK, simpK] at h
    rename_i fds
    obtain ⟨fds⟩ := fds
    have hf : P.fieldsOf kt = ⟨fds⟩ := by simp [Program.fieldsOf, hu]
    have := run_equalIn_struct (P := P) w 9999 kt (keyC fs x).toArray (keyC fs y).toArray (by rw [hf, hu]) (lookT_eq hT ht).1
    rw [hf] at this
    show (Op.equalIn 10000 kt _ _).run P w = _
    simp only [keyV]
    rw [this]
    obtain ⟨q1, q2⟩ := eqFs_key hT h (p1 := []) (p2 := []) (x := x) (y := y) rfl rfl
    simp only [eqK]
    exact eqFs_ok hT 9998 q2 (by simpa using q1)
  | int k =>
    obtain ⟨e1, e2, e3, e4, e5⟩ := te
    cases e2 <;> simp [descK, simpK] at h
    exact run_equalIn_int w 9999 kt k _ x y hu
  | bool =>
    obtain ⟨e1, e2, e3, e4, e5⟩ := te
    cases e2 <;> simp [descK, simpK] at h
    exact run_equalIn_bool' w 9999 kt x y hu
  | str =>
    obtain ⟨e1, e2, e3, e4, e5⟩ := te
    cases e2 <;> simp [descK, simpK] at h
    show (Op.equalIn 10000 kt _ _).run P w = _
    simp only [keyV, strV]
    rw [run_equalIn_string w 9999 kt ⟨⟨x⟩⟩ ⟨⟨y⟩⟩ hu]
    rw [show (ByteArray.mk ⟨x⟩).toList = x from ByteArray.toList_mk x, show (ByteArray.mk ⟨y⟩).toList = y from ByteArray.toList_mk y]
    rfl
  | _ => cases te with | mk e1 e2 e3 e4 e5 => cases e2 <;> simp [descK, simpK] at h
theorem run_findAsking (hT : TabOk P T) {kt : TypeId} {te : TE} (ht : lookT T kt = some te) {t : Ty} (h : descK T t te.d = true) (key : t.De) (w : World) {ν : Type} {s : RT ν} {ok : Ok} : ∀ {xs : List (t.De × ν)} {es : List MapEntry} (i : Nat), mapP (rt t) s ok w xs es →
    (findL key xs = none ∧ (Instr.findAsking kt (keyV t key) es i).run P w = .ok none w ∧ (Instr.findNow te.d (keyV t key) es i = some none ∨ Instr.findNow te.d (keyV t key) es i = none)) ∨
    (∃ (j : Nat) (e : MapEntry) (y : ν), findL key xs = some y ∧ (Instr.findAsking kt (keyV t key) es i).run P w = .ok (some (i + j, e.val)) w ∧ (Instr.findNow te.d (keyV t key) es i = some (some (i + j, e.val)) ∨ Instr.findNow te.d (keyV t key) es i = none) ∧ es[j]? = some e ∧ e.key = keyV t key ∧ isV s ok w y e.val)
  | [], es, i, hp => by
    have : es = [] := hp
    subst this
    exact .inl ⟨rfl, rfl, .inl rfl⟩
  | x :: xs, es, i, hp => by
    obtain ⟨e, es', rfl, h1, h2, h3⟩ := hp
    have hk := keyV_rep (descK_key h) h1
    have heq := run_equalK hT ht h key x.1 w
    have hsn : Instr.sameNow te.d (keyV t key) e.key = some (eqK t key x.1) ∨ Instr.sameNow te.d (keyV t key) e.key = none := by
      rw [hk]
      cases t with
      | st fs => exact .inr (by cases te with | mk e1 e2 e3 e4 e5 => cases e2 <;> rfl)
      | int k =>
        obtain ⟨e1, e2, e3, e4, e5⟩ := te
        cases e2 <;> simp [descK, simpK] at h
        exact .inl (by simp [Instr.sameNow, keyV, eqK])
      | bool =>
        obtain ⟨e1, e2, e3, e4, e5⟩ := te
        cases e2 <;> simp [descK, simpK] at h
        exact .inl (by simp [Instr.sameNow, keyV, eqK])
      | str =>
        obtain ⟨e1, e2, e3, e4, e5⟩ := te
        cases e2 <;> simp [descK, simpK] at h
        refine .inl ?_
        simp only [Instr.sameNow, keyV, eqK, strV]
        congr 1
        rw [Bool.eq_iff_iff, MapKept.bytes_beq]
        simp
      | _ => cases te with | mk e1 e2 e3 e4 e5 => cases e2 <;> simp [descK, simpK] at h
    simp only [findL, Instr.findNow, Instr.findAsking, Sem.run_bind, hk, heq, Result.andThen_ok]
    rw [hk] at hsn
    cases he : eqK t key x.1 with
    | true =>
      have := (eqK_iff (descK_key h)).1 he
      refine .inr ⟨0, e, x.2, rfl, by simp, ?_, rfl, by rw [hk, this], h2⟩
      rcases hsn with hsn | hsn <;> rw [hsn]
      · rw [he]; exact .inl rfl
      · exact .inr rfl
    | false =>
      rcases run_findAsking hT ht h key w (i + 1) h3 with ⟨q1, q2, q3⟩ | ⟨j, e', y, q1, q2, q3, q4, q5, q6⟩
      · refine .inl ⟨q1, by simpa using q2, ?_⟩
        rcases hsn with hsn | hsn <;> rw [hsn]
        · rw [he]; exact q3
        · exact .inr rfl
      · have ea : i + 1 + j = i + (j + 1) := by omega
        rw [ea] at q2 q3
        refine .inr ⟨j + 1, e', y, q1, by simpa using q2, ?_, q4, q5, q6⟩
        rcases hsn with hsn | hsn <;> rw [hsn]
        · rw [he]; exact q3
        · exact .inr rfl
theorem find_map (hT : TabOk P T) {kt : TypeId} {te : TE} (ht : lookT T kt = some te) {t : Ty} (h : descK T t te.d = true) (key : t.De) (w : World) {ν : Type} {s : RT ν} {ok : Ok} {xs : List (t.De × ν)} {es : List MapEntry} (hp : mapP (rt t) s ok w xs es) :
    (findL key xs = none ∧ (Instr.findKey kt (keyV t key) es).run P w = .ok none w) ∨
    (∃ (j : Nat) (e : MapEntry) (y : ν), findL key xs = some y ∧ (Instr.findKey kt (keyV t key) es).run P w = .ok (some (j, e.val)) w ∧ es[j]? = some e ∧ e.key = keyV t key ∧ isV s ok w y e.val) := by
  have hu := (lookT_ok hT ht).2
  rcases run_findAsking hT ht h key w 0 hp with ⟨q1, q2, q3⟩ | ⟨j, e, y, q1, q2, q3, q4, q5, q6⟩
  · refine .inl ⟨q1, ?_⟩
    rcases q3 with q3 | q3
    · exact MapKept.run_findKey hu q3
    · simp [Instr.findKey, run_underlying hu, Result.andThen, q3, q2]
  · rw [Nat.zero_add] at q2 q3
    refine .inr ⟨j, e, y, q1, ?_, q4, q5, q6⟩
    rcases q3 with q3 | q3
    · exact MapKept.run_findKey hu q3
    · simp [Instr.findKey, run_underlying hu, Result.andThen, q3, q2]
theorem run_checkOne (hT : TabOk P T) {f : Field} {t : Ty} {i : Nat} (h : oneK T f t i = true) {p r : List Value} {x : t.De} (h1 : p.length = i) (w : World) (e : Bool) (n : Nat) :
    (part f.type (p ++ keyC t x ++ r).toArray f.offset).run P w = .ok (keyV t x) w ∧ (Instr.checkKey e (n + 1) f.type (keyV t x)).run P w = .ok () w := by
  obtain ⟨_, ho, te, he, hs⟩ := oneK_ok h
  have hu := (lookT_ok hT he).2
  have g1 : (p ++ keyC t x ++ r)[f.offset]? = some (keyV t x) := by
    rw [keyS_one (simpK_key hs), ho, ← h1]; simp
  refine ⟨part_plain hT he ?_ g1, ?_⟩
  · obtain ⟨e1, e2, e3, e4, e5⟩ := te
    cases t <;> cases e2 <;> simp [simpK] at hs <;> rfl
  · refine MapKept.run_checkKey hu ?_ e n
    obtain ⟨e1, e2, e3, e4, e5⟩ := te
    cases t <;> cases e2 <;> simp [simpK] at hs
    · rename_i a b
      have := sameK_eq hs
      exact this
    · trivial
    · trivial
theorem run_checkFields (hT : TabOk P T) (w : World) (e : Bool) (n : Nat) {body : Field → PUnit → Sem (ForInStep PUnit)} {cs : List Value}
    (hbody : ∀ (f : Field) (v : Value), f.name ≠ "_" → (part f.type cs.toArray f.offset).run P w = .ok v w → (Instr.checkKey e (n + 1) f.type v).run P w = .ok () w → (body f ⟨⟩).run P w = .ok (ForInStep.yield ⟨⟩) w) : ∀ {fds : List Field} {t : Ty} {i : Nat}, fieldsK T fds t i = true → ∀ {p : List Value} {x : t.De}, p.length = i → cs = p ++ keyC t x →
    (forIn fds PUnit.unit body).run P w = .ok ⟨⟩ w
  | [], t, i, h, p, x, h1, hc => by simp
  | [f], t, i, h, p, x, h1, hc => by
    simp only [fieldsK] at h
    have hn : f.name ≠ "_" := by simpa using (oneK_ok h).1
    obtain ⟨q1, q2⟩ := run_checkOne hT h (r := []) (x := x) h1 w e n
    rw [List.append_nil, ← hc] at q1
    simp [hbody f _ hn q1 q2, Result.andThen]
  | f :: g :: fs, t, i, h, p, x, h1, hc => by
    cases t <;> simp only [fieldsK, Bool.and_eq_true] at h
    all_goals first | (cases h; done) | skip
    rename_i a r
    obtain ⟨x1, x2⟩ := x
    have hs := simpK_key (oneK_ok h.1).2.2.choose_spec.2
    have l1 : (keyC a x1).length = 1 := by rw [keyS_one hs]; rfl
    have hn : f.name ≠ "_" := by simpa using (oneK_ok h.1).1
    obtain ⟨q1, q2⟩ := run_checkOne hT h.1 (r := keyC r x2) (x := x1) h1 w e n
    have hc' : cs = p ++ keyC a x1 ++ keyC r x2 := by rw [hc]; simp [keyC]
    rw [← hc'] at q1
    have ih := run_checkFields hT w e n hbody h.2 (p := p ++ keyC a x1) (x := x2) (by simp [l1, h1]) hc'
    rw [List.forIn_cons]
    simp only [Sem.run_bind, hbody f _ hn q1 q2, Result.andThen]
    exact ih
theorem run_checkK (hT : TabOk P T) {kt : TypeId} {te : TE} (ht : lookT T kt = some te) {t : Ty} (h : descK T t te.d = true) (x : t.De) (w : World) (e : Bool) : (Instr.checkKey e 10000 kt (keyV t x)).run P w = .ok () w := by
  have hu := (lookT_ok hT ht).2
  cases t with
  | st fs =>
    obtain ⟨e1, e2, e3, e4, e5⟩ := te
    cases e2 <;> simp [descK, simpK] at h
    rename_i fds
    obtain ⟨fds⟩ := fds
    unfold Instr.checkKey
    simp only [Sem.run_bind, run_underlying hu, Result.andThen, keyV]
    simp only [List.forIn_toArray]
    rw [run_checkFields hT w e 9998 (cs := keyC fs x) (fun f v hn h1 h2 => by simp [hn, h1, h2, Result.andThen]) h (p := []) (x := x) rfl rfl]
    rfl
  | int k =>
    obtain ⟨e1, e2, e3, e4, e5⟩ := te
    cases e2 <;> simp [descK, simpK] at h
    exact MapKept.run_checkKey hu (show MapKept.IsKey (.int _) (.int k x) from sameK_eq h) e 9999
  | bool =>
    obtain ⟨e1, e2, e3, e4, e5⟩ := te
    cases e2 <;> simp [descK, simpK] at h
    exact MapKept.run_checkKey hu (show MapKept.IsKey .bool (.bool x) from trivial) e 9999
  | str =>
    obtain ⟨e1, e2, e3, e4, e5⟩ := te
    cases e2 <;> simp [descK, simpK] at h
    exact MapKept.run_checkKey hu (show MapKept.IsKey .string (strV x) from trivial) e 9999
  | _ => cases te with | mk e1 e2 e3 e4 e5 => cases e2 <;> simp [descK, simpK] at h
theorem sameBits_S {t : Ty} (h : keyS t = true) (x : t.De) (n : Nat) : Instr.sameBits n (keyV t x) (keyV t x) = true := by
  cases t <;> simp [keyS] at h <;> cases n <;> simp [Instr.sameBits, keyV, strV]
  all_goals rw [MapKept.bytes_beq]
theorem sameBits_F {n : Nat} : ∀ {t : Ty}, keyF t = true → ∀ (x : t.De), ((keyC t x).zip (keyC t x)).all (fun (x, y) => Instr.sameBits n x y) = true
  | .pr f r, ht, x => by
    simp only [keyF, Bool.and_eq_true] at ht
    have ih := sameBits_F (n := n) ht.2 x.2
    simp only [keyC, keyS_one ht.1, List.singleton_append, List.zip_cons_cons, List.all_cons, sameBits_S ht.1, ih, Bool.and_self]
  | .unit, ht, x => rfl
  | .int k, ht, x => by have := sameBits_S (t := .int k) rfl x n; simpa [keyC, keyV] using this
  | .bool, ht, x => by have := sameBits_S (t := .bool) rfl x n; simpa [keyC, keyV] using this
  | .str, ht, x => by have := sameBits_S (t := .str) rfl x n; simpa [keyC, keyV] using this
  | .sl _, ht, _ => by simp [keyF, keyS] at ht
  | .arr _ _, ht, _ => by simp [keyF, keyS] at ht
  | .st _, ht, _ => by simp [keyF, keyS] at ht
theorem run_stays {t : Ty} (h : keyT t = true) (x : t.De) (w : World) : (Instr.keyThatStays (keyV t x) (keyV t x)).run P w = .ok (keyV t x) w := by
  have : Instr.sameBits 10000 (keyV t x) (keyV t x) = true := by
    cases t with
    | st fs =>
      have := sameBits_F (n := 9999) h x
      simp [keyV, Instr.sameBits] at this ⊢
      exact this
    | int k => exact sameBits_S (t := .int k) rfl x _
    | bool => exact sameBits_S (t := .bool) rfl x _
    | str => exact sameBits_S (t := .str) rfl x _
    | _ => simp [keyT, keyS] at h
  simp [Instr.keyThatStays, this]
theorem run_lookup (hT : TabOk P T) {t kt et : TypeId} {te tk tz : TE} (ht : lookT T t = some te) (htd : te.d = .map kt et) (hk : lookT T kt = some tk) (hz : lookT T et = some tz)
    {k : Ty} {ν : Type} {s : RT ν} (hd : descK T k tk.d = true) {ok : Ok} {w : World} {g : Nat} {es : Array MapEntry} {clock : Nat} (hg : w.heap[g]? = some (.map es clock)) {xs : List (k.De × ν)} (hp : mapP (rt k) s ok w xs es.toList)
    (key : k.De) {z : ν} (hzv : isV s ok w z tz.z) (c : Bool) :
    ∃ v, (Instr.lookup t (.map (some g)) (keyV k key) c).run P w = .ok (if c = true then .tuple #[v, .bool (findL key xs).isSome] else v) w ∧ isV s ok w ((findL key xs).getD z) v ∧
      (findL key xs = none ∧ v = tz.z ∨ ∃ (j : Nat) (e : MapEntry), es.toList[j]? = some e ∧ e.key = keyV k key ∧ v = e.val) := by
  have hu := (lookT_ok hT ht).2
  rw [htd] at hu
  have hzr : (zeroValue et).run P w = .ok tz.z w := run_zeroValue hT w hz
  rcases find_map hT hk hd key w hp with ⟨q1, q2⟩ | ⟨j, e, y, q1, q2, q3, q4, q5⟩
  · refine ⟨tz.z, ?_, by rw [q1]; exact hzv, .inl ⟨q1, rfl⟩⟩
    simp [Instr.lookup, run_underlying hu, MapKept.run_getObj_map hg, run_checkK hT hk hd, q2, hzr, Result.andThen, q1]
  · refine ⟨e.val, ?_, by rw [q1]; exact q5, .inr ⟨j, e, q3, q4, rfl⟩⟩
    simp [Instr.lookup, run_underlying hu, MapKept.run_getObj_map hg, run_checkK hT hk hd, q2, Result.andThen, q1]
theorem put_map (hT : TabOk P T) {kt : TypeId} {te : TE} (ht : lookT T kt = some te) {k : Ty} (h : descK T k te.d = true) (key : k.De) {ν : Type} {s : RT ν} {ok : Ok} {w : World} {y : ν} {v : Value} (hv : isV s ok w y v) : ∀ {xs : List (k.De × ν)} {es : List MapEntry}, mapP (rt k) s ok w xs es →
    (findL key xs = none ∧ ∀ c, mapP (rt k) s ok w (putL key y xs) (es ++ [⟨keyV k key, v, c⟩])) ∨
    (∃ (j : Nat) (e : MapEntry), (∀ i, (Instr.findAsking kt (keyV k key) es i).run P w = .ok (some (i + j, e.val)) w) ∧ es[j]? = some e ∧ e.key = keyV k key ∧ mapP (rt k) s ok w (putL key y xs) (es.modify j fun e => { e with key := keyV k key, val := v }))
  | [], es, hp => by
    have : es = [] := hp
    subst this
    exact .inl ⟨rfl, fun c => ⟨_, [], rfl, isV_key (descK_key h) key, hv, rfl⟩⟩
  | x :: xs, es, hp => by
    obtain ⟨e, es', rfl, h1, h2, h3⟩ := hp
    have hk := keyV_rep (descK_key h) h1
    have heq := run_equalK hT ht h key x.1 w
    simp only [putL, findL, Instr.findAsking, Sem.run_bind, hk, heq, Result.andThen_ok]
    cases he : eqK k key x.1 with
    | true =>
      have := (eqK_iff (descK_key h)).1 he
      exact .inr ⟨0, e, by simp, rfl, by rw [hk, this], ⟨_, es', rfl, isV_key (descK_key h) key, hv, h3⟩⟩
    | false =>
      rcases put_map hT ht h key hv h3 with ⟨q1, q2⟩ | ⟨j, e', q2, q3, q4, q5⟩
      · exact .inl ⟨q1, fun c => ⟨e, _, rfl, h1, h2, q2 c⟩⟩
      · exact .inr ⟨j + 1, e', fun i => by rw [show i + (j + 1) = i + 1 + j by omega]; simpa using q2 (i + 1), q3, q4, ⟨e, _, rfl, h1, h2, q5⟩⟩
def stampP (es : Array MapEntry) (clock : Nat) : Prop := (es.toList.map MapEntry.born).Nodup ∧ ∀ e ∈ es.toList, e.born < clock
theorem putL_keys {k : Ty} {ν : Type} (hk : keyT k = true) (key : k.De) (y : ν) : ∀ {xs : List (k.De × ν)}, (xs.map Prod.fst).Nodup → ((putL key y xs).map Prod.fst).Nodup ∧ ∀ z ∈ (putL key y xs).map Prod.fst, z = key ∨ z ∈ xs.map Prod.fst
  | [], _ => ⟨by simp [putL], by simp [putL]⟩
  | x :: xs, h => by
    simp only [putL]
    have h1 := List.nodup_cons.1 h
    cases he : eqK k key x.1 with
    | true =>
      have := (eqK_iff hk).1 he
      refine ⟨?_, fun z hz => ?_⟩
      · simp only [cond_true, List.map_cons, List.nodup_cons]
        exact ⟨by rw [this]; exact h1.1, h1.2⟩
      · simp only [cond_true, List.map_cons, List.mem_cons] at hz
        rcases hz with rfl | hz
        · exact .inl rfl
        · exact .inr (List.mem_cons_of_mem _ hz)
    | false =>
      obtain ⟨h2, h3⟩ := putL_keys hk key y h1.2
      refine ⟨?_, fun z hz => ?_⟩
      · simp only [cond_false, List.map_cons, List.nodup_cons]
        refine ⟨fun hm => ?_, h2⟩
        rcases h3 _ hm with hm | hm
        · rw [hm, (eqK_iff hk).2 rfl] at he; cases he
        · exact h1.1 hm
      · simp only [cond_false, List.map_cons, List.mem_cons] at hz
        rcases hz with rfl | hz
        · exact .inr (List.mem_cons_self)
        · rcases h3 _ hz with hz | hz
          · exact .inl hz
          · exact .inr (List.mem_cons_of_mem _ hz)
theorem run_mapStore (hT : TabOk P T) {t kt et : TypeId} {te tk : TE} (ht : lookT T t = some te) (htd : te.d = .map kt et) (hk : lookT T kt = some tk)
    {k : Ty} (hd : descK T k tk.d = true) {w : World} {g : Nat} {es : Array MapEntry} {clock : Nat} (hg : w.heap[g]? = some (.map es clock)) (key : k.De) {v : Value} :
    ((Instr.findKey kt (keyV k key) es.toList).run P w = .ok none w → (Instr.mapUpdate t (.map (some g)) (keyV k key) v).run P w = .ok () { w with heap := w.heap.setIfInBounds g (.map (es.push ⟨keyV k key, v, clock⟩) (clock + 1)) }) ∧
    (∀ j e, (Instr.findKey kt (keyV k key) es.toList).run P w = .ok (some (j, e.val)) w → es.toList[j]? = some e → e.key = keyV k key →
      (Instr.mapUpdate t (.map (some g)) (keyV k key) v).run P w = .ok () { w with heap := w.heap.setIfInBounds g (.map (es.modify j fun e => { e with key := keyV k key, val := v }) clock) }) := by
  have hu := (lookT_ok hT ht).2
  rw [htd] at hu
  refine ⟨fun q => ?_, fun j e q2 q3 q4 => ?_⟩
  · simp [Instr.mapUpdate, run_underlying hu, MapKept.run_getObj_map hg, run_checkK hT hk hd, q, MapKept.run_setObj_map _ hg, Result.andThen]
  · have hj : es[j]? = some e := by simpa using q3
    simp [Instr.mapUpdate, run_underlying hu, MapKept.run_getObj_map hg, run_checkK hT hk hd, q2, hj, q4, run_stays (descK_key hd), MapKept.run_setObj_map _ hg, Result.andThen]
theorem stamp_push {es : Array MapEntry} {clock : Nat} (hst : stampP es clock) (kv v : Value) : stampP (es.push ⟨kv, v, clock⟩) (clock + 1) := by
  refine ⟨?_, fun e he => ?_⟩
  · simp only [Array.toList_push, List.map_append, List.map_cons, List.map_nil]
    refine List.nodup_append.2 ⟨hst.1, by simp, fun a ha b hb => ?_⟩
    obtain ⟨e, he, rfl⟩ := List.mem_map.1 ha
    simp at hb; subst hb
    exact Nat.ne_of_lt (hst.2 e he)
  · simp only [Array.toList_push, List.mem_append, List.mem_singleton] at he
    rcases he with he | rfl
    · exact Nat.lt_succ_of_lt (hst.2 e he)
    · exact Nat.lt_succ_self _
theorem stamp_modify {es : Array MapEntry} {clock : Nat} (hst : stampP es clock) (kv v : Value) (j : Nat) : stampP (es.modify j fun e => { e with key := kv, val := v }) clock := by
  have hmap : ∀ (l : List MapEntry) (j : Nat), (l.modify j fun e => { e with key := kv, val := v }).map MapEntry.born = l.map MapEntry.born := by
    intro l
    induction l with
    | nil => intro j; cases j <;> rfl
    | cons x l ih => intro j; cases j with
      | zero => rfl
      | succ j => simp [ih j]
  refine ⟨?_, fun e he => ?_⟩
  · rw [Array.toList_modify, hmap]; exact hst.1
  · have hb : e.born ∈ (es.toList.modify j fun e => { e with key := kv, val := v }).map MapEntry.born := List.mem_map.2 ⟨e, by simpa using he, rfl⟩
    rw [hmap] at hb
    obtain ⟨e', he', hbe⟩ := List.mem_map.1 hb
    rw [← hbe]; exact hst.2 e' he'
theorem findKey_of (hT : TabOk P T) {kt : TypeId} {te : TE} (ht : lookT T kt = some te) {t : Ty} (h : descK T t te.d = true) (key : t.De) (w : World) {ν : Type} {s : RT ν} {ok : Ok} {xs : List (t.De × ν)} {es : List MapEntry} (hp : mapP (rt t) s ok w xs es)
    {r : Option (Nat × Value)} (hr : (Instr.findAsking kt (keyV t key) es 0).run P w = .ok r w) : (Instr.findKey kt (keyV t key) es).run P w = .ok r w := by
  have hu := (lookT_ok hT ht).2
  rcases run_findAsking hT ht h key w 0 hp with ⟨q1, q2, q3⟩ | ⟨j, e, y, q1, q2, q3, q4, q5, q6⟩
  · rw [hr] at q2; injection q2 with q2; subst q2
    rcases q3 with q3 | q3
    · exact MapKept.run_findKey hu q3
    · simp [Instr.findKey, run_underlying hu, Result.andThen, q3, hr]
  · rw [hr] at q2; injection q2 with q2; subst q2
    rcases q3 with q3 | q3
    · exact MapKept.run_findKey hu q3
    · simp [Instr.findKey, run_underlying hu, Result.andThen, q3, hr]
theorem run_mapUpdate (hT : TabOk P T) {t kt et : TypeId} {te tk : TE} (ht : lookT T t = some te) (htd : te.d = .map kt et) (hk : lookT T kt = some tk)
    {k : Ty} {ν : Type} {s : RT ν} (hd : descK T k tk.d = true) {ok : Ok} {w : World} {g : Nat} {es : Array MapEntry} {clock : Nat} (hg : w.heap[g]? = some (.map es clock)) {xs : List (k.De × ν)} (hp : mapP (rt k) s ok w xs es.toList) (hst : stampP es clock)
    (key : k.De) {y : ν} {v : Value} (hv : isV s ok w y v) :
    ∃ es' clock', (Instr.mapUpdate t (.map (some g)) (keyV k key) v).run P w = .ok () { w with heap := w.heap.setIfInBounds g (.map es' clock') } ∧ mapP (rt k) s ok w (putL key y xs) es'.toList ∧ stampP es' clock' := by
  rcases put_map hT hk hd key hv hp with ⟨q1, q2⟩ | ⟨j, e, q2, q3, q4, q5⟩
  · rcases find_map hT hk hd key w hp with ⟨r1, r2⟩ | ⟨j, e, y', r1, _⟩
    · exact ⟨_, _, (run_mapStore hT ht htd hk hd hg key).1 r2, by simpa using q2 clock, stamp_push hst _ _⟩
    · rw [q1] at r1; cases r1
  · have h2 := q2 0
    rw [Nat.zero_add] at h2
    exact ⟨_, _, (run_mapStore hT ht htd hk hd hg key).2 j e (findKey_of hT hk hd key w hp h2) q3 q4, by simpa using q5, stamp_modify hst _ _ _⟩
end
end Gx

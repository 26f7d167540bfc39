/- Steps of a walk that read data, call, append. -/
import Derived.Test.YtnlnadfpfekeiaaDoorGSeq
namespace Gd
open Go Go.RowKit
set_option linter.unusedVariables false
set_option linter.unusedSimpArgs false

def selN {α : Type} (l : List (Nat × α)) : List Nat → List (Nat × α)
  | [] => []
  | k :: ks => match lookN l k with
    | some x => (k, x) :: selN l ks
    | none => selN l ks
theorem selN_mem {α : Type} {l : List (Nat × α)} {ks : List Nat} {p : Nat × α} (h : p ∈ selN l ks) : p ∈ l := by
  induction ks with
  | nil => simp [selN] at h
  | cons k ks ih =>
    simp only [selN] at h
    split at h
    · rename_i x hx
      rcases List.mem_cons.1 h with rfl | h
      · exact lookN_mem hx
      · exact ih h
    · exact ih h

def selI {α : Type} (l : List α) : List Nat → List α
  | [] => []
  | k :: ks => match l[k]? with
    | some x => x :: selI l ks
    | none => selI l ks
theorem selI_mem {α : Type} {l : List α} {ks : List Nat} {p : α} (h : p ∈ selI l ks) : p ∈ l := by
  induction ks with
  | nil => simp [selI] at h
  | cons k ks ih =>
    simp only [selI] at h
    split at h
    · rename_i x hx
      rcases List.mem_cons.1 h with rfl | h
      · exact List.mem_of_getElem? hx
      · exact ih h
    · exact ih h

section
variable {P : Program} {T : Tab} {β : Nat → Nat} {X : Cx} {G : GL} {D : List DF} {H : HL} {O : List TL} {a : Act} {w w' : World}

theorem Sb.d (h : Sb β X G D H O a w) (i : Nat) {d : DF} (hi : D[i]? = some d) : d.p (okOf X.ok X.w.heap.size β H O w) w := h.dat.get hi
theorem Sb.addD (h : Sb β X G D H O a w) {d : DF} (hd : d.p (okOf X.ok X.w.heap.size β H O w) w) : Sb β X G (d :: D) H O a w := { h with dat := ⟨hd, h.dat⟩ }

/-- Fewer temporaries, facts, objects. -/
theorem Sb.sel (h : Sb β X G D H O a w) (gs ds hs : List Nat) : Sb β X (selN G gs) (selI D ds) (selN H hs) O a w where
  sz := h.sz
  df := h.df
  fr := h.fr
  pn := fun f hf p hp => h.pn f hf p (selN_mem hp)
  tm := fun p hp => h.tm p (selN_mem hp)
  bel := h.bel
  dat := (h.dat.less fun d hd => selI_mem hd).weak fun b o ⟨h1, h2, h3, h4⟩ => ⟨h1, h2, fun p hp => h3 p (selN_mem hp), h4⟩
  obj := fun p hp => h.obj p (selN_mem hp)
  own := fun t ht => ⟨t.weak (h.own t ht).1 fun _ _ ⟨h1, h2, h3, h4⟩ => ⟨h1, h2, fun p hp => h3 p (selN_mem hp), h4⟩, (h.own t ht).2⟩
  dHH := fun p hp q hq => h.dHH p (selN_mem hp) q (selN_mem hq)
  dHO := fun p hp => h.dHO p (selN_mem hp)
  dOO := h.dOO

/-- Fewer tails. -/
theorem Sb.selO (h : Sb β X G D H O a w) (k : Nat) : Sb β X G D H (O.drop k) a w where
  sz := h.sz
  df := h.df
  fr := h.fr
  pn := h.pn
  tm := h.tm
  bel := h.bel
  dat := h.dat.weak fun b o ⟨h1, h2, h3, h4⟩ => ⟨h1, h2, h3, fun t ht => h4 t (List.mem_of_mem_drop ht)⟩
  obj := h.obj
  own := fun t ht => ⟨t.weak (h.own t (List.mem_of_mem_drop ht)).1 fun _ _ ⟨h1, h2, h3, h4⟩ => ⟨h1, h2, h3, fun t ht => h4 t (List.mem_of_mem_drop ht)⟩, (h.own t (List.mem_of_mem_drop ht)).2⟩
  dHH := h.dHH
  dHO := fun p hp t ht => h.dHO p hp t (List.mem_of_mem_drop ht)
  dOO := h.dOO.sublist (List.drop_sublist k O)

/-- A region's quiet part in one step, with what lives on picked. -/
def evalS (T : Tab) (ops : Array Oper) (X : Cx) (l : List Oper) (G : GL) (H : HL) (gs hs : List Nat) : Option (GL × HL) :=
  match evalL T ops X l G H with
  | some (G', H') => some (selN G' gs, selN H' hs)
  | none => none

theorem evalS_ok (hT : TabOk P T) (h : Sb β X G D H O a w) {ops : Array Oper} {Q : Exit → Act → World → Prop} {l : List Oper} (k : Nat) (gs hs : List Nat) (G' : GL) (H' : HL)
    (he : evalS T ops X (l.take k) G H gs hs = some (G', H')) (hk : ∀ β' a' w', Sb β' X G' D H' O a' w' → wpList P ops Q (l.drop k) a' w') : wpList P ops Q l a w := by
  unfold evalS at he
  split at he
  · rename_i G1 H1 h1
    simp only [Option.some.injEq, Prod.mk.injEq] at he
    obtain ⟨rfl, rfl⟩ := he
    have := evalL_ok (Q := Q) (rest := l.drop k) hT h h1 fun β' a' w' h' => by
      have h2 := h'.sel gs (List.range D.length) hs
      have hD : selI D (List.range D.length) = D := by
        have key : ∀ (m k : Nat), k + m = D.length → selI D (List.range' k m) = D.drop k := by
          intro m
          induction m with
          | zero => intro k hk; simp [selI, List.drop_eq_nil_of_le (show D.length ≤ k by omega)]
          | succ m ih =>
            intro k hk
            have hlt : k < D.length := by omega
            simp only [List.range'_succ, selI, List.getElem?_eq_getElem hlt]
            rw [ih (k + 1) (by omega), List.drop_eq_getElem_cons hlt]
        rw [List.range_eq_range', key _ 0 (by omega)]; simp
      rw [hD] at h2
      exact hk _ _ _ h2
    rwa [List.take_append_drop] at this
  · cases he

/-- The whole of a region that is quiet. -/
theorem evalR_ok (hT : TabOk P T) (h : Sb β X G D H O a w) {id : Nat} {Q : Exit → Act → World → Prop} {l : List Oper} (gs hs : List Nat) (G' : GL) (H' : HL)
    (he : evalS T ⟨l⟩ X l G H gs hs = some (G', H')) (hk : ∀ β' a' w', Sb β' X G' D H' O a' w' → Q .normal a' w') : (Code.region id ⟨l⟩ false).wp P Q a w := by
  refine wp_region_list (evalS_ok hT h l.length gs hs G' H' (by rwa [List.take_length]) fun β' a' w' h' => ?_)
  rw [List.drop_length]
  exact hk _ _ _ h'

theorem region_ok {id : Nat} {Q : Exit → Act → World → Prop} {l : List Oper} (h : wpList P ⟨l⟩ Q l a w) : (Code.region id ⟨l⟩ false).wp P Q a w := wp_region_list h

section steps
variable {ops : Array Oper} {Q : Exit → Act → World → Prop} {rest : List Oper} {o : Oper}

/-- A value that is computed without a change of the world. -/
theorem step_val (h : Sb β X G D H O a w) {g : Option (Nat × Bool)} (hg : guardV ops G o = some true) {d : Nat} (hd : o.dst = some d) (hlt : okD X d = true) {v : Value}
    (hr : (execOp a.eval o).run P w = .ok (.value v) w) (hk : ∀ a', Sb β X (setN G d (.v v)) D H O a' w → wpList P ops Q rest a' w) : wpList P ops Q (o :: rest) a w := by
  refine wpList_go (guardV_ok h hg) (wp_value hr ?_)
  rw [hd]
  exact hk _ (h.put hlt (.v v))

theorem slRep_at {τ : Type} {r : RT τ} {ok : Ok} {w : World} {xs : List τ} {A : Option Addr} {m c : Nat} (h : slRep r ok w xs (.slice A m c)) {i : Nat} {x : τ} (hx : xs[i]? = some x) :
    ∃ b o, A = some ⟨b, o, none⟩ ∧ i < m ∧ isAt r ok w x (.pointer (some ⟨b, o + i * r.size, none⟩)) := by
  obtain ⟨A', m', c', hv, hl, hc, hn⟩ := h
  injection hv with e1 e2 e3
  subst e1; subst e2; subst e3
  have hi : i < m := by rw [← hl]; exact (List.getElem?_eq_some_iff.1 hx).1
  obtain ⟨b, o, hA, hcs⟩ := hn (by omega)
  obtain ⟨cs, hr, ha⟩ := hcs i x hx
  exact ⟨b, o, hA, hi, b, _, cs, rfl, hr, ha⟩

/-- The address of an element. -/
theorem step_index (hT : TabOk P T) (h : Sb β X G D H O a w) (k : Nat) {t : TypeId} {x i : Operand} {d : Nat} {ps : String} {af : Array Edge} {ty : TypeId} {gd : Option (Nat × Bool)}
    (hg : guardV ops G ⟨some d, .indexAddr t x i, ty, ps, af, gd⟩ = some true) (hlt : okD X d = true)
    {τ : Type} {r : RT τ} {xs : List τ} {A : Option Addr} {m c : Nat} {ki : IntKind} {j : Int} {y : τ}
    (hD : D[k]? = some (DF.v (rSl r) xs (.slice A m c))) (hx : gv G x = some (.v (.slice A m c))) (hi : gv G i = some (.v (.int ki j)))
    (hj : 0 ≤ j) (hy : xs[j.toNat]? = some y) {e : TypeId} {te ee : TE} (ht : lookT T t = some te) (htd : te.d = .slice e) (he : lookT T e = some ee) (hs : ee.size = r.size)
    (hk : ∀ p a', Sb β X (setN G d (.v p)) (DF.at r y p :: D) H O a' w → wpList P ops Q rest a' w) : wpList P ops Q (⟨some d, .indexAddr t x i, ty, ps, af, gd⟩ :: rest) a w := by
  have hf := isV_sl.1 (h.d k hD)
  obtain ⟨b, o, hA, hi', hat⟩ := slRep_at hf hy
  subst hA
  refine step_val h (g := none) hg rfl hlt (v := .pointer (some ⟨b, o + j.toNat * r.size, none⟩)) ?_ fun a' h' => hk _ a' (h'.addD hat)
  have hu := lookT_ok hT ht
  have hun : (underlying t).run P w = .ok (.slice e) w := by rw [run_under hT w ht, htd]
  have hjm : 0 ≤ j ∧ j < (m : Int) := by omega
  unfold execOp
  simp only [h.ev hx, h.ev hi, den_v]
  simp [Instr.indexAt, asIntOf, hun, hjm, run_sizeOf' hT w he, hs, Addr.add_lit]

/-- The address of a field. -/
theorem step_field (hT : TabOk P T) (h : Sb β X G D H O a w) (k : Nat) {s : TypeId} {x : Operand} {f : Nat} {d : Nat} {ps : String} {af : Array Edge} {ty : TypeId} {gd : Option (Nat × Bool)}
    (hg : guardV ops G ⟨some d, .fieldAddr s x f, ty, ps, af, gd⟩ = some true) (hlt : okD X d = true)
    {σ : Type} {fs : List (Fld σ)} {y : σ} {p : Value} {fl : Fld σ}
    (hD : D[k]? = some (DF.at (rStruct fs) y p)) (hx : gv G x = some (.v p)) {te : TE} (ht : lookT T s = some te) {ff : Array Field} (htd : te.d = .struct ff)
    (hfo : fieldOff T ff f = some (offF fs f)) (hfl : fs[f]? = some fl)
    (hk : ∀ p a', Sb β X (setN G d (.v p)) (DF.at fl.r (fl.get y) p :: D) H O a' w → wpList P ops Q rest a' w) : wpList P ops Q (⟨some d, .fieldAddr s x f, ty, ps, af, gd⟩ :: rest) a w := by
  obtain ⟨b, o, cs, rfl, hr, hc⟩ := h.d k hD
  obtain ⟨fd, hfd, hoff, ee, he, hne⟩ := fieldOff_ok hfo
  have hun : (underlying s).run P w = .ok (.struct ff) w := by rw [run_under hT w ht, htd]
  refine step_val h (g := none) hg rfl hlt (v := .pointer (some ⟨b, o + offF fs f, none⟩)) ?_ fun a' h' => hk _ a' (h'.addD ⟨b, o + offF fs f, _, rfl, repF_field hr hfl, ?_⟩)
  · unfold execOp
    simp only [h.ev hx, den_v]
    simp [Instr.fieldAt, hun, hfd, Instr.sureAddr, fieldPlace, run_sizeOf' hT w he, hne, Addr.add_lit, hoff]
  · intro j u hu
    have hj : j < fl.r.size := by
      have := (List.getElem?_eq_some_iff.1 hu).1
      simp at this; omega
    rw [List.getElem?_take_of_lt hj, List.getElem?_drop] at hu
    have := hc _ _ hu
    rw [← Nat.add_assoc] at this
    exact this

/-- A load. -/
theorem step_load (hT : TabOk P T) (h : Sb β X G D H O a w) (k : Nat) {t : TypeId} {x : Operand} {d : Nat} {ps : String} {af : Array Edge} {ty : TypeId} {gd : Option (Nat × Bool)}
    (hg : guardV ops G ⟨some d, .load t x, ty, ps, af, gd⟩ = some true) (hlt : okD X d = true)
    {τ : Type} {r : RT τ} {y : τ} {p : Value}
    (hD : D[k]? = some (DF.at r y p)) (hx : gv G x = some (.v p)) {te : TE} (ht : lookT T t = some te) (hag : isAggD te.d = r.agg) (hs : te.size = r.size)
    (hk : ∀ v a', isV r (okOf X.ok X.w.heap.size β H O w) w y v → Sb β X (setN G d (.v v)) (DF.v r y v :: D) H O a' w → wpList P ops Q rest a' w) : wpList P ops Q (⟨some d, .load t x, ty, ps, af, gd⟩ :: rest) a w := by
  obtain ⟨b, o, cs, rfl, hr, hc⟩ := h.d k hD
  have hv : isV r (okOf X.ok X.w.heap.size β H O w) w y (r.val cs) := ⟨cs, hr, rfl⟩
  refine step_val h (g := none) hg rfl hlt (v := r.val cs) ?_ fun a' h' => hk _ a' hv (h'.addD hv)
  have := run_loadVar_cells hT w ht b o cs (by rw [hs, r.len hr]) (fun ha => by rw [r.len hr, r.one (by rw [← hag, ha])]) (fun j u hu => (hc j u hu).2)
  unfold execOp
  simp only [h.ev hx, den_v]
  simp [Instr.loadAt, Instr.sureAddr, this, RT.val, hag]

/-- A byte of a string. -/
theorem step_strIndex (hT : TabOk P T) (h : Sb β X G D H O a w) {t : TypeId} {x i : Operand} {d : Nat} {ps : String} {af : Array Edge} {ty : TypeId} {gd : Option (Nat × Bool)}
    (hg : guardV ops G ⟨some d, .index t x i, ty, ps, af, gd⟩ = some true) (hlt : okD X d = true)
    {s : Str} {ki : IntKind} {j : Int} {c : UInt8}
    (hx : gv G x = some (.v (strV s))) (hi : gv G i = some (.v (.int ki j))) (hj : 0 ≤ j) (hc : s[j.toNat]? = some c)
    {te : TE} (ht : lookT T t = some te) (htd : te.d = .string)
    (hk : ∀ a', Sb β X (setN G d (.v (.int .u8 (c.toNat : Int)))) D H O a' w → wpList P ops Q rest a' w) : wpList P ops Q (⟨some d, .index t x i, ty, ps, af, gd⟩ :: rest) a w := by
  refine step_val h (g := none) hg rfl hlt (v := .int .u8 (c.toNat : Int)) ?_ hk
  have hun : (underlying t).run P w = .ok .string w := by rw [run_under hT w ht, htd]
  have hlen : j.toNat < s.length := (List.getElem?_eq_some_iff.1 hc).1
  have hb : (if 0 ≤ j then (ByteArray.mk s.toArray)[j.toNat]? else none) = some c := by
    rw [if_pos hj]
    have h1 : j.toNat < (ByteArray.mk s.toArray).size := hlen
    rw [getElem?_pos (ByteArray.mk s.toArray) j.toNat h1]
    have := (List.getElem?_eq_some_iff.1 hc).2
    rw [← this]
    rfl
  unfold execOp
  simp only [h.ev hx, h.ev hi, den_v]
  simp only [Instr.index, asIntOf, Sem.run_bind, Sem.run_pure, Result.andThen_ok, hun, strV, hb]

/-! ## Calls -/

def evArgs (G : GL) : List Operand → Option (List Value)
  | [] => some []
  | x :: xs => match gv G x, evArgs G xs with
    | some (.v v), some vs => some (v :: vs)
    | _, _ => none

theorem evArgs_ok (h : Sb β X G D H O a w) {xs : List Operand} {vs : List Value} (hv : evArgs G xs = some vs) : xs.map a.eval = vs := by
  induction xs generalizing vs with
  | nil => simp [evArgs] at hv; subst hv; rfl
  | cons x xs ih =>
    simp only [evArgs] at hv
    split at hv
    · rename_i v us h1 h2
      simp at hv; subst hv
      simp [h.ev h1, den_v, ih h2]
    · cases hv

/-- The cells that stay put behind a call: the arguments', and new ones. -/
def okx (ok : Ok) (w w' : World) : Ok := fun b o => ok b o ∨ (w.heap.size ≤ b ∧ b < w'.heap.size)

/-- What a call has come to. -/
def RetL (L : List Nat) (w : World) (R : Value → World → Prop) : Ending → World → Prop := fun e w' => ∃ v, e = .returned v ∧ R v w' ∧ BelowL L w.heap.size w w'
abbrev Ret (w : World) (R : Value → World → Prop) : Ending → World → Prop := RetL [] w R

def Runs (P : Program) (f : FuncId) : Prop := ∃ fn, P.funcs[f]? = some fn ∧ fn.name ≠ "runtime.NumGoroutine" ∧ fn.body.isNone = false

theorem run_callFunc {f : FuncId} (hf : Runs P f) (args : Array Value) (w : World) : (callFunc f args).run P w = .ok (.enter f args) w := by
  obtain ⟨fn, h1, h2, h3⟩ := hf
  have h2' : (fn.name == "runtime.NumGoroutine") = false := by simpa using h2
  obtain ⟨c, hc⟩ : ∃ c, fn.body = some c := by
    cases hb : fn.body with
    | none => rw [hb] at h3; cases h3
    | some c => exact ⟨c, rfl⟩
  simp [callFunc, h1, h2, hc]

theorem okx_sub (hs : w.heap.size ≤ w'.heap.size) (hb : X.w.heap.size ≤ w.heap.size) (hH : ∀ h ∈ H, β h.1 < w.heap.size) (hO : ∀ t ∈ O, ∀ g, t.blks g → g < w.heap.size) :
    ∀ b o, okx (okOf X.ok X.w.heap.size β H O w) w w' b o → okOf X.ok X.w.heap.size β H O w' b o := by
  rintro b o (h | ⟨h1, h2⟩)
  · exact okOf_grow hs b o h
  · exact ⟨.inr (by omega), h2, fun p hp => by have := hH p hp; omega, fun t ht hc => by have := hO t ht _ (t.cb hc); omega⟩

/-- A call of a function by its contract. -/
theorem step_call (h : Sb β X G D H O a w) {f : FuncId} {xs : List Operand} {ts : Array TypeId} {d : Nat} {ps : String} {af : Array Edge} {ty : TypeId} {gd : Option (Nat × Bool)}
    (hg : guardV ops G ⟨some d, .call ⟨.value (.func f), ⟨xs⟩, ts⟩, ty, ps, af, gd⟩ = some true) (hlt : okD X d = true) (hf : Runs P f)
    {vs : List Value} (hvs : evArgs G xs = some vs) {R : Value → World → Prop}
    (hc : Calls P f ⟨vs⟩ w (Ret w R))
    (hk : ∀ v a' w', R v w' → (∀ b o, okx (okOf X.ok X.w.heap.size β H O w) w w' b o → okOf X.ok X.w.heap.size β H O w' b o) → Sb β X (setN G d (.v v)) D H O a' w' → wpList P ops Q rest a' w') :
    wpList P ops Q (⟨some d, .call ⟨.value (.func f), ⟨xs⟩, ts⟩, ty, ps, af, gd⟩ :: rest) a w := by
  refine wpList_go (guardV_ok h hg) ?_
  have hrun : (execOp a.eval ⟨some d, .call ⟨.value (.func f), ⟨xs⟩, ts⟩, ty, ps, af, gd⟩).run P w = .ok (.enter f ⟨vs⟩) w := by
    unfold execOp
    have hm : (Array.mk xs).map a.eval = ⟨vs⟩ := by rw [← evArgs_ok h hvs]; simp
    simp [resolve, hm, Act.eval, Deferred.ofValue, invoke, run_callFunc hf]
  unfold Oper.wp
  rw [hrun]
  refine hc.mono ?_
  rintro e w' ⟨v, rfl, hR, hb⟩
  exact hk v _ w' hR (okx_sub hb.size h.bel.size (fun p hp => h.hlt hp) (fun t ht g hg => h.olt ht hg)) ((h.below hb.nil).put hlt (.v v))
end steps

/-! ## Control -/

/-- The ways through a piece of code meet again. -/
theorem wp_seq_join {x y : Code} {Q : Exit → Act → World → Prop} (J : Act → World → Prop) (hy : ∀ a w, J a w → y.wp P Q a w) (hx : x.wp P (Exit.then J Q) a w) : (Code.seq x y).wp P Q a w :=
  wp_seq (wp_mono hx fun e a w q => by cases e <;> first | exact hy _ _ q | exact q)

theorem wp_if (h : Sb β X G D H O a w) {Q : Exit → Act → World → Prop} {c : Operand} {x y : Code} {b : Bool} (hc : gv G c = some (.v (.bool b)))
    (ht : b = true → x.wp P Q a w) (hf : b = false → y.wp P Q a w) : (Code.cond c x y).wp P Q a w :=
  wp_cond_split (h.ev hc) ht hf

/-- A loop, by fuel. -/
theorem wp_loop_fuel {c : Code} {Q : Exit → Act → World → Prop} (I : Nat → Act → World → Prop) (m : Nat) (h0 : I m a w)
    (round : ∀ m a w, I m a w → c.wp P (Exit.then (fun a' w' => ∃ k, k < m ∧ I k a' w') Q) a w) : (Code.loop c).wp P Q a w := by
  intro b k cs
  have key : ∀ m a w, I m a w → ∃ e a' w', Q e a' w' ∧ Arrives P (lone (b.at a (.code c :: .inLoop c :: k)) cs w) b k cs e a' w' := by
    intro m
    induction m using Nat.strongRecOn with
    | _ m ih =>
      intro a w hI
      obtain ⟨e, a₁, w₁, hq, harr⟩ := round m a w hI b (.inLoop c :: k) cs
      cases e with
      | normal =>
        obtain ⟨k', hlt, hI₁⟩ := hq
        obtain ⟨e₂, a₂, w₂, hq₂, harr₂⟩ := ih k' hlt a₁ w₁ hI₁
        exact ⟨e₂, a₂, w₂, hq₂, .of_steps (Steps.trans harr (.one step_inLoop)) harr₂⟩
      | exit id => exact ⟨_, a₁, w₁, hq, .pass (x := .inLoop c) rfl (fun _ _ => .inl (by simp)) harr⟩
      | goto l => exact ⟨_, a₁, w₁, hq, .pass (x := .inLoop c) rfl (fun _ _ => .inl (by simp)) harr⟩
      | ret => exact ⟨_, a₁, w₁, hq, .pass (x := .inLoop c) rfl (fun _ _ => .inl (by simp)) harr⟩
      | panic ch => exact ⟨_, a₁, w₁, hq, .pass (x := .inLoop c) rfl (fun _ _ => .inl (by simp)) harr⟩
      | outgrown => exact ⟨_, a₁, w₁, hq, .pass (x := .inLoop c) rfl (fun _ _ => .inl (by simp)) harr⟩
  obtain ⟨e, a', w', hq, harr⟩ := key m a w h0
  exact ⟨e, a', w', hq, .of_steps (.one step_loop) harr⟩

/-! ## A function's beginning and end -/

def zipG : List Value → Nat → GL
  | [], _ => []
  | v :: vs, i => (i, .v v) :: zipG vs (i + 1)

theorem zipG_get {vs : List Value} {i : Nat} {p : Nat × AV} (h : p ∈ zipG vs i) : ∃ j v, p = (i + j, .v v) ∧ vs[j]? = some v := by
  induction vs generalizing i with
  | nil => simp [zipG] at h
  | cons v vs ih =>
    simp only [zipG, List.mem_cons] at h
    rcases h with rfl | h
    · exact ⟨0, v, rfl, rfl⟩
    · obtain ⟨j, u, rfl, hu⟩ := ih h
      exact ⟨j + 1, u, by rw [Nat.add_assoc, Nat.add_comm 1 j], hu⟩

theorem enter_ok {f : FuncId} {fn : Func} {c : Code} {vs : List Value} {R : Value → World → Prop} {ok : Ok} {n : Nat} (hok : ∀ b o, ok b o → b < w.heap.size)
    (hf : P.funcs[f]? = some fn) (hb : fn.body = some c) (hn : fn.ntmps = n) (hle : Nat.ble vs.length n = true) {D : List DF} (hD : AllD ok w D)
    (h : ∀ a, Sb (fun _ => 0) (cx n ok w) (zipG vs 0) D [] [] a w → c.wp P (bodyPost P fn (Ret w R)) a w) : Calls P f ⟨vs⟩ w (Ret w R) := by
  refine calls_of_wp hf hb (h _ ?_)
  have hle' := Nat.le_of_ble_eq_true hle
  refine { sz := by simp [hn]; omega, df := rfl, fr := by simp, pn := by simp, tm := ?_, bel := BelowL.refl _ _ _, dat := hD.weak fun b o hbo => ⟨.inl hbo, hok b o hbo, by simp, by simp⟩, obj := by simp, own := by simp, dHH := by simp, dHO := by simp, dOO := List.Pairwise.nil }
  intro p hp
  obtain ⟨j, v, rfl, hv⟩ := zipG_get hp
  have hj := (List.getElem?_eq_some_iff.1 hv).1
  simp only [Nat.zero_add, den_v]
  rw [Array.getElem?_append_left (by simpa using hj)]
  simpa using hv

/-- The cells that stay put for a caller, of those that do in the walk. -/
theorem okOf_out (h : Sb β X G D H O a w) (hok : ∀ b o, X.ok b o → b < X.w.heap.size) : ∀ b o, okOf X.ok X.w.heap.size β H O w b o → okx X.ok X.w w b o := by
  rintro b o ⟨h1 | h1, h2, _⟩
  · exact .inl h1
  · exact .inr ⟨h1, h2⟩

def resV (G : GL) : List ResultVar → Option (List Value)
  | [] => some []
  | .tmp t :: rs => match lookN G t, resV G rs with
    | some (.v v), some vs => some (v :: vs)
    | _, _ => none
  | _ => none

/-- One result. -/
theorem ret1_ok (h : Sb β X G D H O a w) {fn : Func} {t : Nat} {v : Value} (hr : fn.results = ⟨[.tmp t]⟩) (hv : lookN G t = some (.v v)) {R : Value → World → Prop} (hR : R v w) :
    bodyPost P fn (RetL X.lent X.w R) .ret a w := by
  refine ⟨h.df, v, ?_, v, rfl, hR, h.bel⟩
  have := h.tm _ (lookN_mem hv)
  simp only [den_v] at this
  simp [results, hr, this]

theorem ret2_ok (h : Sb β X G D H O a w) {fn : Func} {t u : Nat} {v x : Value} (hr : fn.results = ⟨[.tmp t, .tmp u]⟩) (hv : lookN G t = some (.v v)) (hx : lookN G u = some (.v x)) {R : Value → World → Prop}
    (hR : R (.tuple ⟨[v, x]⟩) w) : bodyPost P fn (RetL X.lent X.w R) .ret a w := by
  refine ⟨h.df, _, ?_, _, rfl, hR, h.bel⟩
  have h1 := h.tm _ (lookN_mem hv)
  have h2 := h.tm _ (lookN_mem hx)
  simp only [den_v] at h1 h2
  simp [results, hr, h1, h2]

theorem ret3_ok (h : Sb β X G D H O a w) {fn : Func} {t u s : Nat} {v x y : Value} (hr : fn.results = ⟨[.tmp t, .tmp u, .tmp s]⟩) (hv : lookN G t = some (.v v)) (hx : lookN G u = some (.v x)) (hy : lookN G s = some (.v y)) {R : Value → World → Prop}
    (hR : R (.tuple ⟨[v, x, y]⟩) w) : bodyPost P fn (RetL X.lent X.w R) .ret a w := by
  refine ⟨h.df, _, ?_, _, rfl, hR, h.bel⟩
  have h1 := h.tm _ (lookN_mem hv)
  have h2 := h.tm _ (lookN_mem hx)
  have h3 := h.tm _ (lookN_mem hy)
  simp only [den_v] at h1 h2 h3
  simp [results, hr, h1, h2, h3]
end
end Gd
namespace Gd
open Go Go.RowKit
section
variable {P : Program} {T : Tab} {β : Nat → Nat} {X : Cx} {G : GL} {D : List DF} {H : HL} {O : List TL} {a : Act} {w w' : World}

/-! ## Contexts: what is known of the way on -/

theorem seq_region (hT : TabOk P T) (h : Sb β X G D H O a w) {id : Nat} {Q : Exit → Act → World → Prop} {l : List Oper} {y : Code} (gs hs : List Nat) (G' : GL) (H' : HL)
    (he : evalS T ⟨l⟩ X l G H gs hs = some (G', H')) (hk : ∀ β' a' w', Sb β' X G' D H' O a' w' → y.wp P Q a' w') : (Code.seq (.region id ⟨l⟩ false) y).wp P Q a w :=
  wp_seq (evalR_ok hT h gs hs G' H' he hk)

theorem seq_list {id : Nat} {Q : Exit → Act → World → Prop} {l : List Oper} {y : Code} (h : ∀ Q', (∀ a w, y.wp P Q a w → Q' Exit.normal a w) → wpList P ⟨l⟩ Q' l a w) : (Code.seq (.region id ⟨l⟩ false) y).wp P Q a w :=
  wp_seq (wp_region_list (h _ fun _ _ h => h))

theorem seq_ctx {x y : Code} {Q : Exit → Act → World → Prop} (h : ∀ Q', (∀ a w, y.wp P Q a w → Q' Exit.normal a w) → (∀ a w, Q .ret a w → Q' Exit.ret a w) → (∀ i a w, Q (.exit i) a w → Q' (Exit.exit i) a w) → x.wp P Q' a w) :
    (Code.seq x y).wp P Q a w := wp_seq (h _ (fun _ _ h => h) (fun _ _ h => h) (fun _ _ _ h => h))

theorem block_ctx {id : Nat} {c : Code} {Q : Exit → Act → World → Prop} (h : ∀ Q', (∀ a w, Q .normal a w → Q' Exit.normal a w) → (∀ a w, Q .ret a w → Q' Exit.ret a w) → (∀ a w, Q .normal a w → Q' (Exit.exit id) a w) →
    (∀ i a w, i ≠ id → Q (.exit i) a w → Q' (Exit.exit i) a w) → c.wp P Q' a w) : (Code.block id c).wp P Q a w :=
  wp_block (h _ (fun _ _ h => h) (fun _ _ h => h) (fun _ _ h => by simpa [Exit.inBlock] using h) (fun i _ _ hi h => by simpa [Exit.inBlock, hi] using h))

theorem loop_ctx {c : Code} {Q : Exit → Act → World → Prop} (I : Nat → Act → World → Prop) (m : Nat) (h0 : I m a w)
    (h : ∀ Q' m a w, I m a w → (∀ k a' w', k < m → I k a' w' → Q' Exit.normal a' w') → (∀ a w, Q .ret a w → Q' Exit.ret a w) → (∀ i a w, Q (.exit i) a w → Q' (Exit.exit i) a w) → c.wp P Q' a w) : (Code.loop c).wp P Q a w :=
  wp_loop_fuel I m h0 fun m a w hI => h _ m a w hI (fun k _ _ hk hi => ⟨k, hk, hi⟩) (fun _ _ h => h) (fun _ _ _ h => h)

theorem start_ctx {c : Code} {fn : Func} {R : Ending → World → Prop} (h : ∀ Q', (∀ a w, bodyPost P fn R .ret a w → Q' Exit.normal a w) → (∀ a w, bodyPost P fn R .ret a w → Q' Exit.ret a w) → c.wp P Q' a w) :
    c.wp P (bodyPost P fn R) a w := h _ (fun _ _ h => h) (fun _ _ h => h)

theorem Sb.reb (h : Sb β X G D H O a w) {t : Nat} {e b : Bool} (hg : lookN G t = some (.v (.bool e))) (he : e = b) : Sb β X (setN G t (.v (.bool b))) D H O a w := by
  subst he
  refine h.lessG fun p hp => ?_
  simp only [setN, List.mem_cons] at hp
  rcases hp with rfl | hp
  · exact lookN_mem hg
  · exact (remN_mem hp).1
end

/-! ## The words of the functions -/

def idx {α : Type} (xs : List α) (i : Int) : Option α := if 0 ≤ i then xs[i.toNat]? else none
theorem idx_ok {α : Type} {xs : List α} {i : Int} {x : α} (h : idx xs i = some x) : 0 ≤ i ∧ xs[i.toNat]? = some x := by
  unfold idx at h
  split at h
  · exact ⟨by assumption, h⟩
  · cases h
/-- A byte of a string, as a number. -/
def sidx (s : Str) (i : Int) : Option Int := (idx s i).map fun c => (c.toNat : Int)
theorem sidx_ok {s : Str} {i : Int} {x : Int} (h : sidx s i = some x) : 0 ≤ i ∧ ∃ c, s[i.toNat]? = some c ∧ x = (c.toNat : Int) := by
  obtain ⟨c, hc, rfl⟩ := Option.map_eq_some_iff.1 h
  exact ⟨(idx_ok hc).1, c, (idx_ok hc).2, rfl⟩

theorem bindE {α β : Type} {o : Option α} {f : α → Option β} {r : β} (h : o.bind f = some r) : ∃ x, o = some x ∧ f x = some r := Option.bind_eq_some_iff.1 h
theorem ifT {α : Type} {b : Bool} {x y z : α} (hb : b = true) (h : (if b = true then x else y) = z) : x = z := by rwa [if_pos hb] at h
theorem ifF {α : Type} {b : Bool} {x y z : α} (hb : b = false) (h : (if b = true then x else y) = z) : y = z := by rwa [if_neg (by rw [hb]; simp)] at h

theorem slNil {τ : Type} {r : RT τ} {ok : Ok} {w : World} : isV (rSl r) ok w [] (.slice none 0 0) := isV_sl.2 ⟨none, 0, 0, rfl, rfl, Nat.le_refl _, fun h => absurd h (by omega)⟩
/-- The form of a slice's value. -/
theorem slForm {τ : Type} {r : RT τ} {ok : Ok} {w : World} {xs : List τ} {v : Value} (h : isV (rSl r) ok w xs v) : ∃ A c, v = .slice A xs.length c ∧ isV (rSl r) ok w xs (.slice A xs.length c) := by
  obtain ⟨A, n, c, rfl, hl, r⟩ := isV_sl.1 h
  subst hl
  exact ⟨A, c, rfl, h⟩
end Gd

/- Results that are rows of the caller's own; local arrays; objects that are no longer written; function values. -/
import Derived.Test.YtnlnadfpfekeiaaDoorGExtra
namespace Gd
open Go Go.RowKit
set_option linter.unusedVariables false
set_option linter.unusedSimpArgs false

theorem okOf_lt {ok : Ok} {B : Nat} {β : Nat → Nat} {H : HL} {O : List TL} {w : World} : ∀ b o, okOf ok B β H O w b o → b < w.heap.size := fun _ _ h => h.2.1

/-- A result that is a row of its own, which may be appended to. -/
def R1o {τ : Type} (r : RT τ) (e s : Nat) (ok : Ok) (w : World) (y : τ) : Value → World → Prop := fun v w' =>
  isV r (fun b o => okx ok w w' b o ∧ ¬ (tl v e s).cov b o) w' y v ∧ (∃ xs, w'.ownsRowS 0 e s v (lenV v) xs) ∧ ∀ g, v.ownBlock = some g → w.heap.size ≤ g

theorem R1o_R1 {τ : Type} {r : RT τ} {e s : Nat} {ok : Ok} {w : World} {y : τ} {v : Value} {w' : World} (h : R1o r e s ok w y v w') : R1 r ok w y v w' := h.1.weak fun _ _ hk => hk.1

theorem Calls.own1 {P : Program} {f : FuncId} {args : Array Value} {τ : Type} {r : RT τ} {e s : Nat} {ok : Ok} {w : World} {y : τ} (h : Calls P f args w (Ret w (R1o r e s ok w y))) : Calls P f args w (Ret w (R1 r ok w y)) :=
  h.mono fun _ _ ⟨v, h1, h2, h3⟩ => ⟨v, h1, R1o_R1 h2, h3⟩

section
variable {P : Program} {T : Tab} {β : Nat → Nat} {X : Cx} {G : GL} {D : List DF} {H : HL} {O : List TL} {a : Act} {w w' : World}
variable {ops : Array Oper} {Q : Exit → Act → World → Prop} {rest : List Oper}

/-- The end of a function whose result is a row of its own: the state has it among the tails. -/
theorem own_out (h : Sb β X G D H O a w) (hok : ∀ b o, X.ok b o → b < X.w.heap.size) (hL : X.lent = []) {e s : Nat} {v : Value} (hm : tl v e s ∈ O) {τ : Type} {r : RT τ} {y : τ} (hv : isV r (okOf X.ok X.w.heap.size β H O w) w y v) :
    R1o r e s X.ok X.w y v w :=
  ⟨hv.weak fun b o hk => ⟨okOf_out h hok b o hk, hk.2.2.2 _ hm⟩, (h.own _ hm).1, fun g hg => ((h.own _ hm).2 g hg).elim id fun h => by rw [hL] at h; cases h⟩
theorem own_out_nil {e s : Nat} {ok : Ok} {w0 w : World} {τ : Type} {r : RT τ} : R1o (rSl r) e s ok w0 [] (.slice none 0 0) w := ⟨slNil, ⟨[], World.ownsRowS_nil _ _ _ _⟩, fun g hg => by simp [Value.ownBlock] at hg⟩

theorem step_callOwn (h : Sb β X G D H O a w) {f : FuncId} {xs : List Operand} {ts : Array TypeId} {d : Nat} {ps : String} {af : Array Edge} {ty : TypeId} {gd : Option (Nat × Bool)}
    (hg : guardV ops G ⟨some d, .call ⟨.value (.func f), ⟨xs⟩, ts⟩, ty, ps, af, gd⟩ = some true) (hlt : okD X d = true) (hf : Runs P f)
    {vs : List Value} (hvs : evArgs G xs = some vs) {τ : Type} {r : RT τ} {e s : Nat} {ok : Ok} {y : List τ} (hoke : ok = okOf X.ok X.w.heap.size β H O w)
    (hc : Calls P f ⟨vs⟩ w (Ret w (R1o (rSl r) e s ok w y)))
    (hk : ∀ A c a' w', isV (rSl r) (okOf X.ok X.w.heap.size β H (tl (.slice A y.length c) e s :: O) w') w' y (.slice A y.length c) →
      Sb β X (setN G d (.v (.slice A y.length c))) D H (tl (.slice A y.length c) e s :: O) a' w' → wpList P ops Q rest a' w') :
    wpList P ops Q (⟨some d, .call ⟨.value (.func f), ⟨xs⟩, ts⟩, ty, ps, af, gd⟩ :: rest) a w := by
  subst hoke
  refine wpList_go (guardV_ok h hg) ?_
  have hrun : (execOp a.eval ⟨some d, .call ⟨.value (.func f), ⟨xs⟩, ts⟩, ty, ps, af, gd⟩).run P w = .ok (.enter f ⟨vs⟩) w := by
    unfold execOp
    have hm : (Array.mk xs).map a.eval = ⟨vs⟩ := by rw [← evArgs_ok h hvs]; simp
    simp [resolve, hm, Act.eval, Deferred.ofValue, invoke, run_callFunc hf]
  unfold Oper.wp
  rw [hrun]
  refine hc.mono ?_
  rintro e' w' ⟨v, rfl, ⟨hv, hown, hbase⟩, hb⟩
  obtain ⟨A, c, rfl, hsl⟩ := slForm hv
  have hb := hb.nil
  have hS : Sb β X G D H (tl (.slice A y.length c) e s :: O) a w' := h.allocTL hb hbase hown
  refine hk A c _ w' (hsl.weak ?_) (hS.put hlt (.v _))
  rintro b o ⟨hk1, hk2⟩
  have := okx_sub (X := X) hb.size h.bel.size (fun p hp => h.hlt hp) (fun t ht g hg => h.olt ht hg) b o hk1
  obtain ⟨g1, g2, g3, g4⟩ := this
  exact ⟨g1, g2, g3, fun t ht hc => by
    rcases List.mem_cons.1 ht with rfl | ht
    · exact hk2 hc
    · exact g4 t ht hc⟩

/-! ## An object that is no longer written: its cells stay put -/

theorem lookN_remN {α : Type} {l : List (Nat × α)} {t : Nat} : ∀ p ∈ remN l t, p.1 ≠ t := fun p hp => (remN_mem hp).2

def thawV (id : Nat) (p : Value) : AV → AV
  | .o i 0 => bif Nat.beq i id then .v p else .o i 0
  | y => y
theorem den_thaw (β : Nat → Nat) (id : Nat) (y : AV) : den β (thawV id (.pointer (some ⟨β id, 0, none⟩)) y) = den β y := by
  cases y with
  | v x => rfl
  | o i off =>
    cases off with
    | succ k => rfl
    | zero =>
      simp only [thawV]
      cases hb : Nat.beq i id with
      | false => rfl
      | true => have := Nat.eq_of_beq_eq_true hb; subst this; rfl
def thawG (id : Nat) (p : Value) (G : GL) : GL := G.map fun q => (q.1, thawV id p q.2)

/-- The object's address, as a value that stays; the object leaves the list. -/
theorem Sb.thaw (h : Sb β X G D H O a w) {id : Nat} {ob : HB} (ho : lookN H id = some ob) {τ : Type} {r : RT τ} {x : τ} (hr : r.rep (okOf X.ok X.w.heap.size β H O w) w x ob.cs) :
    ∃ p, Sb β X (thawG id p G) (DF.at r x p :: D) (remN H id) O a w ∧ p = .pointer (some ⟨β id, 0, none⟩) := by
  refine ⟨.pointer (some ⟨β id, 0, none⟩), ?_, rfl⟩
  have hm := lookN_mem ho
  have hob := (h.obj _ hm).1
  simp only at hob
  have hok : ∀ b o, okOf X.ok X.w.heap.size β H O w b o → okOf X.ok X.w.heap.size β (remN H id) O w b o := fun b o ⟨h1, h2, h3, h4⟩ => ⟨h1, h2, fun p hp => h3 p (remN_mem hp).1, h4⟩
  refine { sz := h.sz, df := h.df, fr := h.fr, pn := fun f hf p hp => h.pn f hf p (remN_mem hp).1, tm := fun q hq => ?_, bel := h.bel, dat := ⟨⟨β id, 0, ob.cs, rfl, r.weak hr hok, fun j u hu => ⟨⟨X.mine_ok (h.obj _ hm).2 _, heap_lt hob, fun p hp => ?_, fun t ht hc => ?_⟩, ?_⟩⟩, h.dat.weak hok⟩,
           obj := fun p hp => h.obj p (remN_mem hp).1, own := fun t ht => ⟨t.weak (h.own t ht).1 hok, (h.own t ht).2⟩, dHH := fun p hp q hq => h.dHH p (remN_mem hp).1 q (remN_mem hq).1, dHO := fun p hp => h.dHO p (remN_mem hp).1, dOO := h.dOO }
  · obtain ⟨q', hq', rfl⟩ := List.mem_map.1 hq
    rw [den_thaw]
    exact h.tm q' hq'
  · exact h.dHH p (remN_mem hp).1 _ hm (remN_mem hp).2
  · exact h.dHO _ hm t ht (t.cb hc)
  · rw [Nat.zero_add]; simp [World.cell?, hob, hu]

/-! ## Function values -/

/-- A function value of one argument that computes φ, now and later. -/
def fnRep {τ σ : Type} (P : Program) (r : RT τ) (s : RT σ) (ok : Ok) (w : World) (φ : τ → Option σ) (g : Value) : Prop :=
  ∃ f caps, g = .func (.func f) ⟨[]⟩ ⟨caps⟩ ∧ Runs P f ∧ ∀ ok' w', (∀ b o, ok b o → ok' b o) → Evo ok w w' → (∀ b o, ok' b o → b < w'.heap.size) →
    ∀ x v y, isV r ok' w' x v → φ x = some y → Calls P f ⟨v :: caps⟩ w' (Ret w' (R1 s ok' w' y))

theorem fnRep_evo {τ σ : Type} {r : RT τ} {s : RT σ} {ok : Ok} {φ : τ → Option σ} {g : Value} (h : fnRep P r s ok w φ g) (he : Evo ok w w') : fnRep P r s ok w' φ g := by
  obtain ⟨f, caps, rfl, hr, hc⟩ := h
  refine ⟨f, caps, rfl, hr, fun ok' w1 hk he' hlt x v y hx hy => hc ok' w1 hk (he.trans he') hlt x v y hx hy⟩
theorem fnRep_weak {τ σ : Type} {r : RT τ} {s : RT σ} {ok ok1 : Ok} {φ : τ → Option σ} {g : Value} (h : fnRep P r s ok w φ g) (hk : ∀ b o, ok b o → ok1 b o) : fnRep P r s ok1 w φ g := by
  obtain ⟨f, caps, rfl, hr, hc⟩ := h
  exact ⟨f, caps, rfl, hr, fun ok' w1 hk' he hlt x v y hx hy => hc ok' w1 (fun b o hb => hk' b o (hk b o hb)) (he.mono hk) hlt x v y hx hy⟩

/-- Functions as values of a Lean type. -/
def rFn {τ σ : Type} (P : Program) (r : RT τ) (s : RT σ) : RT (τ → Option σ) where
  size := 1
  agg := false
  rep := fun ok w φ cs => ∃ g, cs = [g] ∧ fnRep P r s ok w φ g
  len := by rintro _ _ x cs ⟨g, rfl, _⟩; rfl
  one := fun _ => rfl
  flat := by rintro _ _ x cs ⟨g, rfl, f, caps, rfl, _⟩ d hd; simp at hd; subst hd; rfl
  evo := by rintro ok w w' x cs ⟨g, rfl, h⟩ he; exact ⟨g, rfl, fnRep_evo h he⟩
  weak := by rintro ok ok' w x cs ⟨g, rfl, h⟩ hk; exact ⟨g, rfl, fnRep_weak h hk⟩

theorem isV_fn {τ σ : Type} {r : RT τ} {s : RT σ} {ok : Ok} {φ : τ → Option σ} {g : Value} : isV (rFn P r s) ok w φ g ↔ fnRep P r s ok w φ g := by
  constructor
  · rintro ⟨cs, ⟨g', rfl, h⟩, rfl⟩; exact h
  · intro h; exact ⟨[g], ⟨g, rfl, h⟩, rfl⟩

/-- A call through a function value. -/
theorem step_callFn (h : Sb β X G D H O a w) {fo xo : Operand} {ts : Array TypeId} {d : Nat} {ps : String} {af : Array Edge} {ty : TypeId} {gd : Option (Nat × Bool)}
    (hg : guardV ops G ⟨some d, .call ⟨.value fo, ⟨[xo]⟩, ts⟩, ty, ps, af, gd⟩ = some true) (hlt : okD X d = true)
    {τ σ : Type} {r : RT τ} {s : RT σ} {φ : τ → Option σ} {g v : Value} {x : τ} {y : σ} (hfo : gv G fo = some (.v g)) (hxo : gv G xo = some (.v v))
    (hfn : isV (rFn P r s) (okOf X.ok X.w.heap.size β H O w) w φ g) (hx : isV r (okOf X.ok X.w.heap.size β H O w) w x v) (hy : φ x = some y)
    (hk : ∀ v a' w', R1 s (okOf X.ok X.w.heap.size β H O w) w y v w' → (∀ b o, okx (okOf X.ok X.w.heap.size β H O w) w w' b o → okOf X.ok X.w.heap.size β H O w' b o) → Sb β X (setN G d (.v v)) D H O a' w' → wpList P ops Q rest a' w') :
    wpList P ops Q (⟨some d, .call ⟨.value fo, ⟨[xo]⟩, ts⟩, ty, ps, af, gd⟩ :: rest) a w := by
  obtain ⟨f, caps, rfl, hr, hc⟩ := isV_fn.1 hfn
  refine wpList_go (guardV_ok h hg) ?_
  have hrun : (execOp a.eval ⟨some d, .call ⟨.value fo, ⟨[xo]⟩, ts⟩, ty, ps, af, gd⟩).run P w = .ok (.enter f ⟨v :: caps⟩) w := by
    unfold execOp
    have hm : (Array.mk [xo]).map a.eval = ⟨[v]⟩ := by simp [h.ev hxo, den_v]
    simp only [resolve, hm, h.ev hfo, den_v, Deferred.ofValue, Sem.run_bind, Sem.run_pure, Result.andThen_ok, invoke]
    have : (#[] ++ (⟨[v]⟩ : Array Value)) ++ (⟨caps⟩ : Array Value) = ⟨v :: caps⟩ := by simp
    show (callFunc f ((⟨[]⟩ ++ (⟨[v]⟩ : Array Value)) ++ ⟨caps⟩)).run P w = _
    rw [this]
    exact run_callFunc hr _ _
  unfold Oper.wp
  rw [hrun]
  refine (hc _ _ (fun _ _ h => h) (Evo.refl _ _) okOf_lt x v y hx hy).mono ?_
  rintro e w' ⟨v', rfl, hR, hb⟩
  exact hk v' _ w' hR (okx_sub hb.size h.bel.size (fun p hp => h.hlt hp) (fun t ht g hg => h.olt ht hg)) ((h.below hb.nil).put hlt (.v v'))

/-- A function literal that captures values. -/
theorem step_makeFunc (h : Sb β X G D H O a w) {f : FuncId} {cs : List Operand} {d : Nat} {ps : String} {af : Array Edge} {ty : TypeId} {gd : Option (Nat × Bool)}
    (hg : guardV ops G ⟨some d, .makeFunc (.func f) ⟨[]⟩ ⟨cs⟩, ty, ps, af, gd⟩ = some true) (hlt : okD X d = true) {vs : List Value} (hvs : evArgs G cs = some vs)
    (hk : ∀ a', Sb β X (setN G d (.v (.func (.func f) ⟨[]⟩ ⟨vs⟩))) D H O a' w → wpList P ops Q rest a' w) :
    wpList P ops Q (⟨some d, .makeFunc (.func f) ⟨[]⟩ ⟨cs⟩, ty, ps, af, gd⟩ :: rest) a w := by
  refine step_val h (g := none) hg rfl hlt ?_ hk
  unfold execOp
  have hm : (Array.mk cs).map a.eval = ⟨vs⟩ := by rw [← evArgs_ok h hvs]; simp
  simp only [hm]
  simp [Instr.makeFunc]
end
end Gd

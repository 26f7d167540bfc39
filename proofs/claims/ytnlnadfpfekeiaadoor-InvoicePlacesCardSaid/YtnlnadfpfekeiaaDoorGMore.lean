/- More steps: elements, appends, new slices. -/
import Derived.Test.YtnlnadfpfekeiaaDoorGData
namespace Gd
open Go Go.RowKit
set_option linter.unusedVariables false
set_option linter.unusedSimpArgs false
section
variable {P : Program} {T : Tab} {β : Nat → Nat} {X : Cx} {G : GL} {D : List DF} {H : HL} {O : List TL} {a : Act} {w w' : World}
variable {ops : Array Oper} {Q : Exit → Act → World → Prop} {rest : List Oper} {o : Oper}

theorem step_sidx (hT : TabOk P T) (h : Sb β X G D H O a w) {t : TypeId} {x i : Operand} {d : Nat} {ps : String} {af : Array Edge} {ty : TypeId} {gd : Option (Nat × Bool)}
    (hg : guardV ops G ⟨some d, .index t x i, ty, ps, af, gd⟩ = some true) (hlt : okD X d = true)
    {s : Str} {ki : IntKind} {j y : Int}
    (hx : gv G x = some (.v (strV s))) (hi : gv G i = some (.v (.int ki j))) (hs : sidx s j = some y)
    {te : TE} (ht : lookT T t = some te) (htd : te.d = .string)
    (hk : ∀ a', Sb β X (setN G d (.v (.int .u8 y))) D H O a' w → wpList P ops Q rest a' w) : wpList P ops Q (⟨some d, .index t x i, ty, ps, af, gd⟩ :: rest) a w := by
  obtain ⟨hj, c, hc, rfl⟩ := sidx_ok hs
  exact step_strIndex hT h hg hlt hx hi hj hc ht htd hk

theorem step_idx (hT : TabOk P T) (h : Sb β X G D H O a w) (k : Nat) {t : TypeId} {x i : Operand} {d : Nat} {ps : String} {af : Array Edge} {ty : TypeId} {gd : Option (Nat × Bool)}
    (hg : guardV ops G ⟨some d, .indexAddr t x i, ty, ps, af, gd⟩ = some true) (hlt : okD X d = true)
    {τ : Type} {r : RT τ} {xs : List τ} {A : Option Addr} {m c : Nat} {ki : IntKind} {j : Int} {y : τ}
    (hD : D[k]? = some (DF.v (rSl r) xs (.slice A m c))) (hx : gv G x = some (.v (.slice A m c))) (hi : gv G i = some (.v (.int ki j)))
    (hy : idx xs j = some y) {e : TypeId} {te ee : TE} (ht : lookT T t = some te) (htd : te.d = .slice e) (he : lookT T e = some ee) (hs : ee.size = r.size)
    (hk : ∀ p a', Sb β X (setN G d (.v p)) (DF.at r y p :: D) H O a' w → wpList P ops Q rest a' w) : wpList P ops Q (⟨some d, .indexAddr t x i, ty, ps, af, gd⟩ :: rest) a w :=
  step_index hT h k hg hlt hD hx hi (idx_ok hy).1 (idx_ok hy).2 ht htd he hs hk
end
end Gd
namespace Gd
open Go Go.RowKit
/-- What a call returns: one value, two, three. -/
def R1 {τ : Type} (r : RT τ) (ok : Ok) (w : World) (y : τ) : Value → World → Prop := fun v w' => isV r (okx ok w w') w' y v
def R2 {τ σ : Type} (r : RT τ) (s : RT σ) (ok : Ok) (w : World) (y : τ × σ) : Value → World → Prop := fun v w' => ∃ v1 v2, v = .tuple ⟨[v1, v2]⟩ ∧ isV r (okx ok w w') w' y.1 v1 ∧ isV s (okx ok w w') w' y.2 v2
def R3 {τ σ ρ : Type} (r : RT τ) (s : RT σ) (q : RT ρ) (ok : Ok) (w : World) (y : τ × σ × ρ) : Value → World → Prop :=
  fun v w' => ∃ v1 v2 v3, v = .tuple ⟨[v1, v2, v3]⟩ ∧ isV r (okx ok w w') w' y.1 v1 ∧ isV s (okx ok w w') w' y.2.1 v2 ∧ isV q (okx ok w w') w' y.2.2 v3
theorem bcases {p : Prop} {b : Bool} (ht : b = true → p) (hf : b = false → p) : p := by cases b; exact hf rfl; exact ht rfl
end Gd
namespace Gd
open Go Go.RowKit
section
variable {P : Program} {T : Tab} {β : Nat → Nat} {X : Cx} {G : GL} {D : List DF} {H : HL} {O : List TL} {a : Act} {w w' : World}
variable {ops : Array Oper} {Q : Exit → Act → World → Prop} {rest : List Oper} {o : Oper}
theorem wpl_end (h : Q .normal a w) : wpList P ops Q [] a w := h
theorem then_n {J : Act → World → Prop} (h : J a w) : Exit.then J Q .normal a w := h
theorem seq_join {x y : Code} {J : Act → World → Prop} (hy : ∀ a w, J a w → y.wp P Q a w) (hx : x.wp P (Exit.then J Q) a w) : (Code.seq x y).wp P Q a w := wp_seq_join J hy hx

/-- A nil slice is a row of the call's own. -/
theorem Sb.addNil (h : Sb β X G D H O a w) (e s : Nat) : Sb β X G D H (tl (.slice none 0 0) e s :: O) a w where
  sz := h.sz
  df := h.df
  fr := h.fr
  pn := h.pn
  tm := h.tm
  bel := h.bel
  dat := h.dat.weak fun b o ⟨h1, h2, h3, h4⟩ => ⟨h1, h2, h3, fun t ht => by
    rcases List.mem_cons.1 ht with rfl | ht
    · intro hc; have := hc.1; simp [Value.ownBlock] at this
    · exact h4 t ht⟩
  obj := h.obj
  own := fun t ht => by
    rcases List.mem_cons.1 ht with rfl | ht
    · exact ⟨⟨[], World.ownsRowS_nil _ _ _ _⟩, fun g hg => by simp [tl, Value.ownBlock] at hg⟩
    · refine ⟨t.weak (h.own t ht).1 fun b o ⟨h1, h2, h3, h4⟩ => ⟨h1, h2, h3, fun u hu => ?_⟩, (h.own t ht).2⟩
      rcases List.mem_cons.1 hu with rfl | hu
      · intro hc; have := hc.1; simp [Value.ownBlock] at this
      · exact h4 u hu
  dHH := h.dHH
  dHO := fun p hp t ht => by
    rcases List.mem_cons.1 ht with rfl | ht
    · simp [tl, Value.ownBlock]
    · exact h.dHO p hp t ht
  dOO := List.Pairwise.cons (fun t _ g hg => by simp [tl, Value.ownBlock] at hg) h.dOO

theorem Sb.dropO (h : Sb β X G D H O a w) (k : Nat) : Sb β X G D H (O.eraseIdx k) a w where
  sz := h.sz
  df := h.df
  fr := h.fr
  pn := h.pn
  tm := h.tm
  bel := h.bel
  dat := h.dat.weak fun _ _ ⟨h1, h2, h3, h4⟩ => ⟨h1, h2, h3, fun t ht => h4 t (List.mem_of_mem_eraseIdx ht)⟩
  obj := h.obj
  own := fun t ht => ⟨t.weak (h.own t (List.mem_of_mem_eraseIdx ht)).1 fun _ _ ⟨h1, h2, h3, h4⟩ => ⟨h1, h2, h3, fun t ht => h4 t (List.mem_of_mem_eraseIdx ht)⟩, (h.own t (List.mem_of_mem_eraseIdx ht)).2⟩
  dHH := h.dHH
  dHO := fun p hp t ht => h.dHO p hp t (List.mem_of_mem_eraseIdx ht)
  dOO := h.dOO.sublist (List.eraseIdx_sublist O k)
end
end Gd

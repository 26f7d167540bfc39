/- Steps of a walk that read data, call, append. -/
import Derived.Test.YtnlnadfpfekeiaaDoorGSeq
namespace Gd
open Go Go.RowKit
set_option linter.unusedVariables false
set_option linter.unusedSimpArgs false
section
variable {P : Program} {T : Tab} {β : Nat → Nat} {X : Cx} {G : GL} {D : List DF} {H : HL} {O : List TL} {a : Act} {w w' : World}
theorem Sb.d (h : Sb β X G D H O a w) (i : Nat) {d : DF} (hi : D[i]? = some d) : d.p (okOf X.ok X.w.heap.size β H O w) w := h.dat.get hi
theorem Sb.addD (h : Sb β X G D H O a w) {d : DF} (hd : d.p (okOf X.ok X.w.heap.size β H O w) w) : Sb β X G (d :: D) H O a w := { h with dat := ⟨hd, h.dat⟩ }
section steps
variable {ops : Array Oper} {Q : Exit → Act → World → Prop} {rest : List Oper} {o : Oper}
theorem step_val (h : Sb β X G D H O a w) {g : Option (Nat × Bool)} (hg : guardV ops G o = some true) {d : Nat} (hd : o.dst = some d) (hlt : okD X d = true) {v : Value}
    (hr : (execOp a.eval o).run P w = .ok (.value v) w) (hk : ∀ a', Sb β X (setN G d (.v v)) D H O a' w → wpList P ops Q rest a' w) : wpList P ops Q (o :: rest) a w := by
  refine wpList_go (guardV_ok h hg) (wp_value hr ?_)
  rw [hd]
  exact hk _ (h.put hlt (.v v))
theorem slRep_at {τ : Type} {r : RT τ} {ok : Ok} {w : World} {xs : List τ} {A : Option Addr} {m c : Nat} (h : slRep r ok w xs (.slice A m c)) {i : Nat} {x : τ} (hx : xs[i]? = some x) :
    ∃ b o, A = some ⟨b, o, none⟩ ∧ i < m ∧ isAt r ok w x (.pointer (some ⟨b, o + i * r.size, none⟩)) := by
  obtain ⟨A', m', c', hv, hl, hc, hn⟩ := h
  injection hv with e1 e2 e3
  subst e1; subst e2; subst e3
  have hi : i < m := by rw [← hl]; exact (List.getElem?_eq_some_iff.1 hx).1
  obtain ⟨b, o, hA, hcs⟩ := hn (by omega)
  obtain ⟨cs, hr, ha⟩ := hcs i x hx
  exact ⟨b, o, hA, hi, b, _, cs, rfl, hr, ha⟩
def okx (ok : Ok) (w w' : World) : Ok := fun b o => ok b o ∨ (w.heap.size ≤ b ∧ b < w'.heap.size)
def RetL (L : List Nat) (w : World) (R : Value → World → Prop) : Ending → World → Prop := fun e w' => ∃ v, e = .returned v ∧ R v w' ∧ BelowL L w.heap.size w w'
abbrev Ret (w : World) (R : Value → World → Prop) : Ending → World → Prop := RetL [] w R
def Runs (P : Program) (f : FuncId) : Prop := ∃ fn, P.funcs[f]? = some fn ∧ fn.name ≠ "runtime.NumGoroutine" ∧ fn.body.isNone = false
theorem run_callFunc {f : FuncId} (hf : Runs P f) (args : Array Value) (w : World) : (callFunc f args).run P w = .ok (.enter f args) w := by
  obtain ⟨fn, h1, h2, h3⟩ := hf
  have h2' : (fn.name == "runtime.NumGoroutine") = false := by simpa using h2
  obtain ⟨c, hc⟩ : ∃ c, fn.body = some c := by
    cases hb : fn.body with
    | none => rw [hb] at h3; cases h3
    | some c => exact ⟨c, rfl⟩
  simp [callFunc, h1, h2, hc]
end steps
theorem wp_loop_fuel {c : Code} {Q : Exit → Act → World → Prop} (I : Nat → Act → World → Prop) (m : Nat) (h0 : I m a w)
    (round : ∀ m a w, I m a w → c.wp P (Exit.then (fun a' w' => ∃ k, k < m ∧ I k a' w') Q) a w) : (Code.loop c).wp P Q a w := by
  intro b k cs
  have key : ∀ m a w, I m a w → ∃ e a' w', Q e a' w' ∧ Arrives P (lone (b.at a (.code c :: .inLoop c :: k)) cs w) b k cs e a' w' := by
    intro m
    induction m using Nat.strongRecOn with
    | _ m ih =>
      intro a w hI
      obtain ⟨e, a₁, w₁, hq, harr⟩ := round m a w hI b (.inLoop c :: k) cs
      cases e with
      | normal =>
        obtain ⟨k', hlt, hI₁⟩ := hq
        obtain ⟨e₂, a₂, w₂, hq₂, harr₂⟩ := ih k' hlt a₁ w₁ hI₁
        exact ⟨e₂, a₂, w₂, hq₂, .of_steps (Steps.trans harr (.one step_inLoop)) harr₂⟩
      | exit id => exact ⟨_, a₁, w₁, hq, .pass (x := .inLoop c) rfl (fun _ _ => .inl (by simp)) harr⟩
      | goto l => exact ⟨_, a₁, w₁, hq, .pass (x := .inLoop c) rfl (fun _ _ => .inl (by simp)) harr⟩
      | ret => exact ⟨_, a₁, w₁, hq, .pass (x := .inLoop c) rfl (fun _ _ => .inl (by simp)) harr⟩
      | panic ch => exact ⟨_, a₁, w₁, hq, .pass (x := .inLoop c) rfl (fun _ _ => .inl (by simp)) harr⟩
      | outgrown => exact ⟨_, a₁, w₁, hq, .pass (x := .inLoop c) rfl (fun _ _ => .inl (by simp)) harr⟩
  obtain ⟨e, a', w', hq, harr⟩ := key m a w h0
  exact ⟨e, a', w', hq, .of_steps (.one step_loop) harr⟩
def zipG : List Value → Nat → GL
  | [], _ => []
  | v :: vs, i => (i, .v v) :: zipG vs (i + 1)
theorem zipG_get {vs : List Value} {i : Nat} {p : Nat × AV} (h : p ∈ zipG vs i) : ∃ j v, p = (i + j, .v v) ∧ vs[j]? = some v := by
  induction vs generalizing i with
  | nil => simp [zipG] at h
  | cons v vs ih =>
    simp only [zipG, List.mem_cons] at h
    rcases h with rfl | h
    · exact ⟨0, v, rfl, rfl⟩
    · obtain ⟨j, u, rfl, hu⟩ := ih h
      exact ⟨j + 1, u, by rw [Nat.add_assoc, Nat.add_comm 1 j], hu⟩
end
end Gd
namespace Gd
open Go Go.RowKit
section
variable {P : Program} {T : Tab} {β : Nat → Nat} {X : Cx} {G : GL} {D : List DF} {H : HL} {O : List TL} {a : Act} {w w' : World}
end
def idx {α : Type} (xs : List α) (i : Int) : Option α := if 0 ≤ i then xs[i.toNat]? else none
theorem idx_ok {α : Type} {xs : List α} {i : Int} {x : α} (h : idx xs i = some x) : 0 ≤ i ∧ xs[i.toNat]? = some x := by
  unfold idx at h
  split at h
  · exact ⟨by assumption, h⟩
  · cases h
def sidx (s : Str) (i : Int) : Option Int := (idx s i).map fun c => (c.toNat : Int)
theorem sidx_ok {s : Str} {i : Int} {x : Int} (h : sidx s i = some x) : 0 ≤ i ∧ ∃ c, s[i.toNat]? = some c ∧ x = (c.toNat : Int) := by
  obtain ⟨c, hc, rfl⟩ := Option.map_eq_some_iff.1 h
  exact ⟨(idx_ok hc).1, c, (idx_ok hc).2, rfl⟩
theorem bindE {α β : Type} {o : Option α} {f : α → Option β} {r : β} (h : o.bind f = some r) : ∃ x, o = some x ∧ f x = some r := Option.bind_eq_some_iff.1 h
theorem slNil {τ : Type} {r : RT τ} {ok : Ok} {w : World} : isV (rSl r) ok w [] (.slice none 0 0) := isV_sl.2 ⟨none, 0, 0, rfl, rfl, Nat.le_refl _, fun h => absurd h (by omega)⟩
theorem slForm {τ : Type} {r : RT τ} {ok : Ok} {w : World} {xs : List τ} {v : Value} (h : isV (rSl r) ok w xs v) : ∃ A c, v = .slice A xs.length c ∧ isV (rSl r) ok w xs (.slice A xs.length c) := by
  obtain ⟨A, n, c, rfl, hl, r⟩ := isV_sl.1 h
  subst hl
  exact ⟨A, c, rfl, h⟩
end Gd

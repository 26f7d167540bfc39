/- From a statement's arguments to typed values, and back to the statement. -/
import Derived.Test.YtnlnadfpfekeiaaDoorGFlat
import Derived.ProofKit
import Derived.OpenShut
import Derived.Below
import Derived.ChangeSame
namespace Gd
open Go Go.RowKit Go.WideShapes Go.ChangeShapes
set_option linter.unusedVariables false
set_option linter.unusedSimpArgs false
def Opens {τ : Type} (P : Program) (r : RT τ) (t : TypeId) (good : τ → Prop) : Prop :=
  P.cellsOf t = r.size ∧ (∀ {w : World} {rc : Reach} {b : Nat} {v : Value}, Value.okWide P w rc b t v → (r.agg = true → ∃ cs, v = .agg cs) ∧ (r.agg = false → ∃ c, v.cells = #[c] ∧ v = c)) ∧
  ∀ {H : Type} (enc : TypeId × Value → H) (w : World) (n : Nat) (cs : List Value) (x : DataW H × List MemPlace),
    DataW.trod enc P w 0 (fun _ => true) true n t cs = some x → ∃ y, r.rep (lt w) w y cs ∧ good y
def goodI (k : IntKind) (n : Int) : Prop := k.min ≤ n ∧ n ≤ k.max
def goodS (s : Str) : Prop := s.length ≤ maxLen
def goodL {τ : Type} (g : τ → Prop) (l : List τ) : Prop := l.length ≤ maxLen ∧ ∀ x ∈ l, g x
section
variable {P : Program}
theorem opens_int {t : TypeId} {k : IntKind} (ht : P.underlying t = some (.int k)) (hc : P.cellsOf t = 1) : Opens P (rInt k) t (goodI k) := by
  refine ⟨hc, fun hv => ⟨fun h => (nomatch h), fun _ => ?_⟩, fun enc w n cs x h => ?_⟩
  · obtain ⟨n, rfl⟩ := okWide_int ht hv
    exact ⟨_, rfl, rfl⟩
  · obtain ⟨m, rfl, _, hw⟩ := DataW.trod_int ht h
    exact ⟨m, rfl, by simpa [Lit.wf, goodI] using hw⟩
theorem opens_str {t : TypeId} (ht : P.underlying t = some .string) (hc : P.cellsOf t = 1) : Opens P rStr t goodS := by
  refine ⟨hc, fun hv => ⟨fun h => (nomatch h), fun _ => ?_⟩, fun enc w n cs x h => ?_⟩
  · obtain ⟨n, rfl⟩ := okWide_string ht hv
    exact ⟨_, rfl, rfl⟩
  · obtain ⟨s, rfl, _, hs⟩ := DataW.trod_string ht h
    refine ⟨s.data.toList, ?_, by simpa [goodS] using hs⟩
    show [Value.string s] = [strV s.data.toList]
    simp [strV]
theorem opens_sl {τ : Type} {r : RT τ} {t e : TypeId} {g : τ → Prop} (ht : P.underlying t = some (.slice e)) (hc : P.cellsOf t = 1) (he : Opens P r e g) (hpos : 0 < r.size) : Opens P (rSl r) t (goodL g) := by
  refine ⟨hc, fun hv => ⟨fun h => (nomatch h), fun _ => ?_⟩, fun enc w n cs x h => ?_⟩
  · obtain ⟨a, l, c, rfl⟩ := okWide_slice ht hv
    exact ⟨_, rfl, rfl⟩
  · rcases DataW.trod_slice ht h with ⟨rfl, _⟩ | ⟨a, len, cap, elems, rest, m, _, rfl, _, _, hlc, hcm, hel, hall, _⟩
    · exact ⟨[], ⟨_, rfl, none, 0, 0, rfl, rfl, Nat.le_refl _, fun h0 => absurd h0 (by omega)⟩, by simp [goodL]⟩
    · have hsz : P.cellsOf e = r.size := he.1
      have h1 : ∀ i, i < len → ∃ y cs, r.rep (lt w) w y cs ∧ g y ∧ w.cells? 0 (a.add (i * P.cellsOf e)) (P.cellsOf e) = some cs := by
        intro i hi
        have := hall i hi
        obtain ⟨z, hz⟩ : ∃ z, elems[i]? = some z := ⟨elems[i]'(by omega), List.getElem?_eq_getElem (by omega)⟩
        rw [hz] at this
        obtain ⟨cs, hcs, hz2⟩ := Option.bind_eq_some_iff.1 this
        obtain ⟨y, hy, hg⟩ := he.2.2 enc w m cs z hz2
        exact ⟨y, cs, hy, hg, hcs⟩
      have h2 : ∀ k, k ≤ len → ∃ ys : List τ, ys.length = k ∧ ∀ i y, ys[i]? = some y → ∃ cs, r.rep (lt w) w y cs ∧ g y ∧ w.cells? 0 (a.add (i * P.cellsOf e)) (P.cellsOf e) = some cs := by
        intro k
        induction k with
        | zero => exact fun _ => ⟨[], rfl, fun i y h => by simp at h⟩
        | succ k ih =>
          intro hk
          obtain ⟨ys, hl, hys⟩ := ih (by omega)
          obtain ⟨y, cs, hy, hg, hcs⟩ := h1 k (by omega)
          refine ⟨ys ++ [y], by simp [hl], fun i z hz => ?_⟩
          rcases Nat.lt_or_ge i k with hlt | hge
          · rw [List.getElem?_append_left (by omega)] at hz
            exact hys i z hz
          · rw [List.getElem?_append_right (by omega)] at hz
            have : i - ys.length = 0 := by
              rcases Nat.eq_zero_or_pos (i - ys.length) with h | h
              · exact h
              · rw [List.getElem?_eq_none (by simp; omega)] at hz; cases hz
            rw [this] at hz
            simp at hz
            subst hz
            have hik : i = k := by omega
            subst hik
            exact ⟨cs, hy, hg, hcs⟩
      obtain ⟨ys, hl, hys⟩ := h2 len (Nat.le_refl _)
      refine ⟨ys, ⟨_, rfl, some a, len, cap, rfl, hl, hlc, fun h0 => ?_⟩, ⟨by omega, fun y hy => ?_⟩⟩
      · have hsp : a.spot = none := by
          obtain ⟨y, cs, _, _, hcs⟩ := h1 0 h0
          obtain ⟨_, hlen, hcell⟩ := World.cells?_some hcs
          have g0 := hcell 0 (by omega)
          obtain ⟨c0, hc0⟩ : ∃ c0, cs[0]? = some c0 := ⟨cs[0]'(by omega), List.getElem?_eq_getElem (by omega)⟩
          rw [hc0] at g0
          simpa [Addr.add] using World.cell?_spot g0
        obtain ⟨b, o, sp⟩ := a
        simp only at hsp
        subst hsp
        refine ⟨b, o, rfl, fun i y hi => ?_⟩
        obtain ⟨cs, hy, _, hcs⟩ := hys i y hi
        obtain ⟨_, hlen, hcell⟩ := World.cells?_some hcs
        refine ⟨cs, hy, fun j u hu => ?_⟩
        have hj : j < P.cellsOf e := by rw [← hlen]; exact (List.getElem?_eq_some_iff.1 hu).1
        have := hcell j hj
        rw [hu, add_plain, add_plain, hsz] at this
        refine ⟨?_, this⟩
        show b < w.heap.size
        unfold World.cell? at this
        rcases Nat.lt_or_ge b w.heap.size with hlt | hge
        · exact hlt
        · rw [Array.getElem?_eq_none hge] at this; cases this
      · obtain ⟨i, hi⟩ := List.getElem?_of_mem hy
        obtain ⟨_, _, hg, _⟩ := hys i y hi
        exact hg
theorem Opens.fld {τ : Type} {r : RT τ} {t : TypeId} {g : τ → Prop} (ho : Opens P r t g) {H : Type} {enc : TypeId × Value → H} {w : World} {n : Nat} {cs : List Value} {fs : Array Field} {xs : List (DataW H × List MemPlace)}
    (hlen : xs.length = fs.size) (hf : ∀ (i : Nat) (f : Field), fs[i]? = some f → DataW.trod enc P w 0 (fun _ => true) true n f.type ((cs.drop f.offset).take (P.cellsOf f.type)) = xs[i]?)
    (i : Nat) (o : Nat) {f : Field} (hi : fs[i]? = some f) (ht : f.type = t) (hof : f.offset = o) : ∃ y, r.rep (lt w) w y ((cs.drop o).take r.size) ∧ g y := by
  have h1 := hf i f hi
  have hlt := (Array.getElem?_eq_some_iff.1 hi).1
  rw [List.getElem?_eq_getElem (by omega), ht, hof, ho.1] at h1
  exact ho.2.2 enc w n _ _ h1
theorem Opens.arg {τ : Type} {r : RT τ} {t : TypeId} {g : τ → Prop} (ho : Opens P r t g) {H : Type} {enc : TypeId × Value → H} {w : World} {rc : Reach} {b : Nat} {v : Value} {d : DataW H} {ps : List MemPlace}
    (hv : Value.okWide P w rc b t v) (h : DataW.Trod enc P w 0 (fun _ => true) true t v d ps) : ∃ y, isV r (lt w) w y v ∧ g y := by
  obtain ⟨n, hn⟩ := h
  obtain ⟨y, hy, hg⟩ := ho.2.2 enc w n _ _ hn
  refine ⟨y, ⟨_, hy, ?_⟩, hg⟩
  unfold RT.val
  cases ha : r.agg with
  | true =>
    obtain ⟨cs, rfl⟩ := (ho.2.1 hv).1 ha
    simp [Value.cells]
  | false =>
    obtain ⟨c, hc, rfl⟩ := (ho.2.1 hv).2 ha
    rw [hc]; simp
end
section
variable {H : Type} {enc : TypeId × Value → H} {P : Program} {W : World} {base : Nat} {vs : List String}
theorem open1 {t : TypeId} {args : Array Value} {ds gs : List (DataW H)} {before : List MemPlace} {ts : Array TypeId} (hts : ts = #[t])
    (hval : ∀ (j : Nat) t v, ts[j]? = some t → args[j]? = some v → Value.okWide P W .any base t v) (hW : DataW.Whole enc P ts.toList vs false W args.toList ds gs before)
    {τ : Type} {r : RT τ} {g : τ → Prop} (ho : Opens P r t g) : ∃ v y, args = ⟨[v]⟩ ∧ isV r (lt W) W y v ∧ g y := by
  subst hts
  obtain ⟨p, q, hA, _⟩ := hW
  obtain ⟨v0, vs0, d0, ds0, p0, q0, hargs, rfl, rfl, h0, r0⟩ := trodAll_cons hA
  obtain ⟨rfl, rfl, rfl⟩ := trodAll_nil r0
  obtain rfl : args = ⟨[v0]⟩ := by cases args; simp_all
  obtain ⟨y, hy, hg⟩ := ho.arg (hval 0 t v0 rfl rfl) h0
  exact ⟨v0, y, rfl, hy, hg⟩
theorem trodAll_stays (hl : laidOutB P = true) {W' : World} {sp : Nat → Bool} : ∀ {ts : List TypeId} {vs : List Value} {ds : List (DataW H)} {ps : List MemPlace},
    (ts.all fun t => P.readableRec t && decide (t < P.types.size)) = true → DataW.TrodAll enc P W 0 (fun _ => true) true ts vs ds ps → (∀ p ∈ ps, W.sameAt W' p) → (∀ p ∈ ps, sp p.block = true) → DataW.TrodAll enc P W' 0 sp true ts vs ds ps
  | [], [], [], _, _, h, _, _ => h
  | t :: ts, v :: vs, d :: ds, ps, hr, ⟨p, q, h, hs, e⟩, h1, h2 => by
    subst e
    simp only [List.all_cons, Bool.and_eq_true, decide_eq_true_eq] at hr
    exact ⟨p, q, WideElems.Trod_stays hl hr.1.1 hr.1.2 h (fun x hx => h1 x (List.mem_append.2 (.inl hx))) (fun x hx => h2 x (List.mem_append.2 (.inl hx))),
      trodAll_stays hl hr.2 hs (fun x hx => h1 x (List.mem_append.2 (.inr hx))) (fun x hx => h2 x (List.mem_append.2 (.inr hx))), rfl⟩
theorem trodAll_len {w : World} {sp : Nat → Bool} {hd : Bool} : ∀ {ts : List TypeId} {vs : List Value} {ds : List (DataW H)} {ps : List MemPlace}, DataW.TrodAll enc P w base sp hd ts vs ds ps → ds.length = ts.length
  | [], [], [], _, _ => rfl
  | _ :: _, _ :: _, _ :: _, _, ⟨_, _, _, hs, _⟩ => congrArg (· + 1) (trodAll_len hs)
theorem law_post {f : FuncId} {fn : Func} {s : ChangeSpec} {args : Array Value} {ds gs : List (DataW H)} {before : List MemPlace} {tb : TypeId}
    (hres : fn.resultTypes = #[tb]) (hb : P.underlying tb = some .bool) (hv : s.vars = []) (hlaid : laidOutB P = true)
    (hread : (fn.params.toList.all fun t => P.readableRec t && decide (t < P.types.size)) = true)
    (hspec : ∀ d : List (DataW H), d.length = fn.params.size → s.fn H d = { results := [.lit (.bool true)], args := d })
    (hW : DataW.Whole enc P fn.params.toList s.vars false W args.toList ds gs before)
    (hcall : Calls P f args W (Ret W (R1 rBool (lt W) W true))) :
    Calls P f args W fun e W' => ∃ v, e = .returned v ∧ s.post enc P fn false true false false W args v W' := by
  have hW' := hW
  obtain ⟨p, q, hA, hV, rfl, hfz, hnd⟩ := hW
  rw [hv] at hV
  obtain ⟨rfl, rfl⟩ := trodVars_none hV
  have hlen := trodAll_len hA
  have hs : s.fn H (ds ++ []) = { results := [.lit (.bool true)], args := ds } := by
    rw [List.append_nil]; exact hspec ds (by simpa using hlen)
  refine hcall.mono ?_
  rintro e W' ⟨v, rfl, hr, hbel⟩
  have hbel := hbel.nil
  obtain rfl := isV_bool.1 hr
  simp only [List.append_nil] at hW'
  have hlt : ∀ p' ∈ p, p'.block < W.heap.size := fun p' hp => hW'.lt p' hp
  refine ⟨_, rfl, ?_⟩
  refine ⟨ds, [], p, [], p, [], hW', ?_, ?_, ?_, World.keptBut_mono (fun p' hp => ⟨hp, by simpa using hp⟩) (hbel.frame (· ∈ p)), fun h => by cases h⟩
  · rw [hs, hres]
    exact trodAll_mk1 (shut_bool hb _)
  · rw [hs]
    exact trodAll_stays hlaid hread hA (fun x hx => hbel.same (hlt x hx)) (fun x hx => by simpa using hlt x hx)
  · rw [hs, hv]
    rfl
end
end Gd

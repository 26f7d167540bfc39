/- A region whose order is drawn: what each operation gives, whatever the order. -/
import Derived.Test.YtnlnadfpfekeiaaDoorGStrs
import Derived.Orders
namespace Gd
open Go Go.RowKit
set_option linter.unusedVariables false
set_option linter.unusedSimpArgs false
structure FV where
  p : Ok → World → Value → Prop
  evo : ∀ {ok w w' v}, p ok w v → Evo ok w w' → p ok w' v
  weak : ∀ {ok ok' w v}, p ok w v → (∀ b o, ok b o → ok' b o) → p ok' w v
def FV.any : FV := ⟨fun _ _ _ => True, fun h _ => h, fun h _ => h⟩
def FV.rep {τ : Type} (r : RT τ) (x : τ) : FV := ⟨fun ok w v => isV r ok w x v, fun h he => h.evo he, fun h hk => h.weak hk⟩
def FV.at {τ : Type} (r : RT τ) (x : τ) : FV := ⟨fun ok w v => isAt r ok w x v, fun h he => h.evo he, fun h hk => h.weak hk⟩
def AllB (S : Nat → Prop) : Nat → Prop
  | 0 => True
  | n + 1 => AllB S n ∧ S n
theorem AllB.get {S : Nat → Prop} : ∀ {n i : Nat}, AllB S n → i < n → S i
  | n + 1, i, h, hi => by
    rcases Nat.lt_or_ge i n with h1 | h1
    · exact h.1.get h1
    · have : i = n := by omega
      subst this; exact h.2
def predB (l : List Oper) (i j : Nat) : Bool :=
  match l[i]? with
  | some o => o.after.toList.any fun e => Region.binds .any e && Nat.beq e.on j
  | none => false
def behindB (l : List Oper) : Nat → Nat → Nat → Bool
  | 0, _, _ => false
  | f + 1, i, j => match l[i]? with
    | some o => o.after.toList.any fun e => Region.binds .any e && (Nat.beq e.on j || behindB l f e.on j)
    | none => false
def backB (l : List Oper) : Bool := l.zipIdx.all fun (o, i) => o.after.toList.all fun e => !Region.binds .any e || Nat.blt e.on i
def nodupB : List Nat → Bool
  | [] => true
  | d :: ds => notIn ds d && nodupB ds
def isNil : List Nat → Bool
  | [] => true
  | _ => false
section
variable {P : Program} {T : Tab} {β : Nat → Nat} {X : Cx} {G : GL} {D : List DF} {H : HL} {O : List TL} {a : Act} {w w' : World}
def remD : List Nat → Nat → List Nat
  | [], _ => []
  | k :: ks, d => bif Nat.beq k d then remD ks d else k :: remD ks d
theorem filterMap_same {α β : Type} {f f' : α → Option β} : ∀ {l : List α}, (∀ j ∈ l, f' j = f j) → l.filterMap f' = l.filterMap f
  | [], _ => rfl
  | y :: ys, h => by
    simp only [List.filterMap_cons, h y (.head _), filterMap_same fun j hj => h j (.tail _ hj)]
theorem mem_remD {d : Nat} : ∀ {ks : List Nat} {k : Nat}, k ∈ ks → k ≠ d → k ∈ remD ks d
  | q :: ks, k, hk, hne => by
    simp only [remD]
    cases hb : Nat.beq q d with
    | true =>
      have := Nat.eq_of_beq_eq_true hb
      rcases List.mem_cons.1 hk with rfl | hk
      · exact absurd this hne
      · exact mem_remD hk hne
    | false =>
      rcases List.mem_cons.1 hk with rfl | hk
      · exact .head _
      · exact .tail _ (mem_remD hk hne)
theorem nodupB_ok : ∀ {ds : List Nat}, nodupB ds = true → ds.Nodup
  | [], _ => List.Pairwise.nil
  | d :: ds, h => by
    simp only [nodupB, Bool.and_eq_true] at h
    exact List.Pairwise.cons (fun e he hd => notIn_ok h.1 (hd ▸ he)) (nodupB_ok h.2)
theorem ready_iff {l : List Oper} {listed : Array Bool} {i : Nat} : i ∈ Region.ready .any ⟨l⟩ listed ↔
    i < l.length ∧ listed.getD i true = false ∧ ∃ o, l[i]? = some o ∧ ∀ e ∈ o.after.toList, Region.binds .any e = true → listed.getD e.on false = true := by
  simp only [Region.ready, List.mem_filter, List.mem_range, List.size_toArray]
  constructor
  · rintro ⟨h1, h2⟩
    simp only [Bool.and_eq_true, Bool.not_eq_true'] at h2
    refine ⟨h1, h2.1, ?_⟩
    have ho : (⟨l⟩ : Array Oper)[i]? = some l[i] := by simp [h1]
    rw [ho] at h2
    simp only [Option.map_some, Option.getD_some, Array.all_eq_true_iff_forall_mem] at h2
    refine ⟨l[i], by simp [h1], fun e he hb => ?_⟩
    have := h2.2 e (Array.mem_toList_iff.1 he)
    simpa [hb] using this
  · rintro ⟨h1, h2, o, ho, h3⟩
    refine ⟨h1, ?_⟩
    have ho' : (⟨l⟩ : Array Oper)[i]? = some o := by simpa using ho
    simp only [Bool.and_eq_true, Bool.not_eq_true', h2, ho', Option.map_some, Option.getD_some, Array.all_eq_true_iff_forall_mem, true_and]
    intro e he
    cases hb : Region.binds .any e with
    | false => rfl
    | true => simpa using h3 e (Array.mem_toList_iff.2 he) hb
def closed (l : List Oper) (E : Nat → Prop) : Prop := ∀ i o, E i → l[i]? = some o → ∀ e ∈ o.after.toList, Region.binds .any e = true → E e.on
theorem behind_ok {l : List Oper} {E : Nat → Prop} (hc : closed l E) : ∀ (f i j : Nat), behindB l f i j = true → (∀ o, l[i]? = some o → ∀ e ∈ o.after.toList, Region.binds .any e = true → E e.on) → E j
  | 0, _, _, h, _ => by simp [behindB] at h
  | f + 1, i, j, h, hi => by
    simp only [behindB] at h
    split at h
    · rename_i o ho
      obtain ⟨e, he, hb⟩ := List.any_eq_true.1 h
      simp only [Bool.and_eq_true, Bool.or_eq_true] at hb
      have hE := hi o ho e he hb.1
      rcases hb.2 with h1 | h1
      · rw [← Nat.eq_of_beq_eq_true h1]; exact hE
      · exact behind_ok hc f e.on j h1 fun o' ho' => hc _ o' hE ho'
    · cases h
theorem back_ok {l : List Oper} {i : Nat} {o : Oper} (h : backB l = true) (ho : l[i]? = some o) {e : Edge} (he : e ∈ o.after.toList) (hb : Region.binds .any e = true) : e.on < i := by
  have hm : (o, i) ∈ l.zipIdx := by
    rw [List.mem_zipIdx_iff_getElem?]; simpa using ho
  have := List.all_eq_true.1 h _ hm
  have := List.all_eq_true.1 this e he
  simp only [hb, Bool.not_true, Bool.false_or] at this
  exact Nat.lt_of_succ_le (Nat.le_of_ble_eq_true this)
theorem all_listed {l : List Oper} {listed : Array Bool} (hs : listed.size = l.length) (hb : backB l = true) (hr : Region.ready .any ⟨l⟩ listed = []) : ∀ i, i < l.length → listed.getD i false = true := by
  intro i
  induction i using Nat.strongRecOn with
  | _ i ih =>
    intro hi
    cases hl : listed.getD i false with
    | true => rfl
    | false =>
      exfalso
      have : i ∈ Region.ready .any ⟨l⟩ listed := by
        rw [ready_iff]
        refine ⟨hi, ?_, l[i], by simp [hi], fun e he hbe => ?_⟩
        · have h1 : listed.getD i true = listed.getD i false := by simp [Array.getD, hs, hi]
          rw [h1, hl]
        · have hlt := back_ok (o := l[i]) hb (List.getElem?_eq_getElem hi) he hbe
          exact ih e.on hlt (by omega)
      rw [hr] at this
      simp at this
theorem wpOp_of_list {l : List Oper} {Q : Exit → Act → World → Prop} {i : Nat} {o : Oper} {K : Act → World → Prop} (ho : l[i]? = some o) (h : wpList P ⟨l⟩ (Exit.then K Q) [o] a w) : wpOp P ⟨l⟩ Q i K a w := by
  have ho' : (⟨l⟩ : Array Oper)[i]? = some o := by simpa using ho
  unfold wpOp
  rw [ho']
  unfold wpList at h
  simp only
  split
  · rename_i hw
    rw [if_pos hw] at h
    rcases h with h | ⟨h1, h2⟩
    · left
      unfold Oper.wp at *
      generalize (execOp a.eval o).run P w = res at *
      cases res with
      | ok nx w1 =>
        cases nx <;> first
          | exact h
          | exact Calls.mono h (fun e w'' he => by cases e <;> exact he)
          | exact Rows.mono h (fun _ _ he => he)
      | halt x w1 => cases x <;> exact h
    · exact .inr ⟨h1, h2⟩
  · rename_i hw
    rw [if_neg hw] at h
    exact h
theorem wpOp_of_drop {l : List Oper} {Q : Exit → Act → World → Prop} {i : Nat} {o : Oper} (ho : l[i]? = some o) (h : wpList P ⟨l⟩ Q (l.drop i) a w) : wpOp P ⟨l⟩ Q i (wpList P ⟨l⟩ Q (l.drop (i + 1))) a w := by
  have ho' : (⟨l⟩ : Array Oper)[i]? = some o := by simpa using ho
  have hi := (List.getElem?_eq_some_iff.1 ho).1
  rw [List.drop_eq_getElem_cons hi, (List.getElem?_eq_some_iff.1 ho).2] at h
  unfold wpOp
  rw [ho']
  exact h
theorem Sb.perm {O' : List TL} (h : Sb β X G D H O a w) (hp : O.Perm O') : Sb β X G D H O' a w := by
  have hok : ∀ b o, okOf X.ok X.w.heap.size β H O w b o → okOf X.ok X.w.heap.size β H O' w b o := fun b o ⟨h1, h2, h3, h4⟩ => ⟨h1, h2, h3, fun u hu => h4 u (hp.mem_iff.2 hu)⟩
  refine { sz := h.sz, df := h.df, fr := h.fr, pn := h.pn, tm := h.tm, bel := h.bel, dat := h.dat.weak hok, obj := h.obj, own := fun u hu => ⟨u.weak (h.own u (hp.mem_iff.2 hu)).1 hok, (h.own u (hp.mem_iff.2 hu)).2⟩, dHH := h.dHH, dHO := fun p hp' u hu => h.dHO p hp' u (hp.mem_iff.2 hu), dOO := ?_ }
  exact (hp.pairwise_iff (fun {x y} hxy g hg hg2 => hxy g hg2 hg)).1 h.dOO
theorem Sb.getD (h : Sb β X G D H O a w) {d : Nat} {v : Value} (hv : lookN G d = some (.v v)) : a.tmps.getD d undef = v := by
  have := h.tm _ (lookN_mem hv)
  simp only [den_v] at this
  simp [Array.getD_eq_getD_getElem?, this]
end
end Gd

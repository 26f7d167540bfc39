/- A region whose order is drawn: what each operation gives, whatever the order. -/
import Derived.Test.YtnlnadfpfekeiaaDoorGStrs
import Derived.Orders
namespace Gd
open Go Go.RowKit
set_option linter.unusedVariables false
set_option linter.unusedSimpArgs false

/-- A fact on a value. -/
structure FV where
  p : Ok → World → Value → Prop
  evo : ∀ {ok w w' v}, p ok w v → Evo ok w w' → p ok w' v
  weak : ∀ {ok ok' w v}, p ok w v → (∀ b o, ok b o → ok' b o) → p ok' w v

def FV.any : FV := ⟨fun _ _ _ => True, fun h _ => h, fun h _ => h⟩
def FV.eq (u : Value) : FV := ⟨fun _ _ v => v = u, fun h _ => h, fun h _ => h⟩
def FV.rep {τ : Type} (r : RT τ) (x : τ) : FV := ⟨fun ok w v => isV r ok w x v, fun h he => h.evo he, fun h hk => h.weak hk⟩
def FV.at {τ : Type} (r : RT τ) (x : τ) : FV := ⟨fun ok w v => isAt r ok w x v, fun h he => h.evo he, fun h hk => h.weak hk⟩
def FV.tup2 {τ σ : Type} (r : RT τ) (s : RT σ) (y : τ × σ) : FV :=
  ⟨fun ok w v => ∃ v1 v2, v = .tuple ⟨[v1, v2]⟩ ∧ isV r ok w y.1 v1 ∧ isV s ok w y.2 v2, fun ⟨a, b, e, h1, h2⟩ he => ⟨a, b, e, h1.evo he, h2.evo he⟩, fun ⟨a, b, e, h1, h2⟩ he => ⟨a, b, e, h1.weak he, h2.weak he⟩⟩

def FV.tup3 {τ σ υ : Type} (r : RT τ) (s : RT σ) (t : RT υ) (y : τ × σ × υ) : FV :=
  ⟨fun ok w v => ∃ v1 v2 v3, v = .tuple ⟨[v1, v2, v3]⟩ ∧ isV r ok w y.1 v1 ∧ isV s ok w y.2.1 v2 ∧ isV t ok w y.2.2 v3,
   fun ⟨a, b, c, e, h1, h2, h3⟩ he => ⟨a, b, c, e, h1.evo he, h2.evo he, h3.evo he⟩, fun ⟨a, b, c, e, h1, h2, h3⟩ he => ⟨a, b, c, e, h1.weak he, h2.weak he, h3.weak he⟩⟩

/-- A slice of a new block. -/
def FV.slb (n c : Nat) : FV := ⟨fun _ _ v => ∃ b, v = .slice (some ⟨b, 0, none⟩) n c, fun h _ => h, fun h _ => h⟩

/-- An empty slice of a block, without room. -/
def FV.emp {τ : Type} (r : RT τ) (x : τ) : FV :=
  ⟨fun ok w v => (∃ b, v = .slice (some ⟨b, 0, none⟩) 0 0) ∧ isV r ok w x v, fun ⟨h1, h⟩ he => ⟨h1, h.evo he⟩, fun ⟨h1, h⟩ hk => ⟨h1, h.weak hk⟩⟩

def AllB (S : Nat → Prop) : Nat → Prop
  | 0 => True
  | n + 1 => AllB S n ∧ S n
theorem AllB.get {S : Nat → Prop} : ∀ {n i : Nat}, AllB S n → i < n → S i
  | n + 1, i, h, hi => by
    rcases Nat.lt_or_ge i n with h1 | h1
    · exact h.1.get h1
    · have : i = n := by omega
      subst this; exact h.2

/-- Does operation i stand right behind j? -/
def predB (l : List Oper) (i j : Nat) : Bool :=
  match l[i]? with
  | some o => o.after.toList.any fun e => Region.binds .any e && Nat.beq e.on j
  | none => false
/-- Does it stand behind j, over some others? -/
def behindB (l : List Oper) : Nat → Nat → Nat → Bool
  | 0, _, _ => false
  | f + 1, i, j => match l[i]? with
    | some o => o.after.toList.any fun e => Region.binds .any e && (Nat.beq e.on j || behindB l f e.on j)
    | none => false
/-- Edges lead back. -/
def backB (l : List Oper) : Bool := l.zipIdx.all fun (o, i) => o.after.toList.all fun e => !Region.binds .any e || Nat.blt e.on i
/-- From p on each operation stands behind all before it. -/
def finB (l : List Oper) (p : Nat) : Bool := (List.range l.length).all fun k => Nat.blt k p || (List.range k).all fun i => behindB l l.length k i
def dstB (l : List Oper) : List Nat → Nat → Bool
  | [], _ => true
  | d :: ds, i => (match l[i]? with
    | some o => (match o.dst with | some e => Nat.beq e d | none => false)
    | none => false) && dstB l ds (i + 1)
def nodupB : List Nat → Bool
  | [] => true
  | d :: ds => notIn ds d && nodupB ds
def freshB (X : Cx) (G : GL) (ds : List Nat) : Bool := ds.all fun d => Nat.blt d X.n && notIn (G.map (·.1)) d
def isNil : List Nat → Bool
  | [] => true
  | _ => false

section
variable {P : Program} {T : Tab} {β : Nat → Nat} {X : Cx} {G : GL} {D : List DF} {H : HL} {O : List TL} {a : Act} {w w' : World}

/-- What is known of the temporaries of the operations that have been carried out. -/
def doneF (ds : List Nat) (F Fo : List FV) (E : Nat → Prop) (a : Act) : DF where
  p := fun ok w => (∀ (i d : Nat) fv, E i → ds[i]? = some d → F[i]? = some fv → fv.p ok w (a.tmps.getD d undef)) ∧ ∀ (i d : Nat) fv, ¬ E i → ds[i]? = some d → Fo[i]? = some fv → fv.p ok w (a.tmps.getD d undef)
  evo := fun h he => ⟨fun i d fv h1 h2 h3 => fv.evo (h.1 i d fv h1 h2 h3) he, fun i d fv h1 h2 h3 => fv.evo (h.2 i d fv h1 h2 h3) he⟩
  weak := fun h hk => ⟨fun i d fv h1 h2 h3 => fv.weak (h.1 i d fv h1 h2 h3) hk, fun i d fv h1 h2 h3 => fv.weak (h.2 i d fv h1 h2 h3) hk⟩

def remD : List Nat → Nat → List Nat
  | [], _ => []
  | k :: ks, d => bif Nat.beq k d then remD ks d else k :: remD ks d

/-- Which operations give something of the call's own (by its value). -/
def isOwn (W : List (Option (Value → TL))) (i : Nat) : Option (Value → TL) := match W[i]? with
  | some q => q
  | none => none
def ownStep (W : List (Option (Value → TL))) (i d : Nat) (Ox Ox' : List TL) (a' : Act) : Prop :=
  match isOwn W i with
  | some mk => Ox' = mk (a'.tmps.getD d undef) :: Ox
  | none => Ox' = Ox
/-- All of it, behind the region. -/
def ownAll : List (Option (Value → TL)) → List Nat → Act → List TL
  | [], _, _ => []
  | _, [], _ => []
  | some mk :: W, d :: ds, a => mk (a.tmps.getD d undef) :: ownAll W ds a
  | none :: W, _ :: ds, a => ownAll W ds a
/-- What has been made so far. -/
def ownSo (W : List (Option (Value → TL))) (ds : List Nat) (E : Nat → Bool) (a : Act) : List Nat → List TL :=
  List.filterMap fun i => match isOwn W i with
    | some mk => bif E i then some (mk (a.tmps.getD (ds.getD i 0) undef)) else none
    | none => none

theorem filterMap_same {α β : Type} {f f' : α → Option β} : ∀ {l : List α}, (∀ j ∈ l, f' j = f j) → l.filterMap f' = l.filterMap f
  | [], _ => rfl
  | y :: ys, h => by
    simp only [List.filterMap_cons, h y (.head _), filterMap_same fun j hj => h j (.tail _ hj)]
theorem filterMap_one {β : Type} {f f' : Nat → Option β} {i : Nat} {x : β} (h1 : f i = none) (h2 : f' i = some x) : ∀ {l : List Nat}, l.Nodup → i ∈ l → (∀ j ∈ l, j ≠ i → f' j = f j) → (l.filterMap f').Perm (x :: l.filterMap f)
  | y :: ys, hn, hi, h => by
    have hn' := List.nodup_cons.1 hn
    rcases List.mem_cons.1 hi with rfl | hi
    · have : ys.filterMap f' = ys.filterMap f := filterMap_same fun j hj => h j (.tail _ hj) fun e => hn'.1 (e ▸ hj)
      simp only [List.filterMap_cons, h1, h2, this]
      exact List.Perm.refl _
    · have hy : y ≠ i := fun e => hn'.1 (e ▸ hi)
      have ih := filterMap_one h1 h2 hn'.2 hi fun j hj => h j (.tail _ hj)
      simp only [List.filterMap_cons, h y (.head _) hy]
      cases f y with
      | none => exact ih
      | some z => exact (List.Perm.cons z ih).trans (List.Perm.swap x z _)
theorem ownAll_eq (W : List (Option (Value → TL))) (ds : List Nat) (a : Act) : ∀ (k m : Nat), k + m = ds.length → ownAll (W.drop k) (ds.drop k) a = ownSo W ds (fun _ => true) a (List.range' k m)
  | k, 0, h => by
    rw [List.drop_eq_nil_of_le (show ds.length ≤ k by omega)]
    cases W.drop k with
    | nil => simp [ownAll, ownSo]
    | cons q W' => cases q <;> simp [ownAll, ownSo]
  | k, m + 1, h => by
    have hlt : k < ds.length := by omega
    have ih := ownAll_eq W ds a (k + 1) m (by omega)
    have hd : ds.getD k 0 = ds[k] := by rw [List.getD_eq_getElem?_getD, List.getElem?_eq_getElem hlt]; rfl
    rw [List.drop_eq_getElem_cons hlt, List.range'_succ]
    by_cases hw : k < W.length
    · rw [List.drop_eq_getElem_cons hw]
      have hq : isOwn W k = W[k] := by simp [isOwn, hw]
      cases hc : W[k] with
      | none =>
        simp only [ownAll, ownSo, List.filterMap_cons, hq, hc]
        exact ih
      | some mk =>
        simp only [ownAll, ownSo, List.filterMap_cons, hq, hc, cond_true, hd]
        congr 1
    · rw [List.drop_eq_nil_of_le (by omega)]
      rw [List.drop_eq_nil_of_le (by omega)] at ih
      have hq : isOwn W k = none := by simp [isOwn, List.getElem?_eq_none (show W.length ≤ k by omega)]
      have e : ∀ l : List Nat, ownAll [] l a = [] := fun l => by cases l <;> rfl
      rw [e] at ih ⊢
      simp only [ownSo, List.filterMap_cons, hq]
      exact ih

def StepOk (q : List (Option (Value → TL))) (β0 : Nat → Nat) (P : Program) (l : List Oper) (X : Cx) (G : GL) (D : List DF) (H : HL) (O : List TL) (ds : List Nat) (F Fo : List FV) (i : Nat) : Prop :=
  match ds[i]?, F[i]?, l[i]? with
  | some d, some fv, some o =>
    ∀ (β : Nat → Nat) (a : Act) (w : World) (dX : DF) (Ox : List TL) (Q : Exit → Act → World → Prop), Sb β ⟨X.n, X.ok, X.w, remD ds d, a, some β0, X.lent, X.lok⟩ G (dX :: D) H (Ox ++ O) a w →
      (∀ (j e : Nat) (gv : FV), predB l i j = true → ds[j]? = some e → F[j]? = some gv → gv.p (okOf X.ok X.w.heap.size β H (Ox ++ O) w) w (a.tmps.getD e undef)) →
      (∀ (j e : Nat) (gv : FV), predB l j i = true → ds[j]? = some e → Fo[j]? = some gv → gv.p (okOf X.ok X.w.heap.size β H (Ox ++ O) w) w (a.tmps.getD e undef)) →
      (∀ β' a' w' Ox', Sb β' ⟨X.n, X.ok, X.w, remD ds d, a, some β0, X.lent, X.lok⟩ G (dX :: D) H (Ox' ++ O) a' w' → fv.p (okOf X.ok X.w.heap.size β' H (Ox' ++ O) w') w' (a'.tmps.getD d undef) → ownStep q i d Ox Ox' a' → Q .normal a' w') →
      wpList P ⟨l⟩ Q [o] a w
  | _, _, _ => True

theorem mem_remD {d : Nat} : ∀ {ks : List Nat} {k : Nat}, k ∈ ks → k ≠ d → k ∈ remD ks d
  | q :: ks, k, hk, hne => by
    simp only [remD]
    cases hb : Nat.beq q d with
    | true =>
      have := Nat.eq_of_beq_eq_true hb
      rcases List.mem_cons.1 hk with rfl | hk
      · exact absurd this hne
      · exact mem_remD hk hne
    | false =>
      rcases List.mem_cons.1 hk with rfl | hk
      · exact .head _
      · exact .tail _ (mem_remD hk hne)

theorem nodupB_ok : ∀ {ds : List Nat}, nodupB ds = true → ds.Nodup
  | [], _ => List.Pairwise.nil
  | d :: ds, h => by
    simp only [nodupB, Bool.and_eq_true] at h
    exact List.Pairwise.cons (fun e he hd => notIn_ok h.1 (hd ▸ he)) (nodupB_ok h.2)

theorem dstB_ok {l : List Oper} : ∀ {ds : List Nat} {k : Nat}, dstB l ds k = true → ∀ (i d : Nat), ds[i]? = some d → ∃ o, l[k + i]? = some o ∧ o.dst = some d
  | [], k, _, i, d, hd => by simp at hd
  | e :: ds, k, h, i, d, hd => by
    simp only [dstB, Bool.and_eq_true] at h
    cases i with
    | zero =>
      simp at hd; subst hd
      obtain ⟨h1, _⟩ := h
      split at h1
      · rename_i o ho
        split at h1
        · rename_i e' he
          have := Nat.eq_of_beq_eq_true h1
          exact ⟨o, ho, by rw [he, this]⟩
        · cases h1
      · cases h1
    | succ i =>
      obtain ⟨o, ho, hd'⟩ := dstB_ok h.2 i d (by simpa using hd)
      exact ⟨o, by rw [← ho]; congr 1; omega, hd'⟩

theorem ready_iff {l : List Oper} {listed : Array Bool} {i : Nat} : i ∈ Region.ready .any ⟨l⟩ listed ↔
    i < l.length ∧ listed.getD i true = false ∧ ∃ o, l[i]? = some o ∧ ∀ e ∈ o.after.toList, Region.binds .any e = true → listed.getD e.on false = true := by
  simp only [Region.ready, List.mem_filter, List.mem_range, List.size_toArray]
  constructor
  · rintro ⟨h1, h2⟩
    simp only [Bool.and_eq_true, Bool.not_eq_true'] at h2
    refine ⟨h1, h2.1, ?_⟩
    have ho : (⟨l⟩ : Array Oper)[i]? = some l[i] := by simp [h1]
    rw [ho] at h2
    simp only [Option.map_some, Option.getD_some, Array.all_eq_true_iff_forall_mem] at h2
    refine ⟨l[i], by simp [h1], fun e he hb => ?_⟩
    have := h2.2 e (Array.mem_toList_iff.1 he)
    simpa [hb] using this
  · rintro ⟨h1, h2, o, ho, h3⟩
    refine ⟨h1, ?_⟩
    have ho' : (⟨l⟩ : Array Oper)[i]? = some o := by simpa using ho
    simp only [Bool.and_eq_true, Bool.not_eq_true', h2, ho', Option.map_some, Option.getD_some, Array.all_eq_true_iff_forall_mem, true_and]
    intro e he
    cases hb : Region.binds .any e with
    | false => rfl
    | true => simpa using h3 e (Array.mem_toList_iff.2 he) hb

def closed (l : List Oper) (E : Nat → Prop) : Prop := ∀ i o, E i → l[i]? = some o → ∀ e ∈ o.after.toList, Region.binds .any e = true → E e.on

theorem behind_ok {l : List Oper} {E : Nat → Prop} (hc : closed l E) : ∀ (f i j : Nat), behindB l f i j = true → (∀ o, l[i]? = some o → ∀ e ∈ o.after.toList, Region.binds .any e = true → E e.on) → E j
  | 0, _, _, h, _ => by simp [behindB] at h
  | f + 1, i, j, h, hi => by
    simp only [behindB] at h
    split at h
    · rename_i o ho
      obtain ⟨e, he, hb⟩ := List.any_eq_true.1 h
      simp only [Bool.and_eq_true, Bool.or_eq_true] at hb
      have hE := hi o ho e he hb.1
      rcases hb.2 with h1 | h1
      · rw [← Nat.eq_of_beq_eq_true h1]; exact hE
      · exact behind_ok hc f e.on j h1 fun o' ho' => hc _ o' hE ho'
    · cases h

theorem fin_ok {l : List Oper} {p k i : Nat} (h : finB l p = true) (hk : p ≤ k) (hkl : k < l.length) (hi : i < k) : behindB l l.length k i = true := by
  have := List.all_eq_true.1 h k (List.mem_range.2 hkl)
  simp only [Bool.or_eq_true] at this
  rcases this with h1 | h1
  · have := Nat.lt_of_succ_le (Nat.le_of_ble_eq_true h1); omega
  · exact List.all_eq_true.1 h1 i (List.mem_range.2 hi)

theorem back_ok {l : List Oper} {i : Nat} {o : Oper} (h : backB l = true) (ho : l[i]? = some o) {e : Edge} (he : e ∈ o.after.toList) (hb : Region.binds .any e = true) : e.on < i := by
  have hm : (o, i) ∈ l.zipIdx := by
    rw [List.mem_zipIdx_iff_getElem?]; simpa using ho
  have := List.all_eq_true.1 h _ hm
  have := List.all_eq_true.1 this e he
  simp only [hb, Bool.not_true, Bool.false_or] at this
  exact Nat.lt_of_succ_le (Nat.le_of_ble_eq_true this)

/-- If nothing is ready, all has been listed. -/
theorem all_listed {l : List Oper} {listed : Array Bool} (hs : listed.size = l.length) (hb : backB l = true) (hr : Region.ready .any ⟨l⟩ listed = []) : ∀ i, i < l.length → listed.getD i false = true := by
  intro i
  induction i using Nat.strongRecOn with
  | _ i ih =>
    intro hi
    cases hl : listed.getD i false with
    | true => rfl
    | false =>
      exfalso
      have : i ∈ Region.ready .any ⟨l⟩ listed := by
        rw [ready_iff]
        refine ⟨hi, ?_, l[i], by simp [hi], fun e he hbe => ?_⟩
        · have h1 : listed.getD i true = listed.getD i false := by simp [Array.getD, hs, hi]
          rw [h1, hl]
        · have hlt := back_ok (o := l[i]) hb (List.getElem?_eq_getElem hi) he hbe
          exact ih e.on hlt (by omega)
      rw [hr] at this
      simp at this

theorem wpOp_of_list {l : List Oper} {Q : Exit → Act → World → Prop} {i : Nat} {o : Oper} {K : Act → World → Prop} (ho : l[i]? = some o) (h : wpList P ⟨l⟩ (Exit.then K Q) [o] a w) : wpOp P ⟨l⟩ Q i K a w := by
  have ho' : (⟨l⟩ : Array Oper)[i]? = some o := by simpa using ho
  unfold wpOp
  rw [ho']
  unfold wpList at h
  simp only
  split
  · rename_i hw
    rw [if_pos hw] at h
    rcases h with h | ⟨h1, h2⟩
    · left
      unfold Oper.wp at *
      generalize (execOp a.eval o).run P w = res at *
      cases res with
      | ok nx w1 =>
        cases nx <;> first
          | exact h
          | exact Calls.mono h (fun e w'' he => by cases e <;> exact he)
          | exact Rows.mono h (fun _ _ he => he)
      | halt x w1 => cases x <;> exact h
    · exact .inr ⟨h1, h2⟩
  · rename_i hw
    rw [if_neg hw] at h
    exact h

theorem wpOp_of_drop {l : List Oper} {Q : Exit → Act → World → Prop} {i : Nat} {o : Oper} (ho : l[i]? = some o) (h : wpList P ⟨l⟩ Q (l.drop i) a w) : wpOp P ⟨l⟩ Q i (wpList P ⟨l⟩ Q (l.drop (i + 1))) a w := by
  have ho' : (⟨l⟩ : Array Oper)[i]? = some o := by simpa using ho
  have hi := (List.getElem?_eq_some_iff.1 ho).1
  rw [List.drop_eq_getElem_cons hi, (List.getElem?_eq_some_iff.1 ho).2] at h
  unfold wpOp
  rw [ho']
  exact h

/-- What is the call's own, in another order. -/
theorem Sb.perm {O' : List TL} (h : Sb β X G D H O a w) (hp : O.Perm O') : Sb β X G D H O' a w := by
  have hok : ∀ b o, okOf X.ok X.w.heap.size β H O w b o → okOf X.ok X.w.heap.size β H O' w b o := fun b o ⟨h1, h2, h3, h4⟩ => ⟨h1, h2, h3, fun u hu => h4 u (hp.mem_iff.2 hu)⟩
  refine { sz := h.sz, df := h.df, fr := h.fr, pn := h.pn, tm := h.tm, bel := h.bel, dat := h.dat.weak hok, obj := h.obj, own := fun u hu => ⟨u.weak (h.own u (hp.mem_iff.2 hu)).1 hok, (h.own u (hp.mem_iff.2 hu)).2⟩, dHH := h.dHH, dHO := fun p hp' u hu => h.dHO p hp' u (hp.mem_iff.2 hu), dOO := ?_ }
  exact (hp.pairwise_iff (fun {x y} hxy g hg hg2 => hxy g hg2 hg)).1 h.dOO

theorem draw_ruleW (q : List (Option (Value → TL))) (h : Sb β X G D H O a w) {id : Nat} {l : List Oper} {Q : Exit → Act → World → Prop} (hX : isNil X.res = true) (hm : P.follows .mixedOrders = true) (p : Nat) (ds : List Nat) (F Fo : List FV)
    (hlen : Nat.beq ds.length p = true) (hlF : Nat.beq F.length p = true) (hple : Nat.ble p l.length = true)
    (hback : backB l = true) (hfin : finB l p = true) (hdst : dstB l ds 0 = true) (hnd : nodupB ds = true) (hfr : freshB X G ds = true)
    (hold : ∀ (i d : Nat) fv, ds[i]? = some d → Fo[i]? = some fv → fv.p (okOf X.ok X.w.heap.size β H O w) w (a.tmps.getD d undef))
    (hstep : AllB (StepOk q β P l X G D H O ds F Fo) p)
    (hend : ∀ β' a' w', Sb β' {X with pin := some β} G D H (ownAll q ds a' ++ O) a' w' → (∀ (i d : Nat) fv, ds[i]? = some d → F[i]? = some fv → fv.p (okOf X.ok X.w.heap.size β' H (ownAll q ds a' ++ O) w') w' (a'.tmps.getD d undef)) → wpList P ⟨l⟩ Q (l.drop p) a' w') :
    (Code.region id ⟨l⟩ true).wp P Q a w := by
  refine wp_region_any hm ?_
  have hpl := Nat.le_of_ble_eq_true hple
  have hdl := Nat.eq_of_beq_eq_true hlen
  have hFl := Nat.eq_of_beq_eq_true hlF
  have hNd := nodupB_ok hnd
  have hXr : X.res = [] := by
    cases hr : X.res with
    | nil => rfl
    | cons x xs => rw [hr] at hX; simp [isNil] at hX
  have hds : ∀ d ∈ ds, d < X.n ∧ ∀ q ∈ G, q.1 ≠ d := by
    intro d hd
    have := List.all_eq_true.1 hfr d hd
    simp only [Bool.and_eq_true] at this
    refine ⟨Nat.lt_of_succ_le (Nat.le_of_ble_eq_true this.1), fun q hq e => notIn_ok this.2 (List.mem_map.2 ⟨q, hq, e⟩)⟩
  -- the invariant
  let E (listed : Array Bool) : Nat → Prop := fun i => listed.getD i false = true
  let J (listed : Array Bool) (a : Act) (w : World) : Prop := listed.size = l.length ∧ closed l (E listed) ∧
    (((∀ k, p ≤ k → ¬ E listed k) ∧ ∃ β1 Ox, Sb β1 {X with pin := some β} G (doneF ds F Fo (E listed) a :: D) H (Ox ++ O) a w ∧ Ox.Perm (ownSo q ds (fun i => listed.getD i false) a (List.range p))) ∨
     (∃ k, p < k ∧ (∀ i, i < l.length → (E listed i ↔ i < k)) ∧ wpList P ⟨l⟩ Q (l.drop k) a w))
  have hset : ∀ (listed : Array Bool) (i j : Nat), listed.size = l.length → i < l.length → (E (listed.setIfInBounds i true) j ↔ (j = i ∨ E listed j)) := by
    intro listed i j hs hi
    simp only [E, Array.getD_eq_getD_getElem?, Array.getElem?_setIfInBounds, hs]
    by_cases hj : i = j
    · subst hj; simp [hi]
    · have hj' : ¬ j = i := fun e => hj e.symm
      simp [hj, hj']
  have hoe : ∀ (listed : Array Bool) (a : Act) (Ox : List TL), Ox.Perm (ownSo q ds (fun i => listed.getD i false) a (List.range p)) → (∀ i, i < p → E listed i) → Ox.Perm (ownAll q ds a) := by
    intro listed a Ox hI hall
    have e := ownAll_eq q ds a 0 p (by omega)
    simp only [List.drop_zero] at e
    rw [e, ← List.range_eq_range']
    have : ownSo q ds (fun i => listed.getD i false) a (List.range p) = ownSo q ds (fun _ => true) a (List.range p) := by
      unfold ownSo
      refine filterMap_same fun j hj => ?_
      have hj := hall j (List.mem_range.1 hj)
      simp only [E] at hj
      simp only [hj]
    rw [← this]; exact hI
  -- the end
  have hdone : ∀ listed a w, J listed a w → (∀ i, i < l.length → E listed i) → Q .normal a w := by
    rintro listed a w ⟨hs, hc, h1 | ⟨k, hk, hE, hw⟩⟩ hall
    · obtain ⟨hno, β1, Ox, hS, hI⟩ := h1
      have hpm : p = l.length := by
        rcases Nat.lt_or_ge p l.length with hlt | hge
        · exact absurd (hall p hlt) (hno p (Nat.le_refl _))
        · omega
      have hS' : Sb β1 {X with pin := some β} G D H (Ox ++ O) a w := { hS with dat := hS.dat.2 }
      have hpm2 := (hoe listed a Ox hI fun i hi => hall i (by omega)).append_right O
      have := hend β1 a w (hS'.perm hpm2) (fun i d fv hd hf => fv.weak (hS.dat.1.1 i d fv (hall i (by have := (List.getElem?_eq_some_iff.1 hd).1; omega)) hd hf) fun b o ⟨h1, h2, h3, h4⟩ => ⟨h1, h2, h3, fun u hu => h4 u (hpm2.mem_iff.2 hu)⟩)
      rw [hpm, List.drop_length] at this
      exact this
    · have hkl : l.length ≤ k := by
        rcases Nat.lt_or_ge k l.length with hlt | hge
        · have := (hE k hlt).1 (hall k hlt); omega
        · exact hge
      rw [List.drop_eq_nil_of_le hkl] at hw
      exact hw
  have main : ∀ (fuel : Nat) (listed : Array Bool) (a : Act) (w : World), J listed a w → ((List.range l.length).filter fun i => !listed.getD i false).length ≤ fuel → wpAny P .any ⟨l⟩ Q fuel listed a w := by
    intro fuel
    induction fuel with
    | zero =>
      intro listed a w hJ hle
      have hall : ∀ i, i < l.length → E listed i := by
        intro i hi
        cases hl : listed.getD i false with
        | true => exact hl
        | false =>
          have : i ∈ (List.range l.length).filter fun i => !listed.getD i false := List.mem_filter.2 ⟨List.mem_range.2 hi, by rw [hl]; rfl⟩
          have hnil := List.eq_nil_of_length_eq_zero (Nat.le_zero.1 hle)
          rw [hnil] at this; simp at this
      refine ⟨?_, hdone listed a w hJ hall⟩
      apply List.eq_nil_iff_forall_not_mem.2
      intro i hi
      rw [ready_iff] at hi
      have h1 := hall i hi.1
      have h2 := hi.2.1
      simp only [E] at h1
      have h3 : listed.getD i true = listed.getD i false := by simp [Array.getD, hJ.1, hi.1]
      rw [h3, h1] at h2; cases h2
    | succ fuel ih =>
      intro listed a w hJ hle
      refine ⟨fun hr => hdone listed a w hJ (all_listed hJ.1 hback hr), fun i hi => ?_⟩
      rw [ready_iff] at hi
      obtain ⟨hil, hnl, o, ho, hpre⟩ := hi
      obtain ⟨hs, hc, hcase⟩ := hJ
      have hniE : ¬ E listed i := by
        intro hE
        have h3 : listed.getD i true = listed.getD i false := by simp [Array.getD, hs, hil]
        rw [h3] at hnl; simp only [E] at hE; rw [hE] at hnl; cases hnl
      have hcl : closed l (E (listed.setIfInBounds i true)) := by
        intro j oj hj hoj e he hb
        rw [hset listed i _ hs hil] at hj ⊢
        rcases hj with rfl | hj
        · rw [ho] at hoj; injection hoj with hoj; subst hoj
          exact .inr (hpre e he hb)
        · exact .inr (hc j oj hj hoj e he hb)
      have hcnt : ((List.range l.length).filter fun j => !(listed.setIfInBounds i true).getD j false).length ≤ fuel := by
        have hlt : ((List.range l.length).filter fun j => !(listed.setIfInBounds i true).getD j false).length < ((List.range l.length).filter fun j => !listed.getD j false).length := by
          apply filter_lt (x := i)
          · intro j hj
            have := hset listed i j hs hil
            simp only [E] at this
            cases h1 : listed.getD j false with
            | false => rfl
            | true => rw [this.2 (.inr h1)] at hj; cases hj
          · exact List.mem_range.2 hil
          · have := (hset listed i i hs hil).2 (.inl rfl)
            simp only [E] at this; rw [this]; rfl
          · cases h1 : listed.getD i false with
            | true => exact absurd h1 hniE
            | false => rfl
        omega
      rcases hcase with ⟨hno, β1, Ox, hS, hI⟩ | ⟨k, hk, hE, hw⟩
      · rcases Nat.lt_or_ge i p with hip | hip
        · -- one of the first
          obtain ⟨d, hd⟩ : ∃ d, ds[i]? = some d := ⟨ds[i]'(by omega), List.getElem?_eq_getElem (by omega)⟩
          obtain ⟨fv, hf⟩ : ∃ fv, F[i]? = some fv := ⟨F[i]'(by omega), List.getElem?_eq_getElem (by omega)⟩
          obtain ⟨o', ho', hdo⟩ := dstB_ok hdst i d hd
          rw [Nat.zero_add, ho] at ho'
          injection ho' with ho'; subst ho'
          have hdm : d ∈ ds := List.mem_of_getElem? hd
          have hst := hstep.get hip
          simp only [StepOk, hd, hf, ho] at hst
          have hst := hst β1 a w (doneF ds F Fo (E listed) a) Ox
          refine wpOp_of_list ho (hst (Exit.then (wpAny P .any ⟨l⟩ Q fuel (listed.setIfInBounds i true)) Q) ?_ ?_ ?_ ?_)
          · exact { hS with fr := fun _ _ => rfl }
          · intro j e gv hp hj hg
            have hEj : E listed j := by
              simp only [predB, ho] at hp
              obtain ⟨e', he', hb'⟩ := List.any_eq_true.1 hp
              simp only [Bool.and_eq_true] at hb'
              rw [← Nat.eq_of_beq_eq_true hb'.2]
              exact hpre e' he' hb'.1
            exact hS.dat.1.1 j e gv hEj hj hg
          · intro j e gv hp hj hg
            refine hS.dat.1.2 j e gv (fun hEj => hniE ?_) hj hg
            simp only [predB] at hp
            split at hp
            · rename_i oj hoj
              obtain ⟨e', he', hb'⟩ := List.any_eq_true.1 hp
              simp only [Bool.and_eq_true] at hb'
              have := hc j oj hEj hoj e' he' hb'.1
              rwa [Nat.eq_of_beq_eq_true hb'.2] at this
            · cases hp
          · intro β' a' w' Ox' hS' hfv hos
            have hgd : ∀ {j e : Nat}, ds[j]? = some e → j ≠ i → a'.tmps.getD e undef = a.tmps.getD e undef := by
              intro j e hj hji
              have hne : e ≠ d := by
                intro he
                subst he
                have h1 := (List.getElem?_eq_some_iff.1 hj)
                have h2 := (List.getElem?_eq_some_iff.1 hd)
                have hpw := List.pairwise_iff_getElem.1 hNd
                rcases Nat.lt_or_ge j i with hlt | hge
                · exact hpw j i h1.1 h2.1 hlt (h1.2.trans h2.2.symm)
                · exact hpw i j h2.1 h1.1 (by omega) (h2.2.trans h1.2.symm)
              have hfr' := hS'.fr e (mem_remD (List.mem_of_getElem? hj) hne)
              simp only [Array.getD_eq_getD_getElem?]
              rw [hfr']
            have hgD : ds.getD i 0 = d := by rw [List.getD_eq_getElem?_getD, hd]; rfl
            refine ih _ a' w' ⟨by simp [hs], hcl, .inl ⟨fun k hk hEk => ?_, β', Ox', ?_, ?_⟩⟩ hcnt
            case refine_3 =>
              have hsame : ∀ j ∈ List.range p, j ≠ i → (match isOwn q j with | some mk => bif (listed.setIfInBounds i true).getD j false then some (mk (a'.tmps.getD (ds.getD j 0) undef)) else none | none => none) =
                  (match isOwn q j with | some mk => bif listed.getD j false then some (mk (a.tmps.getD (ds.getD j 0) undef)) else none | none => none) := by
                intro j hj hji
                have hjp := List.mem_range.1 hj
                have hdj : ds[j]? = some (ds.getD j 0) := by rw [List.getD_eq_getElem?_getD, List.getElem?_eq_getElem (by omega)]; rfl
                have h1 : (listed.setIfInBounds i true).getD j false = listed.getD j false := by
                  have := hset listed i j hs hil
                  simp only [E] at this
                  cases h2 : listed.getD j false with
                  | true => exact this.2 (.inr h2)
                  | false =>
                    cases h3 : (listed.setIfInBounds i true).getD j false with
                    | false => rfl
                    | true => rcases this.1 h3 with h4 | h4
                              · exact absurd h4 hji
                              · rw [h2] at h4; cases h4
                rw [h1, hgd hdj hji]
              have hnotE : listed.getD i false = false := by
                cases h1 : listed.getD i false with
                | false => rfl
                | true => exact absurd h1 hniE
              have hisE : (listed.setIfInBounds i true).getD i false = true := (hset listed i i hs hil).2 (.inl rfl)
              unfold ownStep at hos
              split at hos
              · rename_i mk hes
                subst hos
                refine (List.Perm.cons _ hI).trans (List.Perm.symm ?_)
                unfold ownSo
                refine filterMap_one (i := i) ?_ ?_ List.nodup_range (List.mem_range.2 hip) hsame
                · simp only [hes, hnotE, cond_false]
                · simp only [hes, hisE, cond_true, hgD]
              · rename_i hes
                subst hos
                refine hI.trans ?_
                unfold ownSo
                rw [filterMap_same fun j hj => ?_]
                · by_cases hji : j = i
                  · subst hji; simp only [hes]
                  · exact (hsame j hj hji).symm
            · rw [hset listed i k hs hil] at hEk
              rcases hEk with rfl | hEk
              · omega
              · exact hno k hk hEk
            · have hdX := hS'.dat.1
              refine { sz := hS'.sz, df := hS'.df, fr := by (show ∀ t ∈ X.res, _; rw [hXr]; simp), pn := hS'.pn, tm := hS'.tm, bel := hS'.bel, dat := ⟨?_, hS'.dat.2⟩, obj := hS'.obj, own := hS'.own, dHH := hS'.dHH, dHO := hS'.dHO, dOO := hS'.dOO }
              refine ⟨?_, fun j e gv hEj hj hg => ?_⟩
              rotate_left
              · rw [hset listed i j hs hil] at hEj
                have hji : j ≠ i := fun e => hEj (.inl e)
                rw [hgd hj hji]
                exact hdX.2 j e gv (fun h => hEj (.inr h)) hj hg
              intro j e gv hEj hj hg
              rw [hset listed i j hs hil] at hEj
              by_cases hji : j = i
              · subst hji
                rw [hd] at hj; injection hj with hj; subst hj
                rw [hf] at hg; injection hg with hg; subst hg
                exact hfv
              · have hEj' : E listed j := hEj.resolve_left hji
                have := hdX.1 j e gv hEj' hj hg
                rw [hgd hj hji]; exact this
        · -- the first of the last
          have hall : ∀ j, j < i → E listed j := fun j hj => behind_ok hc l.length i j (fin_ok hfin hip hil hj) fun o' ho' => by rw [ho] at ho'; injection ho' with ho'; subst ho'; exact hpre
          have hip' : i = p := by
            rcases Nat.lt_or_ge p i with hlt | hge
            · exact absurd (hall p hlt) (hno p (Nat.le_refl _))
            · omega
          subst hip'
          have hS' : Sb β1 {X with pin := some β} G D H (Ox ++ O) a w := { hS with dat := hS.dat.2 }
          have hpm2 := (hoe listed a Ox hI hall).append_right O
          have hw := hend β1 a w (hS'.perm hpm2) (fun j d fv hd hf => fv.weak (hS.dat.1.1 j d fv (hall j (by have := (List.getElem?_eq_some_iff.1 hd).1; omega)) hd hf) fun b o ⟨h1, h2, h3, h4⟩ => ⟨h1, h2, h3, fun u hu => h4 u (hpm2.mem_iff.2 hu)⟩)
          refine wpOp_mono (fun a w hw' => ih _ a w ⟨by simp [hs], hcl, .inr ⟨i + 1, by omega, fun j hj => ?_, hw'⟩⟩ hcnt) (wpOp_of_drop ho hw)
          rw [hset listed i j hs hil]
          constructor
          · rintro (rfl | hEj)
            · omega
            · rcases Nat.lt_or_ge j i with h1 | h1
              · omega
              · exact absurd hEj (hno j h1)
          · intro hlt
            rcases Nat.lt_or_ge j i with h1 | h1
            · exact .inr (hall j h1)
            · exact .inl (by omega)
      · -- one of the last
        have hall : ∀ j, j < i → E listed j := by
          intro j hj
          have hpi : p ≤ i := by
            rcases Nat.lt_or_ge i k with h1 | h1
            · exact absurd ((hE i hil).2 h1) hniE
            · omega
          exact behind_ok hc l.length i j (fin_ok hfin hpi hil hj) fun o' ho' => by rw [ho] at ho'; injection ho' with ho'; subst ho'; exact hpre
        have hik : i = k := by
          rcases Nat.lt_or_ge i k with h1 | h1
          · exact absurd ((hE i hil).2 h1) hniE
          · rcases Nat.lt_or_ge k i with h2 | h2
            · have := (hE k (by omega)).1 (hall k h2); omega
            · omega
        subst hik
        refine wpOp_mono (fun a w hw' => ih _ a w ⟨by simp [hs], hcl, .inr ⟨i + 1, by omega, fun j hj => ?_, hw'⟩⟩ hcnt) (wpOp_of_drop ho hw)
        rw [hset listed i j hs hil, hE j hj]
        constructor
        · rintro (rfl | h1) <;> omega
        · intro h1
          rcases Nat.lt_or_ge j i with h2 | h2
          · exact .inr h2
          · exact .inl (by omega)
  refine main _ _ a _ ⟨by simp, fun i o hE => ?_, .inl ⟨fun k _ hE => ?_, β, [], ?_, ?_⟩⟩ ?_
  · simp only [E] at hE; simp [Array.getD_eq_getD_getElem?, Array.getElem?_replicate] at hE
    split at hE <;> simp at hE
  · simp only [E] at hE; simp [Array.getD_eq_getD_getElem?, Array.getElem?_replicate] at hE
    split at hE <;> simp at hE
  · refine { sz := h.sz, df := h.df, fr := h.fr, pn := fun f hf p _ => (by injection hf with hf; subst hf; rfl), tm := h.tm, bel := h.bel.drew, dat := ⟨?_, h.dat.evo (w' := w.drew) (Evo.of_blocks (Nat.le_refl _) fun _ _ _ => rfl)⟩, obj := h.obj, own := fun t ht => ⟨t.keep (h.own t ht).1 (fun _ _ => rfl) (Evo.of_blocks (Nat.le_refl _) fun _ _ _ => rfl), (h.own t ht).2⟩, dHH := h.dHH, dHO := h.dHO, dOO := h.dOO }
    refine ⟨fun i d fv hE => ?_, fun i d fv _ hd hf => fv.evo (hold i d fv hd hf) (Evo.of_blocks (Nat.le_refl _) fun _ _ _ => rfl)⟩
    simp only [E] at hE; simp [Array.getD_eq_getD_getElem?, Array.getElem?_replicate] at hE
    split at hE <;> simp at hE
  · have : ownSo q ds (fun i => (Array.replicate l.length false).getD i false) a (List.range p) = [] := by
      unfold ownSo
      rw [filterMap_same (f := fun _ => none) fun j hj => ?_]
      · simp
      · have : (Array.replicate l.length false).getD j false = false := by
          simp [Array.getD_eq_getD_getElem?, Array.getElem?_replicate]
          try (split <;> rfl)
        simp only [this, cond_false]
        split <;> rfl
    have e : (⟨l⟩ : Array Oper).size = l.length := rfl
    simp only [e, this]
    exact List.Perm.refl _
  · refine Nat.le_trans (List.length_filter_le _ _) (by simp)
where
  filter_lt {α : Type} {f g : α → Bool} : ∀ {l : List α} {x : α}, (∀ y, f y = true → g y = true) → x ∈ l → f x = false → g x = true → (l.filter f).length < (l.filter g).length
    | y :: ys, x, hfg, hx, h1, h2 => by
      have hle : ∀ zs : List α, (zs.filter f).length ≤ (zs.filter g).length := by
        intro zs
        induction zs with
        | nil => simp
        | cons z zs ih =>
          simp only [List.filter_cons]
          cases hf : f z with
          | true => rw [hfg z hf]; simpa using ih
          | false => cases hg : g z <;> simp <;> omega
      rcases List.mem_cons.1 hx with rfl | hx
      · simp only [List.filter_cons, h1, h2]
        have := hle ys
        simp; omega
      · have := filter_lt hfg hx h1 h2
        simp only [List.filter_cons]
        cases hf : f y with
        | true => rw [hfg y hf]; simpa using this
        | false => cases hg : g y <;> simp <;> omega

def OldF (ok : Ok) (w : World) (a : Act) : List Nat → List FV → Prop
  | d :: ds, fv :: Fo => fv.p ok w (a.tmps.getD d undef) ∧ OldF ok w a ds Fo
  | _, _ => True
theorem old_ok {ok : Ok} : ∀ {ds : List Nat} {Fo : List FV}, OldF ok w a ds Fo → ∀ (i d : Nat) fv, ds[i]? = some d → Fo[i]? = some fv → fv.p ok w (a.tmps.getD d undef)
  | [], _, _, i, d, fv, h1, _ => by simp at h1
  | _ :: _, [], _, i, d, fv, _, h2 => by simp at h2
  | e :: ds, g :: Fo, h, i, d, fv, h1, h2 => by
    cases i with
    | zero => simp at h1 h2; subst h1; subst h2; exact h.1
    | succ i => exact old_ok h.2 i d fv (by simpa using h1) (by simpa using h2)

theorem draw_rule (h : Sb β X G D H O a w) {id : Nat} {l : List Oper} {Q : Exit → Act → World → Prop} (hX : isNil X.res = true) (hm : P.follows .mixedOrders = true) (p : Nat) (ds : List Nat) (F : List FV)
    (hlen : Nat.beq ds.length p = true) (hlF : Nat.beq F.length p = true) (hple : Nat.ble p l.length = true)
    (hback : backB l = true) (hfin : finB l p = true) (hdst : dstB l ds 0 = true) (hnd : nodupB ds = true) (hfr : freshB X G ds = true)
    (hstep : AllB (StepOk [] β P l X G D H O ds F []) p)
    (hend : ∀ β' a' w', Sb β' {X with pin := some β} G D H O a' w' → (∀ (i d : Nat) fv, ds[i]? = some d → F[i]? = some fv → fv.p (okOf X.ok X.w.heap.size β' H O w') w' (a'.tmps.getD d undef)) → wpList P ⟨l⟩ Q (l.drop p) a' w') :
    (Code.region id ⟨l⟩ true).wp P Q a w :=
  draw_ruleW [] h hX hm p ds F [] hlen hlF hple hback hfin hdst hnd hfr (fun i d fv _ hf => by simp at hf) hstep fun β' a' w' hS hf => by
    have e : ownAll [] ds a' = [] := by cases ds <;> rfl
    rw [e] at hS hf
    exact hend β' a' w' hS hf

theorem Sb.learn (h : Sb β X G D H O a w) {d : Nat} (hd : Nat.blt d X.n = true) : Sb β X ((d, .v (a.tmps.getD d undef)) :: G) D H O a w := by
  refine { h with tm := fun p hp => ?_ }
  rcases List.mem_cons.1 hp with rfl | hp
  · have hlt := Nat.lt_of_succ_le (Nat.le_of_ble_eq_true hd)
    have : d < a.tmps.size := by rw [h.sz]; exact hlt
    simp [den_v, Array.getD_eq_getD_getElem?, this]
  · exact h.tm p hp

theorem Sb.learnO (h : Sb β X G D H O a w) {d id off : Nat} {f : Nat → Nat} {ob : HB} (hf : X.pin = some f) (ho : lookN H id = some ob) (hd : Nat.blt d X.n = true)
    (hv : a.tmps.getD d undef = .pointer (some ⟨f id, off, none⟩)) : Sb β X ((d, .o id off) :: G) D H O a w := by
  refine { h with tm := fun p hp => ?_ }
  rcases List.mem_cons.1 hp with rfl | hp
  · have hlt := Nat.lt_of_succ_le (Nat.le_of_ble_eq_true hd)
    have hs : d < a.tmps.size := by rw [h.sz]; exact hlt
    have hb := h.pn f hf _ (lookN_mem ho)
    simp only at hb
    simp only [den_o, hb, ← hv]
    simp [Array.getD_eq_getD_getElem?, hs]
  · exact h.tm p hp

theorem Sb.learnE (h : Sb β X G D H O a w) {d : Nat} {u : Value} (hd : Nat.blt d X.n = true) (hv : a.tmps.getD d undef = u) : Sb β X ((d, .v u) :: G) D H O a w := hv ▸ h.learn hd
theorem Sb.getR (h : Sb β X G D H O a w) {d : Nat} {v : Value} (hv : lookN G d = some (.v v)) {τ : Type} {r : RT τ} {x : τ} {ok : Ok} (hp : isV r ok w x v) : isV r ok w x (a.tmps.getD d undef) := by
  have := h.tm _ (lookN_mem hv)
  simp only [den_v] at this
  have e : a.tmps.getD d undef = v := by simp [Array.getD_eq_getD_getElem?, this]
  rw [e]; exact hp
theorem Sb.getA (h : Sb β X G D H O a w) {d : Nat} {v : Value} (hv : lookN G d = some (.v v)) {τ : Type} {r : RT τ} {x : τ} {ok : Ok} (hp : isAt r ok w x v) : isAt r ok w x (a.tmps.getD d undef) := by
  have := h.tm _ (lookN_mem hv)
  simp only [den_v] at this
  have e : a.tmps.getD d undef = v := by simp [Array.getD_eq_getD_getElem?, this]
  rw [e]; exact hp
theorem seq_draw {id : Nat} {Q : Exit → Act → World → Prop} {l : List Oper} {y : Code} (h : ∀ Q', (∀ a w, y.wp P Q a w → Q' Exit.normal a w) → (Code.region id ⟨l⟩ true).wp P Q' a w) : (Code.seq (.region id ⟨l⟩ true) y).wp P Q a w :=
  wp_seq (h _ fun _ _ h => h)

/-- Without the pin. -/
theorem Sb.unpin {f : Nat → Nat} {X : Cx} (h : Sb β {X with pin := some f} G D H O a w) (hX : X.pin = none) : Sb β X G D H O a w :=
  { h with pn := fun g hg => by rw [hX] at hg; cases hg }

theorem Sb.getO (h : Sb β X G D H O a w) {d id off : Nat} {f : Nat → Nat} {ob : HB} (hf : X.pin = some f) (ho : lookN H id = some ob) (hv : lookN G d = some (.o id off)) :
    a.tmps.getD d undef = .pointer (some ⟨f id, off, none⟩) := by
  have := h.tm _ (lookN_mem hv)
  have hb := h.pn f hf _ (lookN_mem ho)
  simp only [den_o] at this hb
  rw [hb] at this
  simp [Array.getD_eq_getD_getElem?, this]

theorem Sb.getD (h : Sb β X G D H O a w) {d : Nat} {v : Value} (hv : lookN G d = some (.v v)) : a.tmps.getD d undef = v := by
  have := h.tm _ (lookN_mem hv)
  simp only [den_v] at this
  simp [Array.getD_eq_getD_getElem?, this]
end
end Gd

/- Regions whose order is open, in which rows are made. -/
import Derived.Test.YtnlnadfpfekeiaaDoorXRb
namespace Gx
open Go Go.RowKit Gd
set_option linter.unusedVariables false
set_option linter.unusedSimpArgs false

abbrev locS (l0 : List Oper) (ds : List Nat) (S0 : XS) (i : Nat) (acc : Got) (o : Oper) : St := locOf l0 ds S0 i acc o
def ranG : Gk → Bool
  | .u => false
  | _ => true

/-- A row that is made. -/
def MadeOk (Y : TX) (L : St) (o : Oper) (u : Ty) (e : TypeId) (zs : List u.De) (c : Nat) : Prop :=
  ∃ (t : TypeId) (lo co : Operand) (te ee : TE) (lv cv : AV) (k1 k2 : IntKind) (nl nc : Int) (za : AV) (z : u.De), o.op = .makeSlice t lo co ∧ lookT Y.T t = some te ∧ te.d = .slice e ∧ lookT Y.T e = some ee ∧
    ev L [] lo = some lv ∧ ev L [] co = some cv ∧ isInt lv = some (k1, nl) ∧ isInt cv = some (k2, nc) ∧ zeroAV u ee.z = some za ∧ asD [] za u = some z ∧ Nat.beq ee.size u.size = true ∧ Nat.beq (cellsL ee.z).length ee.size = true ∧
    Nat.ble 1 ee.bytes = true ∧ mkL ee.bytes nl nc z = some zs ∧ c = nc.toNat
/-- An append to what is taken. -/
def AppdOk (Y : TX) (C : Tk) (L : St) (o : Oper) (u : Ty) (e : TypeId) (zs : List u.De) (h : Nat) : Prop :=
  ∃ (t : TypeId) (s x : Operand) (te ee : TE) (xv : AV) (xs ys : List u.De), o.op = .call ⟨.builtin .append, ⟨[s, x]⟩, ⟨[t, t]⟩⟩ ∧ C = some (h, .tail e u xs) ∧ lookT Y.T t = some te ∧ te.d = .slice e ∧ lookT Y.T e = some ee ∧
    ev L [] s = some (.s h) ∧ ev L [] x = some xv ∧ asD L.mem xv (.sl u) = some ys ∧ Nat.ble 1 ee.size = true ∧ Nat.ble 1 ee.bytes = true ∧ Nat.beq (cellsL ee.z).length ee.size = true ∧ Nat.beq ee.size u.size = true ∧ app ee.bytes xs ys = some zs
/-- An append to nil. -/
def NapOk (Y : TX) (L : St) (o : Oper) (u : Ty) (e : TypeId) (zs : List u.De) : Prop :=
  ∃ (t : TypeId) (s x : Operand) (te ee : TE) (xv : AV) (ys : List u.De), o.op = .call ⟨.builtin .append, ⟨[s, x]⟩, ⟨[t, t]⟩⟩ ∧ lookT Y.T t = some te ∧ te.d = .slice e ∧ lookT Y.T e = some ee ∧
    ev L [] s = some .ns ∧ ev L [] x = some xv ∧ asD L.mem xv (.sl u) = some ys ∧ Nat.ble 1 ee.size = true ∧ Nat.ble 1 ee.bytes = true ∧ Nat.beq (cellsL ee.z).length ee.size = true ∧ Nat.beq ee.size u.size = true ∧ app ee.bytes [] ys = some zs
/-- A new variable. -/
def VardOk (Y : TX) (o : Oper) (t : TypeId) (c : AV) : Prop := ∃ (e : TE) (ty : Ty), o.op = .alloc t ∧ lookT Y.T t = some e ∧ zeroAV ty e.z = some c ∧ allIds c = []
def FoundOk (P : Program) (Y : TX) (C : Tk) (l0 : List Oper) (ds : List Nat) (S0 : XS) (o : Oper) (i : Nat) (acc : Got) : Nat × AV × Gk → Prop
  | (d, v, .v) => ValSem Y.gl P l0 (locS l0 ds S0 i acc o) o v ∧ noneOf ds v = true
  | (d, v, .u) => v = .tp .nil
  | (d, v, .r u e zs c) => v = .s d ∧ okB S0 d = true ∧ (MadeOk Y (locS l0 ds S0 i acc o) o u e zs c ∨ NapOk Y (locS l0 ds S0 i acc o) o u e zs)
  | (d, v, .c) => ∃ t, v = .s t ∧ isRowG acc t = true ∧ predB l0 i (ds.idxOf t) = true ∧ (o.op = .move (.tmp t) ∨ o.op = .assign (.tmp t))
  | (d, v, .t u e zs h) => v = .s d ∧ okB S0 d = true ∧ AppdOk Y C (locS l0 ds S0 i acc o) o u e zs h
  | (d, v, .o t c) => v = .p d [] ∧ okB S0 d = true ∧ VardOk Y o t c
  | (d, v, .b ns) => ValSem Y.gl P l0 (locB ds ns (locS l0 ds S0 i acc o)) o v ∧ (∀ t ∈ ns, isRowG acc t = true ∧ predB l0 i (ds.idxOf t) = true) ∧ ∀ j ∈ allIds v, j ∈ ds → j ∈ ns
structure GotOk (P : Program) (Y : TX) (C : Tk) (n : Nat) (l0 : List Oper) (ds : List Nat) (S0 : XS) (o : Oper) (i : Nat) (acc : Got) (g : Nat × AV × Gk) : Prop where
  gd : guardD l0 ds i acc o = some (ranG g.2.2)
  wr : okW n S0 g.1 = true
  dst : o.dst = some g.1
  ix : ds.getD i 0 = g.1
  fnd : FoundOk P Y C l0 ds S0 o i acc g

theorem cpRow_ok {l0 : List Oper} {ds : List Nat} {i : Nat} {acc : Got} {op : Op} {t : Nat} (h : cpRow l0 ds i acc op = some t) : isRowG acc t = true ∧ predB l0 i (ds.idxOf t) = true ∧ (op = .move (.tmp t) ∨ op = .assign (.tmp t)) := by
  unfold cpRow at h
  split at h
  · obtain ⟨hb, h⟩ := bvT h
    simp only [Bool.and_eq_true] at hb
    simp at h; subst h
    exact ⟨hb.1, hb.2, .inl rfl⟩
  · obtain ⟨hb, h⟩ := bvT h
    simp only [Bool.and_eq_true] at hb
    simp at h; subst h
    exact ⟨hb.1, hb.2, .inr rfl⟩
  · cases h

theorem beqF {a b : Nat} (h : a ≠ b) : (!Nat.beq a b) = true := by
  cases hb : Nat.beq a b with
  | true => exact absurd (Nat.eq_of_beq_eq_true hb) h
  | false => rfl
theorem noId_of {d : Nat} : ∀ {x : AV}, (∀ i ∈ allIds x, i ≠ d) → noId d x = true
  | .d .., _ => rfl | .a .., _ => rfl | .z, _ => rfl | .ns, _ => rfl | .np, _ => rfl | .nm, _ => rfl | .nf, _ => rfl | .nil, _ => rfl
  | .p id _, h => beqF (h id (by simp [allIds]))
  | .e id _, h => beqF (h id (by simp [allIds]))
  | .s id, h => beqF (h id (by simp [allIds]))
  | .m id, h => beqF (h id (by simp [allIds]))
  | .w id _ _, h => beqF (h id (by simp [allIds]))
  | .f _ c, h => noId_of (x := c) h
  | .ag l, h => noId_of (x := l) h
  | .tp l, h => noId_of (x := l) h
  | .cons x y, h => by
    simp only [noId, Bool.and_eq_true]
    exact ⟨noId_of fun i hi => h i (List.mem_append_left _ hi), noId_of fun i hi => h i (List.mem_append_right _ hi)⟩
theorem noneOf_nil {ds : List Nat} {x : AV} (h : allIds x = []) : noneOf ds x = true := by
  unfold noneOf
  rw [List.all_eq_true]
  exact fun d _ => noId_of fun i hi => by rw [h] at hi; cases hi

section
variable {P : Program} {Y : TX} {C : Tk} {n : Nat} {l0 : List Oper} {ds : List Nat} {S0 : XS} {R : Type} {r : R}

theorem makeD_ok {L : St} {o : Oper} {k : (u : Ty) → TypeId → List u.De → Nat → Option R} (h : makeD Y L o.op k = some r) : ∃ u e zs c, k u e zs c = some r ∧ MadeOk Y L o u e zs c := by
  unfold makeD at h
  split at h
  · rename_i t lo co hop
    split at h
    · rename_i te lv cv hte hl hc
      split at h
      · rename_i e k1 nl k2 nc htd hli hci
        split at h
        · rename_i ee u he hu
          split at h
          · rename_i za hza
            split at h
            · rename_i z hz
              obtain ⟨hb2, h⟩ := bvT h
              simp only [Bool.and_eq_true] at hb2
              obtain ⟨zs, hzs, h⟩ := bindE h
              exact ⟨u, e, zs, nc.toNat, h, t, lo, co, te, ee, lv, cv, k1, k2, nl, nc, za, z, hop, hte, isSliceD_ok htd, he, hl, hc, hli, hci, hza, hz, hb2.1.1, hb2.1.2, hb2.2, hzs, rfl⟩
            · cases h
          · cases h
        · cases h
      · cases h
    · cases h
  · cases h

theorem appD_ok {L : St} {o : Oper} {k : (u : Ty) → TypeId → List u.De → Nat → Option R} (h : appD Y C L o.op k = some r) : ∃ u e zs c, k u e zs c = some r ∧ AppdOk Y C L o u e zs c := by
  unfold appD at h
  split at h
  · rename_i s x t t' hop
    split at h
    · rename_i te id xv h0 e' u xs hte hs hx
      split at h
      · rename_i e htd
        split at h
        · rename_i ee ys he hys
          have hb := (bvT h).1
          obtain ⟨zs, hzs, hkk⟩ := bindE (bvT h).2
          simp only [Bool.and_eq_true] at hb
          obtain ⟨⟨⟨⟨⟨⟨b1, b2⟩, b3⟩, b4⟩, b5⟩, b6⟩, b7⟩ := hb
          clear h
          have e1 := Nat.eq_of_beq_eq_true b1
          have e2 := Nat.eq_of_beq_eq_true b2
          have e3 := Nat.eq_of_beq_eq_true b7
          subst e1; subst e2; subst e3
          exact ⟨u, e, zs, id, hkk, t, s, x, te, ee, xv, xs, ys, hop, rfl, hte, isSliceD_ok htd, he, hs, hx, hys, b3, b4, b5, b6, hzs⟩
        · cases h
      · cases h
    · cases h
  · cases h

theorem napD_ok {L : St} {o : Oper} {k : (u : Ty) → TypeId → List u.De → Nat → Option R} (h : napD Y L o.op k = some r) : ∃ u e zs c, k u e zs c = some r ∧ NapOk Y L o u e zs := by
  unfold napD at h
  split at h
  · rename_i s x t t' hop
    split at h
    · rename_i te xv hte hs hx
      split at h
      · rename_i e htd
        split at h
        · rename_i ee u he hu
          split at h
          · rename_i ys hys
            have hb := (bvT h).1
            obtain ⟨zs, hzs, hkk⟩ := bindE (bvT h).2
            simp only [Bool.and_eq_true] at hb
            obtain ⟨⟨⟨⟨b2, b3⟩, b4⟩, b5⟩, b6⟩ := hb
            clear h
            have e2 := Nat.eq_of_beq_eq_true b2
            subst e2
            exact ⟨u, e, zs, 0, hkk, t, s, x, te, ee, xv, ys, hop, hte, isSliceD_ok htd, he, hs, hx, hys, b3, b4, b5, b6, hzs⟩
          · cases h
        · cases h
      · cases h
    · cases h
  · cases h
theorem allocD_ok {o : Oper} {k : TypeId → AV → Option R} (h : allocD Y o.op k = some r) : ∃ t c, k t c = some r ∧ VardOk Y o t c := by
  unfold allocD at h
  split at h
  · rename_i t hop
    split at h
    · rename_i e ty he hty
      split at h
      · rename_i c hc
        obtain ⟨hb, h⟩ := bvT h
        simp only [Bool.and_eq_true] at hb
        exact ⟨t, c, h, e, ty, hop, he, hc, isNilL_ok hb.2⟩
      · cases h
    · cases h
  · cases h
theorem rowsG_row {acc : Got} : ∀ {ts : List Nat} {t : Nat}, t ∈ rowsG acc ts → isRowG acc t = true
  | [], t, h => by cases h
  | x :: ts, t, h => by
    simp only [rowsG] at h
    cases hb : isRowG acc x with
    | true =>
      rw [hb] at h
      rcases List.mem_cons.1 h with rfl | h
      · exact hb
      · exact rowsG_row h
    | false => rw [hb] at h; exact rowsG_row h
theorem predsB_ok {l0 : List Oper} {ds : List Nat} {i : Nat} : ∀ {ts : List Nat}, predsB l0 ds i ts = true → ∀ t ∈ ts, predB l0 i (ds.idxOf t) = true
  | [], _, t, h => by cases h
  | x :: ts, hp, t, h => by
    simp only [predsB, Bool.and_eq_true] at hp
    rcases List.mem_cons.1 h with rfl | h
    · exact hp.1
    · exact predsB_ok hp.2 t h
theorem memN_ok' : ∀ {l : List Nat} {t : Nat}, memN l t = true → t ∈ l
  | [], t, h => by cases h
  | k :: l, t, h => by
    simp only [memN] at h
    cases hb : Nat.beq k t with
    | true => rw [Nat.eq_of_beq_eq_true hb]; exact .head _
    | false => rw [hb] at h; exact .tail _ (memN_ok' (by simpa using h))
theorem stepD_tr (hT : TabOk P Y.T) {o : Oper} {i : Nat} {acc : Got} {k : Nat × AV × Gk → Option R} (h : stepD Y n l0 ds S0 C o i acc k = some r) : ∃ g, k g = some r ∧ GotOk P Y C n l0 ds S0 o i acc g := by
  unfold stepD at h
  split at h
  · rename_i d hd
    obtain ⟨hb, h⟩ := bvT h
    simp only [Bool.and_eq_true] at hb
    have hix := Nat.eq_of_beq_eq_true hb.2
    split at h
    · rename_i hg
      exact ⟨_, h, hg, hb.1, hd, hix, rfl⟩
    · rename_i hg
      split at h
      · rename_i t hcp
        obtain ⟨c1, c2, c3⟩ := cpRow_ok hcp
        exact ⟨_, h, hg, hb.1, hd, hix, t, rfl, c1, c2, c3⟩
      · split at h
        · obtain ⟨u, e, zs, c, h, hm⟩ := makeD_ok h
          obtain ⟨hb2, h⟩ := bvT h
          exact ⟨_, h, hg, hb.1, hd, hix, rfl, hb2, .inl hm⟩
        · obtain ⟨v, h, hv, hs⟩ := valLit (P := P) (l0 := l0) hT h
          exact ⟨_, h, hg, hb.1, hd, hix, hs, noneOf_nil hv⟩
        · cases hns : isNs (locOf l0 ds S0 i acc o) o.op with
          | true =>
            rw [hns] at h
            simp only [cond_true] at h
            obtain ⟨u, e, zs, c, h, hm⟩ := napD_ok h
            obtain ⟨hb2, h⟩ := bvT h
            exact ⟨_, h, hg, hb.1, hd, hix, rfl, hb2, .inr hm⟩
          | false =>
            rw [hns] at h
            simp only [cond_false] at h
            obtain ⟨u, e, zs, h0, h, hm⟩ := appD_ok h
            obtain ⟨hb2, h⟩ := bvT h
            exact ⟨_, h, hg, hb.1, hd, hix, rfl, hb2, hm⟩
        · obtain ⟨t, c, h, hm⟩ := allocD_ok h
          obtain ⟨hb2, h⟩ := bvT h
          exact ⟨_, h, hg, hb.1, hd, hix, rfl, hb2, hm⟩
        · cases hni : isNilL (rowsG acc (opTmps o)) with
          | true =>
            rw [hni] at h
            obtain ⟨av, h1, h2⟩ := stepQ_ok (P := P) hT rfl h
            obtain ⟨hb2, h1⟩ := bvT h1
            exact ⟨_, h1, hg, hb.1, hd, hix, valQ h2, hb2⟩
          | false =>
            rw [hni] at h
            simp only [cond_false] at h
            obtain ⟨hpr, h⟩ := bvT h
            obtain ⟨av, h1, h2⟩ := stepQ_ok (P := P) hT rfl h
            obtain ⟨hb2, h1⟩ := bvT h1
            refine ⟨_, h1, hg, hb.1, hd, hix, valQ h2, fun t ht => ⟨rowsG_row ht, predsB_ok hpr t ht⟩, fun j hj hjd => ?_⟩
            have := List.all_eq_true.1 hb2 j hj
            simp only [Bool.or_eq_true] at this
            rcases this with h3 | h3
            · exact absurd hjd (notIn_ok h3)
            · exact memN_ok' h3
        · obtain ⟨av, h1, h2⟩ := stepQ_ok (P := P) hT rfl h
          obtain ⟨hb2, h1⟩ := bvT h1
          exact ⟨_, h1, hg, hb.1, hd, hix, valQ h2, hb2⟩
    · cases h
  · cases h

/-- Each operation gave what was found. -/
def Tr (P : Program) (Y : TX) (C : Tk) (n : Nat) (l0 : List Oper) (ds : List Nat) (S0 : XS) : List Oper → Nat → Got → Got → Prop
  | [], _, _, [] => True
  | o :: l, i, acc, g :: acc2 => GotOk P Y C n l0 ds S0 o i acc g ∧ Tr P Y C n l0 ds S0 l (i + 1) (acc ++ [g]) acc2
  | _, _, _, _ => False
theorem Tr.get : ∀ {l : List Oper} {i : Nat} {acc acc2 : Got}, Tr P Y C n l0 ds S0 l i acc acc2 → acc2.length = l.length ∧ ∀ (j : Nat) o, l[j]? = some o → ∃ g, acc2[j]? = some g ∧ GotOk P Y C n l0 ds S0 o (i + j) (acc ++ acc2.take j) g
  | [], i, acc, [], _ => ⟨rfl, by simp⟩
  | o :: l, i, acc, [], h => h.elim
  | [], i, acc, _ :: _, h => h.elim
  | o :: l, i, acc, g :: acc2, h => by
    obtain ⟨h2, h3⟩ := Tr.get h.2
    refine ⟨by simp [h2], fun j o' ho => ?_⟩
    cases j with
    | zero =>
      simp at ho; subst ho
      exact ⟨g, rfl, by simpa using h.1⟩
    | succ j =>
      obtain ⟨g', q1, q2⟩ := h3 j o' (by simpa using ho)
      refine ⟨g', by simpa using q1, ?_⟩
      rw [show i + (j + 1) = i + 1 + j by omega]
      simpa using q2

theorem runDn_tr (hT : TabOk P Y.T) {D : Got → Prop} : ∀ {m : Nat} {l : List Oper} {i : Nat} {acc : Got} {k : List Oper → Nat → Got → Option R}, runDn Y n l0 ds S0 C m l i acc k = some r →
    (∀ l' i' acc', k l' i' acc' = some r → ∃ acc2, D (acc' ++ acc2) ∧ Tr P Y C n l0 ds S0 l' i' acc' acc2) → ∃ acc2, D (acc ++ acc2) ∧ Tr P Y C n l0 ds S0 l i acc acc2
  | 0, l, i, acc, k, h, H => H l i acc h
  | m + 1, [], i, acc, k, h, H => by simp [runDn] at h
  | m + 1, o :: l, i, acc, k, h, H => by
    simp only [runDn] at h
    obtain ⟨g, h1, h2⟩ := stepD_tr hT h
    obtain ⟨acc2, h3, h4⟩ := runDn_tr hT h1 H
    exact ⟨g :: acc2, by simpa using h3, h2, h4⟩

theorem setG_same : ∀ {acc : Got} {t : Nat} {b : Bool}, lookG acc t = some (.d .bool b) → setG acc t b = acc
  | [], t, b, h => by simp [lookG] at h
  | (d, v, q) :: l, t, b, h => by
    simp only [setG]
    cases q <;> simp only [lookG] at h <;> cases hb : Nat.beq d t <;> rw [hb] at h
    all_goals first | (simp only [cond_false]; rw [setG_same (acc := l) h]; done) | skip
    all_goals first | (cases h; done) | skip
    simp at h; subst h
    rfl

theorem runD_ok (hT : TabOk P Y.T) {K : List Con} (hK : ∀ c ∈ K, ConOk P Y.gl c ∧ Runs P c.f) : ∀ {h : Hn} {l : List Oper} {i : Nat} {acc : Got} {k : Hn → Got → Option R}, runD Y n l0 ds S0 C K h l i acc k = some r →
    ∃ acc2, (∃ h', k h' (acc ++ acc2) = some r) ∧ Tr P Y C n l0 ds S0 l i acc acc2
  | .tl h, l, i, acc, k, hs => by
    simp only [runD] at hs
    split at hs
    · exact ⟨[], ⟨h, by simpa using hs⟩, trivial⟩
    · cases hs
  | .n m g, l, i, acc, k, hs => by
    simp only [runD] at hs
    exact runDn_tr hT (D := fun a => ∃ h', k h' a = some r) hs fun l' i' acc' h' => runD_ok hT hK h'
  | .call c g, l, i, acc, k, hs => by
    simp only [runD] at hs
    split at hs
    · rename_i con o l' hc
      split at hs
      · rename_i d hd
        obtain ⟨hb, hs⟩ := bvT hs
        simp only [Bool.and_eq_true] at hb
        have hix := Nat.eq_of_beq_eq_true hb.2
        split at hs
        · rename_i hg
          have hcm := hK con (List.mem_of_getElem? hc)
          obtain ⟨v, h1, h2, h3⟩ := valCall (l0 := l0) hcm.1 hcm.2 hs
          obtain ⟨acc2, ⟨h', h4⟩, h5⟩ := runD_ok hT hK h1
          exact ⟨(d, v, .v) :: acc2, ⟨h', by simpa using h4⟩, ⟨hg, hb.1, hd, hix, h3, noneOf_nil h2⟩, h5⟩
        · cases hs
      · cases hs
    · cases hs
  | .so t x y, l, i, acc, k, hs => by
    simp only [runD] at hs
    split at hs
    · rename_i v hv
      cases v with
      | true =>
        rw [if_pos rfl, setG_same hv] at hs
        exact runD_ok hT hK hs
      | false =>
        rw [if_neg (by simp), setG_same hv] at hs
        exact runD_ok hT hK hs
    · cases hs
  | .done, l, i, acc, k, hs => by simp [runD] at hs
  | .nl m g, l, i, acc, k, hs => by simp [runD] at hs
  | .md m g, l, i, acc, k, hs => by simp [runD] at hs
  | .mt _ _ _ _, l, i, acc, k, hs => by simp [runD] at hs
  | .op _ _ _ _, l, i, acc, k, hs => by simp [runD] at hs
  | .fm _ _, l, i, acc, k, hs => by simp [runD] at hs
  | .keep m g, l, i, acc, k, hs => by simp [runD] at hs
  | .fz m g, l, i, acc, k, hs => by simp [runD] at hs
  | .sp _ _ _ _ _ _ _ _, l, i, acc, k, hs => by simp [runD] at hs

/-! ## What has been found -/

/-- The block behind a pointer. -/
def blkV : Value → Nat
  | .pointer (some a) => a.block
  | _ => 0
def updV (a : Act) : List Nat → (Nat → Value) → Nat → Value
  | [], ρ => ρ
  | d :: l, ρ => updV a l (upd ρ d (a.tmps.getD d undef))
def updBk (a : Act) : List Nat → (Nat → Nat) → Nat → Nat
  | [], β => β
  | d :: l, β => updBk a l (upd β d (blkV (a.tmps.getD d undef)))
theorem updP_ind {a : Act} {C : (Nat → Nat) → (Nat → Value) → Prop} : ∀ {l : List Nat} {β : Nat → Nat} {ρ : Nat → Value}, C β ρ → (∀ d ∈ l, ∀ β ρ, C β ρ → C (upd β d (blkV (a.tmps.getD d undef))) (upd ρ d (a.tmps.getD d undef))) → C (updBk a l β) (updV a l ρ)
  | [], β, ρ, h, _ => h
  | d :: l, β, ρ, h, hs => updP_ind (l := l) (hs d (.head _) β ρ h) fun d' hd => hs d' (.tail _ hd)
theorem updP_not {a : Act} {l : List Nat} {β : Nat → Nat} {ρ : Nat → Value} {d : Nat} (h : d ∉ l) : updBk a l β d = β d ∧ updV a l ρ d = ρ d :=
  updP_ind (C := fun β' ρ' => β' d = β d ∧ ρ' d = ρ d) ⟨rfl, rfl⟩ fun e he β' ρ' h' => by
    have hne : d ≠ e := fun q => h (q ▸ he)
    rw [upd_other _ _ hne, upd_other _ _ hne]; exact h'
theorem updP_at {a : Act} : ∀ {l : List Nat} {β : Nat → Nat} {ρ : Nat → Value} {d : Nat}, d ∈ l → updBk a l β d = blkV (a.tmps.getD d undef) ∧ updV a l ρ d = a.tmps.getD d undef
  | e :: l, β, ρ, d, h => by
    by_cases hm : d ∈ l
    · exact updP_at (l := l) hm
    · rcases List.mem_cons.1 h with rfl | h
      · have := updP_not (a := a) (l := l) (β := upd β d (blkV (a.tmps.getD d undef))) (ρ := upd ρ d (a.tmps.getD d undef)) hm
        rw [upd_same, upd_same] at this
        exact this
      · exact absurd h hm
theorem updP_congr {a a' : Act} : ∀ {l : List Nat} {β : Nat → Nat} {ρ : Nat → Value}, (∀ t ∈ l, a'.tmps.getD t undef = a.tmps.getD t undef) → updBk a' l β = updBk a l β ∧ updV a' l ρ = updV a l ρ
  | [], β, ρ, _ => ⟨rfl, rfl⟩
  | d :: l, β, ρ, h => by
    simp only [updBk, updV, h d (.head _)]
    exact updP_congr (l := l) fun t ht => h t (.tail _ ht)
/-- The fact on what an operation gave. -/
def gotA (β : Nat → Nat) (ρ : Nat → Value) : Nat × AV × Gk → FA
  | (d, v, .v) => ⟨fun ok w a => ∃ cs, a.tmps.getD d undef = v.val cs ∧ cr β ρ ok w false v cs, fun ⟨cs, h1, h2⟩ he => ⟨cs, h1, cr_evo h2 he⟩, fun ⟨cs, h1, h2⟩ hk => ⟨cs, h1, cr_weak h2 hk⟩⟩
  | (d, _, .r _ _ zs _) => ⟨fun _ _ a => ∃ A c, a.tmps.getD d undef = .slice A zs.length c, fun h _ => h, fun h _ => h⟩
  | (d, _, .o _ _) => ⟨fun _ _ a => ∃ b, a.tmps.getD d undef = .pointer (some ⟨b, 0, none⟩), fun h _ => h, fun h _ => h⟩
  | (d, v, .b ns) => ⟨fun ok w a => ∃ cs, a.tmps.getD d undef = v.val cs ∧ cr (updBk a ns β) (updV a ns ρ) ok w false v cs, fun ⟨cs, h1, h2⟩ he => ⟨cs, h1, cr_evo h2 he⟩, fun ⟨cs, h1, h2⟩ hk => ⟨cs, h1, cr_weak h2 hk⟩⟩
  | (d, .s t, .c) => ⟨fun _ _ a => a.tmps.getD d undef = a.tmps.getD t undef, fun h _ => h, fun h _ => h⟩
  | (_, _, .c) => ⟨fun _ _ _ => True, fun h _ => h, fun h _ => h⟩
  | (d, _, .u) => ⟨fun _ _ a => a.tmps.getD d undef = undef, fun h _ => h, fun h _ => h⟩
  | (d, _, .t _ _ zs _) => ⟨fun _ _ a => ∃ A c, a.tmps.getD d undef = .slice A zs.length c, fun h _ => h, fun h _ => h⟩
def gotQ : Nat × AV × Gk → Option (Value → TL)
  | (_, _, .r u e zs _) => some fun v => ml v e (rt u) zs
  | (_, _, .t u e zs _) => some fun v => tlTail v e (rt u) zs
  | (_, _, .o t c) => some fun v => tlVar (fun _ => 0) (fun _ => undef) (blkV v) t c
  | _ => none

theorem lookG_mem : ∀ {acc : Got} {t : Nat} {v : AV}, lookG acc t = some v → (t, v, .v) ∈ acc
  | [], t, v, h => by simp [lookG] at h
  | (d, u, q) :: l, t, v, h => by
    cases q <;> simp only [lookG] at h <;> cases hb : Nat.beq d t <;> rw [hb] at h
    all_goals first | exact .tail _ (lookG_mem (acc := l) h) | skip
    all_goals first | (cases h; done) | skip
    have := Nat.eq_of_beq_eq_true hb
    simp at h; subst h; subst this
    exact .head _

theorem varE_mem : ∀ {env : List En} {e : En}, e ∈ varE env → e.cs = [] ∧ e ∈ env ∧ Nat.blt e.t 100000 = false
  | [], e, h => by simp [varE] at h
  | x :: l, e, h => by
    simp only [varE] at h
    cases hb : Nat.blt x.t 100000 with
    | true =>
      rw [hb] at h
      obtain ⟨h1, h2, h3⟩ := varE_mem (env := l) h
      exact ⟨h1, .tail _ h2, h3⟩
    | false =>
      rw [hb] at h
      simp only [cond_false] at h
      split at h
      · rename_i hc
        rcases List.mem_cons.1 h with rfl | h
        · exact ⟨hc, .head _, hb⟩
        · obtain ⟨h1, h2, h3⟩ := varE_mem (env := l) h
          exact ⟨h1, .tail _ h2, h3⟩
      · obtain ⟨h1, h2, h3⟩ := varE_mem (env := l) h
        exact ⟨h1, .tail _ h2, h3⟩
theorem locE_mem {l0 : List Oper} {i : Nat} {acc : Got} {env : List En} : ∀ {ts : List Nat} {e : En}, e ∈ locE l0 ds i acc env ts →
    e.cs = [] ∧ ((lookG acc e.t = some e.av ∧ predB l0 i (ds.idxOf e.t) = true) ∨ (notIn ds e.t = true ∧ e ∈ env ∧ Nat.blt e.t 100000 = true) ∨ (e ∈ env ∧ Nat.blt e.t 100000 = false))
  | [], e, h => by
    obtain ⟨h1, h2, h3⟩ := varE_mem (by simpa [locE] using h)
    exact ⟨h1, .inr (.inr ⟨h2, h3⟩)⟩
  | t :: ts, e, h => by
    simp only [locE] at h
    split at h
    · rename_i v hv
      cases hp : predB l0 i (ds.idxOf t) with
      | true =>
        rw [hp] at h
        rcases List.mem_cons.1 h with rfl | h
        · exact ⟨rfl, .inl ⟨hv, hp⟩⟩
        · exact locE_mem h
      | false => rw [hp] at h; exact locE_mem h
    · cases hb : notIn ds t with
      | true =>
        rw [hb] at h
        simp only [cond_true] at h
        split at h
        · rename_i t' v he
          obtain ⟨h1, h2⟩ := lookE_ok he
          rcases List.mem_cons.1 h with rfl | h
          · simp only at h2
            subst h2
            exact ⟨rfl, .inr (.inl ⟨hb, h1, lookE_lt he⟩)⟩
          · exact locE_mem h
        · exact locE_mem h
      | false => rw [hb] at h; exact locE_mem h

def rowIds : Got → List Nat
  | [] => []
  | (d, _, .r _ _ _ _) :: l => d :: rowIds l
  | (_, _, .v) :: l => rowIds l
  | (_, _, .c) :: l => rowIds l
  | (_, _, .u) :: l => rowIds l
  | (_, _, .b _) :: l => rowIds l
  | (d, _, .t _ _ _ _) :: l => d :: rowIds l
  | (d, _, .o _ _) :: l => d :: rowIds l
/-- The objects that were made, by name. -/
def updG (a : Act) (acc : Got) (ρ : Nat → Value) : Nat → Value := updV a (rowIds acc) ρ
def updH (a : Act) (acc : Got) (β : Nat → Nat) : Nat → Nat := updBk a (rowIds acc) β
/-- Does it make an object? -/
def newG : Gk → Bool
  | .r _ _ _ _ => true
  | .t _ _ _ _ => true
  | .o _ _ => true
  | _ => false

theorem rowIds_mem {acc : Got} {d : Nat} : d ∈ rowIds acc ↔ ∃ v q, (d, v, q) ∈ acc ∧ newG q = true := by
  induction acc with
  | nil => simp [rowIds]
  | cons g l ih =>
    obtain ⟨d', v', q'⟩ := g
    have key : newG q' = false → ((∃ v q, (d, v, q) ∈ l ∧ newG q = true) ↔ ∃ v q, (d, v, q) ∈ (d', v', q') :: l ∧ newG q = true) := by
      intro hq
      constructor
      · rintro ⟨v, q, h, hn⟩; exact ⟨v, q, .tail _ h, hn⟩
      · rintro ⟨v, q, h, hn⟩
        rcases List.mem_cons.1 h with h | h
        · injection h with _ h; injection h with _ h; subst h; rw [hq] at hn; cases hn
        · exact ⟨v, q, h, hn⟩
    have key2 : newG q' = true → ((d = d' ∨ ∃ v q, (d, v, q) ∈ l ∧ newG q = true) ↔ ∃ v q, (d, v, q) ∈ (d', v', q') :: l ∧ newG q = true) := by
      intro hq
      constructor
      · rintro (rfl | ⟨v, q, h, hn⟩)
        · exact ⟨v', q', .head _, hq⟩
        · exact ⟨v, q, .tail _ h, hn⟩
      · rintro ⟨v, q, h, hn⟩
        rcases List.mem_cons.1 h with h | h
        · injection h with h _; exact .inl h
        · exact .inr ⟨v, q, h, hn⟩
    cases q' with
    | v => simp only [rowIds, ih]; exact key rfl
    | c => simp only [rowIds, ih]; exact key rfl
    | u => simp only [rowIds, ih]; exact key rfl
    | b ns => simp only [rowIds, ih]; exact key rfl
    | o t0 c0 =>
      show d ∈ d' :: rowIds l ↔ _
      rw [List.mem_cons, ih]; exact key2 rfl
    | r u0 e0 zs0 c0 =>
      show d ∈ d' :: rowIds l ↔ _
      rw [List.mem_cons, ih]; exact key2 rfl
    | t u0 e0 zs0 c0 =>
      show d ∈ d' :: rowIds l ↔ _
      rw [List.mem_cons, ih]; exact key2 rfl
theorem isRowG_mem : ∀ {acc : Got} {t : Nat}, isRowG acc t = true → ∃ v u e zs c, (t, v, Gk.r u e zs c) ∈ acc
  | [], t, h => by simp [isRowG] at h
  | (d, v, .v) :: l, t, h => let ⟨v, u, e, zs, c, h⟩ := isRowG_mem (acc := l) h; ⟨v, u, e, zs, c, .tail _ h⟩
  | (d, v, .c) :: l, t, h => let ⟨v, u, e, zs, c, h⟩ := isRowG_mem (acc := l) h; ⟨v, u, e, zs, c, .tail _ h⟩
  | (d, v, .u) :: l, t, h => let ⟨v, u, e, zs, c, h⟩ := isRowG_mem (acc := l) h; ⟨v, u, e, zs, c, .tail _ h⟩
  | (d, v, .t _ _ _ _) :: l, t, h => let ⟨v, u, e, zs, c, h⟩ := isRowG_mem (acc := l) h; ⟨v, u, e, zs, c, .tail _ h⟩
  | (d, v, .o _ _) :: l, t, h => let ⟨v, u, e, zs, c, h⟩ := isRowG_mem (acc := l) h; ⟨v, u, e, zs, c, .tail _ h⟩
  | (d, v, .b _) :: l, t, h => let ⟨v, u, e, zs, c, h⟩ := isRowG_mem (acc := l) h; ⟨v, u, e, zs, c, .tail _ h⟩
  | (d, v, .r u e zs c) :: l, t, h => by
    simp only [isRowG, Bool.or_eq_true] at h
    rcases h with h | h
    · rw [← Nat.eq_of_beq_eq_true h]; exact ⟨v, u, e, zs, c, .head _⟩
    · obtain ⟨v, u, e, zs, c, h⟩ := isRowG_mem (acc := l) h; exact ⟨v, u, e, zs, c, .tail _ h⟩
theorem isRowG_ids {acc : Got} {t : Nat} (h : isRowG acc t = true) : t ∈ rowIds acc := by
  obtain ⟨v, u, e, zs, c, h⟩ := isRowG_mem h
  exact rowIds_mem.2 ⟨v, _, h, rfl⟩

/-! ## One operation -/

theorem AllB_all {C : Nat → Prop} : ∀ {n : Nat}, (∀ i, i < n → C i) → AllB C n
  | 0, _ => trivial
  | n + 1, h => ⟨AllB_all fun i hi => h i (by omega), h n (by omega)⟩
theorem notIn_of {l : List Nat} {t : Nat} (h : t ∉ l) : notIn l t = true := by
  induction l with
  | nil => rfl
  | cons k l ih =>
    simp only [notIn]
    cases hb : Nat.beq k t with
    | true => exact absurd (Nat.eq_of_beq_eq_true hb ▸ List.mem_cons_self) h
    | false => exact ih fun hm => h (.tail _ hm)
theorem remD_ne {d : Nat} : ∀ {ks : List Nat}, d ∉ remD ks d
  | [], h => by cases h
  | k :: ks, h => by
    simp only [remD] at h
    cases hb : Nat.beq k d with
    | true => rw [hb] at h; exact remD_ne (ks := ks) h
    | false =>
      rw [hb] at h
      rcases List.mem_cons.1 h with rfl | h
      · simp [Nat.beq_refl] at hb
      · exact remD_ne (ks := ks) h

section
variable {X : Cx} {β : Nat → Nat} {ρ : Nat → Value} {a0 : Act} {w0 : World} {acc : Got}

def restG (X : Cx) (ds : List Nat) (a : Act) : GL := (allG X.n a).filter fun p => notIn ds p.1
theorem restG_mem {ds : List Nat} {t : Nat} (ht : t < X.n) (hn : t ∉ ds) (a : Act) : (t, Gd.AV.v (a.tmps.getD t undef)) ∈ restG X ds a :=
  List.mem_filter.2 ⟨List.mem_map.2 ⟨t, List.mem_range.2 ht, rfl⟩, notIn_of hn⟩
theorem restG_not {ds : List Nat} {a : Act} {p : Nat × Gd.AV} (h : p ∈ restG X ds a) : p.1 ∉ ds ∧ p.1 < X.n ∧ p.2 = .v (a.tmps.getD p.1 undef) := by
  obtain ⟨h1, h2⟩ := List.mem_filter.1 h
  obtain ⟨t, ht, rfl⟩ := List.mem_map.1 h1
  exact ⟨notIn_ok h2, List.mem_range.1 ht, rfl⟩

theorem getD_some {l : List Nat} {i d : Nat} (h : l[i]? = some d) : l.getD i 0 = d := by simp [List.getD_eq_getElem?_getD, h]
theorem some_getD {l : List Nat} {i d : Nat} (hi : i < l.length) (h : l.getD i 0 = d) : l[i]? = some d := by
  rw [List.getD_eq_getElem?_getD, List.getElem?_eq_getElem hi] at h
  rw [List.getElem?_eq_getElem hi]; exact congrArg some h

/-- All that was found. -/
def AccOk (P : Program) (Y : TX) (C : Tk) (n : Nat) (l0 : List Oper) (ds : List Nat) (S0 : XS) (acc : Got) : Prop :=
  acc.length = ds.length ∧ ∀ (i : Nat) g, acc[i]? = some g → ∃ o, l0[i]? = some o ∧ GotOk P Y C n l0 ds S0 o i (acc.take i) g

theorem acc_lt {acc : Got} {i : Nat} {g : Nat × AV × Gk} (h : acc[i]? = some g) : i < acc.length := by
  rcases Nat.lt_or_ge i acc.length with q | q
  · exact q
  · rw [List.getElem?_eq_none q] at h; cases h
/-- Where a temporary was found. -/
theorem acc_idx (hnd : ds.Nodup) (hA : AccOk P Y C n l0 ds S0 acc) {i : Nat} {g : Nat × AV × Gk} (hg : g ∈ acc.take i) : ∃ j, acc[j]? = some g ∧ ds[j]? = some g.1 ∧ ds.idxOf g.1 = j ∧ okW n S0 g.1 = true := by
  obtain ⟨j, hj⟩ := List.getElem?_of_mem hg
  have hj' : acc[j]? = some g := by
    rw [List.getElem?_take] at hj
    split at hj
    · exact hj
    · cases hj
  obtain ⟨oj, hoj, hGj⟩ := hA.2 j _ hj'
  have hjd : j < ds.length := by rw [← hA.1]; exact acc_lt hj'
  have hdj := some_getD hjd hGj.ix
  refine ⟨j, hj', hdj, ?_, hGj.wr⟩
  have := hnd.idxOf_getElem j hjd
  rw [List.getElem?_eq_getElem hjd] at hdj
  injection hdj with hdj
  rw [hdj] at this
  exact this

theorem gotA_loc (hA : AccOk P Y C n l0 ds S0 acc) (hnd : ds.Nodup) : ∀ (i : Nat) fv, (acc.map (gotA β ρ))[i]? = some fv → ∀ (a a' : Act) ok w, (∀ j e : Nat, (j = i ∨ predB l0 i j = true) → ds[j]? = some e → a'.tmps.getD e undef = a.tmps.getD e undef) → fv.p ok w a → fv.p ok w a' := by
  intro i fv hf a a' ok w hsame hp
  rw [List.getElem?_map] at hf
  obtain ⟨g, hg, hfv⟩ := Option.map_eq_some_iff.1 hf
  obtain ⟨o, ho, hG⟩ := hA.2 i g hg
  have hd : ds[i]? = some g.1 := some_getD (by rw [← hA.1]; exact acc_lt hg) hG.ix
  have h1 := hsame i g.1 (.inl rfl) hd
  subst hfv
  obtain ⟨d, v, q⟩ := g
  cases q with
  | v => obtain ⟨cs, h2, h3⟩ := hp; exact ⟨cs, h1.trans h2, h3⟩
  | r u e zs c => obtain ⟨b, c', h2⟩ := hp; exact ⟨b, c', h1.trans h2⟩
  | o t c => obtain ⟨b, h2⟩ := hp; exact ⟨b, h1.trans h2⟩
  | b ns =>
    obtain ⟨cs, h2, h3⟩ := hp
    obtain ⟨_, hns, _⟩ := hG.fnd
    have hcg := updP_congr (a := a) (a' := a') (l := ns) (β := β) (ρ := ρ) fun t ht => by
      obtain ⟨c1, c2⟩ := hns t ht
      obtain ⟨v', u, e, zs, c, hm⟩ := isRowG_mem c1
      obtain ⟨j, hj, hdj, hix, _⟩ := acc_idx hnd hA hm
      simp only at hix hdj
      rw [hix] at c2
      exact hsame j t (.inr c2) hdj
    exact ⟨cs, h1.trans h2, by rw [hcg.1, hcg.2]; exact h3⟩
  | t u e zs c => obtain ⟨b, c', h2⟩ := hp; exact ⟨b, c', h1.trans h2⟩
  | u => exact h1.trans hp
  | c =>
    obtain ⟨t, rfl, c1, c2, c3⟩ := hG.fnd
    obtain ⟨v', u, e, zs, c, hm⟩ := isRowG_mem c1
    obtain ⟨j, hj, hdj, hix, _⟩ := acc_idx hnd hA hm
    simp only at hix hdj
    rw [hix] at c2
    have h2 := hsame j t (.inr c2) hdj
    have hp' : a.tmps.getD d undef = a.tmps.getD t undef := hp
    show a'.tmps.getD d undef = a'.tmps.getD t undef
    rw [h2, ← hp']; exact h1

theorem guardS {ops : Array Oper} {o : Oper} {a : Act} {N : Nat} (hs : a.tmps.size = N) (hw : Region.wanted o (yielded ops a.tmps) = true) : guardV ops (allG N a) o = some true := by
  unfold guardV
  unfold Region.wanted at hw
  split
  · rfl
  · rename_i j want hg
    rw [hg] at hw
    simp only [beq_iff_eq] at hw
    unfold yielded at hw
    split
    · rename_i p hp
      rw [hp] at hw
      split
      · rename_i t ht
        simp only [Option.bind_some, ht] at hw
        split at hw
        · rename_i b hb
          simp at hw; subst hw
          have hlt : t < N := by
            rw [← hs]
            rcases Nat.lt_or_ge t a.tmps.size with h1 | h1
            · exact h1
            · rw [Array.getElem?_eq_none h1] at hb; cases hb
          have e : lookN (allG N a) t = some (.v (a.tmps.getD t undef)) := by
            simp only [allG]
            rw [lookN_map (f := fun t => Gd.AV.v (a.tmps.getD t undef)) (List.mem_range.2 hlt)]
          rw [e]
          simp [Array.getD_eq_getD_getElem?, hb]
        · cases hw
      · rename_i ht
        simp [ht] at hw
    · rename_i hp
      simp [hp] at hw

theorem isSkipG_mem : ∀ {acc : Got} {t : Nat}, isSkipG acc t = true → ∃ v, (t, v, .u) ∈ acc
  | [], t, h => by simp [isSkipG] at h
  | (d, v, q) :: l, t, h => by
    cases q <;> simp only [isSkipG] at h
    case u =>
      simp only [Bool.or_eq_true] at h
      rcases h with h | h
      · rw [← Nat.eq_of_beq_eq_true h]; exact ⟨v, .head _⟩
      · obtain ⟨v', h'⟩ := isSkipG_mem (acc := l) h; exact ⟨v', .tail _ h'⟩
    all_goals
      cases hb : Nat.beq d t <;> rw [hb] at h
      · obtain ⟨v', h'⟩ := isSkipG_mem (acc := l) h; exact ⟨v', .tail _ h'⟩
      · cases h

theorem idxT_t : ∀ {acc : Got} {i : Nat} {d : Nat} {v : AV} {u : Ty} {e : TypeId} {zs : List u.De} {h : Nat}, acc[i]? = some (d, v, .t u e zs h) → Nat.ble (cntT acc) 1 = true → idxT acc = i
  | [], i, d, v, u, e, zs, h, hi, hc => by simp at hi
  | (d', v', q) :: l, i, d, v, u, e, zs, h, hi, hc => by
    cases i with
    | zero =>
      simp at hi
      obtain ⟨_, _, rfl⟩ := hi
      rfl
    | succ i =>
      have hi' : l[i]? = some (d, v, .t u e zs h) := by simpa using hi
      have hpos : ∀ {l : Got} {i : Nat}, l[i]? = some (d, v, .t u e zs h) → 0 < cntT l := by
        intro l
        induction l with
        | nil => intro i hi; simp at hi
        | cons g l ih =>
          intro i hi
          obtain ⟨d2, v2, q2⟩ := g
          cases i with
          | zero =>
            simp at hi
            obtain ⟨_, _, rfl⟩ := hi
            simp [cntT]
          | succ i =>
            have := ih (i := i) (by simpa using hi)
            cases q2 <;> simp only [cntT] <;> omega
      have hp := hpos hi'
      cases q with
      | t u0 e0 zs0 h0 =>
        simp only [cntT] at hc
        have := Nat.le_of_ble_eq_true hc
        omega
      | _ => simp only [idxT]; rw [idxT_t hi' (by simpa only [cntT] using hc)]
theorem idxT_ne : ∀ {acc : Got} {i : Nat} {g : Nat × AV × Gk}, acc[i]? = some g → (∀ u e zs h, g.2.2 ≠ .t u e zs h) → i ≠ idxT acc
  | [], i, g, hi, hn => by simp at hi
  | (d', v', q) :: l, i, g, hi, hn => by
    cases i with
    | zero =>
      simp at hi; subst hi
      cases q with
      | t u0 e0 zs0 h0 => exact absurd rfl (hn u0 e0 zs0 h0)
      | _ => simp [idxT]
    | succ i =>
      have := idxT_ne (acc := l) (i := i) (by simpa using hi) hn
      cases q with
      | t u0 e0 zs0 h0 => simp [idxT]
      | _ => simp only [idxT]; omega
theorem idxT_le : ∀ {acc : Got}, idxT acc ≤ acc.length
  | [] => Nat.le_refl _
  | (d', v', q) :: l => by
    have := idxT_le (acc := l)
    cases q <;> simp only [idxT, List.length_cons] <;> omega
theorem idxT_at : ∀ {acc : Got}, idxT acc < acc.length → ∃ d v u e zs h, acc[idxT acc]? = some (d, v, .t u e zs h)
  | [], h => by simp [idxT] at h
  | (d', v', q) :: l, h => by
    cases q with
    | t u0 e0 zs0 h0 => exact ⟨d', v', u0, e0, zs0, h0, rfl⟩
    | _ =>
      simp only [idxT, List.length_cons] at h ⊢
      obtain ⟨d, v, u, e, zs, h0, h1⟩ := idxT_at (acc := l) (by omega)
      exact ⟨d, v, u, e, zs, h0, by simpa using h1⟩

/-- What is taken. -/
def tkM : Tk → List (Nat × Ob)
  | some q => [q]
  | none => []

/-- An append to a slice of one's own. -/
theorem step_appT (hT : TabOk P Y.T) {X : Cx} {β : Nat → Nat} {G : GL} {D : List DF} {O2 : List TL} {a : Act} {w : World} {ops : Array Oper} {Q : Exit → Act → World → Prop} {rest : List Oper} {u : Ty} {A : Option Addr} {m c : Nat} {e : TypeId} {xs ys zs : List u.De}
    (h : Sb β X G D [] (tlTail (.slice A m c) e (rt u) xs :: O2) a w) {t : TypeId} {s x : Operand} {d : Nat} {ps : String} {af : Array Edge} {ty : TypeId} {gd : Option (Nat × Bool)}
    (hg : guardV ops G ⟨some d, .call ⟨.builtin .append, ⟨[s, x]⟩, ⟨[t, t]⟩⟩, ty, ps, af, gd⟩ = some true) (hlt : okD X d = true) {te ee : TE} (hte : lookT Y.T t = some te) (htd : te.d = .slice e) (he : lookT Y.T e = some ee) (hsz : Nat.beq ee.size u.size = true)
    (hpos : Nat.ble 1 ee.size = true) (hby : Nat.ble 1 ee.bytes = true) (hzl : Nat.beq (cellsL ee.z).length ee.size = true) {A2 : Option Addr} {m2 c2 : Nat} (hs1 : gv G s = some (.v (.slice A m c))) (hx1 : gv G x = some (.v (.slice A2 m2 c2)))
    (hDy : isV (rSl (rt u)) (okOf X.ok X.w.heap.size β [] (tlTail (.slice A m c) e (rt u) xs :: O2) w) w ys (.slice A2 m2 c2)) (happ : app ee.bytes xs ys = some zs)
    (hk : ∀ A' c' a' w', Sb β X (setN G d (.v (.slice A' zs.length c'))) D [] (tlTail (.slice A' zs.length c') e (rt u) zs :: O2) a' w' → wpList P ops Q rest a' w') :
    wpList P ops Q (⟨some d, .call ⟨.builtin .append, ⟨[s, x]⟩, ⟨[t, t]⟩⟩, ty, ps, af, gd⟩ :: rest) a w := by
  have hes : ee.size = (rt u).size := by rw [rt_size]; exact Nat.eq_of_beq_eq_true hsz
  have hxv : isV (rSl (rt u)) (okOf X.ok X.w.heap.size β [] (tlTail (.slice A m c) e (rt u) xs :: O2) w) w xs (.slice A m c) := (h.own _ (.head _)).1.1
  have hsim : SimL (tlTail (.slice A m c) e (rt u) xs :: O2) (tl (.slice A m c) e ee.size :: O2) :=
    .cons ⟨fun _ => Iff.rfl, fun _ _ => by rw [hes]; exact Iff.rfl, fun _ _ hp => by rw [hes]; exact hp.2⟩ (SimL.refl _)
  have hG2 := Sb.simO h hsim
  have hok : ∀ b o, okOf X.ok X.w.heap.size β [] (tlTail (.slice A m c) e (rt u) xs :: O2) w b o → okOf X.ok X.w.heap.size β [] (tl (.slice A m c) e ee.size :: O2) w b o := hsim.ok
  have hG3 := hG2.addD (d := DF.v (rSl (rt u)) xs (.slice A m c)) (hxv.weak hok)
  refine step_append hT hG3 0 0 [] O2 (r := rt u) hg hlt hte htd he hes hzl hpos hby rfl hs1 hx1 rfl (hDy.weak hok) happ fun A' c' a' w' hv' hS => hk A' c' a' w' ?_
  simp only [List.nil_append] at hS hv'
  have hS1 : Sb β X (setN G d (.v (.slice A' zs.length c'))) D [] (tl (.slice A' zs.length c') e ee.size :: O2) a' w' := { hS with dat := hS.dat.2 }
  have hpw := List.pairwise_cons.1 hS1.dOO
  refine Sb.remake hS1 (fun t' ht' => ?_) ?_
  · rcases List.mem_cons.1 ht' with rfl | ht'
    · refine .inl ⟨tl (.slice A' zs.length c') e ee.size, .head _, fun _ hg => hg, fun _ _ hc => by rw [hes]; exact hc, hv', ?_⟩
      have := (hS1.own (tl (.slice A' zs.length c') e ee.size) (.head _)).1
      rw [hes] at this
      exact this
    · exact .inl ⟨t', .tail _ ht', fun _ hg => hg, fun _ _ hc => hc, (hS1.own t' (.tail _ ht')).1⟩
  · exact List.pairwise_cons.2 ⟨fun t ht => hpw.1 t ht, hpw.2⟩

theorem stepD_ok (hT : TabOk P Y.T) (hG0 : GlobOk Y.gl (okN X) X.w) (hX : X.n = n) (hr : X.res = []) (h : Rel X β ρ S0.flat a0 w0) (hnd : ds.Nodup) (hA : AccOk P Y C n l0 ds S0 acc) (hcnt : Nat.ble (cntT acc) 1 = true) {T0 : List TL} (hT0 : idxT acc < acc.length → T0 = memO β ρ (tkM C)) (i : Nat) :
    StepA (acc.map gotQ) (idxT acc) T0 (fun _ => 0) P l0 X (restG X ds a0) (S0.flat.env.map (enD β ρ a0)) [] (memO β ρ S0.flat.mem) ds (acc.map (gotA β ρ)) i := by
  unfold StepA
  split
  · rename_i d fv o hd hf ho
    rw [List.getElem?_map] at hf
    obtain ⟨g, hg, hfv⟩ := Option.map_eq_some_iff.1 hf
    obtain ⟨o', ho', hG⟩ := hA.2 i g hg
    rw [ho] at ho'; injection ho' with ho'; subst ho'
    have hgd : g.1 = d := by rw [← hG.ix]; exact getD_some hd
    subst hgd
    intro β1 a w dX Ox Q hS hpred hold hend
    obtain ⟨hok, hfix⟩ := okW_ok hG.wr hX hr
    have hsz0 : a.tmps.size = X.n := hS.sz
    have hdlt : g.1 < a.tmps.size := by rw [hsz0]; exact okD_lt hok
    have hdin : g.1 ∈ ds := List.mem_of_getElem? hd
    have hwant : Region.wanted o (yielded ⟨l0⟩ a.tmps) = ranG g.2.2 := by
      have hgd := hG.gd
      unfold guardD at hgd
      split at hgd
      · cases hgd
      · rename_i hgt
        injection hgd with hgd
        rw [← hgd]; exact wanted_none (gTmp_none hgt) _
      · rename_i t want hgt
        obtain ⟨hp, hgd⟩ := bvT hgd
        have hiff := wanted_iff (a := a) hgt
        split at hgd
        · rename_i b hlk
          injection hgd with hgd
          obtain ⟨j, hj', hdj, hix, hwr⟩ := acc_idx hnd hA (lookG_mem hlk)
          simp only at hix hdj
          rw [hix] at hp
          obtain ⟨cs, q1, q2⟩ := hpred j _ hp (by rw [List.getElem?_map, hj']; rfl)
          have hlt : t < a.tmps.size := by rw [hsz0]; exact okD_lt (okW_ok hwr hX hr).1
          have q2' : cs = [.bool b] := q2
          subst q2'
          have q3 : a.tmps[t]? = some (.bool b) := by
            have : a.tmps.getD t undef = .bool b := q1
            rw [← this]; simp [Array.getD_eq_getD_getElem?, hlt]
          rw [← hgd]
          cases hw : Region.wanted o (yielded ⟨l0⟩ a.tmps) with
          | true =>
            have := hiff.1 hw
            rw [q3] at this
            injection this with this
            injection this with this
            subst this; simp
          | false =>
            cases hbw : (b == want) with
            | false => rfl
            | true =>
              have : b = want := by simpa using hbw
              subst this
              rw [hiff.2 q3] at hw; cases hw
        · cases hgd
        · obtain ⟨hsk, hgd⟩ := bvT hgd
          injection hgd with hgd
          rw [← hgd]
          obtain ⟨v', hm⟩ := isSkipG_mem hsk
          obtain ⟨j, hj', hdj, hix, hwr⟩ := acc_idx hnd hA hm
          simp only at hix hdj
          rw [hix] at hp
          have q1 := hpred j _ hp (by rw [List.getElem?_map, hj']; rfl)
          have q1' : a.tmps.getD t undef = undef := q1
          cases hw : Region.wanted o (yielded ⟨l0⟩ a.tmps) with
          | false => rfl
          | true =>
            have := hiff.1 hw
            rw [Array.getD_eq_getD_getElem?, this] at q1'
            cases q1'
    -- what it sees
    have hloc : RelW β ρ (okOf X.ok X.w.heap.size β1 [] (Ox ++ memO β ρ S0.flat.mem) w) (locS l0 ds S0 i (acc.take i) o) a w := by
      refine ⟨fun e he => ?_, fun id ob hob => ?_⟩
      · obtain ⟨hcs, hlook⟩ := locE_mem he
        refine ⟨fun _ => ?_, .inl (by rw [hcs]; exact holdsC_nil a)⟩
        rcases hlook with ⟨h1, h2⟩ | ⟨h1, h2, hlt0⟩ | ⟨h2, hlt0⟩
        · obtain ⟨j, hj', hdj, hix, hwr⟩ := acc_idx hnd hA (lookG_mem h1)
          simp only at hix hdj
          rw [hix] at h2
          obtain ⟨cs, q1, q2⟩ := hpred j _ h2 (by rw [List.getElem?_map, hj']; rfl)
          have hlt : e.t < a.tmps.size := by rw [hsz0]; exact okD_lt (okW_ok hwr hX hr).1
          refine ⟨cs, ?_, q2⟩
          rw [← q1, rd_lt (okD_small (okW_ok hwr hX hr).1)]
          simp [Array.getD_eq_getD_getElem?, hlt]
        · have hD := AllD_mem.1 hS.dat _ (.tail _ (List.mem_map.2 ⟨e, h2, rfl⟩))
          obtain ⟨cs, q1, q2⟩ := hD.1 (by rw [hcs]; exact holdsC_nil a0)
          rw [rd_lt hlt0] at q1
          have hlt : e.t < X.n := lt_of_get h q1
          have := hS.tm _ (restG_mem hlt (notIn_ok h1) a0)
          simp only [den_v] at this
          refine ⟨cs, ?_, q2⟩
          rw [rd_lt hlt0, this, ← q1]
          have hlt' : e.t < a0.tmps.size := by rw [h.sz]; exact hlt
          simp [Array.getD_eq_getD_getElem?, hlt']
        · have hD := AllD_mem.1 hS.dat _ (.tail _ (List.mem_map.2 ⟨e, h2, rfl⟩))
          obtain ⟨cs, q1, q2⟩ := hD.1 (by rw [hcs]; exact holdsC_nil a0)
          refine ⟨cs, ?_, q2⟩
          rw [← q1]
          unfold rd
          rw [hlt0]; rfl
      · obtain ⟨l1, l2, e1, _⟩ := lookM_split hob
        exact (hS.own _ (List.mem_append_right _ (by
          show _ ∈ memO β ρ S0.flat.mem
          have e1' : S0.flat.mem = l1 ++ (id, ob) :: l2 := e1
          rw [e1']; simp [memO]))).1
    have hGd : ∀ p ∈ restG X ds a0, p.1 ≠ g.1 := fun p hp e => (restG_not hp).1 (e ▸ hdin)
    have hput : ∀ v, Sb β1 ⟨X.n, X.ok, X.w, remD ds g.1, a, some (fun _ => 0), X.lent, X.lok⟩ (restG X ds a0) (dX :: S0.flat.env.map (enD β ρ a0)) [] (Ox ++ memO β ρ S0.flat.mem) (a.put (some g.1) v) w := fun v =>
      { sz := by simp [Act.put, hsz0], df := hS.df, fr := fun t ht => (put_other (fun e => remD_ne (e ▸ ht)) _).trans (hS.fr t ht), pn := hS.pn,
        tm := fun p hp => (put_other (hGd p hp) _).trans (hS.tm p hp), bel := hS.bel, dat := hS.dat, obj := hS.obj, own := hS.own, dHH := hS.dHH, dHO := hS.dHO, dOO := hS.dOO }
    obtain ⟨gt, gv0, gq⟩ := g
    simp only at hdlt hdin hput
    have hpv : ∀ v, (a.put (some gt) v).tmps.getD gt undef = v := fun v => by simp [Act.put, Array.getD_eq_getD_getElem?, hdlt]
    have hSG : Sb β1 ⟨X.n, X.ok, X.w, remD ds gt, a, some (fun _ => 0), X.lent, X.lok⟩ (allG X.n a) (dX :: S0.flat.env.map (enD β ρ a0)) [] (Ox ++ memO β ρ S0.flat.mem) a w :=
      { sz := hS.sz, df := hS.df, fr := hS.fr, pn := hS.pn, bel := hS.bel, dat := hS.dat, obj := hS.obj, own := hS.own, dHH := hS.dHH, dHO := hS.dHO, dOO := hS.dOO,
        tm := fun p hp => by
          obtain ⟨t, ht, rfl⟩ := List.mem_map.1 hp
          have hlt : t < a.tmps.size := by rw [hsz0]; exact List.mem_range.1 ht
          simp [den_v, Array.getElem?_eq_getElem hlt, Array.getD_eq_getD_getElem?] }
    have hokd : okD ⟨X.n, X.ok, X.w, remD ds gt, a, some (fun _ => 0), X.lent, X.lok⟩ gt = true := by
      simp only [okD, Bool.and_eq_true] at hok ⊢
      exact ⟨hok.1, notIn_of remD_ne, hok.2.2⟩
    have hback : ∀ {v : Value} {O' : List TL} {a' : Act} {w' : World}, Sb β1 ⟨X.n, X.ok, X.w, remD ds gt, a, some (fun _ => 0), X.lent, X.lok⟩ (setN (allG X.n a) gt (.v v)) (dX :: S0.flat.env.map (enD β ρ a0)) [] O' a' w' →
        Sb β1 ⟨X.n, X.ok, X.w, remD ds gt, a, some (fun _ => 0), X.lent, X.lok⟩ (restG X ds a0) (dX :: S0.flat.env.map (enD β ρ a0)) [] O' a' w' ∧ a'.tmps.getD gt undef = v := by
      intro v O' a' w' hS'
      refine ⟨Sb.lessG hS' fun p hp => ?_, ?_⟩
      · obtain ⟨r1, r2, r3⟩ := restG_not hp
        have r4 := hS.tm p hp
        refine .tail _ ?_
        have hne := hGd p hp
        have hm : p ∈ allG X.n a := by
          refine List.mem_map.2 ⟨p.1, List.mem_range.2 r2, ?_⟩
          obtain ⟨p1, p2⟩ := p
          simp only at r3 r4 ⊢
          subst r3
          simp only [den_v] at r4
          rw [Array.getD_eq_getD_getElem?, r4]; rfl
        have : ∀ {l : GL}, p ∈ l → p ∈ remN l gt := by
          intro l
          induction l with
          | nil => intro h; cases h
          | cons x l ih =>
            intro h
            obtain ⟨k, y⟩ := x
            simp only [remN]
            cases hb : Nat.beq k gt with
            | true =>
              rcases List.mem_cons.1 h with e | h
              · subst e; exact absurd (Nat.eq_of_beq_eq_true hb) hne
              · exact ih h
            | false =>
              rcases List.mem_cons.1 h with e | h
              · rw [e]; exact .head _
              · exact .tail _ (ih h)
        exact this hm
      · have := hS'.tm _ (.head _)
        simp only [den_v] at this
        simp [Array.getD_eq_getD_getElem?, this]
    cases gq with
    | v =>
      have hw : Region.wanted o (yielded ⟨l0⟩ a.tmps) = true := hwant
      obtain ⟨h1, h2⟩ := hG.fnd
      refine h1 (show GlobOk Y.gl (okN ⟨X.n, X.ok, X.w, remD ds gt, a, some (fun _ => 0), X.lent, X.lok⟩) X.w from hG0) hSG hloc hw (guardS hsz0 hw) hG.dst hokd fun a' w' cs hS' hcr => ?_
      obtain ⟨q1, q2⟩ := hback hS'
      refine hend β1 a' w' Ox q1 ?_ ?_
      · rw [← hfv]
        exact ⟨cs, q2, hcr⟩
      · refine ⟨fun e => absurd e (idxT_ne hg (fun _ _ _ _ e => by cases e)), fun _ => ?_⟩
        unfold ownStep isOwn
        rw [List.getElem?_map, hg]
        simp [gotQ]
    | u =>
      have hw : Region.wanted o (yielded ⟨l0⟩ a.tmps) = false := hwant
      unfold wpList
      rw [if_neg (by rw [hw]; simp)]
      show Q .normal (a.put o.dst undef) w
      rw [hG.dst]
      refine hend β1 _ w Ox (hput _) ?_ ?_
      · rw [← hfv]
        exact hpv _
      · refine ⟨fun e => absurd e (idxT_ne hg (fun _ _ _ _ e => by cases e)), fun _ => ?_⟩
        unfold ownStep isOwn
        rw [List.getElem?_map, hg]
        simp [gotQ]
    | c =>
      have hw : Region.wanted o (yielded ⟨l0⟩ a.tmps) = true := hwant
      obtain ⟨t, rfl, c1, c2, c3⟩ := hG.fnd
      obtain ⟨v', u, e, zs, c, hm⟩ := isRowG_mem c1
      obtain ⟨j, hj, hdj, hix, _⟩ := acc_idx hnd hA hm
      simp only at hix hdj
      rw [hix] at c2
      have hrun : (execOp a.eval o).run P w = .ok (.value (a.eval (.tmp t))) w := by
        unfold execOp
        rcases c3 with c3 | c3 <;> rw [c3] <;> rfl
      refine wpList_go hw (wp_value hrun ?_)
      rw [hG.dst]
      have hne : t ≠ gt := fun e => by
        subst e
        have h2 := (List.getElem?_eq_some_iff.1 hd)
        have h3 := hnd.idxOf_getElem i h2.1
        rw [h2.2] at h3
        simp only at h3
        rw [hix] at h3
        subst h3
        rw [hj] at hg
        injection hg with hg
        injection hg with _ hg
        injection hg with _ hg
        cases hg
      refine hend β1 _ w Ox (hput _) ?_ ?_
      · rw [← hfv]
        show (a.put (some gt) _).tmps.getD gt undef = (a.put (some gt) _).tmps.getD t undef
        rw [hpv, Array.getD_eq_getD_getElem?, put_other hne]
        simp [Act.eval, Array.getD_eq_getD_getElem?]
      · refine ⟨fun e => absurd e (idxT_ne hg (fun _ _ _ _ e => by cases e)), fun _ => ?_⟩
        unfold ownStep isOwn
        rw [List.getElem?_map, hg]
        simp [gotQ]
    | r u e zs c =>
      have hw : Region.wanted o (yielded ⟨l0⟩ a.tmps) = true := hwant
      have hgv := guardS (ops := ⟨l0⟩) hsz0 hw
      obtain ⟨h1, hb, hmade⟩ := hG.fnd
      rcases hmade with ⟨t, lo, co, te, ee, lv, cv, k1, k2, nl, nc, za, z, hop, hte, htd, he, hl, hc, hli, hci, hza, hz, hsz, hzl, hby, hmk, hqn⟩ | ⟨t, s, x, te, ee, xv, ys, hop, hte, htd, he, hs, hx, hy, hpos, hby, hzl, hsz, happ⟩
      rotate_left
      · obtain ⟨c1, hse, hs2⟩ := hloc.ev (holdsC_nil a) hs
        have hs2' : c1 = _ := hs2
        subst hs2'
        have hse' : a.eval s = .slice none 0 0 := hse
        have hag : (Ty.sl u).agg = xv.isAgg := by
          cases xv with
          | d t' y' => obtain ⟨rfl, _⟩ := Ty.cast_ok (by simpa only [asD] using hy); rfl
          | ag l => simp [asD] at hy
          | _ => rfl
        have hiv := hloc.asD (holdsC_nil a) hx hy hag
        obtain ⟨A2, c2, hev, hyv⟩ := slForm (r := rt u) hiv
        have hnil := Sb.addNilM hSG e (rt u)
        rw [op_eta o, hG.dst, hop] at hgv ⊢
        refine step_mappend hT hnil [] (Ox ++ memO β ρ S0.flat.mem) (r := rt u) hgv hokd hte htd he (by rw [rt_size]; exact Nat.eq_of_beq_eq_true hsz) hzl hpos hby rfl (by rw [gvW hloc hsz0 hs, hse']) (by rw [gvW hloc hsz0 hx, hev]) (hyv.weak ?_) happ fun A' c' a' w' hS' => ?_
        · rintro b o ⟨o1, o2, o3, o4⟩
          refine ⟨o1, o2, o3, fun t ht hc => ?_⟩
          rcases List.mem_cons.1 ht with rfl | ht
          · cases hc
          · exact o4 t ht hc
        · obtain ⟨q1, q2⟩ := hback hS'
          refine hend β1 a' w' (ml (.slice A' zs.length c') e (rt u) zs :: Ox) q1 ?_ ?_
          · rw [← hfv]
            exact ⟨A', c', q2⟩
          · refine ⟨fun e => absurd e (idxT_ne hg (fun _ _ _ _ e => by cases e)), fun _ => ?_⟩
            unfold ownStep isOwn
            rw [List.getElem?_map, hg]
            simp only [Option.map_some, gotQ]
            rw [q2]
      rw [op_eta o, hG.dst, hop] at hgv ⊢
      refine step_make hT hSG (r := rt u) hgv hokd hte htd he (by rw [rt_size]; exact Nat.eq_of_beq_eq_true hsz) hzl hby (fun ok w => asD_ok (β := β) (ρ := ρ) (M := []) (by simp [lookM]) hz (zeroAV_ok hza))
        (by rw [gvW hloc hsz0 hl, hloc.int (holdsC_nil a) hl hli]) (by rw [gvW hloc hsz0 hc, hloc.int (holdsC_nil a) hc hci]) hmk fun b a' w' hS' => ?_
      obtain ⟨q1, q2⟩ := hback hS'
      refine hend β1 a' w' (ml (.slice (some ⟨b, 0, none⟩) zs.length nc.toNat) e (rt u) zs :: Ox) q1 ?_ ?_
      · rw [← hfv]
        exact ⟨_, _, q2⟩
      · refine ⟨fun e => absurd e (idxT_ne hg (fun _ _ _ _ e => by cases e)), fun _ => ?_⟩
        unfold ownStep isOwn
        rw [List.getElem?_map, hg]
        simp only [Option.map_some, gotQ]
        rw [q2]
    | o t c =>
      have hw : Region.wanted o (yielded ⟨l0⟩ a.tmps) = true := hwant
      obtain ⟨h1, hb, e, ty, hop, he, hc, hids⟩ := hG.fnd
      have hrun : (execOp a.eval o).run P w = .ok (.value (.pointer (some ⟨w.heap.size, 0, none⟩))) (w.alloc (.cells (cellsL e.z).toArray t)) := by
        unfold execOp
        simp only [hop]
        simp [Instr.alloc, run_zeroValue hT w he, newVar, newRow, cellsL_eq]
      refine wpList_go hw (wp_value hrun ?_)
      rw [hG.dst]
      have hbel : Below w.heap.size w (w.alloc (.cells (cellsL e.z).toArray t)) := (Below.refl _ _).alloc (Nat.le_refl _) _
      refine hend β1 _ _ (tlVar (fun _ => 0) (fun _ => undef) w.heap.size t c :: Ox) ((hput _).allocTL hbel (fun g hg => ?_) ⟨cellsL e.z, heap_alloc_new w _, zeroAV_ok hc⟩) ?_ ?_
      · have hg' : g = w.heap.size := hg
        omega
      · rw [← hfv]
        exact ⟨w.heap.size, hpv _⟩
      · refine ⟨fun e => absurd e (idxT_ne hg (fun _ _ _ _ e => by cases e)), fun _ => ?_⟩
        unfold ownStep isOwn
        rw [List.getElem?_map, hg]
        simp only [Option.map_some, gotQ]
        rw [hpv]; rfl
    | b ns =>
      have hw : Region.wanted o (yielded ⟨l0⟩ a.tmps) = true := hwant
      obtain ⟨h1, hns, _⟩ := hG.fnd
      have hrows : ∀ t ∈ ns, t ∈ ds ∧ t < X.n ∧ t < 100000 ∧ t ≠ gt ∧ ∃ A m c, a.tmps.getD t undef = .slice A m c := fun t ht => by
        obtain ⟨c1, c2⟩ := hns t ht
        obtain ⟨v', u, e, zs, c, hm⟩ := isRowG_mem c1
        obtain ⟨j, hj, hdj, hix, hwr⟩ := acc_idx hnd hA hm
        simp only at hix hdj
        rw [hix] at c2
        obtain ⟨A, c', q1⟩ := hpred j _ c2 (by rw [List.getElem?_map, hj]; rfl)
        have hok' := (okW_ok hwr hX hr).1
        refine ⟨List.mem_of_getElem? hdj, okD_lt hok', ?_, fun e => ?_, A, _, c', q1⟩
        · have := okD_small hok'
          exact Nat.lt_of_succ_le (Nat.le_of_ble_eq_true this)
        · subst e
          have h2 := (List.getElem?_eq_some_iff.1 hd)
          have h3 := hnd.idxOf_getElem i h2.1
          rw [h2.2] at h3
          simp only at h3
          rw [hix] at h3
          subst h3
          rw [hj] at hg
          injection hg with hg
          injection hg with _ hg
          injection hg with _ hg
          cases hg
      have hlocB : RelW (updBk a ns β) (updV a ns ρ) (okOf X.ok X.w.heap.size β1 [] (Ox ++ memO β ρ S0.flat.mem) w) (locB ds ns (locS l0 ds S0 i (acc.take i) o)) a w := by
        refine ⟨fun e he => ?_, fun id ob hob => by cases hob⟩
        rcases List.mem_append.1 he with he | he
        · obtain ⟨t, ht, rfl⟩ := List.mem_map.1 he
          obtain ⟨r1, r2, r3, _, A, m, c, r4⟩ := hrows t ht
          refine ⟨fun _ => ⟨[a.tmps.getD t undef], ?_, ?_⟩, .inl (holdsC_nil a)⟩
          · have hlt : t < a.tmps.size := by rw [hsz0]; exact r2
            show rd a t = _
            unfold rd
            rw [show Nat.blt t 100000 = true from Nat.ble_eq_true_of_le r3]
            simp [Array.getD_eq_getD_getElem?, hlt]
            rfl
          · exact ⟨by rw [(updP_at (β := β) ht).2], by rw [(updP_at (β := β) ht).2]; exact ⟨A, m, c, r4⟩⟩
        · have hfil : ∀ {l : List En}, e ∈ filE ds l → e ∈ l ∧ noneOf ds e.av = true := by
            intro l
            induction l with
            | nil => intro h; cases h
            | cons x l ih =>
              intro h
              simp only [filE] at h
              cases hb : noneOf ds x.av with
              | true =>
                rw [hb] at h
                rcases List.mem_cons.1 h with rfl | h
                · exact ⟨.head _, hb⟩
                · exact ⟨.tail _ (ih h).1, (ih h).2⟩
              | false => rw [hb] at h; exact ⟨.tail _ (ih h).1, (ih h).2⟩
          obtain ⟨hm, hn⟩ := hfil he
          obtain ⟨g1, g2⟩ := hloc.1 e hm
          refine ⟨fun hc => ?_, g2⟩
          obtain ⟨cs, q1, q2⟩ := g1 hc
          unfold noneOf at hn
          rw [List.all_eq_true] at hn
          refine ⟨cs, q1, updP_ind (C := fun β' ρ' => cr β' ρ' _ w false e.av cs) q2 fun d hd β' ρ' h' => cr_noId (offBy_upd d β' ρ' _ _) (hn d (hrows d hd).1) h'⟩
      refine h1 (show GlobOk Y.gl (okN ⟨X.n, X.ok, X.w, remD ds gt, a, some (fun _ => 0), X.lent, X.lok⟩) X.w from hG0) hSG hlocB hw (guardS hsz0 hw) hG.dst hokd fun a' w' cs hS' hcr => ?_
      obtain ⟨q1, q2⟩ := hback hS'
      have hcg := updP_congr (a := a) (a' := a') (l := ns) (β := β) (ρ := ρ) fun t ht => by
        obtain ⟨r1, r2, r3, r5, A, m, c, r4⟩ := hrows t ht
        have hm : (t, Gd.AV.v (a.tmps.getD t undef)) ∈ setN (allG X.n a) gt (.v (gv0.val cs)) := by
          refine .tail _ ?_
          have h0 : (t, Gd.AV.v (a.tmps.getD t undef)) ∈ allG X.n a := List.mem_map.2 ⟨t, List.mem_range.2 r2, rfl⟩
          revert h0
          generalize allG X.n a = l
          intro h0
          induction l with
          | nil => cases h0
          | cons x l ih =>
            obtain ⟨k, y⟩ := x
            simp only [remN]
            cases hb : Nat.beq k gt with
            | true =>
              rcases List.mem_cons.1 h0 with e | h0
              · injection e with e _; exact absurd (e.trans (Nat.eq_of_beq_eq_true hb)) r5
              · exact ih h0
            | false =>
              rcases List.mem_cons.1 h0 with e | h0
              · rw [e]; exact .head _
              · exact .tail _ (ih h0)
        have := hS'.tm _ hm
        simp only [den_v] at this
        rw [Array.getD_eq_getD_getElem?, this]; rfl
      refine hend β1 a' w' Ox q1 ?_ ?_
      · rw [← hfv]
        exact ⟨cs, q2, by rw [hcg.1, hcg.2]; exact hcr⟩
      · refine ⟨fun e => absurd e (idxT_ne hg (fun _ _ _ _ e => by cases e)), fun _ => ?_⟩
        unfold ownStep isOwn
        rw [List.getElem?_map, hg]
        simp [gotQ]
    | t u e zs h0 =>
      have hw : Region.wanted o (yielded ⟨l0⟩ a.tmps) = true := hwant
      obtain ⟨h1, hb, t, s, x, te, ee, xv, xs, ys, hop, hC, hte, htd, he, hs, hx, hy, hpos, hby, hzl, hsz, happ⟩ := hG.fnd
      have hii : i = idxT acc := (idxT_t hg hcnt).symm
      obtain ⟨Oz, hOz⟩ := hold hii
      have hTT : T0 = [tlOf β ρ h0 (.tail e u xs)] := by
        rw [hT0 (by rw [← hii]; exact acc_lt hg), hC]; rfl
      rw [hTT] at hOz
      have hpm : (Ox ++ memO β ρ S0.flat.mem).Perm (tlOf β ρ h0 (.tail e u xs) :: (Oz ++ memO β ρ S0.flat.mem)) := hOz.append_right _
      have hSP := hSG.perm hpm
      have hgv := guardS (ops := ⟨l0⟩) hsz0 hw
      obtain ⟨c1, hse, hs2, A, m, c, hρ⟩ := hloc.ev (holdsC_nil a) hs
      subst hs2
      have hse' : a.eval s = .slice A m c := by rw [hse, ← hρ]; rfl
      have hag : (Ty.sl u).agg = xv.isAgg := by
        cases xv with
        | d t' y' => obtain ⟨rfl, _⟩ := Ty.cast_ok (by simpa only [asD] using hy); rfl
        | ag l => simp [asD] at hy
        | _ => rfl
      have hiv := hloc.asD (holdsC_nil a) hx hy hag
      obtain ⟨A2, c2, hev, hyv⟩ := slForm (r := rt u) hiv
      have htl : tlOf β ρ h0 (.tail e u xs) = tlTail (.slice A m c) e (rt u) xs := by simp only [tlOf, hρ]
      rw [htl] at hSP
      rw [op_eta o, hG.dst, hop] at hgv ⊢
      refine step_appT hT hSP hgv hokd hte htd he hsz hpos hby hzl (by rw [gvW hloc hsz0 hs, hse']) (by rw [gvW hloc hsz0 hx, hev]) ?_ happ fun A' c' a' w' hS' => ?_
      · have hokp : ∀ b o, okOf X.ok X.w.heap.size β1 [] (Ox ++ memO β ρ S0.flat.mem) w b o → okOf X.ok X.w.heap.size β1 [] (tlTail (.slice A m c) e (rt u) xs :: (Oz ++ memO β ρ S0.flat.mem)) w b o := fun b o ⟨q1, q2, q3, q4⟩ => ⟨q1, q2, q3, fun u hu => q4 u (by rw [← htl] at hu; exact hpm.mem_iff.2 hu)⟩
        exact hyv.weak hokp
      · obtain ⟨q1, q2⟩ := hback hS'
        refine hend β1 a' w' (tlTail (.slice A' zs.length c') e (rt u) zs :: Oz) q1 ?_ ?_
        · rw [← hfv]
          exact ⟨A', c', q2⟩
        · refine ⟨fun _ => ⟨Oz, by rw [hTT]; exact hOz, ?_⟩, fun e => absurd hii e⟩
          unfold ownStep isOwn
          rw [List.getElem?_map, hg]
          simp only [Option.map_some, gotQ]
          rw [q2]
  · trivial

/-! ## Behind the region -/

theorem simT_trans {t1 t2 t3 : TL} (h : simT t1 t2) (k : simT t2 t3) : simT t1 t3 :=
  ⟨fun g => (k.1 g).trans (h.1 g), fun b o => (k.2.1 b o).trans (h.2.1 b o), fun ok w hp => k.2.2 ok w (h.2.2 ok w hp)⟩
theorem SimL_trans : ∀ {l1 l2 l3 : List TL}, SimL l1 l2 → SimL l2 l3 → SimL l1 l3
  | _, _, _, .nil, .nil => .nil
  | _, _, _, .cons h r, .cons k q => .cons (simT_trans h k) (SimL_trans r q)

theorem own_got {β' : Nat → Nat} {ρ' : Nat → Value} {a : Act} : ∀ {acc : Got}, (∀ d ∈ rowIds acc, β' d = blkV (a.tmps.getD d undef) ∧ ρ' d = a.tmps.getD d undef) → (∀ d v t c, (d, v, Gk.o t c) ∈ acc → allIds c = []) → SimL (ownAll (acc.map gotQ) (acc.map (·.1)) a) (memO β' ρ' (gotM acc))
  | [], _, _ => .nil
  | (d, v, .v) :: l, h, hc => by
    have := own_got (acc := l) h fun d v t c hm => hc d v t c (.tail _ hm)
    simpa [gotQ, ownAll, gotM] using this
  | (d, v, .c) :: l, h, hc => by
    have := own_got (acc := l) h fun d v t c hm => hc d v t c (.tail _ hm)
    simpa [gotQ, ownAll, gotM] using this
  | (d, v, .u) :: l, h, hc => by
    have := own_got (acc := l) h fun d v t c hm => hc d v t c (.tail _ hm)
    simpa [gotQ, ownAll, gotM] using this
  | (d, v, .b _) :: l, h, hc => by
    have := own_got (acc := l) h fun d v t c hm => hc d v t c (.tail _ hm)
    simpa [gotQ, ownAll, gotM] using this
  | (d, v, .r u e zs c) :: l, h, hc => by
    have := own_got (acc := l) (fun d' hd => h d' (.tail _ hd)) fun d v t c hm => hc d v t c (.tail _ hm)
    have hd := (h d (.head _)).2
    simp only [List.map_cons, gotQ, ownAll, gotM, memO, tlOf] at this ⊢
    rw [hd]
    exact .cons (simT.refl _) this
  | (d, v, .t u e zs c) :: l, h, hc => by
    have := own_got (acc := l) (fun d' hd => h d' (.tail _ hd)) fun d v t c hm => hc d v t c (.tail _ hm)
    have hd := (h d (.head _)).2
    simp only [List.map_cons, gotQ, ownAll, gotM, memO, tlOf] at this ⊢
    rw [hd]
    exact .cons (simT.refl _) this
  | (d, v, .o t c) :: l, h, hc => by
    have := own_got (acc := l) (fun d' hd => h d' (.tail _ hd)) fun d v t c hm => hc d v t c (.tail _ hm)
    have hd := (h d (.head _)).1
    simp only [List.map_cons, gotQ, ownAll, gotM, memO, tlOf] at this ⊢
    rw [hd]
    refine .cons ⟨fun _ => Iff.rfl, fun _ _ => Iff.rfl, fun ok w ⟨cs, h1, h2⟩ => ⟨cs, h1, cr_agree (fun i hi => ?_) h2⟩⟩ this
    rw [hc d v t c (.head _)] at hi
    cases hi

theorem remEs_mem : ∀ {ds : List Nat} {env : List En} {e : En}, e ∈ remEs env ds → e ∈ env ∧ ∀ d ∈ ds, noId d e.av = true ∧ e.t ≠ d ∧ ∀ c ∈ e.cs, c.1 ≠ d
  | [], env, e, h => ⟨h, by simp⟩
  | d :: ds, env, e, h => by
    obtain ⟨h1, h2⟩ := remEs_mem (ds := ds) h
    obtain ⟨h3, h4, h5⟩ := remE_mem h1
    obtain ⟨h6, h7⟩ := dropId_mem h3
    refine ⟨h6, fun d' hd => ?_⟩
    rcases List.mem_cons.1 hd with rfl | hd
    · exact ⟨h7, h4, h5⟩
    · exact h2 d' hd

theorem gotE_mem : ∀ {acc : Got} {e : En}, e ∈ gotE acc → ∃ q, (e.t, e.av, q) ∈ acc ∧ e.cs = []
  | [], e, h => by cases h
  | (d, v, q) :: l, e, h => by
    rcases List.mem_cons.1 h with rfl | h
    · exact ⟨q, .head _, rfl⟩
    · obtain ⟨q', h1, h2⟩ := gotE_mem h
      exact ⟨q', .tail _ h1, h2⟩

theorem Sb.re0 {G : GL} {D : List DF} {O : List TL} {a' : Act} {w' : World} {β1 β2 : Nat → Nat} {f : Nat → Nat} (h : Sb β1 {X with pin := some f} G D [] O a' w') (hp : X.pin = none) (hG : ∀ q ∈ G, den β1 q.2 = den β2 q.2) : Sb β2 X G D [] O a' w' := by
  have hok : ∀ b o, okOf X.ok X.w.heap.size β1 [] O w' b o → okOf X.ok X.w.heap.size β2 [] O w' b o := fun b o ⟨h1, h2, _, h4⟩ => ⟨h1, h2, by simp, h4⟩
  exact { sz := h.sz, df := h.df, fr := h.fr, pn := fun g hg => (by rw [hp] at hg; cases hg), tm := fun q hq => (h.tm q hq).trans (congrArg some (hG q hq)), bel := h.bel, dat := h.dat.weak hok, obj := by simp,
          own := fun t ht => ⟨t.weak (h.own t ht).1 hok, (h.own t ht).2⟩, dHH := by simp, dHO := by simp, dOO := h.dOO }

theorem regionD_ok (hT : TabOk P Y.T) {K : List Con} (hK : ∀ c ∈ K, ConOk P Y.gl c ∧ Runs P c.f) (hG0 : GlobOk Y.gl (okN X) X.w) {hn : Hn} (hmix : P.follows .mixedOrders = true) (hX : X.n = n) (hr : X.res = []) (hp : X.pin = none) (hC : Rel X β ρ ⟨S0.flat.env, tkM C ++ S0.flat.mem⟩ a0 w0) {p : Nat} (hb : drawB l0 p ds = true)
    {k : Hn → Got → Option R} (hs : runD Y n l0 ds S0 C K hn (l0.take p) 0 [] k = some r) (hct : ∀ h' acc, k h' acc = some r → Nat.ble (cntT acc) 1 = true) {id : Nat} {Q : Exit → Act → World → Prop} (hQn : ∀ e a w, Q e a w → e = .normal)
    (H : ∀ (β' : Nat → Nat) (ρ' : Nat → Value) (a' : Act) (w' : World) (acc : Got) (h' : Hn), k h' acc = some r → Keeps S0 (gotS S0 ds acc) β β' ρ ρ' → Rel X β' ρ' (gotS S0 ds acc).flat a' w' → wpList P ⟨l0⟩ Q (l0.drop p) a' w') :
    (Code.region id ⟨l0⟩ true).wp P Q a0 w0 := by
  have eM : memO β ρ (tkM C ++ S0.flat.mem) = memO β ρ (tkM C) ++ memO β ρ S0.flat.mem := List.map_append
  have h : Rel X β ρ S0.flat a0 w0 := Sb.subO hC (by rw [show memO β ρ (⟨S0.flat.env, tkM C ++ S0.flat.mem⟩ : St).mem = _ from eM]; exact List.sublist_append_right _ _)
  unfold drawB at hb
  simp only [Bool.and_eq_true] at hb
  obtain ⟨⟨⟨⟨⟨hple, hlen⟩, hback⟩, ⟨hfin, hltB⟩⟩, hdst⟩, hndB⟩ := hb
  have hnd := nodupB_ok hndB
  have hpl := Nat.le_of_ble_eq_true hple
  have hdl := Nat.eq_of_beq_eq_true hlen
  obtain ⟨acc, ⟨h', hk⟩, htr⟩ := runD_ok (P := P) hT hK hs
  obtain ⟨hal, hall⟩ := htr.get
  simp only [List.nil_append] at hk
  have hcnt := hct h' acc hk
  have halen : acc.length = ds.length := by rw [hal, List.length_take, hdl]; omega
  have hA : AccOk P Y C n l0 ds S0 acc := by
    refine ⟨halen, fun i g hg => ?_⟩
    have hi : i < acc.length := by
      rcases Nat.lt_or_ge i acc.length with q | q
      · exact q
      · rw [List.getElem?_eq_none q] at hg; cases hg
    have hip : i < p := by omega
    have ho : l0[i]? = some l0[i] := List.getElem?_eq_getElem (by omega)
    obtain ⟨g', q1, q2⟩ := hall i l0[i] (by rw [List.getElem?_take, if_pos hip]; exact ho)
    rw [hg] at q1; injection q1 with q1; subst q1
    refine ⟨l0[i], ho, ?_⟩
    simpa using q2
  have hmemG : ∀ g ∈ acc, ∃ o i, acc[i]? = some g ∧ GotOk P Y C n l0 ds S0 o i (acc.take i) g := fun g hg => by
    obtain ⟨i, hi⟩ := List.getElem?_of_mem hg
    obtain ⟨o, _, hG⟩ := hA.2 i g hi
    exact ⟨o, i, hi, hG⟩
  have hdsE : ds = acc.map (·.1) := by
    refine List.ext_getElem? fun i => ?_
    rcases Nat.lt_or_ge i acc.length with hi | hi
    · rw [List.getElem?_map, List.getElem?_eq_getElem hi]
      obtain ⟨o, _, hG⟩ := hA.2 i acc[i] (List.getElem?_eq_getElem hi)
      exact some_getD (by omega) hG.ix
    · rw [List.getElem?_eq_none (by omega), List.getElem?_eq_none (by simpa using hi)]
  have hgds : ∀ g ∈ acc, g.1 ∈ ds := fun g hg => by rw [hdsE]; exact List.mem_map.2 ⟨g, hg, rfl⟩
  have hdsg : ∀ d ∈ ds, okD X d = true ∧ offF d S0.fix = true := fun d hd => by
    rw [hdsE] at hd
    obtain ⟨g, hg, rfl⟩ := List.mem_map.1 hd
    obtain ⟨o, i, _, hG⟩ := hmemG g hg
    exact okW_ok hG.wr hX hr
  have hrow : ∀ d ∈ rowIds acc, d ∈ ds ∧ okB S0 d = true := fun d hd => by
    obtain ⟨v, q, hm, hq⟩ := rowIds_mem.1 hd
    obtain ⟨o, i, _, hG⟩ := hmemG _ hm
    refine ⟨hgds _ hm, ?_⟩
    cases q with
    | r u e zs c => exact hG.fnd.2.1
    | t u e zs c => exact hG.fnd.2.1
    | o t c => exact hG.fnd.2.1
    | _ => cases hq
  have hfresh : freshB X (restG X ds a0) ds = true := by
    unfold freshB
    rw [List.all_eq_true]
    intro d hd
    simp only [Bool.and_eq_true]
    refine ⟨?_, notIn_of fun hm => ?_⟩
    · have := (hdsg d hd).1
      simp only [okD, Bool.and_eq_true] at this
      exact this.1
    · obtain ⟨q, hq, rfl⟩ := List.mem_map.1 hm
      exact (restG_not hq).1 hd
  have hgo : ∀ T0 : List TL, (idxT acc < acc.length → T0 = memO β ρ (tkM C)) → (idxT acc < p ∨ T0 = []) → Sb (fun _ => 0) X (restG X ds a0) (S0.flat.env.map (enD β ρ a0)) [] (T0 ++ memO β ρ S0.flat.mem) a0 w0 → (Code.region id ⟨l0⟩ true).wp P Q a0 w0 := ?_
  · have hCG : Sb (fun _ => 0) X (restG X ds a0) (S0.flat.env.map (enD β ρ a0)) [] (memO β ρ (tkM C) ++ memO β ρ S0.flat.mem) a0 w0 := by
      rw [← eM]
      exact hC.toG.lessG fun q hq => (List.mem_filter.1 hq).1
    by_cases hi : idxT acc < acc.length
    · exact hgo (memO β ρ (tkM C)) (fun _ => rfl) (.inl (by omega)) hCG
    · exact hgo [] (fun h => absurd h hi) (.inr rfl) (h.toG.lessG fun q hq => (List.mem_filter.1 hq).1)
  intro T0 hT0 hi0 hSb
  refine draw_ruleA (acc.map gotQ) (idxT acc) T0 (β := fun _ => 0) (G := restG X ds a0) (D := S0.flat.env.map (enD β ρ a0)) (H := []) (O := memO β ρ S0.flat.mem) hSb
    (by rw [hr]; rfl) hmix p (lateJ l0 p p 0) ds (acc.map (gotA β ρ)) hi0 (fun hlt => ⟨by
      simp only [Bool.or_eq_true] at hltB
      rcases hltB with h1 | h1
      · have := Nat.le_of_ble_eq_true h1; omega
      · exact h1, hQn⟩) hlen (by rw [List.length_map, halen]; exact hlen) hple hback hfin hdst hndB hfresh (gotA_loc hA hnd)
    (AllB_all fun i _ => stepD_ok hT hG0 hX hr h hnd hA hcnt hT0 i) fun β1 a' w' hS hf => ?_
  -- the names of the rows
  have hat : ∀ d ∈ rowIds acc, updG a' acc ρ d = a'.tmps.getD d undef := fun d hd => (updP_at (β := β) hd).2
  have hatB : ∀ d ∈ rowIds acc, updH a' acc β d = blkV (a'.tmps.getD d undef) := fun d hd => (updP_at (ρ := ρ) hd).1
  have hsim : SimL (memO β ρ S0.flat.mem) (memO (updH a' acc β) (updG a' acc ρ) S0.flat.mem) :=
    updP_ind (C := fun β' ρ' => SimL (memO β ρ S0.flat.mem) (memO β' ρ' S0.flat.mem)) (SimL.refl _) fun d hd β1 ρ1 h1 => SimL_trans h1 (sim_off (offBy_upd d β1 ρ1 _ _) (okB_ok (hrow d hd).2).1)
  have hcr : ∀ {ok : Ok} {w : World} {x : AV} {cs : List Value}, (∀ d ∈ rowIds acc, noId d x = true) → cr β ρ ok w false x cs → cr (updH a' acc β) (updG a' acc ρ) ok w false x cs := fun {ok w x cs} hn hc =>
    updP_ind (C := fun β' ρ' => cr β' ρ' ok w false x cs) hc fun d hd β1 ρ1 h1 => cr_noId (offBy_upd d β1 ρ1 _ _) (hn d hd) h1
  have hag : agP S0.prot β (updH a' acc β) ρ (updG a' acc ρ) :=
    updP_ind (C := fun β' ρ' => agP S0.prot β β' ρ ρ') (agP.refl _ _ _) fun d hd β1 ρ1 h1 => h1.trans (agP_off (okB_ok (hrow d hd).2).2.2 (offBy_upd d β1 ρ1 _ _))
  refine H (updH a' acc β) (updG a' acc ρ) a' w' acc h' hk ⟨rfl, rfl, rfl, hag⟩ ?_
  have hS0 := Sb.re0 (β2 := fun _ => 0) hS hp fun q hq => by rw [(restG_not hq).2.2]; rfl
  have hown : SimL (ownAll (acc.map gotQ) ds a') (memO (updH a' acc β) (updG a' acc ρ) (gotM acc)) := by
    rw [hdsE]
    exact own_got (fun d hd => ⟨hatB d hd, hat d hd⟩) fun d v t c hm => by
      obtain ⟨o, i, _, hG⟩ := hmemG _ hm
      obtain ⟨_, _, _, _, _, _, _, hids⟩ := hG.fnd
      exact hids
  have hO : SimL (ownAll (acc.map gotQ) ds a' ++ memO β ρ S0.flat.mem) (memO (updH a' acc β) (updG a' acc ρ) (gotS S0 ds acc).flat.mem) := by
    have e : memO (updH a' acc β) (updG a' acc ρ) (gotS S0 ds acc).flat.mem = memO (updH a' acc β) (updG a' acc ρ) (gotM acc) ++ memO (updH a' acc β) (updG a' acc ρ) S0.flat.mem := by simp [memO, gotS, XS.flat]
    rw [e]
    exact hown.append hsim
  have hS1 := hS0.simO hO
  have hok : ∀ b o, okOf X.ok X.w.heap.size β1 [] (ownAll (acc.map gotQ) ds a' ++ memO β ρ S0.flat.mem) w' b o → okR X (updH a' acc β) (updG a' acc ρ) (gotS S0 ds acc).flat.mem w' b o := fun b o ⟨h1, h2, _, h4⟩ => hO.ok b o ⟨h1, h2, by simp, h4⟩
  have hoth : ∀ t, t ∉ ds → a'.tmps[t]? = a0.tmps[t]? := fun t ht => by
    rcases Nat.lt_or_ge t X.n with hlt | hge
    · have := hS0.tm _ (restG_mem hlt ht a0)
      simp only [den_v] at this
      rw [this]
      have hlt' : t < a0.tmps.size := by rw [h.sz]; exact hlt
      simp [Array.getD_eq_getD_getElem?, Array.getElem?_eq_getElem hlt']
    · rw [Array.getElem?_eq_none (by rw [hS0.sz]; exact hge), Array.getElem?_eq_none (by rw [h.sz]; exact hge)]
  have hothR : ∀ t, t ∉ ds → rd a' t = rd a0 t := fun t ht => by unfold rd; rw [hoth t ht]
  have hold : ∀ e ∈ S0.flat.env, (∀ d ∈ rowIds acc, noId d e.av = true) → (∀ d ∈ ds, e.t ≠ d ∧ ∀ c ∈ e.cs, c.1 ≠ d) → (enD (updH a' acc β) (updG a' acc ρ) a' e).p (okR X (updH a' acc β) (updG a' acc ρ) (gotS S0 ds acc).flat.mem w') w' := by
    intro e he h1 h2
    have hD := AllD_mem.1 hS0.dat _ (List.mem_map.2 ⟨e, he, rfl⟩)
    have het : e.t ∉ ds := fun hm => (h2 _ hm).1 rfl
    have hcs : ∀ c ∈ e.cs, c.1 ∉ ds := fun c hc hm => (h2 _ hm).2 c hc rfl
    have hcc : holdsC a' e.cs ↔ holdsC a0 e.cs := ⟨fun hc c hm => by rw [← hoth _ (hcs c hm)]; exact hc c hm, fun hc c hm => by rw [hoth _ (hcs c hm)]; exact hc c hm⟩
    refine ⟨fun hc => ?_, ?_⟩
    · obtain ⟨cs, q1, q2⟩ := hD.1 (hcc.1 hc)
      refine ⟨cs, by rw [hothR _ het]; exact q1, cr_weak (hcr h1 q2) ?_⟩
      exact fun b o hbo => hO.ok b o hbo
    · rw [hcc, hothR _ het]; exact hD.2
  have hfin : Rel X (updH a' acc β) (updG a' acc ρ) ⟨(gotS S0 ds acc).flat.env, (gotS S0 ds acc).flat.mem⟩ a' w' := Rel.ofSb hS1 rfl fun e he => by
    have he' : e ∈ (gotE acc ++ remEs S0.env ds) ++ S0.fix := he
    rcases List.mem_append.1 he' with he' | he'
    · rcases List.mem_append.1 he' with he' | he'
      · obtain ⟨q, hm, hcs⟩ := gotE_mem he'
        obtain ⟨o, i, hi, hG⟩ := hmemG _ hm
        have hdi : ds[i]? = some e.t := by rw [hdsE, List.getElem?_map, hi]; rfl
        have hF := hf i (gotA β ρ (e.t, e.av, q)) (by rw [List.getElem?_map, hi]; rfl)
        have hlt : e.t < a'.tmps.size := by rw [hS0.sz]; exact okD_lt (hdsg _ (List.mem_of_getElem? hdi)).1
        have hge : rd a' e.t = some (a'.tmps.getD e.t undef) := by rw [rd_lt (okD_small (hdsg _ (List.mem_of_getElem? hdi)).1)]; simp [Array.getD_eq_getD_getElem?, hlt]
        refine ⟨fun _ => ?_, .inl (by rw [hcs]; exact holdsC_nil a')⟩
        cases q with
        | v =>
          obtain ⟨cs, q1, q2⟩ := hF
          have hn := hG.fnd.2
          unfold noneOf at hn
          rw [List.all_eq_true] at hn
          exact ⟨cs, by rw [← q1]; exact hge, cr_weak (hcr (fun d hd => hn d (hrow d hd).1) q2) hok⟩
        | u =>
          have hav : e.av = .tp .nil := hG.fnd
          have hF' : a'.tmps.getD e.t undef = undef := hF
          rw [hav]
          exact ⟨[.tuple #[]], by rw [hge, hF']; rfl, [], rfl, rfl⟩
        | o t c =>
          obtain ⟨b, q1⟩ := hF
          have hav := hG.fnd.1
          have hid : e.t ∈ rowIds acc := rowIds_mem.2 ⟨_, _, hm, rfl⟩
          rw [hav]
          refine ⟨[.pointer (some ⟨updH a' acc β e.t, 0, none⟩)], ?_, rfl⟩
          rw [hatB _ hid, hge, q1]; rfl
        | b ns =>
          obtain ⟨cs, q1, q2⟩ := hF
          obtain ⟨_, hns, hids⟩ := hG.fnd
          refine ⟨cs, by rw [← q1]; exact hge, cr_weak (cr_agree (fun i hi => ?_) q2) hok⟩
          by_cases hmn : i ∈ ns
          · have hrw : i ∈ rowIds acc := by
              have := (hns i hmn).1
              obtain ⟨v', u, e1, zs, c, hm'⟩ := isRowG_mem this
              exact rowIds_mem.2 ⟨_, _, List.mem_of_mem_take hm', rfl⟩
            rw [hatB i hrw, hat i hrw, (updP_at (ρ := ρ) hmn).1, (updP_at (β := β) hmn).2]
            exact ⟨rfl, rfl⟩
          · have hnr : i ∉ rowIds acc := fun q => hmn (hids i hi (hrow i q).1)
            have p1 := updP_not (a := a') (β := β) (ρ := ρ) hmn
            have p2 := updP_not (a := a') (β := β) (ρ := ρ) hnr
            exact ⟨p2.1.trans p1.1.symm, p2.2.trans p1.2.symm⟩
        | r u e1 zs c =>
          obtain ⟨b, c0, q1⟩ := hF
          have hav := hG.fnd.1
          have hid : e.t ∈ rowIds acc := rowIds_mem.2 ⟨_, _, hm, rfl⟩
          rw [hav]
          refine ⟨[updG a' acc ρ e.t], ?_, rfl, ?_⟩
          · rw [hat _ hid]; exact hge
          · rw [hat _ hid]; exact ⟨_, _, _, q1⟩
        | t u e1 zs c =>
          obtain ⟨b, c0, q1⟩ := hF
          have hav := hG.fnd.1
          have hid : e.t ∈ rowIds acc := rowIds_mem.2 ⟨_, _, hm, rfl⟩
          rw [hav]
          refine ⟨[updG a' acc ρ e.t], ?_, rfl, ?_⟩
          · rw [hat _ hid]; exact hge
          · rw [hat _ hid]; exact ⟨_, _, _, q1⟩
        | c =>
          obtain ⟨t, hav, c1, c2, c3⟩ := hG.fnd
          obtain ⟨v', u, e1, zs, c, hm'⟩ := isRowG_mem c1
          have hm' := List.mem_of_mem_take hm'
          obtain ⟨i', hi'⟩ := List.getElem?_of_mem hm'
          obtain ⟨b, c0, q1⟩ := hf i' (gotA β ρ (t, v', Gk.r u e1 zs c)) (by rw [List.getElem?_map, hi']; rfl)
          have hid : t ∈ rowIds acc := rowIds_mem.2 ⟨_, _, hm', rfl⟩
          have hav' : e.av = .s t := hav
          rw [hav'] at hF ⊢
          have hF' : a'.tmps.getD e.t undef = a'.tmps.getD t undef := hF
          refine ⟨[updG a' acc ρ t], ?_, rfl, ?_⟩
          · rw [hat _ hid, ← hF']; exact hge
          · rw [hat _ hid]; exact ⟨_, _, _, q1⟩
      · obtain ⟨h1, h2⟩ := remEs_mem he'
        exact hold e (List.mem_append_left _ h1) (fun d hd => (h2 d (hrow d hd).1).1) fun d hd => (h2 d hd).2
    · refine hold e (List.mem_append_right _ he') (fun d hd => ?_) fun d hd => offF_rem (hdsg d hd).2 e he'
      exact offI_mem (okB_ok (hrow d hd).2).2.1 e he'
  exact hfin
end
end
end Gx

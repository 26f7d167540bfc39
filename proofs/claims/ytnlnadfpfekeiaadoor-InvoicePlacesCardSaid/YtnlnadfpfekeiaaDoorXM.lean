/- Steps that make slices. -/
import Derived.Test.YtnlnadfpfekeiaaDoorXMb
namespace Gx
open Go Go.RowKit Gd
set_option linter.unusedVariables false
set_option linter.unusedSimpArgs false

section
variable {P : Program} {Y : TX} {X : Cx} {S : XS} {β β' : Nat → Nat} {ρ ρ' : Nat → Value} {a a' : Act} {w w' : World} {n : Nat}
variable {ops : Array Oper} {Q : Exit → Act → World → Prop} {rest : List Oper} {R : Type} {k : XS → Option R} {r : R}

theorem offBy_same (d : Nat) (β : Nat → Nat) (ρ : Nat → Value) (v : Value) : offBy d β β ρ (upd ρ d v) := fun i h => ⟨rfl, upd_other _ _ h⟩

theorem idem_rem (d : Nat) : ∀ l : List En, remE (remE l d) d = remE l d
  | [] => rfl
  | x :: l => by
    simp only [remE]
    cases hb : (Nat.beq x.t d || usesT d x.cs) with
    | true => simpa using idem_rem d l
    | false => simp only [cond_false, remE, hb, idem_rem d l]

/-- Behind a step that made a row: the state. -/
theorem born_row {M : List (Nat × Ob)} (hX : X.n = n) (hr : X.res = []) (hsz : a.tmps.size = X.n) {d : Nat} (hwd : okW n S d = true) (hF : freshM d M = true) (hI : offI d S.fix = true) (hp : memN S.prot d = false) {v : Value} {o : Ob} {T' : TL}
    (hS : Sb (fun _ => 0) X (setN (allG X.n a) d (.v v)) ((S.env ++ S.fix).map (enD β ρ a)) [] (T' :: memO β ρ M) a' w') (hT : simT T' (tlOf β (upd ρ d v) d o)) (hv : ∃ A m c, v = .slice A m c) :
    Rel X β (upd ρ d v) ⟨⟨d, [], .s d⟩ :: (remE (dropId d S.env) d ++ S.fix), (d, o) :: M⟩ a' w' := by
  obtain ⟨h1, h2⟩ := okW_ok hwd hX hr
  have ha := offBy_same d β ρ v
  refine Rel.fin (β' := β) (ρ' := upd ρ d v) (mem' := (d, o) :: M) (fun _ _ => trivial) hS hsz h1 (.cons hT (sim_off ha hF)) (fun e he ok w cs hc => ?_) (fun e he => ?_) (x := .s d) (c := [v]) rfl ?_
  · exact cr_noId ha (born_env hI h2 e he).2.1 hc
  · obtain ⟨q1, _, q3, q4⟩ := born_env hI h2 e he
    exact ⟨q1, q3, q4⟩
  · refine ⟨by rw [upd_same], ?_⟩
    rw [upd_same]; exact hv

theorem op_eta (o : Oper) : o = ⟨o.dst, o.op, o.type, o.pos, o.after, o.guard⟩ := by cases o; rfl

/-- make -/
theorem s_make (hT : TabOk P Y.T) (hX : X.n = n) (hr : X.res = []) (h : Rel X β ρ S.flat a w) {o : Oper} (hw : Region.wanted o (yielded ops a.tmps) = true) {d : Nat} (hd : o.dst = some d) (hwd : okW n S d = true) (hb : okB S d = true)
    {t : TypeId} {l c : Operand} (hop : o.op = .makeSlice t l c) {te ee : TE} {e : TypeId} (hte : lookT Y.T t = some te) (htd : te.d = .slice e) (he : lookT Y.T e = some ee) {lv cv : AV} (hl : S.ev [] l = some lv) (hc : S.ev [] c = some cv)
    {k1 k2 : IntKind} {nl nc : Int} (hli : isInt lv = some (k1, nl)) (hci : isInt cv = some (k2, nc)) {u : Ty} {za : AV} {z : u.De} (hza : zeroAV u ee.z = some za) (hz : asD [] za u = some z) (hsz : Nat.beq ee.size u.size = true)
    (hzl : Nat.beq (cellsL ee.z).length ee.size = true) (hby : Nat.ble 1 ee.bytes = true) {zs : List u.De} (hmk : mkL ee.bytes nl nc z = some zs)
    (hk : k ((S.born d (.row e u zs)).put d [] (.s d)) = some r) (H : KOk P ops Q rest X S β ρ k r) : wpList P ops Q (o :: rest) a w := by
  obtain ⟨f1, f2, f3⟩ := okB_ok hb
  obtain ⟨h1, h2⟩ := okW_ok hwd hX hr
  have hg := guardG h hw
  rw [op_eta o, hd, hop] at hg ⊢
  refine step_make hT h.toG (r := rt u) hg h1 hte htd he (by rw [rt_size]; exact Nat.eq_of_beq_eq_true hsz) hzl hby (fun ok w => asD_ok (β := β) (ρ := ρ) (M := []) (by simp [lookM]) hz (zeroAV_ok hza))
    (by rw [gvE h (holdsC_nil a) hl, h.int (holdsC_nil a) hl hli]) (by rw [gvE h (holdsC_nil a) hc, h.int (holdsC_nil a) hc hci]) hmk fun b a' w' hS => ?_
  refine H β (upd ρ d (.slice (some ⟨b, 0, none⟩) zs.length nc.toNat)) _ _ _ hk (keeps_born f3 (offBy_same d β ρ _) _ _ _) ?_
  have := born_row (o := .row e u zs) hX hr h.sz hwd f1 f2 f3 hS (by simp only [tlOf, upd_same]; exact simT.refl _) ⟨_, _, _, rfl⟩
  exact this

/-- An empty literal. -/
theorem s_lit0 (hT : TabOk P Y.T) (hX : X.n = n) (hr : X.res = []) (h : Rel X β ρ S.flat a w) {o : Oper} (hw : Region.wanted o (yielded ops a.tmps) = true) {d : Nat} (hd : o.dst = some d) (hwd : okW n S d = true) (hb : okB S d = true)
    {t : TypeId} (hop : o.op = .buildSlice t 0 ⟨[]⟩) {te ee : TE} {e : TypeId} (hte : lookT Y.T t = some te) (htd : te.d = .slice e) (he : lookT Y.T e = some ee) {u : Ty} (hsz : Nat.beq ee.size u.size = true)
    (hk : k ((S.born d (.row e u [])).put d [] (.s d)) = some r) (H : KOk P ops Q rest X S β ρ k r) : wpList P ops Q (o :: rest) a w := by
  obtain ⟨f1, f2, f3⟩ := okB_ok hb
  obtain ⟨h1, h2⟩ := okW_ok hwd hX hr
  have hg := guardG h hw
  rw [op_eta o, hd, hop] at hg ⊢
  refine step_buildOwn0 hT h.toG (r := rt u) hg h1 hte htd he fun b a' w' _ hS => ?_
  refine H β (upd ρ d (.slice (some ⟨b, 0, none⟩) (List.length ([] : List u.De)) 0)) _ _ _ hk (keeps_born f3 (offBy_same d β ρ _) _ _ _) ?_
  have e1 : ee.size = (rt u).size := by rw [rt_size]; exact Nat.eq_of_beq_eq_true hsz
  rw [e1] at hS
  have := born_row (o := .row e u []) hX hr h.sz hwd f1 f2 f3 (hS.melt0) (by simp only [tlOf, upd_same]; exact simT.refl _) ⟨_, _, _, rfl⟩
  exact this

theorem fillS {s : Nat} : ∀ (vs : List Value) (j : Nat) (cs : List Value), (∀ v ∈ vs, (cellsL v).length = s) → (j + vs.length) * s ≤ cs.length →
    fillL (placeS s) cs ((List.range' j vs.length).zip vs) = some (cs.take (j * s) ++ vs.flatMap cellsL ++ cs.drop ((j + vs.length) * s))
  | [], j, cs, _, _ => by simp [fillL]
  | v :: vs, j, cs, hv, hl => by
    have h1 := hv v (.head _)
    simp only [List.length_cons] at hl ⊢
    have e0 : (j + (vs.length + 1)) * s = j * s + s + vs.length * s := by rw [Nat.add_mul, Nat.add_mul]; omega
    rw [e0] at hl
    simp only [List.range'_succ, List.zip_cons_cons, fillL, placeS, h1]
    have hb : (Nat.beq s s && Nat.ble (j * s + s) cs.length) = true := by
      simp only [Bool.and_eq_true]
      exact ⟨Nat.beq_refl _, Nat.ble_eq_true_of_le (by omega)⟩
    simp only [hb, cond_true]
    have hlay : (layL cs (j * s) (cellsL v)).length = cs.length := by simp [layL, h1]; omega
    have e1 : (j + 1 + vs.length) * s = j * s + s + vs.length * s := by rw [Nat.add_mul, Nat.add_mul]; omega
    have e2 : (j + 1) * s = j * s + s := by rw [Nat.add_mul]; omega
    have := fillS vs (j + 1) (layL cs (j * s) (cellsL v)) (fun u hu => hv u (.tail _ hu)) (by rw [hlay, e1]; omega)
    rw [this, e1, e2, e0]
    simp only [layL, List.flatMap_cons]
    have hA : (cs.take (j * s) ++ cellsL v).length = j * s + s := by simp [h1]; omega
    congr 1
    rw [List.take_append_of_le_length (by rw [hA]; omega), List.take_of_length_le (by rw [hA]; omega)]
    rw [List.drop_append, hA, List.drop_of_length_le (by rw [hA]; omega), List.nil_append, h1, List.drop_drop]
    simp only [List.append_assoc]
    congr 4
    omega

theorem asLs_ok (h : Rel X β ρ S.flat a w) {u : Ty} : ∀ {ps : List (Nat × Operand)} {vs : List (Nat × AV)} {xs : List u.De} {j : Nat}, evParts' S.flat [] ps = some vs → asLs S.flat.mem u vs j = some xs →
    ∃ us : List Value, ps.map (fun p => (p.1, a.eval p.2)) = (List.range' j us.length).zip us ∧ allV (rt u) (okR X β ρ S.flat.mem w) w xs us ∧ us.length = xs.length ∧ evParts (allG X.n a) ps = some (ps.map (fun p => (p.1, a.eval p.2)))
  | [], vs, xs, j, he, hx => by
    simp [evParts'] at he; subst he
    simp [asLs] at hx; subst hx
    exact ⟨[], rfl, trivial, rfl, rfl⟩
  | (i, x) :: ps, vs, xs, j, he, hx => by
    simp only [evParts'] at he
    split at he
    · rename_i v l hv hl
      simp at he; subst he
      simp only [asLs] at hx
      obtain ⟨hb, hx⟩ := bvT hx
      simp only [Bool.and_eq_true] at hb
      have := Nat.eq_of_beq_eq_true hb.1
      subst this
      split at hx
      · rename_i y ys hy hys
        simp at hx; subst hx
        obtain ⟨us, q1, q2, q3, q4⟩ := asLs_ok h (u := u) (ps := ps) hl hys
        have hiv := h.asD (holdsC_nil a) hv hy (bEq hb.2)
        refine ⟨a.eval x :: us, ?_, ⟨hiv, q2⟩, by simp [q3], ?_⟩
        · simp only [List.map_cons, List.length_cons, List.range'_succ, List.zip_cons_cons, q1]
        · simp only [evParts, gvE h (holdsC_nil a) hv, q4, List.map_cons]
      · cases hx
    · cases he

/-- A literal, as data. -/
theorem s_lit (hT : TabOk P Y.T) (hX : X.n = n) (hr : X.res = []) (h : Rel X β ρ S.flat a w) {o : Oper} (hw : Region.wanted o (yielded ops a.tmps) = true) {d : Nat} (hd : o.dst = some d) (hwd : okW n S d = true)
    {t : TypeId} {m : Nat} {ps : List (Nat × Operand)} (hop : o.op = .buildSlice t (m + 1) ⟨ps⟩) {te ee : TE} {e : TypeId} (hte : lookT Y.T t = some te) (htd : te.d = .slice e) (he : lookT Y.T e = some ee) {u : Ty} (hsz : Nat.beq ee.size u.size = true)
    {vs : List (Nat × AV)} {xs : List u.De} (hvs : evParts' S.flat [] ps = some vs) (hxs : asLs S.flat.mem u vs 0 = some xs) (hl : Nat.beq xs.length (m + 1) = true) (hsm : Nat.ble ((m + 1) * ee.size) 16777216 = true) (hpos : Nat.ble 1 ee.size = true)
    (hzl : Nat.beq (cellsL ee.z).length ee.size = true) (hk : k (S.put d [] (.d (.sl u) xs)) = some r) (H : KOk P ops Q rest X S β ρ k r) : wpList P ops Q (o :: rest) a w := by
  obtain ⟨h1, h2⟩ := okW_ok hwd hX hr
  have hg := guardG h hw
  obtain ⟨us, q1, q2, q3, q4⟩ := asLs_ok h hvs hxs
  have hes := Nat.eq_of_beq_eq_true hsz
  have hxl := Nat.eq_of_beq_eq_true hl
  have hcl : ∀ v ∈ us, (cellsL v).length = ee.size := by
    have key : ∀ {xs : List u.De} {us : List Value}, allV (rt u) (okR X β ρ S.flat.mem w) w xs us → ∀ v ∈ us, (cellsL v).length = ee.size := by
      intro xs
      induction xs with
      | nil => intro us hu v hv; cases us with
        | nil => cases hv
        | cons _ _ => cases hu
      | cons x xs ih =>
        intro us hu v hv
        cases us with
        | nil => cases hv
        | cons y us =>
          rcases List.mem_cons.1 hv with rfl | hv
          · rw [(rt u).len (cellsL_rep hu.1), rt_size, hes]
          · exact ih hu.2 v hv
    exact key q2
  have hz0 : (zerosS (cellsL ee.z) ((m + 1) * ee.size)).length = (m + 1) * ee.size := by simp [zerosS]
  have hfill := fillS us 0 (zerosS (cellsL ee.z) ((m + 1) * ee.size)) hcl (by rw [hz0, Nat.zero_add, q3, hxl]; exact Nat.le_refl _)
  rw [← q1] at hfill
  have hfill' : fillL (placeS ee.size) (zerosS (cellsL ee.z) ((m + 1) * ee.size)) (ps.map (fun p => (p.1, a.eval p.2))) = some (us.flatMap cellsL) := by
    rw [hfill]
    simp only [Nat.zero_mul, List.take_zero, List.nil_append, Nat.zero_add]
    rw [List.drop_of_length_le (by rw [hz0, q3, hxl]; exact Nat.le_refl _), List.append_nil]
  rw [op_eta o, hd, hop] at hg ⊢
  refine step_buildSlice hT h.toG (r := rt u) hg h1 q4 hte htd he (by rw [rt_size]; exact hes) hxl hsm (Nat.ble_eq_true_of_le (by have := Nat.le_of_ble_eq_true hpos; have := Nat.mul_le_mul (Nat.le_add_left 1 m) this; omega)) hzl hfill' q2 fun A c a' w' hv hS => ?_
  refine H β ρ _ _ _ hk (keeps_put S d [] _) ?_
  have hfin := Rel.fin (β' := β) (ρ' := ρ) (env := S.env ++ S.fix) (env' := remE S.env d ++ S.fix) (mem' := S.mem ++ S.fixM) (fun _ _ => trivial) hS h.sz h1 (SimL.refl _) (fun e he ok w cs hc => hc) (fun e he => by
    rcases List.mem_append.1 he with he | he
    · obtain ⟨p1, p2, p3⟩ := remE_mem he
      exact ⟨List.mem_append_left _ p1, p2, p3⟩
    · obtain ⟨p1, p2⟩ := offF_rem h2 e he
      exact ⟨List.mem_append_right _ he, p1, p2⟩) (x := .d (.sl u) xs) (c := [.slice A xs.length c]) rfl ⟨_, rfl, isV_sl.1 hv⟩
  exact hfin

/-! ## append -/

theorem slV (h : Rel X β ρ S.flat a w) {x : Operand} {xv : AV} {u : Ty} {ys : List u.De} (hx : S.ev [] x = some xv) (hy : asD S.flat.mem xv (.sl u) = some ys) :
    ∃ A m c, a.eval x = .slice A m c ∧ isV (rSl (rt u)) (okR X β ρ S.flat.mem w) w ys (.slice A m c) := by
  have hag : (Ty.sl u).agg = xv.isAgg := by
    cases xv with
    | d t' y' => obtain ⟨rfl, _⟩ := Ty.cast_ok (by simpa only [asD] using hy); rfl
    | ag l => simp [asD] at hy
    | _ => rfl
  have hiv := h.asD (holdsC_nil a) hx hy hag
  obtain ⟨A, c, hev, h1⟩ := slForm (r := rt u) hiv
  exact ⟨A, _, c, hev, h1⟩

theorem s_appNil (hT : TabOk P Y.T) (hX : X.n = n) (hr : X.res = []) (h : Rel X β ρ S.flat a w) {o : Oper} (hw : Region.wanted o (yielded ops a.tmps) = true) {d : Nat} (hd : o.dst = some d) (hwd : okW n S d = true) (hb : okB S d = true)
    {t : TypeId} {s x : Operand} (hop : o.op = .call ⟨.builtin .append, ⟨[s, x]⟩, ⟨[t, t]⟩⟩) {te ee : TE} {e : TypeId} (hte : lookT Y.T t = some te) (htd : te.d = .slice e) (he : lookT Y.T e = some ee) {u : Ty} (hsz : Nat.beq ee.size u.size = true)
    (hpos : Nat.ble 1 ee.size = true) (hby : Nat.ble 1 ee.bytes = true) (hzl : Nat.beq (cellsL ee.z).length ee.size = true) {xv : AV} (hs : S.ev [] s = some .ns) (hx : S.ev [] x = some xv) {ys zs : List u.De} (hy : asD S.flat.mem xv (.sl u) = some ys)
    (happ : app ee.bytes [] ys = some zs) (hk : k ((S.born d (.row e u zs)).put d [] (.s d)) = some r) (H : KOk P ops Q rest X S β ρ k r) : wpList P ops Q (o :: rest) a w := by
  obtain ⟨f1, f2, f3⟩ := okB_ok hb
  obtain ⟨h1, h2⟩ := okW_ok hwd hX hr
  have hg := guardG h hw
  obtain ⟨A2, m2, c2, hxe, hyv⟩ := slV h hx hy
  obtain ⟨c1, hse, hs2⟩ := h.ev (holdsC_nil a) hs
  have hs2' : c1 = _ := hs2
  subst hs2'
  have hse' : a.eval s = .slice none 0 0 := hse
  have hnil : Sb (fun _ => 0) X (allG X.n a) (S.flat.env.map (enD β ρ a)) [] (ml (.slice none 0 0) e (rt u) [] :: memO β ρ S.flat.mem) a w := Sb.addNilM h.toG e (rt u)
  have hok : ∀ b o, okR X β ρ S.flat.mem w b o → okOf X.ok X.w.heap.size (fun _ => 0) [] (ml (.slice none 0 0) e (rt u) [] :: memO β ρ S.flat.mem) w b o := by
    rintro b o ⟨o1, o2, o3, o4⟩
    refine ⟨o1, o2, o3, fun t ht hc => ?_⟩
    rcases List.mem_cons.1 ht with rfl | ht
    · cases hc
    · exact o4 t ht hc
  rw [op_eta o, hd, hop] at hg ⊢
  refine step_mappend hT hnil [] (memO β ρ S.flat.mem) (r := rt u) hg h1 hte htd he (by rw [rt_size]; exact Nat.eq_of_beq_eq_true hsz) hzl hpos hby rfl (by rw [gvE h (holdsC_nil a) hs, hse']) (by rw [gvE h (holdsC_nil a) hx, hxe]) (hyv.weak hok) happ fun A' c' a' w' hS => ?_
  refine H β (upd ρ d (.slice A' zs.length c')) _ _ _ hk (keeps_born f3 (offBy_same d β ρ _) _ _ _) ?_
  exact born_row (o := .row e u zs) hX hr h.sz hwd f1 f2 f3 hS (by simp only [tlOf, upd_same]; exact simT.refl _) ⟨_, _, _, rfl⟩

theorem remM_append {l m : List (Nat × Ob)} {id : Nat} {o : Ob} (h : lookM l id = some o) : remM (l ++ m) id = remM l id ++ m := by
  induction l with
  | nil => simp [lookM] at h
  | cons q l ih =>
    simp only [lookM] at h
    simp only [remM, List.cons_append]
    cases hb : Nat.beq q.1 id with
    | true => rfl
    | false => rw [hb] at h; simp only [cond_false, List.cons_append, ih h]

theorem s_appRow (hT : TabOk P Y.T) (hX : X.n = n) (hr : X.res = []) (h : Rel X β ρ S.flat a w) {o : Oper} (hw : Region.wanted o (yielded ops a.tmps) = true) {d : Nat} (hd : o.dst = some d) (hwd : okW n S d = true) {id : Nat}
    (hb : okB ⟨S.env, S.fix, remM S.mem id, S.fixM, S.prot⟩ d = true)
    {t : TypeId} {s x : Operand} (hop : o.op = .call ⟨.builtin .append, ⟨[s, x]⟩, ⟨[t, t]⟩⟩) {te ee : TE} {e : TypeId} (hte : lookT Y.T t = some te) (htd : te.d = .slice e) (he : lookT Y.T e = some ee) {u : Ty} (hsz : Nat.beq ee.size u.size = true)
    (hpos : Nat.ble 1 ee.size = true) (hby : Nat.ble 1 ee.bytes = true) (hzl : Nat.beq (cellsL ee.z).length ee.size = true) {xv : AV} (hs : S.ev [] s = some (.s id)) (hx : S.ev [] x = some xv) {xs ys zs : List u.De} (hm : lookM S.mem id = some (.row e u xs)) (hy : asD S.flat.mem xv (.sl u) = some ys)
    (happ : app ee.bytes xs ys = some zs) (hk : k (({ S with mem := remM S.mem id }.born d (.row e u zs)).put d [] (.s d)) = some r) (H : KOk P ops Q rest X S β ρ k r) : wpList P ops Q (o :: rest) a w := by
  obtain ⟨f1, f2, f3⟩ := okB_ok hb
  obtain ⟨h1, h2⟩ := okW_ok hwd hX hr
  have hg := guardG h hw
  obtain ⟨A2, m2, c2, hxe, hyv⟩ := slV h hx hy
  obtain ⟨c1, hse, hs2, A, m, c, hρ⟩ := h.ev (holdsC_nil a) hs
  subst hs2
  have hse' : a.eval s = .slice A m c := by rw [hse, ← hρ]; rfl
  have hm' : lookM S.flat.mem id = some (.row e u xs) := lookM_append hm
  obtain ⟨l1, l2, e1, _, e3⟩ := lookM_split hm'
  have hO : memO β ρ S.flat.mem = memO β ρ l1 ++ ml (.slice A m c) e (rt u) xs :: memO β ρ l2 := by rw [e1]; simp [memO, tlOf, hρ]
  rw [op_eta o, hd, hop] at hg ⊢
  refine step_mappend hT h.toG (memO β ρ l1) (memO β ρ l2) (r := rt u) hg h1 hte htd he (by rw [rt_size]; exact Nat.eq_of_beq_eq_true hsz) hzl hpos hby hO (by rw [gvE h (holdsC_nil a) hs, hse']) (by rw [gvE h (holdsC_nil a) hx, hxe]) hyv happ fun A' c' a' w' hS => ?_
  refine H β (upd ρ d (.slice A' zs.length c')) _ _ _ hk ⟨rfl, rfl, rfl, agP_off f3 (offBy_same d β ρ _)⟩ ?_
  have e4 : remM S.mem id ++ S.fixM = l1 ++ l2 := by rw [← remM_append hm]; exact e3
  have hS' := hS.perm (O' := ml (.slice A' zs.length c') e (rt u) zs :: memO β ρ (remM S.mem id ++ S.fixM)) (by rw [e4]; simp only [memO, List.map_append]; exact List.perm_middle)
  exact born_row (S := { S with mem := remM S.mem id }) (o := .row e u zs) hX hr h.sz hwd f1 f2 f3 hS' (by simp only [tlOf, upd_same]; exact simT.refl _) ⟨_, _, _, rfl⟩

theorem s_appTail (hT : TabOk P Y.T) (hX : X.n = n) (hr : X.res = []) (h : Rel X β ρ S.flat a w) {o : Oper} (hw : Region.wanted o (yielded ops a.tmps) = true) {d : Nat} (hd : o.dst = some d) (hwd : okW n S d = true) {id : Nat}
    (hb : okB ⟨S.env, S.fix, remM S.mem id, S.fixM, S.prot⟩ d = true)
    {t : TypeId} {s x : Operand} (hop : o.op = .call ⟨.builtin .append, ⟨[s, x]⟩, ⟨[t, t]⟩⟩) {te ee : TE} {e : TypeId} (hte : lookT Y.T t = some te) (htd : te.d = .slice e) (he : lookT Y.T e = some ee) {u : Ty} (hsz : Nat.beq ee.size u.size = true)
    (hpos : Nat.ble 1 ee.size = true) (hby : Nat.ble 1 ee.bytes = true) (hzl : Nat.beq (cellsL ee.z).length ee.size = true) {xv : AV} (hs : S.ev [] s = some (.s id)) (hx : S.ev [] x = some xv) {xs ys zs : List u.De} (hm : lookM S.mem id = some (.tail e u xs)) (hy : asD S.flat.mem xv (.sl u) = some ys)
    (happ : app ee.bytes xs ys = some zs) (hk : k (({ S with mem := remM S.mem id }.born d (.tail e u zs)).put d [] (.s d)) = some r) (H : KOk P ops Q rest X S β ρ k r) : wpList P ops Q (o :: rest) a w := by
  obtain ⟨f1, f2, f3⟩ := okB_ok hb
  obtain ⟨h1, h2⟩ := okW_ok hwd hX hr
  have hg := guardG h hw
  obtain ⟨A2, m2, c2, hxe, hyv⟩ := slV h hx hy
  obtain ⟨c1, hse, hs2, A, m, c, hρ⟩ := h.ev (holdsC_nil a) hs
  subst hs2
  have hse' : a.eval s = .slice A m c := by rw [hse, ← hρ]; rfl
  have hm' : lookM S.flat.mem id = some (.tail e u xs) := lookM_append hm
  have hes : ee.size = (rt u).size := by rw [rt_size]; exact Nat.eq_of_beq_eq_true hsz
  obtain ⟨l1, l2, e1, _, e3⟩ := lookM_split hm'
  have hO : memO β ρ S.flat.mem = memO β ρ l1 ++ tlTail (.slice A m c) e (rt u) xs :: memO β ρ l2 := by rw [e1]; simp [memO, tlOf, hρ]
  have hG := h.toG
  rw [hO] at hG
  have hxv : isV (rSl (rt u)) (okOf X.ok X.w.heap.size (fun _ => 0) [] (memO β ρ S.flat.mem) w) w xs (.slice A m c) := by
    have := (h.ob hm').1.1
    rw [hρ] at this
    exact this
  have hsim : SimL (memO β ρ l1 ++ tlTail (.slice A m c) e (rt u) xs :: memO β ρ l2) (memO β ρ l1 ++ tl (.slice A m c) e ee.size :: memO β ρ l2) :=
    (SimL.refl _).append (.cons ⟨fun _ => Iff.rfl, fun _ _ => by rw [hes]; exact Iff.rfl, fun _ _ hp => by rw [hes]; exact hp.2⟩ (SimL.refl _))
  have hG2 := Sb.simO hG hsim
  have hok : ∀ b o, okOf X.ok X.w.heap.size (fun _ => 0) [] (memO β ρ S.flat.mem) w b o → okOf X.ok X.w.heap.size (fun _ => 0) [] (memO β ρ l1 ++ tl (.slice A m c) e ee.size :: memO β ρ l2) w b o := by rw [hO]; exact hsim.ok
  have hG3 := hG2.addD (d := DF.v (rSl (rt u)) xs (.slice A m c)) (hxv.weak hok)
  rw [op_eta o, hd, hop] at hg ⊢
  refine step_append hT hG3 0 0 (memO β ρ l1) (memO β ρ l2) (r := rt u) hg h1 hte htd he hes hzl hpos hby rfl (by rw [gvE h (holdsC_nil a) hs, hse']) (by rw [gvE h (holdsC_nil a) hx, hxe]) rfl (hyv.weak hok) happ fun A' c' a' w' hv' hS => ?_
  refine H β (upd ρ d (.slice A' zs.length c')) _ _ _ hk ⟨rfl, rfl, rfl, agP_off f3 (offBy_same d β ρ _)⟩ ?_
  have e4 : remM S.mem id ++ S.fixM = l1 ++ l2 := by rw [← remM_append hm]; exact e3
  have hS1 : Sb (fun _ => 0) X (setN (allG X.n a) d (.v (.slice A' zs.length c'))) (S.flat.env.map (enD β ρ a)) [] (memO β ρ l1 ++ tl (.slice A' zs.length c') e ee.size :: memO β ρ l2) a' w' := { hS with dat := hS.dat.2 }
  have hpw := List.pairwise_append.1 hS1.dOO
  have hS2 : Sb (fun _ => 0) X (setN (allG X.n a) d (.v (.slice A' zs.length c'))) (S.flat.env.map (enD β ρ a)) [] (memO β ρ l1 ++ tlTail (.slice A' zs.length c') e (rt u) zs :: memO β ρ l2) a' w' := by
    refine Sb.remake hS1 (fun t' ht' => ?_) ?_
    · rcases List.mem_append.1 ht' with ht' | ht'
      · exact .inl ⟨t', by simp [ht'], fun _ hg => hg, fun _ _ hc => hc, (hS1.own t' (by simp [ht'])).1⟩
      · rcases List.mem_cons.1 ht' with rfl | ht'
        · refine .inl ⟨tl (.slice A' zs.length c') e ee.size, by simp, fun _ hg => hg, fun _ _ hc => by rw [hes]; exact hc, hv', ?_⟩
          have := (hS1.own (tl (.slice A' zs.length c') e ee.size) (by simp)).1
          rw [hes] at this
          exact this
        · exact .inl ⟨t', by simp [ht'], fun _ hg => hg, fun _ _ hc => hc, (hS1.own t' (by simp [ht'])).1⟩
    · have hp2 := List.pairwise_cons.1 hpw.2.1
      refine List.pairwise_append.2 ⟨hpw.1, List.pairwise_cons.2 ⟨fun u hu => hp2.1 u hu, hp2.2⟩, fun t ht t' ht' => ?_⟩
      rcases List.mem_cons.1 ht' with rfl | ht'
      · exact hpw.2.2 t ht (tl (.slice A' zs.length c') e ee.size) (.head _)
      · exact hpw.2.2 t ht t' (.tail _ ht')
  have hS' := hS2.perm (O' := tlTail (.slice A' zs.length c') e (rt u) zs :: memO β ρ (remM S.mem id ++ S.fixM)) (by rw [e4]; simp only [memO, List.map_append]; exact List.perm_middle)
  exact born_row (S := { S with mem := remM S.mem id }) (o := .tail e u zs) hX hr h.sz hwd f1 f2 f3 hS' (by simp only [tlOf, upd_same]; exact simT.refl _) ⟨_, _, _, rfl⟩

theorem put_env {S : XS} {d : Nat} (h2 : offF d S.fix = true) : ∀ e ∈ remE S.env d ++ S.fix, e ∈ S.env ++ S.fix ∧ e.t ≠ d ∧ ∀ c ∈ e.cs, c.1 ≠ d := by
  intro e he
  rcases List.mem_append.1 he with he | he
  · obtain ⟨p1, p2, p3⟩ := remE_mem he
    exact ⟨List.mem_append_left _ p1, p2, p3⟩
  · obtain ⟨p1, p2⟩ := offF_rem h2 e he
    exact ⟨List.mem_append_right _ he, p1, p2⟩

theorem s_appZ (hT : TabOk P Y.T) (hX : X.n = n) (hr : X.res = []) (h : Rel X β ρ S.flat a w) {o : Oper} (hw : Region.wanted o (yielded ops a.tmps) = true) {d : Nat} (hd : o.dst = some d) (hwd : okW n S d = true)
    {t : TypeId} {s x : Operand} (hop : o.op = .call ⟨.builtin .append, ⟨[s, x]⟩, ⟨[t, t]⟩⟩) {te ee : TE} {e : TypeId} (hte : lookT Y.T t = some te) (htd : te.d = .slice e) (he : lookT Y.T e = some ee) {u : Ty} (hsz : Nat.beq ee.size u.size = true)
    (hpos : Nat.ble 1 ee.size = true) (hby : Nat.ble 1 ee.bytes = true) (hzl : Nat.beq (cellsL ee.z).length ee.size = true) {xv : AV} (hs : S.ev [] s = some .z) (hx : S.ev [] x = some xv) {ys zs : List u.De} (hy : asD S.flat.mem xv (.sl u) = some ys)
    (happ : app ee.bytes [] ys = some zs) (hk : k (S.put d [] (.d (.sl u) zs)) = some r) (H : KOk P ops Q rest X S β ρ k r) : wpList P ops Q (o :: rest) a w := by
  obtain ⟨h1, h2⟩ := okW_ok hwd hX hr
  have hg := guardG h hw
  obtain ⟨A2, m2, c2, hxe, hyv⟩ := slV h hx hy
  obtain ⟨c1, hse, A, hs2⟩ := h.ev (holdsC_nil a) hs
  subst hs2
  have hse' : a.eval s = .slice A 0 0 := hse
  rw [op_eta o, hd, hop] at hg ⊢
  refine step_append0 hT h.toG (r := rt u) hg h1 hte htd he (by rw [rt_size]; exact Nat.eq_of_beq_eq_true hsz) hzl hpos hby (by rw [gvE h (holdsC_nil a) hs, hse']) (by rw [gvE h (holdsC_nil a) hx, hxe]) hyv happ fun A' c' a' w' hv hS => ?_
  refine H β ρ _ _ _ hk (keeps_put S d [] _) ?_
  have hfin := Rel.fin (β' := β) (ρ' := ρ) (env := S.env ++ S.fix) (env' := remE S.env d ++ S.fix) (mem' := S.mem ++ S.fixM) (fun _ _ => trivial) hS h.sz h1 (SimL.refl _) (fun e he ok w cs hc => hc) (put_env h2)
    (x := .d (.sl u) zs) (c := [.slice A' zs.length c']) rfl ⟨_, rfl, isV_sl.1 hv⟩
  exact hfin
end
end Gx

/- Steps that make slices. -/
import Derived.Test.YtnlnadfpfekeiaaDoorXMb
namespace Gx
open Go Go.RowKit Gd
set_option linter.unusedVariables false
set_option linter.unusedSimpArgs false
section
variable {P : Program} {Y : TX} {X : Cx} {S : XS} {β β' : Nat → Nat} {ρ ρ' : Nat → Value} {a a' : Act} {w w' : World} {n : Nat}
variable {ops : Array Oper} {Q : Exit → Act → World → Prop} {rest : List Oper} {R : Type} {k : XS → Option R} {r : R}
theorem offBy_same (d : Nat) (β : Nat → Nat) (ρ : Nat → Value) (v : Value) : offBy d β β ρ (upd ρ d v) := fun i h => ⟨rfl, upd_other _ _ h⟩
theorem born_row {M : List (Nat × Ob)} (hX : X.n = n) (hr : X.res = []) (hsz : a.tmps.size = X.n) {d : Nat} (hwd : okW n S d = true) (hF : freshM d M = true) (hI : offI d S.fix = true) (hp : memN S.prot d = false) {v : Value} {o : Ob} {T' : TL}
    (hS : Sb (fun _ => 0) X (setN (allG X.n a) d (.v v)) ((S.env ++ S.fix).map (enD β ρ a)) [] (T' :: memO β ρ M) a' w') (hT : simT T' (tlOf β (upd ρ d v) d o)) (hv : ∃ A m c, v = .slice A m c) :
    Rel X β (upd ρ d v) ⟨⟨d, [], .s d⟩ :: (remE (dropId d S.env) d ++ S.fix), (d, o) :: M⟩ a' w' := by
  obtain ⟨h1, h2⟩ := okW_ok hwd hX hr
  have ha := offBy_same d β ρ v
  refine Rel.fin (β' := β) (ρ' := upd ρ d v) (mem' := (d, o) :: M) (fun _ _ => trivial) hS hsz h1 (.cons hT (sim_off ha hF)) (fun e he ok w cs hc => ?_) (fun e he => ?_) (x := .s d) (c := [v]) rfl ?_
  · exact cr_noId ha (born_env hI h2 e he).2.1 hc
  · obtain ⟨q1, _, q3, q4⟩ := born_env hI h2 e he
    exact ⟨q1, q3, q4⟩
  · refine ⟨⟨_, rfl, .inl (by rw [upd_same])⟩, ?_⟩
    rw [upd_same]; exact hv
theorem op_eta (o : Oper) : o = ⟨o.dst, o.op, o.type, o.pos, o.after, o.guard⟩ := by cases o; rfl
theorem Rel.dropM {S : St} (h : Rel X β ρ S a w) {id : Nat} {o : Ob} (hm : lookM S.mem id = some o) : Rel X β ρ ⟨S.env, remM S.mem id⟩ a w := by
  obtain ⟨l1, l2, e1, _, e3⟩ := lookM_split hm
  have hsub : (memO β ρ (l1 ++ l2)).Sublist (memO β ρ S.mem) := by
    rw [e1]
    refine List.Sublist.map _ ?_
    exact List.Sublist.append_left (List.sublist_cons_self _ _) _
  unfold Rel at h ⊢
  show Sb _ _ _ _ _ (memO β ρ (remM S.mem id)) _ _
  rw [e3]
  exact Sb.remake h (fun t' ht' => .inl ⟨t', hsub.subset ht', fun _ hg => hg, fun _ _ hc => hc, (h.own t' (hsub.subset ht')).1⟩) (h.dOO.sublist hsub)
theorem s_make (hT : TabOk P Y.T) (hX : X.n = n) (hr : X.res = []) (h : Rel X β ρ S.flat a w) {o : Oper} (hw : Region.wanted o (yielded ops a.tmps) = true) {d : Nat} (hd : o.dst = some d) (hwd : okW n S d = true) (hb : okB S d = true)
    {t : TypeId} {l c : Operand} (hop : o.op = .makeSlice t l c) {te ee : TE} {e : TypeId} (hte : lookT Y.T t = some te) (htd : te.d = .slice e) (he : lookT Y.T e = some ee) {lv cv : AV} (hl : S.ev [] l = some lv) (hc : S.ev [] c = some cv)
    {k1 k2 : IntKind} {nl nc : Int} (hli : isInt lv = some (k1, nl)) (hci : isInt cv = some (k2, nc)) {u : Ty} {za : AV} {z : u.De} (hza : zeroAV u ee.z = some za) (hz : asD [] za u = some z) (hsz : Nat.beq ee.size u.size = true)
    (hzl : Nat.beq (cellsL ee.z).length ee.size = true) (hby : Nat.ble 1 ee.bytes = true) {zs : List u.De} (hmk : mkL ee.bytes nl nc z = some zs)
    (hk : k ((S.born d (.row e u zs)).put d [] (.s d)) = some r) (H : KOk P ops Q rest X S β ρ k r) : wpList P ops Q (o :: rest) a w := by
  obtain ⟨f1, f2, f3⟩ := okB_ok hb
  obtain ⟨h1, h2⟩ := okW_ok hwd hX hr
  have hg := guardG h hw
  rw [op_eta o, hd, hop] at hg ⊢
  refine step_make hT h.toG (r := rt u) hg h1 hte htd he (by rw [rt_size]; exact Nat.eq_of_beq_eq_true hsz) hzl hby (fun ok w => asD_ok (β := β) (ρ := ρ) (M := []) (by simp [lookM]) hz (zeroAV_ok hza))
    (by rw [gvE h (holdsC_nil a) hl, h.int (holdsC_nil a) hl hli]) (by rw [gvE h (holdsC_nil a) hc, h.int (holdsC_nil a) hc hci]) hmk fun b a' w' hS => ?_
  refine H β (upd ρ d (.slice (some ⟨b, 0, none⟩) zs.length nc.toNat)) _ _ _ hk (keeps_born f3 (offBy_same d β ρ _) _ _ _) ?_
  have := born_row (o := .row e u zs) hX hr h.sz hwd f1 f2 f3 hS (by simp only [tlOf, upd_same]; exact simT.refl _) ⟨_, _, _, rfl⟩
  exact this
theorem s_lit0 (hT : TabOk P Y.T) (hX : X.n = n) (hr : X.res = []) (h : Rel X β ρ S.flat a w) {o : Oper} (hw : Region.wanted o (yielded ops a.tmps) = true) {d : Nat} (hd : o.dst = some d) (hwd : okW n S d = true) (hb : okB S d = true)
    {t : TypeId} (hop : o.op = .buildSlice t 0 ⟨[]⟩) {te ee : TE} {e : TypeId} (hte : lookT Y.T t = some te) (htd : te.d = .slice e) (he : lookT Y.T e = some ee) {u : Ty} (hsz : Nat.beq ee.size u.size = true)
    (hk : k ((S.born d (.row e u [])).put d [] (.s d)) = some r) (H : KOk P ops Q rest X S β ρ k r) : wpList P ops Q (o :: rest) a w := by
  obtain ⟨f1, f2, f3⟩ := okB_ok hb
  obtain ⟨h1, h2⟩ := okW_ok hwd hX hr
  have hg := guardG h hw
  rw [op_eta o, hd, hop] at hg ⊢
  refine step_buildOwn0 hT h.toG (r := rt u) hg h1 hte htd he fun b a' w' _ hS => ?_
  refine H β (upd ρ d (.slice (some ⟨b, 0, none⟩) (List.length ([] : List u.De)) 0)) _ _ _ hk (keeps_born f3 (offBy_same d β ρ _) _ _ _) ?_
  have e1 : ee.size = (rt u).size := by rw [rt_size]; exact Nat.eq_of_beq_eq_true hsz
  rw [e1] at hS
  have := born_row (o := .row e u []) hX hr h.sz hwd f1 f2 f3 (hS.melt0) (by simp only [tlOf, upd_same]; exact simT.refl _) ⟨_, _, _, rfl⟩
  exact this
theorem asLs_ok (h : Rel X β ρ S.flat a w) {u : Ty} : ∀ {ps : List (Nat × Operand)} {vs : List (Nat × AV)} {xs : List u.De} {j : Nat}, evParts' S.flat [] ps = some vs → asLs S.flat.mem u vs j = some xs →
    ∃ us : List Value, ps.map (fun p => (p.1, a.eval p.2)) = (List.range' j us.length).zip us ∧ allV (rt u) (okR X β ρ S.flat.mem w) w xs us ∧ us.length = xs.length ∧ evParts (allG X.n a) ps = some (ps.map (fun p => (p.1, a.eval p.2)))
  | [], vs, xs, j, he, hx => by
    simp [evParts'] at he; subst he
    simp [asLs] at hx; subst hx
    exact ⟨[], rfl, trivial, rfl, rfl⟩
  | (i, x) :: ps, vs, xs, j, he, hx => by
    simp only [evParts'] at he
    split at he
    · rename_i v l hv hl
      simp at he; subst he
      simp only [asLs] at hx
      obtain ⟨hb, hx⟩ := bvT hx
      simp only [Bool.and_eq_true] at hb
      have := Nat.eq_of_beq_eq_true hb.1
      subst this
      split at hx
      · rename_i y ys hy hys
        simp at hx; subst hx
        obtain ⟨us, q1, q2, q3, q4⟩ := asLs_ok h (u := u) (ps := ps) hl hys
        have hiv := h.asD (holdsC_nil a) hv hy (bEq hb.2)
        refine ⟨a.eval x :: us, ?_, ⟨hiv, q2⟩, by simp [q3], ?_⟩
        · simp only [List.map_cons, List.length_cons, List.range'_succ, List.zip_cons_cons, q1]
        · simp only [evParts, gvE h (holdsC_nil a) hv, q4, List.map_cons]
      · cases hx
    · cases he
theorem s_lit (hT : TabOk P Y.T) (hX : X.n = n) (hr : X.res = []) (h : Rel X β ρ S.flat a w) {o : Oper} (hw : Region.wanted o (yielded ops a.tmps) = true) {d : Nat} (hd : o.dst = some d) (hwd : okW n S d = true)
    {t : TypeId} {m : Nat} {ps : List (Nat × Operand)} (hop : o.op = .buildSlice t (m + 1) ⟨ps⟩) {te ee : TE} {e : TypeId} (hte : lookT Y.T t = some te) (htd : te.d = .slice e) (he : lookT Y.T e = some ee) {u : Ty} (hsz : Nat.beq ee.size u.size = true)
    {vs : List (Nat × AV)} {xs : List u.De} (hvs : evParts' S.flat [] ps = some vs) (hxs : asLs S.flat.mem u vs 0 = some xs) (hl : Nat.beq xs.length (m + 1) = true) (hsm : Nat.ble ((m + 1) * ee.size) 16777216 = true) (hpos : Nat.ble 1 ee.size = true)
    (hzl : Nat.beq (cellsL ee.z).length ee.size = true) (hk : k (S.put d [] (.d (.sl u) xs)) = some r) (H : KOk P ops Q rest X S β ρ k r) : wpList P ops Q (o :: rest) a w := by
  obtain ⟨h1, h2⟩ := okW_ok hwd hX hr
  have hg := guardG h hw
  obtain ⟨us, q1, q2, q3, q4⟩ := asLs_ok h hvs hxs
  have hes := Nat.eq_of_beq_eq_true hsz
  have hxl := Nat.eq_of_beq_eq_true hl
  have hcl : ∀ v ∈ us, (cellsL v).length = ee.size := by
    have key : ∀ {xs : List u.De} {us : List Value}, allV (rt u) (okR X β ρ S.flat.mem w) w xs us → ∀ v ∈ us, (cellsL v).length = ee.size := by
      intro xs
      induction xs with
      | nil => intro us hu v hv; cases us with
        | nil => cases hv
        | cons _ _ => cases hu
      | cons x xs ih =>
        intro us hu v hv
        cases us with
        | nil => cases hv
        | cons y us =>
          rcases List.mem_cons.1 hv with rfl | hv
          · rw [(rt u).len (cellsL_rep hu.1), rt_size, hes]
          · exact ih hu.2 v hv
    exact key q2
  have hz0 : (zerosS (cellsL ee.z) ((m + 1) * ee.size)).length = (m + 1) * ee.size := by simp [zerosS]
  have hfill := fillS us 0 (zerosS (cellsL ee.z) ((m + 1) * ee.size)) hcl (by rw [hz0, Nat.zero_add, q3, hxl]; exact Nat.le_refl _)
  rw [← q1] at hfill
  have hfill' : fillL (placeS ee.size) (zerosS (cellsL ee.z) ((m + 1) * ee.size)) (ps.map (fun p => (p.1, a.eval p.2))) = some (us.flatMap cellsL) := by
    rw [hfill]
    simp only [Nat.zero_mul, List.take_zero, List.nil_append, Nat.zero_add]
    rw [List.drop_of_length_le (by rw [hz0, q3, hxl]; exact Nat.le_refl _), List.append_nil]
  rw [op_eta o, hd, hop] at hg ⊢
  refine step_buildSlice hT h.toG (r := rt u) hg h1 q4 hte htd he (by rw [rt_size]; exact hes) hxl hsm (Nat.ble_eq_true_of_le (by have := Nat.le_of_ble_eq_true hpos; have := Nat.mul_le_mul (Nat.le_add_left 1 m) this; omega)) hzl hfill' q2 fun A c a' w' hv hS => ?_
  refine H β ρ _ _ _ hk (keeps_put S d [] _) ?_
  have hfin := Rel.fin (β' := β) (ρ' := ρ) (env := S.env ++ S.fix) (env' := remE S.env d ++ S.fix) (mem' := S.mem ++ S.fixM) (fun _ _ => trivial) hS h.sz h1 (SimL.refl _) (fun e he ok w cs hc => hc) (fun e he => by
    rcases List.mem_append.1 he with he | he
    · obtain ⟨p1, p2, p3⟩ := remE_mem he
      exact ⟨List.mem_append_left _ p1, p2, p3⟩
    · obtain ⟨p1, p2⟩ := offF_rem h2 e he
      exact ⟨List.mem_append_right _ he, p1, p2⟩) (x := .d (.sl u) xs) (c := [.slice A xs.length c]) rfl ⟨_, rfl, isV_sl.1 hv⟩
  exact hfin
theorem slV (h : Rel X β ρ S.flat a w) {x : Operand} {xv : AV} {u : Ty} {ys : List u.De} (hx : S.ev [] x = some xv) (hy : asD S.flat.mem xv (.sl u) = some ys) :
    ∃ A m c, a.eval x = .slice A m c ∧ isV (rSl (rt u)) (okR X β ρ S.flat.mem w) w ys (.slice A m c) := by
  have hag : (Ty.sl u).agg = xv.isAgg := by
    cases xv with
    | d t' y' => obtain ⟨rfl, _⟩ := Ty.cast_ok (by simpa only [asD] using hy); rfl
    | ag l => simp [asD] at hy
    | _ => rfl
  have hiv := h.asD (holdsC_nil a) hx hy hag
  obtain ⟨A, c, hev, h1⟩ := slForm (r := rt u) hiv
  exact ⟨A, _, c, hev, h1⟩
theorem s_appNil (hT : TabOk P Y.T) (hX : X.n = n) (hr : X.res = []) (h : Rel X β ρ S.flat a w) {o : Oper} (hw : Region.wanted o (yielded ops a.tmps) = true) {d : Nat} (hd : o.dst = some d) (hwd : okW n S d = true) (hb : okB S d = true)
    {t : TypeId} {s x : Operand} (hop : o.op = .call ⟨.builtin .append, ⟨[s, x]⟩, ⟨[t, t]⟩⟩) {te ee : TE} {e : TypeId} (hte : lookT Y.T t = some te) (htd : te.d = .slice e) (he : lookT Y.T e = some ee) {u : Ty} (hsz : Nat.beq ee.size u.size = true)
    (hpos : Nat.ble 1 ee.size = true) (hby : Nat.ble 1 ee.bytes = true) (hzl : Nat.beq (cellsL ee.z).length ee.size = true) {xv : AV} (hs : S.ev [] s = some .ns) (hx : S.ev [] x = some xv) {ys zs : List u.De} (hy : asD S.flat.mem xv (.sl u) = some ys)
    (happ : app ee.bytes [] ys = some zs) (hk : k ((S.born d (.row e u zs)).put d [] (.s d)) = some r) (H : KOk P ops Q rest X S β ρ k r) : wpList P ops Q (o :: rest) a w := by
  obtain ⟨f1, f2, f3⟩ := okB_ok hb
  obtain ⟨h1, h2⟩ := okW_ok hwd hX hr
  have hg := guardG h hw
  obtain ⟨A2, m2, c2, hxe, hyv⟩ := slV h hx hy
  obtain ⟨c1, hse, hs2⟩ := h.ev (holdsC_nil a) hs
  have hs2' : c1 = _ := hs2
  subst hs2'
  have hse' : a.eval s = .slice none 0 0 := hse
  have hnil : Sb (fun _ => 0) X (allG X.n a) (S.flat.env.map (enD β ρ a)) [] (ml (.slice none 0 0) e (rt u) [] :: memO β ρ S.flat.mem) a w := Sb.addNilM h.toG e (rt u)
  have hok : ∀ b o, okR X β ρ S.flat.mem w b o → okOf X.ok X.w.heap.size (fun _ => 0) [] (ml (.slice none 0 0) e (rt u) [] :: memO β ρ S.flat.mem) w b o := by
    rintro b o ⟨o1, o2, o3, o4⟩
    refine ⟨o1, o2, o3, fun t ht hc => ?_⟩
    rcases List.mem_cons.1 ht with rfl | ht
    · cases hc
    · exact o4 t ht hc
  rw [op_eta o, hd, hop] at hg ⊢
  refine step_mappend hT hnil [] (memO β ρ S.flat.mem) (r := rt u) hg h1 hte htd he (by rw [rt_size]; exact Nat.eq_of_beq_eq_true hsz) hzl hpos hby rfl (by rw [gvE h (holdsC_nil a) hs, hse']) (by rw [gvE h (holdsC_nil a) hx, hxe]) (hyv.weak hok) happ fun A' c' a' w' hS => ?_
  refine H β (upd ρ d (.slice A' zs.length c')) _ _ _ hk (keeps_born f3 (offBy_same d β ρ _) _ _ _) ?_
  exact born_row (o := .row e u zs) hX hr h.sz hwd f1 f2 f3 hS (by simp only [tlOf, upd_same]; exact simT.refl _) ⟨_, _, _, rfl⟩
theorem remM_append {l m : List (Nat × Ob)} {id : Nat} {o : Ob} (h : lookM l id = some o) : remM (l ++ m) id = remM l id ++ m := by
  induction l with
  | nil => simp [lookM] at h
  | cons q l ih =>
    simp only [lookM] at h
    simp only [remM, List.cons_append]
    cases hb : Nat.beq q.1 id with
    | true => rfl
    | false => rw [hb] at h; simp only [cond_false, List.cons_append, ih h]
theorem step_zappend {T : Tab} {G : GL} {D : List DF} {H : HL} {O : List TL} (hT : TabOk P T) (h : Sb β X G D H O a w) {t : TypeId} {s x : Operand} {d : Nat} {ps : String} {af : Array Edge} {ty : TypeId} {gd : Option (Nat × Bool)}
    (hg : guardV ops G ⟨some d, .call ⟨.builtin .append, ⟨[s, x]⟩, ⟨[t, t]⟩⟩, ty, ps, af, gd⟩ = some true) (hlt : okD X d = true)
    {τ : Type} {r : RT τ} {ys zs : List τ} {A A2 : Option Addr} {m2 c2 : Nat} {e : TypeId} {te ee : TE} (ht : lookT T t = some te) (htd : te.d = .slice e) (he : lookT T e = some ee) (hs : ee.size = r.size)
    (hz : Nat.beq (cellsL ee.z).length ee.size = true) (hsz : Nat.ble 1 ee.size = true) (hby : Nat.ble 1 ee.bytes = true)
    (hs1 : gv G s = some (.v (.slice A 0 0))) (hx1 : gv G x = some (.v (.slice A2 m2 c2)))
    (hDy : isV (rSl r) (okOf X.ok X.w.heap.size β H O w) w ys (.slice A2 m2 c2)) (happ : app ee.bytes ([] : List τ) ys = some zs)
    (hk1 : zs = [] → ∀ a', Sb β X (setN G d (.v (.slice A 0 0))) D H O a' w → wpList P ops Q rest a' w)
    (hk2 : ∀ A' c' a' w', Sb β X (setN G d (.v (.slice A' zs.length c'))) D H (ml (.slice A' zs.length c') e r zs :: O) a' w' → wpList P ops Q rest a' w') :
    wpList P ops Q (⟨some d, .call ⟨.builtin .append, ⟨[s, x]⟩, ⟨[t, t]⟩⟩, ty, ps, af, gd⟩ :: rest) a w := by
  obtain ⟨hbytes, hzs⟩ := app_ok happ
  simp only [List.nil_append, List.length_nil, Nat.zero_add] at hbytes hzs
  subst hzs
  have h0 := Sb.addNilM h e r
  have hokn : ∀ b o, okOf X.ok X.w.heap.size β H O w b o → okOf X.ok X.w.heap.size β H (ml (.slice none 0 0) e r [] :: O) w b o := by
    rintro b o ⟨o1, o2, o3, o4⟩
    refine ⟨o1, o2, o3, fun t ht hc => ?_⟩
    rcases List.mem_cons.1 ht with rfl | ht
    · cases hc
    · exact o4 t ht hc
  obtain ⟨csy, hcy1, hyl, hmc2, hA2, hcy2, hcy3, hcy4⟩ := slRep_cells (isV_sl.1 (hDy.weak hokn))
  have hzl := Nat.eq_of_beq_eq_true hz
  have hsz' : 0 < ee.size := Nat.le_of_ble_eq_true hsz
  have hby' : 0 < ee.bytes := Nat.le_of_ble_eq_true hby
  have hu : P.underlying t = some (.slice e) := by rw [(lookT_ok hT ht).2, htd]
  obtain ⟨i, hi, hz', hsi, hbi⟩ := lookT_info hT he
  have hm2b : zs.length ≤ 140737488355328 := Nat.le_trans (Nat.le_mul_of_pos_right _ hby') hbytes
  have hm : (Array.mk [s, x]).map a.eval = ⟨[.slice A 0 0, .slice A2 m2 c2]⟩ := by simp [h.ev hs1, h.ev hx1, den_v]
  have hexec : ∀ v' w1, (Builtin.append_ ⟨[t, t]⟩ ty ⟨[.slice A 0 0, .slice A2 m2 c2]⟩).run P w = .ok v' w1 → (execOp a.eval ⟨some d, .call ⟨.builtin .append, ⟨[s, x]⟩, ⟨[t, t]⟩⟩, ty, ps, af, gd⟩).run P w = .ok (.value v') w1 := by
    intro v' w1 hr
    unfold execOp
    simp [resolve, hm, invoke, builtin, hr]
  rcases Nat.eq_zero_or_pos m2 with h0' | h0'
  · subst h0'
    have hx : zs = [] := List.eq_nil_of_length_eq_zero hyl
    have hrun : (Builtin.append_ ⟨[t, t]⟩ ty ⟨[.slice A 0 0, .slice A2 0 c2]⟩).run P w = .ok (.slice A 0 0) w := by
      cases A <;> cases A2 <;> simp [Builtin.append_, run_underlying hu, Go.sizeOf, typeInfo, hi, Builtin.lenOf, Builtin.firstCells, loadCells, loadCellsFrom, storeCells]
    refine wpList_go (guardV_ok h hg) (wp_value (hexec _ _ hrun) ?_)
    exact hk1 hx _ (h.put hlt (.v _))
  · obtain ⟨b, o, rfl, hc⟩ := hcy3 h0'
    have hnews : ∀ j u, csy[j]? = some u → w.cell? ((⟨b, o, none⟩ : Addr).add j) = some u := fun j u hu => by rw [addr_add]; exact (hc j u hu).2
    have hone : (Builtin.append_ ⟨[t, t]⟩ ty ⟨[.slice A 0 0, .slice (some ⟨b, o, none⟩) m2 c2]⟩).run P w = (Builtin.append_ ⟨[t, t]⟩ ty ⟨[.slice none 0 0, .slice (some ⟨b, o, none⟩) m2 c2]⟩).run P w := by
      have hn := run_append_nil (P := P) w t ty e i ee.z hu hi hz' (⟨b, o, none⟩) m2 c2 csy (by rw [hsi, hs]; exact hcy1) hnews h0' (by omega) (by rw [hbi, ← hyl]; omega)
      cases A with
      | none => rfl
      | some ad =>
        have := run_append_grow (P := P) w t ty e i ee.z hu hi hz' ad 0 0 [] (by simp) (by simp) ⟨b, o, none⟩ m2 c2 csy (by rw [hsi, hs]; exact hcy1) hnews (by omega) (by omega) (growslice_fits (by omega) (by rw [hbi, Nat.zero_add, ← hyl]; exact hbytes))
        have hh : (Builtin.append_ #[t, t] ty #[.slice (some ad) 0 0, .slice (some ⟨b, o, none⟩) m2 c2]).run P w = (Builtin.append_ #[t, t] ty #[.slice none 0 0, .slice (some ⟨b, o, none⟩) m2 c2]).run P w := by
          rw [this, hn]; simp
        exact hh
    obtain ⟨v', w1, hrun, hown', hgrow, hblk⟩ := own_append (P := P) (w := w) (ty := ty) hT ht htd he hzl hsz' hby' (World.ownsRowS_nil w 0 e ee.size) (Nat.zero_le _) (k := m2) (c := c2) (A := some ⟨b, o, none⟩) (news := csy) (by rw [hs]; exact hcy1) hA2 (fun ad had => by injection had with had; subst had; exact hnews) hcy2 (by rw [← hyl, Nat.zero_add]; exact hbytes)
    refine wpList_go (guardV_ok h hg) (wp_value (hexec _ _ (hone.trans hrun)) ?_)
    have hform : ∃ A' c', v' = .slice A' (0 + m2) c' := by
      rcases hown'.2 with ⟨rfl, h0⟩ | ⟨g, cap, cur, fz, rfl, _⟩
      · exact ⟨none, 0, by rw [h0]⟩
      · exact ⟨_, cap, rfl⟩
    obtain ⟨A', c', rfl⟩ := hform
    rw [Nat.zero_add] at hown'
    rw [Nat.zero_add] at hblk
    have hS : Sb β X G D H (ml (.slice A' m2 c') e r zs :: O) a w1 := by
      refine h0.upd (O1 := []) rfl hgrow.os hgrow.tape hgrow.output hgrow.size (fun b hb hn => hgrow.block b hb fun e => hn e.symm) (fun b o hb => hb) (fun g hg => ?_) fun hevo hok => ?_
      · rcases hblk with he1 | ⟨he1, _⟩
        · exact .inl (by have hg : (Value.slice A' m2 c').ownBlock = some g := hg; rw [he1] at hg; exact hg)
        · have hg : (Value.slice A' m2 c').ownBlock = some g := hg
          rw [he1] at hg; injection hg with hg; exact .inr (by omega)
      · refine ⟨hyl.symm, csy, by rw [← hs]; exact hown', repA_weak (repA_evo ?_ hevo) hok⟩
        exact repA_of zs csy (by rw [hcy1, hyl]) hcy4
    have := hk2 A' c' (a.put (some d) (.slice A' m2 c')) w1
    rw [hyl] at this
    rw [Nat.zero_add]
    exact this (hS.put hlt (.v _))
theorem born_z {M : List (Nat × Ob)} (hX : X.n = n) (hr : X.res = []) (hsz : a.tmps.size = X.n) {d : Nat} (hwd : okW n S d = true) (hF : freshM d M = true) (hI : offI d S.fix = true) (hp : memN S.prot d = false) {A : Option Addr} {e : TypeId} {u : Ty}
    (hS : Sb (fun _ => 0) X (setN (allG X.n a) d (.v (.slice A 0 0))) ((S.env ++ S.fix).map (enD β ρ a)) [] (memO β ρ M) a' w') :
    Rel X β (upd ρ d (.slice none 0 0)) ⟨⟨d, [], .s d⟩ :: (remE (dropId d S.env) d ++ S.fix), (d, .row e u []) :: M⟩ a' w' := by
  obtain ⟨h1, h2⟩ := okW_ok hwd hX hr
  have ha := offBy_same d β ρ (.slice none 0 0)
  refine Rel.fin (β' := β) (ρ' := upd ρ d (.slice none 0 0)) (mem' := (d, .row e u []) :: M) (fun _ _ => trivial) (Sb.addNilM hS e (rt u)) hsz h1 (.cons (by simp only [tlOf, upd_same]; exact simT.refl _) (sim_off ha hF)) (fun e he ok w cs hc => ?_) (fun e he => ?_) (x := .s d) (c := [.slice A 0 0]) rfl ?_
  · exact cr_noId ha (born_env hI h2 e he).2.1 hc
  · obtain ⟨q1, _, q3, q4⟩ := born_env hI h2 e he
    exact ⟨q1, q3, q4⟩
  · refine ⟨⟨_, rfl, .inr ⟨by rw [upd_same], A, rfl⟩⟩, ?_⟩
    rw [upd_same]; exact ⟨_, _, _, rfl⟩
theorem s_appRow (hT : TabOk P Y.T) (hX : X.n = n) (hr : X.res = []) (h : Rel X β ρ S.flat a w) {o : Oper} (hw : Region.wanted o (yielded ops a.tmps) = true) {d : Nat} (hd : o.dst = some d) (hwd : okW n S d = true) {id : Nat}
    (hb : okB ⟨S.env, S.fix, remM S.mem id, S.fixM, S.prot⟩ d = true)
    {t : TypeId} {s x : Operand} (hop : o.op = .call ⟨.builtin .append, ⟨[s, x]⟩, ⟨[t, t]⟩⟩) {te ee : TE} {e : TypeId} (hte : lookT Y.T t = some te) (htd : te.d = .slice e) (he : lookT Y.T e = some ee) {u : Ty} (hsz : Nat.beq ee.size u.size = true)
    (hpos : Nat.ble 1 ee.size = true) (hby : Nat.ble 1 ee.bytes = true) (hzl : Nat.beq (cellsL ee.z).length ee.size = true) {xv : AV} (hs : S.ev [] s = some (.s id)) (hx : S.ev [] x = some xv) {xs ys zs : List u.De} (hm : lookM S.mem id = some (.row e u xs)) (hy : asD S.flat.mem xv (.sl u) = some ys)
    (happ : app ee.bytes xs ys = some zs) (hk : k (({ S with mem := remM S.mem id }.born d (.row e u zs)).put d [] (.s d)) = some r) (H : KOk P ops Q rest X S β ρ k r) : wpList P ops Q (o :: rest) a w := by
  obtain ⟨f1, f2, f3⟩ := okB_ok hb
  obtain ⟨h1, h2⟩ := okW_ok hwd hX hr
  have hg := guardG h hw
  obtain ⟨A2, m2, c2, hxe, hyv⟩ := slV h hx hy
  obtain ⟨c1, hse, ⟨v0, hs2, hz0⟩, A, m, c, hρ⟩ := h.ev (holdsC_nil a) hs
  subst hs2
  have hm' : lookM S.flat.mem id = some (.row e u xs) := lookM_append hm
  have e4' : remM S.mem id ++ S.fixM = remM S.flat.mem id := (remM_append hm).symm
  rcases hz0 with hz0 | ⟨h00, A0, hz0⟩
  case inr =>
    have hse' : a.eval s = .slice A0 0 0 := by rw [hse, ← hz0]; rfl
    have hxs : xs = [] := by
      have := (h.ob hm').1.1
      rw [h00] at this
      exact List.length_eq_zero_iff.1 this.symm
    subst hxs
    have hR := h.dropM hm'
    have hok' : ∀ b o, okR X β ρ S.flat.mem w b o → okOf X.ok X.w.heap.size (fun _ => 0) [] (memO β ρ (remM S.flat.mem id)) w b o := by
      rintro b o ⟨o1, o2, o3, o4⟩
      refine ⟨o1, o2, o3, fun t ht hc => ?_⟩
      obtain ⟨l1, l2, e1, _, e3⟩ := lookM_split hm'
      obtain ⟨q, hq, rfl⟩ := List.mem_map.1 ht
      rw [e3] at hq
      refine o4 _ (List.mem_map.2 ⟨q, ?_, rfl⟩) hc
      rw [e1]
      rcases List.mem_append.1 hq with hq | hq
      · exact List.mem_append_left _ hq
      · exact List.mem_append_right _ (.tail _ hq)
    rw [op_eta o, hd, hop] at hg ⊢
    refine step_zappend (a := a) hT hR.toG (r := rt u) hg h1 hte htd he (by rw [rt_size]; exact Nat.eq_of_beq_eq_true hsz) hzl hpos hby (by rw [gvE h (holdsC_nil a) hs, hse']) (by rw [gvE h (holdsC_nil a) hx, hxe]) (hyv.weak hok') happ (fun hz a' hS => ?_) fun A' c' a' w' hS => ?_
    · subst hz
      rw [← e4'] at hS
      exact H β (upd ρ d (.slice none 0 0)) _ _ _ hk ⟨rfl, rfl, rfl, agP_off f3 (offBy_same d β ρ _)⟩ (born_z (S := { S with mem := remM S.mem id }) hX hr h.sz hwd f1 f2 f3 hS)
    · rw [← e4'] at hS
      refine H β (upd ρ d (.slice A' zs.length c')) _ _ _ hk ⟨rfl, rfl, rfl, agP_off f3 (offBy_same d β ρ _)⟩ ?_
      exact born_row (S := { S with mem := remM S.mem id }) (o := .row e u zs) hX hr h.sz hwd f1 f2 f3 hS (by simp only [tlOf, upd_same]; exact simT.refl _) ⟨_, _, _, rfl⟩
  have hse' : a.eval s = .slice A m c := by rw [hse, ← hρ, ← hz0]; rfl
  obtain ⟨l1, l2, e1, _, e3⟩ := lookM_split hm'
  have hO : memO β ρ S.flat.mem = memO β ρ l1 ++ ml (.slice A m c) e (rt u) xs :: memO β ρ l2 := by rw [e1]; simp [memO, tlOf, hρ]
  rw [op_eta o, hd, hop] at hg ⊢
  refine step_mappend hT h.toG (memO β ρ l1) (memO β ρ l2) (r := rt u) hg h1 hte htd he (by rw [rt_size]; exact Nat.eq_of_beq_eq_true hsz) hzl hpos hby hO (by rw [gvE h (holdsC_nil a) hs, hse']) (by rw [gvE h (holdsC_nil a) hx, hxe]) hyv happ fun A' c' a' w' hS => ?_
  refine H β (upd ρ d (.slice A' zs.length c')) _ _ _ hk ⟨rfl, rfl, rfl, agP_off f3 (offBy_same d β ρ _)⟩ ?_
  have e4 : remM S.mem id ++ S.fixM = l1 ++ l2 := by rw [← remM_append hm]; exact e3
  have hS' := hS.perm (O' := ml (.slice A' zs.length c') e (rt u) zs :: memO β ρ (remM S.mem id ++ S.fixM)) (by rw [e4]; simp only [memO, List.map_append]; exact List.perm_middle)
  exact born_row (S := { S with mem := remM S.mem id }) (o := .row e u zs) hX hr h.sz hwd f1 f2 f3 hS' (by simp only [tlOf, upd_same]; exact simT.refl _) ⟨_, _, _, rfl⟩
theorem s_appTail (hT : TabOk P Y.T) (hX : X.n = n) (hr : X.res = []) (h : Rel X β ρ S.flat a w) {o : Oper} (hw : Region.wanted o (yielded ops a.tmps) = true) {d : Nat} (hd : o.dst = some d) (hwd : okW n S d = true) {id : Nat}
    (hb : okB ⟨S.env, S.fix, remM S.mem id, S.fixM, S.prot⟩ d = true)
    {t : TypeId} {s x : Operand} (hop : o.op = .call ⟨.builtin .append, ⟨[s, x]⟩, ⟨[t, t]⟩⟩) {te ee : TE} {e : TypeId} (hte : lookT Y.T t = some te) (htd : te.d = .slice e) (he : lookT Y.T e = some ee) {u : Ty} (hsz : Nat.beq ee.size u.size = true)
    (hpos : Nat.ble 1 ee.size = true) (hby : Nat.ble 1 ee.bytes = true) (hzl : Nat.beq (cellsL ee.z).length ee.size = true) {xv : AV} (hs : S.ev [] s = some (.s id)) (hx : S.ev [] x = some xv) {xs ys zs : List u.De} (hm : lookM S.mem id = some (.tail e u xs)) (hy : asD S.flat.mem xv (.sl u) = some ys)
    (happ : app ee.bytes xs ys = some zs) (hk : k (({ S with mem := remM S.mem id }.born d (.tail e u zs)).put d [] (.s d)) = some r) (H : KOk P ops Q rest X S β ρ k r) : wpList P ops Q (o :: rest) a w := by
  obtain ⟨f1, f2, f3⟩ := okB_ok hb
  obtain ⟨h1, h2⟩ := okW_ok hwd hX hr
  have hg := guardG h hw
  obtain ⟨A2, m2, c2, hxe, hyv⟩ := slV h hx hy
  obtain ⟨c1, hse, ⟨v0, hs2, hz0⟩, A, m, c, hρ⟩ := h.ev (holdsC_nil a) hs
  subst hs2
  have hm' : lookM S.flat.mem id = some (.tail e u xs) := lookM_append hm
  have e4' : remM S.mem id ++ S.fixM = remM S.flat.mem id := (remM_append hm).symm
  rcases hz0 with hz0 | ⟨h00, A0, hz0⟩
  case inr =>
    have hse' : a.eval s = .slice A0 0 0 := by rw [hse, ← hz0]; rfl
    have hxs : xs = [] := by
      have := (h.ob hm').1.1
      rw [h00] at this
      obtain ⟨A', c', q1, _⟩ := slForm this
      injection q1 with _ q2
      exact List.length_eq_zero_iff.1 q2.symm
    subst hxs
    have hR := h.dropM hm'
    have hok' : ∀ b o, okR X β ρ S.flat.mem w b o → okOf X.ok X.w.heap.size (fun _ => 0) [] (memO β ρ (remM S.flat.mem id)) w b o := by
      rintro b o ⟨o1, o2, o3, o4⟩
      refine ⟨o1, o2, o3, fun t ht hc => ?_⟩
      obtain ⟨l1, l2, e1, _, e3⟩ := lookM_split hm'
      obtain ⟨q, hq, rfl⟩ := List.mem_map.1 ht
      rw [e3] at hq
      refine o4 _ (List.mem_map.2 ⟨q, ?_, rfl⟩) hc
      rw [e1]
      rcases List.mem_append.1 hq with hq | hq
      · exact List.mem_append_left _ hq
      · exact List.mem_append_right _ (.tail _ hq)
    have hfz : ∀ {ρ1 : Nat → Value} {a1 : Act} {w1 : World}, Rel X β ρ1 ⟨⟨d, [], .s d⟩ :: (remE (dropId d S.env) d ++ S.fix), (d, .row e u zs) :: (remM S.mem id ++ S.fixM)⟩ a1 w1 → Rel X β ρ1 ⟨⟨d, [], .s d⟩ :: (remE (dropId d S.env) d ++ S.fix), (d, .tail e u zs) :: (remM S.mem id ++ S.fixM)⟩ a1 w1 :=
      fun hq => Rel.freeze1 (l1 := []) hq (by rw [← Nat.eq_of_beq_eq_true hsz]; exact hpos)
    rw [op_eta o, hd, hop] at hg ⊢
    refine step_zappend (a := a) hT hR.toG (r := rt u) hg h1 hte htd he (by rw [rt_size]; exact Nat.eq_of_beq_eq_true hsz) hzl hpos hby (by rw [gvE h (holdsC_nil a) hs, hse']) (by rw [gvE h (holdsC_nil a) hx, hxe]) (hyv.weak hok') happ (fun hz a' hS => ?_) fun A' c' a' w' hS => ?_
    · subst hz
      rw [← e4'] at hS
      exact H β (upd ρ d (.slice none 0 0)) _ _ _ hk ⟨rfl, rfl, rfl, agP_off f3 (offBy_same d β ρ _)⟩ (hfz (born_z (S := { S with mem := remM S.mem id }) hX hr h.sz hwd f1 f2 f3 hS))
    · rw [← e4'] at hS
      refine H β (upd ρ d (.slice A' zs.length c')) _ _ _ hk ⟨rfl, rfl, rfl, agP_off f3 (offBy_same d β ρ _)⟩ (hfz ?_)
      exact born_row (S := { S with mem := remM S.mem id }) (o := .row e u zs) hX hr h.sz hwd f1 f2 f3 hS (by simp only [tlOf, upd_same]; exact simT.refl _) ⟨_, _, _, rfl⟩
  have hse' : a.eval s = .slice A m c := by rw [hse, ← hρ, ← hz0]; rfl
  have hes : ee.size = (rt u).size := by rw [rt_size]; exact Nat.eq_of_beq_eq_true hsz
  obtain ⟨l1, l2, e1, _, e3⟩ := lookM_split hm'
  have hO : memO β ρ S.flat.mem = memO β ρ l1 ++ tlTail (.slice A m c) e (rt u) xs :: memO β ρ l2 := by rw [e1]; simp [memO, tlOf, hρ]
  have hG := h.toG
  rw [hO] at hG
  have hxv : isV (rSl (rt u)) (okOf X.ok X.w.heap.size (fun _ => 0) [] (memO β ρ S.flat.mem) w) w xs (.slice A m c) := by
    have := (h.ob hm').1.1
    rw [hρ] at this
    exact this
  have hsim : SimL (memO β ρ l1 ++ tlTail (.slice A m c) e (rt u) xs :: memO β ρ l2) (memO β ρ l1 ++ tl (.slice A m c) e ee.size :: memO β ρ l2) :=
    (SimL.refl _).append (.cons ⟨fun _ => Iff.rfl, fun _ _ => by rw [hes]; exact Iff.rfl, fun _ _ hp => by rw [hes]; exact hp.2⟩ (SimL.refl _))
  have hG2 := Sb.simO hG hsim
  have hok : ∀ b o, okOf X.ok X.w.heap.size (fun _ => 0) [] (memO β ρ S.flat.mem) w b o → okOf X.ok X.w.heap.size (fun _ => 0) [] (memO β ρ l1 ++ tl (.slice A m c) e ee.size :: memO β ρ l2) w b o := by rw [hO]; exact hsim.ok
  have hG3 := hG2.addD (d := DF.v (rSl (rt u)) xs (.slice A m c)) (hxv.weak hok)
  rw [op_eta o, hd, hop] at hg ⊢
  refine step_append hT hG3 0 0 (memO β ρ l1) (memO β ρ l2) (r := rt u) hg h1 hte htd he hes hzl hpos hby rfl (by rw [gvE h (holdsC_nil a) hs, hse']) (by rw [gvE h (holdsC_nil a) hx, hxe]) rfl (hyv.weak hok) happ fun A' c' a' w' hv' hS => ?_
  refine H β (upd ρ d (.slice A' zs.length c')) _ _ _ hk ⟨rfl, rfl, rfl, agP_off f3 (offBy_same d β ρ _)⟩ ?_
  have e4 : remM S.mem id ++ S.fixM = l1 ++ l2 := by rw [← remM_append hm]; exact e3
  have hS1 : Sb (fun _ => 0) X (setN (allG X.n a) d (.v (.slice A' zs.length c'))) (S.flat.env.map (enD β ρ a)) [] (memO β ρ l1 ++ tl (.slice A' zs.length c') e ee.size :: memO β ρ l2) a' w' := { hS with dat := hS.dat.2 }
  have hpw := List.pairwise_append.1 hS1.dOO
  have hS2 : Sb (fun _ => 0) X (setN (allG X.n a) d (.v (.slice A' zs.length c'))) (S.flat.env.map (enD β ρ a)) [] (memO β ρ l1 ++ tlTail (.slice A' zs.length c') e (rt u) zs :: memO β ρ l2) a' w' := by
    refine Sb.remake hS1 (fun t' ht' => ?_) ?_
    · rcases List.mem_append.1 ht' with ht' | ht'
      · exact .inl ⟨t', by simp [ht'], fun _ hg => hg, fun _ _ hc => hc, (hS1.own t' (by simp [ht'])).1⟩
      · rcases List.mem_cons.1 ht' with rfl | ht'
        · refine .inl ⟨tl (.slice A' zs.length c') e ee.size, by simp, fun _ hg => hg, fun _ _ hc => by rw [hes]; exact hc, hv', ?_⟩
          have := (hS1.own (tl (.slice A' zs.length c') e ee.size) (by simp)).1
          rw [hes] at this
          exact this
        · exact .inl ⟨t', by simp [ht'], fun _ hg => hg, fun _ _ hc => hc, (hS1.own t' (by simp [ht'])).1⟩
    · have hp2 := List.pairwise_cons.1 hpw.2.1
      refine List.pairwise_append.2 ⟨hpw.1, List.pairwise_cons.2 ⟨fun u hu => hp2.1 u hu, hp2.2⟩, fun t ht t' ht' => ?_⟩
      rcases List.mem_cons.1 ht' with rfl | ht'
      · exact hpw.2.2 t ht (tl (.slice A' zs.length c') e ee.size) (.head _)
      · exact hpw.2.2 t ht t' (.tail _ ht')
  have hS' := hS2.perm (O' := tlTail (.slice A' zs.length c') e (rt u) zs :: memO β ρ (remM S.mem id ++ S.fixM)) (by rw [e4]; simp only [memO, List.map_append]; exact List.perm_middle)
  exact born_row (S := { S with mem := remM S.mem id }) (o := .tail e u zs) hX hr h.sz hwd f1 f2 f3 hS' (by simp only [tlOf, upd_same]; exact simT.refl _) ⟨_, _, _, rfl⟩
theorem s_appZ (hT : TabOk P Y.T) (hX : X.n = n) (hr : X.res = []) (h : Rel X β ρ S.flat a w) {o : Oper} (hw : Region.wanted o (yielded ops a.tmps) = true) {d : Nat} (hd : o.dst = some d) (hwd : okW n S d = true) (hb : okB S d = true)
    {t : TypeId} {s x : Operand} (hop : o.op = .call ⟨.builtin .append, ⟨[s, x]⟩, ⟨[t, t]⟩⟩) {te ee : TE} {e : TypeId} (hte : lookT Y.T t = some te) (htd : te.d = .slice e) (he : lookT Y.T e = some ee) {u : Ty} (hsz : Nat.beq ee.size u.size = true)
    (hpos : Nat.ble 1 ee.size = true) (hby : Nat.ble 1 ee.bytes = true) (hzl : Nat.beq (cellsL ee.z).length ee.size = true) {xv : AV} (hs : S.ev [] s = some .z) (hx : S.ev [] x = some xv) {ys zs : List u.De} (hy : asD S.flat.mem xv (.sl u) = some ys)
    (happ : app ee.bytes [] ys = some zs) (hk : k ((S.born d (.row e u zs)).put d [] (.s d)) = some r) (H : KOk P ops Q rest X S β ρ k r) : wpList P ops Q (o :: rest) a w := by
  obtain ⟨f1, f2, f3⟩ := okB_ok hb
  obtain ⟨h1, h2⟩ := okW_ok hwd hX hr
  have hg := guardG h hw
  obtain ⟨A2, m2, c2, hxe, hyv⟩ := slV h hx hy
  obtain ⟨c1, hse, A, hs2⟩ := h.ev (holdsC_nil a) hs
  subst hs2
  have hse' : a.eval s = .slice A 0 0 := hse
  rw [op_eta o, hd, hop] at hg ⊢
  refine step_zappend hT h.toG (r := rt u) hg h1 hte htd he (by rw [rt_size]; exact Nat.eq_of_beq_eq_true hsz) hzl hpos hby (by rw [gvE h (holdsC_nil a) hs, hse']) (by rw [gvE h (holdsC_nil a) hx, hxe]) hyv happ (fun hz a' hS => ?_) fun A' c' a' w' hS => ?_
  · subst hz
    exact H β (upd ρ d (.slice none 0 0)) _ _ _ hk (keeps_born f3 (offBy_same d β ρ _) _ _ _) (born_z hX hr h.sz hwd f1 f2 f3 hS)
  · refine H β (upd ρ d (.slice A' zs.length c')) _ _ _ hk (keeps_born f3 (offBy_same d β ρ _) _ _ _) ?_
    exact born_row (o := .row e u zs) hX hr h.sz hwd f1 f2 f3 hS (by simp only [tlOf, upd_same]; exact simT.refl _) ⟨_, _, _, rfl⟩
end
end Gx

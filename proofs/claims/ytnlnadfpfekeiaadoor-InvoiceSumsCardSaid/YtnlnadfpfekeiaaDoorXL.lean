/- Steps. -/
import Derived.Test.YtnlnadfpfekeiaaDoorXK
namespace Gx
open Go Go.RowKit Gd
set_option linter.unusedVariables false
set_option linter.unusedSimpArgs false
section
variable {P : Program} {Y : TX} {X : Cx} {S : XS} {β β' : Nat → Nat} {ρ ρ' : Nat → Value} {a a' : Act} {w w' : World} {n : Nat}
variable {ops : Array Oper} {Q : Exit → Act → World → Prop} {rest : List Oper} {R : Type} {k : XS → Option R} {r : R}
def KOk (P : Program) (ops : Array Oper) (Q : Exit → Act → World → Prop) (rest : List Oper) (X : Cx) (S0 : XS) (β : Nat → Nat) (ρ : Nat → Value) {R : Type} (k : XS → Option R) (r : R) : Prop :=
  ∀ (β' : Nat → Nat) (ρ' : Nat → Value) (S' : XS) (a' : Act) (w' : World), k S' = some r → Keeps S0 S' β β' ρ ρ' → Rel X β' ρ' S'.flat a' w' → wpList P ops Q rest a' w'
theorem KOk.after (h : KOk P ops Q rest X S β ρ k r) {S1 : XS} {β1 : Nat → Nat} {ρ1 : Nat → Value} (hk : Keeps S S1 β β1 ρ ρ1) : KOk P ops Q rest X S1 β1 ρ1 k r :=
  fun β' ρ' S' a' w' h1 h2 h3 => h β' ρ' S' a' w' h1 (hk.trans h2) h3
theorem keeps_put (S : XS) (d : Nat) (cs : Conds) (x : AV) : Keeps S (S.put d cs x) β β ρ ρ := ⟨rfl, rfl, rfl, agP.refl _ _ _⟩
theorem keeps_born {d : Nat} (hp : memN S.prot d = false) (ha : offBy d β β' ρ ρ') (o : Ob) (cs : Conds) (x : AV) : Keeps S ((S.born d o).put d cs x) β β' ρ ρ' := ⟨rfl, rfl, rfl, agP_off hp ha⟩
theorem s_val (hX : X.n = n) (hr : X.res = []) (h : Rel X β ρ S.flat a w) {o : Oper} (hw : Region.wanted o (yielded ops a.tmps) = true) {d : Nat} (hd : o.dst = some d) (hwd : okW n S d = true) {x : AV} (hs : OpSem P S.flat [] o x)
    (hk : k (S.put d [] x) = some r) (H : KOk P ops Q rest X S β ρ k r) : wpList P ops Q (o :: rest) a w := by
  obtain ⟨h1, h2⟩ := okW_ok hwd hX hr
  obtain ⟨cs, h3, h4⟩ := hs h.toW (holdsC_nil a)
  refine wpList_go hw (wp_value h3 ?_)
  rw [hd]
  refine H β ρ _ _ _ hk (keeps_put S d [] x) ?_
  rw [put_flat h2]
  exact h.put0 h1 h4
theorem s_var (hX : X.n = n) (hr : X.res = []) (h : Rel X β ρ S.flat a w) {o : Oper} (hw : Region.wanted o (yielded ops a.tmps) = true) {d : Nat} (hd : o.dst = some d) (hwd : okW n S d = true) (hb : okB S d = true) {t : TypeId} {c : AV} {cs : List Value}
    (hrun : (execOp a.eval o).run P w = .ok (.value (.pointer (some ⟨w.heap.size, 0, none⟩))) (w.alloc (.cells cs.toArray t))) (hc : cr β ρ (okR X β ρ S.flat.mem w) w false c cs) (hn : noId d c = true)
    (hk : k ((S.born d (.var t c)).put d [] (.p d [])) = some r) (H : KOk P ops Q rest X S β ρ k r) : wpList P ops Q (o :: rest) a w := by
  obtain ⟨h1, h2⟩ := okW_ok hwd hX hr
  obtain ⟨f1, f2, f3⟩ := okB_ok hb
  refine wpList_go hw (wp_value hrun ?_)
  rw [hd]
  have ha := offBy_upd d β ρ w.heap.size (ρ d)
  have hbel : Below w.heap.size w (w.alloc (.cells cs.toArray t)) := (Below.refl _ _).alloc (Nat.le_refl _) _
  refine H (upd β d w.heap.size) (upd ρ d (ρ d)) _ _ _ hk (keeps_born f3 ha _ _ _) ?_
  have hA : Rel X (upd β d w.heap.size) (upd ρ d (ρ d)) ⟨remE (dropId d S.env) d ++ S.fix, (d, .var t c) :: (S.mem ++ S.fixM)⟩ a (w.alloc (.cells cs.toArray t)) := by
    refine Rel.alloc h ha f1 (fun e he => let ⟨q1, q2, _⟩ := born_env f2 h2 e he; ⟨q1, q2⟩) hbel (fun g hg => ?_) ?_
    · have hg' : g = upd β d w.heap.size d := hg
      rw [upd_same] at hg'; omega
    · refine ⟨cs, ?_, ?_⟩
      · rw [upd_same]; exact heap_alloc_new w _
      · have h5 : cr (upd β d w.heap.size) (upd ρ d (ρ d)) (okR X β ρ S.flat.mem w) w false c cs := cr_noId ha hn hc
        refine cr_weak (cr_evo h5 ((Evo.of_below hbel).mono fun b o hk => hk.2.1)) ?_
        rintro b o ⟨o1, o2, o3, o4⟩
        refine ⟨o1, Nat.lt_of_lt_of_le o2 hbel.size, o3, fun u hu hcv => ?_⟩
        rcases List.mem_cons.1 hu with rfl | hu
        · have hcv' : b = upd β d w.heap.size d := hcv
          rw [upd_same] at hcv'; omega
        · obtain ⟨t0, ht0, hs0⟩ := (sim_off ha f1).mem u hu
          exact o4 t0 ht0 ((hs0.2.1 b o).1 hcv)
  have hP := hA.put0 h1 (x := .p d []) (c := [.pointer (some ⟨upd β d w.heap.size d, 0, none⟩)]) rfl
  have hv : (AV.p d []).val [.pointer (some ⟨upd β d w.heap.size d, 0, none⟩)] = .pointer (some ⟨w.heap.size, 0, none⟩) := by rw [upd_same]; rfl
  rw [hv] at hP
  have he : ((S.born d (.var t c)).put d [] (.p d [])).flat = ⟨⟨d, [], .p d []⟩ :: (remE (dropId d S.env) d ++ S.fix), (d, .var t c) :: (S.mem ++ S.fixM)⟩ := rfl
  rw [he]
  refine hP.less fun e hm => ?_
  rcases List.mem_cons.1 hm with rfl | hm
  · exact .head _
  · refine .tail _ ?_
    have : remE (remE (dropId d S.env) d ++ S.fix) d = remE (dropId d S.env) d ++ S.fix := by
      rw [remE_append h2]
      congr 1
      have idem : ∀ l : List En, remE (remE l d) d = remE l d := by
        intro l
        induction l with
        | nil => rfl
        | cons x l ih =>
          simp only [remE]
          cases hb : (Nat.beq x.t d || usesT d x.cs) with
          | true => simpa using ih
          | false => simp only [cond_false, remE, hb, ih]
      exact idem _
    show e ∈ remE (remE (dropId d S.env) d ++ S.fix) d
    rw [this]; exact hm
theorem setM_append {l m : List (Nat × Ob)} {id : Nat} {o o' : Ob} (h : lookM l id = some o) : setM l id o' ++ m = setM (l ++ m) id o' := by
  induction l with
  | nil => simp [lookM] at h
  | cons q l ih =>
    simp only [lookM] at h
    simp only [setM, List.cons_append]
    cases hb : Nat.beq q.1 id with
    | true => rfl
    | false => rw [hb] at h; simp only [cond_false, List.cons_append, ih h]
theorem s_store (hT : TabOk P Y.T) (h : Rel X β ρ S.flat a w) {o : Oper} (hw : Region.wanted o (yielded ops a.tmps) = true) {t : TypeId} {p x : Operand} (hop : o.op = .store t p x) (hd : o.dst = none) {e : TE} (he : lookT Y.T t = some e)
    {id : Nat} {path : List PS} {v c c' : AV} {tid : TypeId} (hp : S.ev [] p = some (.p id path)) (hx : S.ev [] x = some v) (hm : lookM S.mem id = some (.var tid c)) (hs : ∀ {ok : Ok} {w : World} {cs ds : List Value}, (∀ id o, lookM S.flat.mem id = some o → (tlOf β ρ id o).p ok w) → cr β ρ ok w false v ds → cr β ρ ok w false c cs →
      cr β ρ ok w false c' (cs.take (offP path) ++ ds ++ cs.drop (offP path + ds.length)) ∧ offP path + ds.length ≤ cs.length) (hsz : Nat.beq e.size v.size = true) (hval : v.isVal = true) (hin : v.inMem = true)
    (hk : k (S.set id (.var tid c')) = some r) (H : KOk P ops Q rest X S β ρ k r) : wpList P ops Q (o :: rest) a w := by
  obtain ⟨c1, h1, h2⟩ := h.ev (holdsC_nil a) hp
  obtain ⟨ds, h3, h4⟩ := h.ev (holdsC_nil a) hx
  have h2' : c1 = _ := h2
  subst h2'
  have hm' : lookM S.flat.mem id = some (.var tid c) := lookM_append hm
  obtain ⟨⟨cs, hh, hc⟩, hmine⟩ := h.ob hm'
  obtain ⟨h5, h6⟩ := hs h.mm h4 hc
  have hdl := cr_len h4
  have hes := Nat.eq_of_beq_eq_true hsz
  have hcells : cellsL (v.val ds) = ds := cellsL_val' h4 hval hin
  have hst := run_storeCells_at P (β id) (offP path) tid ds 0 cs.toArray w hh (by simp; omega) (cr_flat h4 hin)
  simp only [Nat.add_zero, List.toList_toArray] at hst
  have hrun : (execOp a.eval o).run P w = .ok .skip (w.setRow (β id) (cs.take (offP path) ++ ds ++ cs.drop (offP path + ds.length)).toArray) := by
    have h1' : a.eval p = .pointer (some ⟨β id, offP path, none⟩) := h1
    have hcc : (v.val ds).cells.toList = ds := by rw [← cellsL_eq, hcells]
    have hcsz : (v.val ds).cells.size = e.size := by rw [← Array.length_toList, hcc]; omega
    unfold execOp
    rw [hop]
    simp only [h1', h3]
    simp [Instr.storeAt, Instr.sureAddr, storeVar, run_sizeOf' hT w he, hcsz, hcc, hst]
  refine wpList_go hw ?_
  unfold Oper.wp
  rw [hrun]
  show wpList P ops Q rest (a.put o.dst undef) _
  rw [hd]
  obtain ⟨l1, l2, e1, e2, e3⟩ := lookM_split hm'
  have hO : memO β ρ S.flat.mem = memO β ρ l1 ++ tlOf β ρ id (.var tid c) :: memO β ρ l2 := by rw [e1]; simp [memO]
  have hS := h.upd hO (t' := tlOf β ρ id (.var tid c')) (w' := w.setRow (β id) (cs.take (offP path) ++ ds ++ cs.drop (offP path + ds.length)).toArray) rfl rfl rfl (by simp) (fun b hb hn => setRow_other _ _ _ _ fun e => hn e) (fun b o hb => hb) (fun g hg => .inl hg) (fun hevo hok => by
    refine ⟨_, setRow_heap _ _ _ _ _ _ hh, ?_⟩
    exact cr_weak (cr_evo h5 hevo) hok)
  have hE : (S.set id (.var tid c')).flat = ⟨S.flat.env, setM S.flat.mem id (.var tid c')⟩ := by
    simp only [XS.flat, XS.set]
    rw [setM_append hm]
  refine H β ρ _ _ _ hk ⟨rfl, rfl, rfl, agP.refl _ _ _⟩ ?_
  rw [hE, e2]
  have hmem : memO β ρ (l1 ++ (id, Ob.var tid c') :: l2) = memO β ρ l1 ++ tlOf β ρ id (.var tid c') :: memO β ρ l2 := by simp [memO]
  exact Rel.ofSb hS hmem.symm fun e he => by
    have := AllD_mem.1 hS.dat _ (List.mem_map.2 ⟨e, he, rfl⟩)
    rw [← hmem] at this
    exact this
theorem s_makeMap (hX : X.n = n) (hr : X.res = []) (h : Rel X β ρ S.flat a w) {o : Oper} (hw : Region.wanted o (yielded ops a.tmps) = true) {d : Nat} (hd : o.dst = some d) (hwd : okW n S d = true) (hb : okB S d = true) {t : TypeId} (hop : o.op = .makeMap t none) {kk v : Ty}
    (hk : k ((S.born d (.map kk v [])).put d [] (.m d)) = some r) (H : KOk P ops Q rest X S β ρ k r) : wpList P ops Q (o :: rest) a w := by
  obtain ⟨h1, h2⟩ := okW_ok hwd hX hr
  obtain ⟨f1, f2, f3⟩ := okB_ok hb
  have hrun : (execOp a.eval o).run P w = .ok (.value (.map (some w.heap.size))) (w.alloc (.map #[] 0)) := by
    unfold execOp
    rw [hop]
    simp [Instr.makeMap]
  refine wpList_go hw (wp_value hrun ?_)
  rw [hd]
  have ha := offBy_upd d β ρ w.heap.size (ρ d)
  have hbel : Below w.heap.size w (w.alloc (.map #[] 0)) := (Below.refl _ _).alloc (Nat.le_refl _) _
  refine H (upd β d w.heap.size) (upd ρ d (ρ d)) _ _ _ hk (keeps_born f3 ha _ _ _) ?_
  have hA : Rel X (upd β d w.heap.size) (upd ρ d (ρ d)) ⟨remE (dropId d S.env) d ++ S.fix, (d, .map kk v []) :: (S.mem ++ S.fixM)⟩ a (w.alloc (.map #[] 0)) := by
    refine Rel.alloc h ha f1 (fun e he => let ⟨q1, q2, _⟩ := born_env f2 h2 e he; ⟨q1, q2⟩) hbel (fun g hg => ?_) ?_
    · have hg' : g = upd β d w.heap.size d := hg
      rw [upd_same] at hg'; omega
    · refine ⟨#[], 0, ?_, rfl, by simp, by simp, by simp⟩
      rw [upd_same]; exact heap_alloc_new w _
  have hP := hA.put0 h1 (x := .m d) (c := [.map (some (upd β d w.heap.size d))]) rfl
  have hv : (AV.m d).val [.map (some (upd β d w.heap.size d))] = .map (some w.heap.size) := by rw [upd_same]; rfl
  rw [hv] at hP
  have he : ((S.born d (.map kk v [])).put d [] (.m d)).flat = ⟨⟨d, [], .m d⟩ :: (remE (dropId d S.env) d ++ S.fix), (d, .map kk v []) :: (S.mem ++ S.fixM)⟩ := rfl
  rw [he]
  refine hP.less fun e hm => ?_
  rcases List.mem_cons.1 hm with rfl | hm
  · exact .head _
  · refine .tail _ ?_
    have : remE (remE (dropId d S.env) d ++ S.fix) d = remE (dropId d S.env) d ++ S.fix := by
      rw [remE_append h2]
      congr 1
      have idem : ∀ l : List En, remE (remE l d) d = remE l d := by
        intro l
        induction l with
        | nil => rfl
        | cons x l ih =>
          simp only [remE]
          cases hb : (Nat.beq x.t d || usesT d x.cs) with
          | true => simpa using ih
          | false => simp only [cond_false, remE, hb, ih]
      exact idem _
    show e ∈ remE (remE (dropId d S.env) d ++ S.fix) d
    rw [this]; exact hm
theorem s_mapUpdate (hT : TabOk P Y.T) (h : Rel X β ρ S.flat a w) {o : Oper} (hw : Region.wanted o (yielded ops a.tmps) = true) {t : TypeId} {m ky x : Operand} (hop : o.op = .mapUpdate t m ky x) (hd : o.dst = none) {te tk : TE} {kt et : TypeId} (hte : lookT Y.T t = some te) (htd : te.d = .map kt et) (htk : lookT Y.T kt = some tk)
    {id : Nat} {kv xv : AV} {kk v : Ty} {xs : List (kk.De × v.De)} {key : kk.De} {y : v.De} (hm : S.ev [] m = some (.m id)) (hkv : S.ev [] ky = some kv) (hx : S.ev [] x = some xv) (hmo : lookM S.mem id = some (.map kk v xs)) (hkey : asD [] kv kk = some key) (hy : asD S.flat.mem xv v = some y)
    (hdk : descK Y.T kk tk.d = true) (hka : (kk.agg == kv.isAgg) = true) (hva : (v.agg == xv.isAgg) = true)
    (hk : k (S.set id (.map kk v (putL key y xs))) = some r) (H : KOk P ops Q rest X S β ρ k r) : wpList P ops Q (o :: rest) a w := by
  obtain ⟨c1, h1, h2⟩ := h.ev (holdsC_nil a) hm
  have h2' : c1 = [.map (some (β id))] := h2
  subst h2'
  have h1' : a.eval m = .map (some (β id)) := h1
  have hxv : isV (rt v) (okR X β ρ S.flat.mem w) w y (a.eval x) := h.asD (holdsC_nil a) hx hy (bEq hva)
  obtain ⟨c3, h3, h4⟩ := h.ev (holdsC_nil a) hkv
  have hkr : isV (rt kk) (okR X β ρ S.flat.mem w) w key (a.eval ky) := by
    refine ⟨c3, asD_ok (M := []) (β := β) (ρ := ρ) (by simp [lookM]) hkey h4, ?_⟩
    rw [h3]; simp only [AV.val, RT.val, rt_agg, bEq hka]; cases kv.isAgg <;> rfl
  have hke := keyV_rep (descK_key hdk) hkr
  have hm' : lookM S.flat.mem id = some (.map kk v xs) := lookM_append hmo
  obtain ⟨⟨es, clock, hg, hp, hnd, hst1, hst2⟩, hmine⟩ := h.ob hm'
  obtain ⟨es', clock', hrun, hp', hst'⟩ := run_mapUpdate hT hte htd htk hdk hg hp ⟨hst1, hst2⟩ key hxv
  have hrun' : (execOp a.eval o).run P w = .ok .skip { w with heap := w.heap.setIfInBounds (β id) (.map es' clock') } := by
    unfold execOp
    rw [hop]
    simp only [h1', hke]
    simp [hrun]
  refine wpList_go hw ?_
  unfold Oper.wp
  rw [hrun']
  show wpList P ops Q rest (a.put o.dst undef) _
  rw [hd]
  have hgl := heap_lt hg
  obtain ⟨l1, l2, e1, e2, e3⟩ := lookM_split hm'
  have hO : memO β ρ S.flat.mem = memO β ρ l1 ++ tlOf β ρ id (.map kk v xs) :: memO β ρ l2 := by rw [e1]; simp [memO]
  have hS := h.upd hO (t' := tlOf β ρ id (.map kk v (putL key y xs))) (w' := { w with heap := w.heap.setIfInBounds (β id) (.map es' clock') }) rfl rfl rfl (by simp) (fun b hb hn => (MapKept.heap_set hg).2 b fun e => hn e) (fun b o hb => hb) (fun g hg => .inl hg) (fun hevo hok => by
    refine ⟨es', clock', (MapKept.heap_set hg).1, ?_, (putL_keys (descK_key hdk) key y hnd).1, hst'.1, hst'.2⟩
    exact mapP_weak (mapP_evo hp' hevo) hok)
  have hE : (S.set id (.map kk v (putL key y xs))).flat = ⟨S.flat.env, setM S.flat.mem id (.map kk v (putL key y xs))⟩ := by
    simp only [XS.flat, XS.set]
    rw [setM_append hmo]
  refine H β ρ _ _ _ hk ⟨rfl, rfl, rfl, agP.refl _ _ _⟩ ?_
  rw [hE, e2]
  have hmem : memO β ρ (l1 ++ (id, Ob.map kk v (putL key y xs)) :: l2) = memO β ρ l1 ++ tlOf β ρ id (.map kk v (putL key y xs)) :: memO β ρ l2 := by simp [memO]
  exact Rel.ofSb hS hmem.symm fun e he => by
    have := AllD_mem.1 hS.dat _ (List.mem_map.2 ⟨e, he, rfl⟩)
    rw [← hmem] at this
    exact this
theorem s_storeEl (hT : TabOk P Y.T) (h : Rel X β ρ S.flat a w) {o : Oper} (hw : Region.wanted o (yielded ops a.tmps) = true) {t : TypeId} {p x : Operand} (hop : o.op = .store t p x) (hd : o.dst = none) {e : TE} (he : lookT Y.T t = some e)
    {id sz : Nat} {j : Int} {path : List PS} {v c : AV} {et : TypeId} {u : Ty} {xs : List u.De} {y z : u.De} (hp : S.ev [] p = some (.e id (.i j sz :: path))) (hx : S.ev [] x = some v) (hm : lookM S.mem id = some (.row et u xs)) (hy : idx xs j = some y)
    (hs : setP path (.d u y) v = some c) (hz : asD S.flat.mem c u = some z) (hsz : Nat.beq e.size v.size = true) (hsu : Nat.beq sz u.size = true) (hpos : Nat.ble 1 u.size = true) (hval : v.isVal = true) (hin : v.inMem = true)
    (hk : k (S.set id (.row et u (xs.set j.toNat z))) = some r) (H : KOk P ops Q rest X S β ρ k r) : wpList P ops Q (o :: rest) a w := by
  obtain ⟨c1, h1, g0, hg0, h2'⟩ := h.ev (holdsC_nil a) hp
  subst h2'
  obtain ⟨ds, h3, h4⟩ := h.ev (holdsC_nil a) hx
  have hm' : lookM S.flat.mem id = some (.row et u xs) := lookM_append hm
  have hes := Nat.eq_of_beq_eq_true hsz
  have hszu := Nat.eq_of_beq_eq_true hsu
  subst hszu
  have hdl := cr_len h4
  have hcells : cellsL (v.val ds) = ds := cellsL_val' h4 hval hin
  obtain ⟨l1, l2, e1, e2, e3⟩ := lookM_split hm'
  obtain ⟨⟨hl0, cs0, hown0, _⟩, _⟩ := h.ob hm'
  obtain ⟨g, c0, hv⟩ : ∃ g c0, ρ id = .slice (some ⟨g, 0, none⟩) xs.length c0 := by
    rcases hown0.2 with ⟨hv, h0⟩ | ⟨g, cap, cur, fz, hv, _⟩
    · rw [hv] at hg0; cases hg0
    · exact ⟨g, cap, by rw [hv, hl0]⟩
  have hgg : g0 = g := by rw [hv] at hg0; simp [Value.ownBlock] at hg0; omega
  subst hgg
  have hO : memO β ρ S.flat.mem = memO β ρ l1 ++ ml (.slice (some ⟨g0, 0, none⟩) xs.length c0) et (rt u) xs :: memO β ρ l2 := by rw [e1]; simp [memO, tlOf, hv]
  have hoff : offP path + ds.length ≤ u.size := by
    obtain ⟨⟨hl, csr, hown, hr⟩, _⟩ := h.ob hm'
    have hrep := repA_at hr (idx_ok hy).2
    obtain ⟨_, h6⟩ := setP_ok (β := β) (ρ := ρ) h4 hs (show cr β ρ _ w false (.d u y) _ from hrep)
    have := (rt u).len hrep
    have h7 := rt_size u
    omega
  obtain ⟨cur, fz, ⟨hh, hfz⟩, hlen, hS⟩ := Sb.mset h (memO β ρ l1) (memO β ρ l2) hO hy (by rw [rt_size]; exact Nat.le_of_ble_eq_true hpos) (off := offP path) (ds := ds) (z := z) (by rw [rt_size]; exact hoff) (cr_flat h4 hin) (fun es hes => by
    obtain ⟨h5, _⟩ := setP_ok (β := β) (ρ := ρ) h4 hs (show cr β ρ _ w false (.d u y) es from hes)
    exact asD_ok h.mm hz h5)
  rw [rt_size] at hS hlen
  have hst := run_storeCells_atS P g0 (j.toNat * u.size + offP path) et fz ds 0 cur w hh hfz (by omega) (cr_flat h4 hin)
  simp only [Nat.add_zero] at hst
  have hrun : (execOp a.eval o).run P w = .ok .skip (w.setRow g0 (cur.toList.take (j.toNat * u.size + offP path) ++ ds ++ cur.toList.drop (j.toNat * u.size + offP path + ds.length)).toArray) := by
    have h1' : a.eval p = .pointer (some ⟨g0, j.toNat * u.size + offP path, none⟩) := h1
    have hcc : (v.val ds).cells.toList = ds := by rw [← cellsL_eq, hcells]
    have hcsz : (v.val ds).cells.size = e.size := by rw [← Array.length_toList, hcc]; omega
    unfold execOp
    rw [hop]
    simp only [h1', h3]
    simp [Instr.storeAt, Instr.sureAddr, storeVar, run_sizeOf' hT w he, hcsz, hcc, hst]
  refine wpList_go hw ?_
  unfold Oper.wp
  rw [hrun]
  show wpList P ops Q rest (a.put o.dst undef) _
  rw [hd]
  have hE : (S.set id (.row et u (xs.set j.toNat z))).flat = ⟨S.flat.env, setM S.flat.mem id (.row et u (xs.set j.toNat z))⟩ := by
    simp only [XS.flat, XS.set]
    rw [setM_append hm]
  refine H β ρ _ _ _ hk ⟨rfl, rfl, rfl, agP.refl _ _ _⟩ ?_
  rw [hE, e2]
  have hmem : memO β ρ (l1 ++ (id, Ob.row et u (xs.set j.toNat z)) :: l2) = memO β ρ l1 ++ ml (.slice (some ⟨g0, 0, none⟩) xs.length c0) et (rt u) (xs.set j.toNat z) :: memO β ρ l2 := by simp [memO, tlOf, hv]
  exact Rel.ofSb hS hmem.symm fun e he => by
    have := AllD_mem.1 hS.dat _ (List.mem_map.2 ⟨e, he, rfl⟩)
    rw [← hmem] at this
    exact this
end
end Gx

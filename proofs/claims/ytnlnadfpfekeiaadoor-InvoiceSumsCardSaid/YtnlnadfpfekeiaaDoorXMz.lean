/- Strings as bytes, strings that are appended to bytes. -/
import Derived.Test.YtnlnadfpfekeiaaDoorXM
namespace Gx
open Go Go.RowKit Go.Lib Gd
set_option linter.unusedVariables false
set_option linter.unusedSimpArgs false
set_option linter.constructorNameAsVariable false
theorem sbytes_cells (l : Str) : strCells ⟨⟨l⟩⟩ = (sbytes l).map (Value.int .u8) := by simp [strCells, sbytes]
theorem repA_ints {k : IntKind} {ok : Ok} {w : World} : ∀ xs : List Int, repA (rInt k) ok w xs (xs.map (Value.int k))
  | [] => rfl
  | x :: xs => ⟨[.int k x], xs.map (Value.int k), rfl, rfl, repA_ints xs⟩
theorem isZ8_ok {v : Value} (h : isZ8 v = true) : v = .int .u8 0 := by
  unfold isZ8 at h
  split at h
  · rfl
  · cases h
theorem isU8_ok {d : TypeDesc} (h : isU8 d = true) : d = .int .u8 := by
  unfold isU8 at h
  split at h
  · rfl
  · cases h
theorem isStrD_ok {d : TypeDesc} (h : isStrD d = true) : d = .string := by
  unfold isStrD at h
  split at h
  · rfl
  · cases h
theorem below_bytes (w : World) (e : TypeId) (s : ByteArray) : Below w.heap.size w (bytesWorld w e s) :=
  ⟨rfl, rfl, rfl, by rw [bytesWorld_size]; omega, fun b hb => bytesWorld_at_old w e s b hb⟩
section
variable {P : Program} {T : Tab} {β : Nat → Nat} {X : Cx} {G : GL} {D : List DF} {H : HL} {O : List TL} {a : Act} {w w' : World}
variable {ops : Array Oper} {Q : Exit → Act → World → Prop} {rest : List Oper}
theorem step_mappS (hT : TabOk P T) (h : Sb β X G D H O a w) (O1 O2 : List TL) {t t' : TypeId} {s x : Operand} {d : Nat} {ps : String} {af : Array Edge} {ty : TypeId} {gd : Option (Nat × Bool)}
    (hg : guardV ops G ⟨some d, .call ⟨.builtin .append, ⟨[s, x]⟩, ⟨[t, t']⟩⟩, ty, ps, af, gd⟩ = some true) (hlt : okD X d = true)
    {xs zs : List Int} {l : Str} {A : Option Addr} {m c : Nat} {e : TypeId} {te te' ee : TE} (ht : lookT T t = some te) (htd : te.d = .slice e) (ht' : lookT T t' = some te') (htd' : te'.d = .string) (he : lookT T e = some ee)
    (hz : ee.z = .int .u8 0) (hsz : ee.size = 1) (hby : ee.bytes = 1)
    (hO : O = O1 ++ ml (.slice A m c) e (rInt .u8) xs :: O2) (hs1 : gv G s = some (.v (.slice A m c))) (hx1 : gv G x = some (.v (strV l))) (happ : app 1 xs (sbytes l) = some zs)
    (hk : ∀ A' c' a' w', Sb β X (setN G d (.v (.slice A' zs.length c'))) D H (O1 ++ ml (.slice A' zs.length c') e (rInt .u8) zs :: O2) a' w' → wpList P ops Q rest a' w') :
    wpList P ops Q (⟨some d, .call ⟨.builtin .append, ⟨[s, x]⟩, ⟨[t, t']⟩⟩, ty, ps, af, gd⟩ :: rest) a w := by
  obtain ⟨hbytes, rfl⟩ := app_ok happ
  have hmem : ml (.slice A m c) e (rInt .u8) xs ∈ O := by rw [hO]; simp
  obtain ⟨⟨hl, xs0, hown, hr⟩, hmine⟩ := h.own _ hmem
  obtain ⟨i, hi, hz', hs', hb'⟩ := lookT_info hT he
  simp only [lenV] at hown hl
  have hll : (sbytes l).length = l.length := by simp [sbytes]
  have hu := (lookT_ok hT ht).2; rw [htd] at hu
  have hu' := (lookT_ok hT ht').2; rw [htd'] at hu'
  have hsl : (⟨⟨l⟩⟩ : ByteArray).size = l.length := rfl
  obtain ⟨v', w1, hrun, hown', hgrow, hblk⟩ := own_append_str (P := P) (w := w) (ty := ty) hu hu' hi (by rw [hz', hz]) (by rw [hs', hsz]) (by rw [hb', hby]) (base := 0) (v := .slice A m c) (n := m) (xs := xs0) hown ⟨⟨l⟩⟩ (by rw [hsl]; omega) (Nat.zero_le _)
  rw [hsl] at hown'
  have hrun' : (execOp a.eval ⟨some d, .call ⟨.builtin .append, ⟨[s, x]⟩, ⟨[t, t']⟩⟩, ty, ps, af, gd⟩).run P w = .ok (.value v') w1 := by
    unfold execOp
    have hm : (Array.mk [s, x]).map a.eval = ⟨[.slice A m c, strV l]⟩ := by simp [h.ev hs1, h.ev hx1, den_v]
    simp only [resolve, hm, invoke, builtin]
    simp [hrun, strV]
  have hform : ∃ A' c', v' = .slice A' (m + l.length) c' := by
    rcases hown'.2 with ⟨rfl, h0⟩ | ⟨g, cap, cur, fz, rfl, _⟩
    · exact ⟨none, 0, by rw [h0]⟩
    · exact ⟨_, cap, rfl⟩
  obtain ⟨A', c', rfl⟩ := hform
  have hlen : m + l.length = (xs ++ sbytes l).length := by rw [List.length_append, hl, hll]
  refine wpList_go (guardV_ok h hg) (wp_value hrun' ?_)
  have hS : Sb β X G D H (O1 ++ ml (.slice A' (m + l.length) c') e (rInt .u8) (xs ++ sbytes l) :: O2) a w1 := by
    refine h.upd hO hgrow.os hgrow.tape hgrow.output hgrow.size (fun b hb hn => hgrow.block b hb fun e => hn e.symm) (fun b o hb => hb) (fun g hg => ?_) fun hevo hok => ?_
    · rcases hblk with he1 | ⟨he1, _⟩
      · exact .inl (by have hg : (Value.slice A' (m + l.length) c').ownBlock = some g := hg; rw [he1] at hg; exact hg)
      · have hg : (Value.slice A' (m + l.length) c').ownBlock = some g := hg
        rw [he1] at hg; injection hg with hg; exact .inr (by omega)
    · refine ⟨hlen, xs0 ++ strCells ⟨⟨l⟩⟩, hown', repA_append (repA_weak (repA_evo hr hevo) hok) ?_⟩
      rw [sbytes_cells]
      exact repA_ints _
  have := hk A' c' (a.put (some d) (.slice A' (m + l.length) c')) w1
  rw [← hlen] at this
  exact this (hS.put hlt (.v _))
theorem step_zappS (hT : TabOk P T) (h : Sb β X G D H O a w) {t t' : TypeId} {s x : Operand} {d : Nat} {ps : String} {af : Array Edge} {ty : TypeId} {gd : Option (Nat × Bool)}
    (hg : guardV ops G ⟨some d, .call ⟨.builtin .append, ⟨[s, x]⟩, ⟨[t, t']⟩⟩, ty, ps, af, gd⟩ = some true) (hlt : okD X d = true)
    {zs : List Int} {l : Str} {A : Option Addr} {e : TypeId} {te te' ee : TE} (ht : lookT T t = some te) (htd : te.d = .slice e) (ht' : lookT T t' = some te') (htd' : te'.d = .string) (he : lookT T e = some ee)
    (hz : ee.z = .int .u8 0) (hsz : ee.size = 1) (hby : ee.bytes = 1)
    (hs1 : gv G s = some (.v (.slice A 0 0))) (hx1 : gv G x = some (.v (strV l))) (happ : app 1 [] (sbytes l) = some zs)
    (hk1 : zs = [] → ∀ a', Sb β X (setN G d (.v (.slice A 0 0))) D H O a' w → wpList P ops Q rest a' w)
    (hk2 : ∀ A' c' a' w', Sb β X (setN G d (.v (.slice A' zs.length c'))) D H (ml (.slice A' zs.length c') e (rInt .u8) zs :: O) a' w' → wpList P ops Q rest a' w') :
    wpList P ops Q (⟨some d, .call ⟨.builtin .append, ⟨[s, x]⟩, ⟨[t, t']⟩⟩, ty, ps, af, gd⟩ :: rest) a w := by
  obtain ⟨hbytes, hzs⟩ := app_ok happ
  simp only [List.nil_append, List.length_nil, Nat.zero_add] at hbytes hzs
  subst hzs
  obtain ⟨i, hi, hz', hs', hb'⟩ := lookT_info hT he
  have hll : (sbytes l).length = l.length := by simp [sbytes]
  have hu := (lookT_ok hT ht).2; rw [htd] at hu
  have hu' := (lookT_ok hT ht').2; rw [htd'] at hu'
  have hsl : (⟨⟨l⟩⟩ : ByteArray).size = l.length := rfl
  have hm : (Array.mk [s, x]).map a.eval = ⟨[.slice A 0 0, strV l]⟩ := by simp [h.ev hs1, h.ev hx1, den_v]
  have hexec : ∀ v' w1, (Builtin.append_ #[t, t'] ty #[.slice A 0 0, .string ⟨⟨l⟩⟩]).run P w = .ok v' w1 → (execOp a.eval ⟨some d, .call ⟨.builtin .append, ⟨[s, x]⟩, ⟨[t, t']⟩⟩, ty, ps, af, gd⟩).run P w = .ok (.value v') w1 := by
    intro v' w1 hr
    unfold execOp
    simp only [resolve, hm, invoke, builtin]
    simp [hr, strV]
  by_cases hl0 : l.length = 0
  · have hl : l = [] := List.eq_nil_of_length_eq_zero hl0
    subst hl
    have hrun : (Builtin.append_ #[t, t'] ty #[.slice A 0 0, .string ⟨⟨[]⟩⟩]).run P w = .ok (.slice A 0 0) w := by
      have hs0 : (⟨⟨[]⟩⟩ : ByteArray).size = 0 := rfl
      cases A <;> simp [Builtin.append_, run_underlying hu, run_underlying hu', Go.sizeOf, typeInfo, hi, Builtin.lenOf, Builtin.firstCells, storeCells, hs0]
    refine wpList_go (guardV_ok h hg) (wp_value (hexec _ _ hrun) ?_)
    exact hk1 rfl _ (h.put hlt (.v _))
  · have hone : (Builtin.append_ #[t, t'] ty #[.slice A 0 0, .string ⟨⟨l⟩⟩]).run P w = (Builtin.append_ #[t, t'] ty #[.slice none 0 0, .string ⟨⟨l⟩⟩]).run P w := by
      have hn := run_append_nil_string (P := P) w t t' ty e i (.int .u8 0) hu hu' hi (by rw [hz', hz]) ⟨⟨l⟩⟩ (by rw [hsl]; omega) (by rw [hsl]; omega) (by rw [hb', hby, hsl]; omega)
      cases A with
      | none => rfl
      | some ad =>
        have := run_append_grow_string (P := P) w t t' ty e i (.int .u8 0) hu hu' hi (by rw [hz', hz]) ad 0 0 [] (by simp) (by simp) ⟨⟨l⟩⟩ (by rw [hsl]; omega) (by rw [hsl]; omega) (by rw [hb', hby, hsl]; exact growslice_fits (by omega) (by omega))
        have e0 : (strCells ⟨⟨l⟩⟩).toArray = (List.map (fun b => Value.int .u8 (b.toNat : Int)) l).toArray := by simp [strCells]
        rw [this, hn]; simp [e0]
    have h0 := Sb.addNilM h e (rInt .u8)
    obtain ⟨v', w1, hrun, hown', hgrow, hblk⟩ := own_append_str (P := P) (w := w) (ty := ty) hu hu' hi (by rw [hz', hz]) (by rw [hs', hsz]) (by rw [hb', hby]) (base := 0) (v := .slice none 0 0) (n := 0) (xs := []) (World.ownsRowS_nil w 0 e 1) ⟨⟨l⟩⟩ (by rw [hsl]; omega) (Nat.zero_le _)
    rw [hsl] at hown'
    refine wpList_go (guardV_ok h hg) (wp_value (hexec _ _ (hone.trans hrun)) ?_)
    have hform : ∃ A' c', v' = .slice A' (0 + l.length) c' := by
      rcases hown'.2 with ⟨rfl, h0⟩ | ⟨g, cap, cur, fz, rfl, _⟩
      · exact ⟨none, 0, by rw [h0]⟩
      · exact ⟨_, cap, rfl⟩
    obtain ⟨A', c', rfl⟩ := hform
    rw [Nat.zero_add] at hown'
    rw [Nat.zero_add] at hblk
    have hS : Sb β X G D H (ml (.slice A' l.length c') e (rInt .u8) (sbytes l) :: O) a w1 := by
      refine h0.upd (O1 := []) rfl hgrow.os hgrow.tape hgrow.output hgrow.size (fun b hb hn => hgrow.block b hb fun e => hn e.symm) (fun b o hb => hb) (fun g hg => ?_) fun hevo hok => ?_
      · rcases hblk with he1 | ⟨he1, _⟩
        · exact .inl (by have hg : (Value.slice A' l.length c').ownBlock = some g := hg; rw [he1] at hg; exact hg)
        · have hg : (Value.slice A' l.length c').ownBlock = some g := hg
          rw [he1] at hg; injection hg with hg; exact .inr (by omega)
      · refine ⟨by simp [lenV, hll], strCells ⟨⟨l⟩⟩, (by have q := hown'; simp only [List.nil_append] at q; exact q), ?_⟩
        rw [sbytes_cells]
        exact repA_ints _
    have := hk2 A' c' (a.put (some d) (.slice A' l.length c')) w1
    rw [hll] at this
    rw [Nat.zero_add]
    exact this (hS.put hlt (.v _))
end
section
variable {P : Program} {Y : TX} {X : Cx} {S : XS} {β β' : Nat → Nat} {ρ ρ' : Nat → Value} {a a' : Act} {w w' : World} {n : Nat}
variable {ops : Array Oper} {Q : Exit → Act → World → Prop} {rest : List Oper} {R : Type} {k : XS → Option R} {r : R}
theorem s_appRowS (hT : TabOk P Y.T) (hX : X.n = n) (hr : X.res = []) (h : Rel X β ρ S.flat a w) {o : Oper} (hw : Region.wanted o (yielded ops a.tmps) = true) {d : Nat} (hd : o.dst = some d) (hwd : okW n S d = true) {id : Nat}
    (hb : okB ⟨S.env, S.fix, remM S.mem id, S.fixM, S.prot⟩ d = true)
    {t t' : TypeId} {s x : Operand} (hop : o.op = .call ⟨.builtin .append, ⟨[s, x]⟩, ⟨[t, t']⟩⟩) {te te' ee : TE} {e : TypeId} (hte : lookT Y.T t = some te) (htd : te.d = .slice e) (hte' : lookT Y.T t' = some te') (htd' : te'.d = .string) (he : lookT Y.T e = some ee)
    (hz : ee.z = .int .u8 0) (hsz : ee.size = 1) (hby : ee.bytes = 1) {l : Str} (hs : S.ev [] s = some (.s id)) (hx : S.ev [] x = some (.d .str l)) {xs zs : List Int} (hm : lookM S.mem id = some (.row e (.int .u8) xs))
    (happ : app 1 xs (sbytes l) = some zs) (hk : k (({ S with mem := remM S.mem id }.born d (.row e (.int .u8) zs)).put d [] (.s d)) = some r) (H : KOk P ops Q rest X S β ρ k r) : wpList P ops Q (o :: rest) a w := by
  obtain ⟨f1, f2, f3⟩ := okB_ok hb
  obtain ⟨h1, h2⟩ := okW_ok hwd hX hr
  have hg := guardG h hw
  have hxe : a.eval x = strV l := h.toW.str (holdsC_nil a) hx rfl
  obtain ⟨c1, hse, ⟨v0, hs2, hz0⟩, A, m, c, hρ⟩ := h.ev (holdsC_nil a) hs
  subst hs2
  have hm' : lookM S.flat.mem id = some (.row e (.int .u8) xs) := lookM_append hm
  have e4' : remM S.mem id ++ S.fixM = remM S.flat.mem id := (remM_append hm).symm
  rcases hz0 with hz0 | ⟨h00, A0, hz0⟩
  case inr =>
    have hse' : a.eval s = .slice A0 0 0 := by rw [hse, ← hz0]; rfl
    have hxs : xs = [] := by
      have := (h.ob hm').1.1
      rw [h00] at this
      exact List.length_eq_zero_iff.1 this.symm
    subst hxs
    have hR := h.dropM hm'
    rw [op_eta o, hd, hop] at hg ⊢
    refine step_zappS (a := a) hT hR.toG hg h1 hte htd hte' htd' he hz hsz hby (by rw [gvE h (holdsC_nil a) hs, hse']) (by rw [gvE h (holdsC_nil a) hx, hxe]) happ (fun hz a' hS => ?_) fun A' c' a' w' hS => ?_
    · subst hz
      rw [← e4'] at hS
      exact H β (upd ρ d (.slice none 0 0)) _ _ _ hk ⟨rfl, rfl, rfl, agP_off f3 (offBy_same d β ρ _)⟩ (born_z (u := .int .u8) (S := { S with mem := remM S.mem id }) hX hr h.sz hwd f1 f2 f3 hS)
    · rw [← e4'] at hS
      refine H β (upd ρ d (.slice A' zs.length c')) _ _ _ hk ⟨rfl, rfl, rfl, agP_off f3 (offBy_same d β ρ _)⟩ ?_
      exact born_row (S := { S with mem := remM S.mem id }) (o := .row e (.int .u8) zs) hX hr h.sz hwd f1 f2 f3 hS (by simp only [tlOf, upd_same]; exact simT.refl _) ⟨_, _, _, rfl⟩
  have hse' : a.eval s = .slice A m c := by rw [hse, ← hρ, ← hz0]; rfl
  obtain ⟨l1, l2, e1, _, e3⟩ := lookM_split hm'
  have hO : memO β ρ S.flat.mem = memO β ρ l1 ++ ml (.slice A m c) e (rInt .u8) xs :: memO β ρ l2 := by rw [e1]; simp [memO, tlOf, hρ, rt]
  rw [op_eta o, hd, hop] at hg ⊢
  refine step_mappS hT h.toG (memO β ρ l1) (memO β ρ l2) hg h1 hte htd hte' htd' he hz hsz hby hO (by rw [gvE h (holdsC_nil a) hs, hse']) (by rw [gvE h (holdsC_nil a) hx, hxe]) happ fun A' c' a' w' hS => ?_
  refine H β (upd ρ d (.slice A' zs.length c')) _ _ _ hk ⟨rfl, rfl, rfl, agP_off f3 (offBy_same d β ρ _)⟩ ?_
  have e4 : remM S.mem id ++ S.fixM = l1 ++ l2 := by rw [← remM_append hm]; exact e3
  have hS' := hS.perm (O' := ml (.slice A' zs.length c') e (rInt .u8) zs :: memO β ρ (remM S.mem id ++ S.fixM)) (by rw [e4]; simp only [memO, List.map_append]; exact List.perm_middle)
  exact born_row (S := { S with mem := remM S.mem id }) (o := .row e (.int .u8) zs) hX hr h.sz hwd f1 f2 f3 hS' (by simp only [tlOf, upd_same]; exact simT.refl _) ⟨_, _, _, rfl⟩
theorem s_appNilS (hT : TabOk P Y.T) (hX : X.n = n) (hr : X.res = []) (h : Rel X β ρ S.flat a w) {o : Oper} (hw : Region.wanted o (yielded ops a.tmps) = true) {d : Nat} (hd : o.dst = some d) (hwd : okW n S d = true) (hb : okB S d = true)
    {t t' : TypeId} {s x : Operand} (hop : o.op = .call ⟨.builtin .append, ⟨[s, x]⟩, ⟨[t, t']⟩⟩) {te te' ee : TE} {e : TypeId} (hte : lookT Y.T t = some te) (htd : te.d = .slice e) (hte' : lookT Y.T t' = some te') (htd' : te'.d = .string) (he : lookT Y.T e = some ee)
    (hz : ee.z = .int .u8 0) (hsz : ee.size = 1) (hby : ee.bytes = 1) {l : Str} (hs : S.ev [] s = some .ns) (hx : S.ev [] x = some (.d .str l)) {zs : List Int}
    (happ : app 1 [] (sbytes l) = some zs) (hk : k ((S.born d (.row e (.int .u8) zs)).put d [] (.s d)) = some r) (H : KOk P ops Q rest X S β ρ k r) : wpList P ops Q (o :: rest) a w := by
  obtain ⟨f1, f2, f3⟩ := okB_ok hb
  obtain ⟨h1, h2⟩ := okW_ok hwd hX hr
  have hg := guardG h hw
  have hxe : a.eval x = strV l := h.toW.str (holdsC_nil a) hx rfl
  obtain ⟨c1, hse, hs2⟩ := h.ev (holdsC_nil a) hs
  have hs2' : c1 = _ := hs2
  subst hs2'
  have hse' : a.eval s = .slice none 0 0 := hse
  have hnil : Sb (fun _ => 0) X (allG X.n a) (S.flat.env.map (enD β ρ a)) [] (ml (.slice none 0 0) e (rInt .u8) [] :: memO β ρ S.flat.mem) a w := Sb.addNilM h.toG e (rInt .u8)
  rw [op_eta o, hd, hop] at hg ⊢
  refine step_mappS hT hnil [] (memO β ρ S.flat.mem) hg h1 hte htd hte' htd' he hz hsz hby rfl (by rw [gvE h (holdsC_nil a) hs, hse']) (by rw [gvE h (holdsC_nil a) hx, hxe]) happ fun A' c' a' w' hS => ?_
  refine H β (upd ρ d (.slice A' zs.length c')) _ _ _ hk (keeps_born f3 (offBy_same d β ρ _) _ _ _) ?_
  exact born_row (o := .row e (.int .u8) zs) hX hr h.sz hwd f1 f2 f3 hS (by simp only [tlOf, upd_same]; exact simT.refl _) ⟨_, _, _, rfl⟩
theorem s_strBytes (hT : TabOk P Y.T) (hX : X.n = n) (hr : X.res = []) (h : Rel X β ρ S.flat a w) {o : Oper} (hw : Region.wanted o (yielded ops a.tmps) = true) {d : Nat} (hd : o.dst = some d) (hwd : okW n S d = true) (hb : okB S d = true)
    {s t : TypeId} {x : Operand} (hop : o.op = .convert s t x) {se te ee : TE} {e : TypeId} (hse : lookT Y.T s = some se) (hte : lookT Y.T t = some te) (htd : te.d = .slice e) (he : lookT Y.T e = some ee) (hed : ee.d = .int .u8)
    {l : Str} (hx : S.ev [] x = some (.d .str l)) {zs : List Int} (happ : app 1 [] (sbytes l) = some zs) (hk : k ((S.born d (.row e (.int .u8) zs)).put d [] (.s d)) = some r) (H : KOk P ops Q rest X S β ρ k r) : wpList P ops Q (o :: rest) a w := by
  obtain ⟨f1, f2, f3⟩ := okB_ok hb
  obtain ⟨h1, h2⟩ := okW_ok hwd hX hr
  have hxe : a.eval x = strV l := h.toW.str (holdsC_nil a) hx rfl
  obtain ⟨hbytes, hzs⟩ := app_ok happ
  simp only [List.nil_append] at hzs
  subst hzs
  have hll : (sbytes l).length = l.length := by simp [sbytes]
  have hsl : (⟨⟨l⟩⟩ : ByteArray).size = l.length := rfl
  have hus := (lookT_ok hT hse).2
  have hut := (lookT_ok hT hte).2; rw [htd] at hut
  have hue := (lookT_ok hT he).2; rw [hed] at hue
  have hconv := run_convert_string_bytes (P := P) w s t e ⟨⟨l⟩⟩ hus hut hue
  have hrun : (execOp a.eval o).run P w = .ok (.value (.slice (some ⟨w.heap.size, 0, none⟩) l.length (grownCap w l.length 0 e))) (bytesWorld w e ⟨⟨l⟩⟩) := by
    unfold execOp
    rw [hop]
    simp only [hxe, strV]
    rw [Sem.run_bind, hconv]
    rfl
  refine wpList_go hw (wp_value hrun ?_)
  have hge := grownCap_ge w l.length 0 e
  have hcm : grownCap w l.length 0 e ≤ maxLen := grownCap_le_maxLen w l.length 0 e (by rw [maxLen_val]; simp only [List.length_nil, Nat.zero_add, Nat.mul_one] at hbytes; omega)
  have hcsz : (bytesCells w e ⟨⟨l⟩⟩).size = grownCap w l.length 0 e := by
    simp only [bytesCells, Array.size_append, Array.size_map, Array.size_replicate, hsl]
    have : (⟨l⟩ : Array UInt8).size = l.length := rfl
    omega
  have hown : (bytesWorld w e ⟨⟨l⟩⟩).ownsRowS 0 e 1 (.slice (some ⟨w.heap.size, 0, none⟩) l.length (grownCap w l.length 0 e)) l.length (strCells ⟨⟨l⟩⟩) := by
    refine ⟨by rw [strCells_length, hsl, Nat.mul_one], .inr ⟨w.heap.size, _, _, _, rfl, Nat.zero_le _, bytesWorld_at_new w e ⟨⟨l⟩⟩, .inr rfl, hge, hcm, by rw [hcsz, Nat.mul_one], ?_⟩⟩
    simp only [bytesCells, Array.toList_append, Nat.mul_one]
    rw [List.take_append_of_le_length (by simp), List.take_of_length_le (by simp)]
    simp [strCells]
  have hbel := below_bytes w e ⟨⟨l⟩⟩
  have hS := Sb.allocTL h.toG hbel (t := ml (.slice (some ⟨w.heap.size, 0, none⟩) l.length (grownCap w l.length 0 e)) e (rInt .u8) (sbytes l)) (fun g hg => by
    have hg : some w.heap.size = some g := hg
    injection hg with hg; omega) ⟨by simp [lenV, hll], _, hown, by rw [sbytes_cells]; exact repA_ints _⟩
  rw [hd]
  refine H β (upd ρ d (.slice (some ⟨w.heap.size, 0, none⟩) l.length (grownCap w l.length 0 e))) _ _ _ hk (keeps_born f3 (offBy_same d β ρ _) _ _ _) ?_
  exact born_row (o := .row e (.int .u8) (sbytes l)) hX hr h.sz hwd f1 f2 f3 (hS.put h1 (.v _)) (by simp only [tlOf, upd_same]; exact simT.refl _) ⟨_, _, _, rfl⟩
end
end Gx

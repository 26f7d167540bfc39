/- A key is taken out of a map; the beginning of a row of one's own. -/
import Derived.Test.YtknipijkpcbadaaGreatXMb
namespace Gx
open Go Go.RowKit Gd
set_option linter.unusedVariables false
set_option linter.unusedSimpArgs false
section
variable {P : Program} {T : Tab}
theorem del_map (hT : TabOk P T) {kt : TypeId} {te : TE} (ht : lookT T kt = some te) {k : Ty} (h : descK T k te.d = true) (key : k.De) {ν : Type} {s : RT ν} {ok : Ok} {w : World} : ∀ {xs : List (k.De × ν)} {es : List MapEntry}, mapP (rt k) s ok w xs es →
    (findL key xs = none ∧ delL key xs = xs) ∨
    (∃ (j : Nat) (e : MapEntry), (∀ i, (Instr.findAsking kt (keyV k key) es i).run P w = .ok (some (i + j, e.val)) w) ∧ es[j]? = some e ∧ mapP (rt k) s ok w (delL key xs) (es.eraseIdx j))
  | [], es, hp => .inl ⟨rfl, rfl⟩
  | x :: xs, es, hp => by
    obtain ⟨e, es', rfl, h1, h2, h3⟩ := hp
    have hk := keyV_rep (descK_key h) h1
    have heq := run_equalK hT ht h key x.1 w
    simp only [delL, findL, Instr.findAsking, Sem.run_bind, hk, heq, Result.andThen_ok]
    cases he : eqK k key x.1 with
    | true => exact .inr ⟨0, e, by simp, rfl, h3⟩
    | false =>
      rcases del_map hT ht h key h3 with ⟨q1, q2⟩ | ⟨j, e', q2, q3, q5⟩
      · exact .inl ⟨q1, by simp only [cond_false, q2]⟩
      · exact .inr ⟨j + 1, e', fun i => by rw [show i + (j + 1) = i + 1 + j by omega]; simpa using q2 (i + 1), q3, ⟨e, _, rfl, h1, h2, q5⟩⟩
theorem delL_sub {k : Ty} {ν : Type} (key : k.De) : ∀ {xs : List (k.De × ν)}, (delL key xs).Sublist xs
  | [] => List.Sublist.refl _
  | x :: xs => by
    simp only [delL]
    cases eqK k key x.1 with
    | true => exact (List.Sublist.refl _).cons _
    | false => exact (delL_sub key).cons_cons _
theorem run_delete (hT : TabOk P T) {t kt et : TypeId} {te tk : TE} (ht : lookT T t = some te) (htd : te.d = .map kt et) (hk : lookT T kt = some tk)
    {k : Ty} {ν : Type} {s : RT ν} (hd : descK T k tk.d = true) {ok : Ok} {w : World} {g : Nat} {es : Array MapEntry} {clock : Nat} (hg : w.heap[g]? = some (.map es clock)) {xs : List (k.De × ν)} (hp : mapP (rt k) s ok w xs es.toList) (hst : stampP es clock) (key : k.De) (kt' ty : TypeId) :
    ∃ es', (Builtin.delete_ #[t, kt'] ty #[.map (some g), keyV k key]).run P w = .ok (.tuple #[]) { w with heap := w.heap.setIfInBounds g (.map es' clock) } ∧ mapP (rt k) s ok w (delL key xs) es'.toList ∧ stampP es' clock := by
  have hu := (lookT_ok hT ht).2
  rw [htd] at hu
  rcases find_map hT hk hd key w hp with ⟨q1, q2⟩ | ⟨j, e, y, q1, q2, q3, q4, q5⟩
  · refine ⟨es, ?_, ?_, hst⟩
    · simp [Builtin.delete_, run_underlying hu, MapKept.run_getObj_map hg, run_checkK hT hk hd, q2, MapKept.run_setObj_map _ hg, Result.andThen]
    · rcases del_map hT hk hd key hp with ⟨_, r2⟩ | ⟨j, e, r1, r2, r3⟩
      · rw [r2]; exact hp
      · have r4 := r1 0
        have := findKey_of hT hk hd key w hp r4
        rw [q2] at this
        injection this with this; cases this
  · rcases del_map hT hk hd key hp with ⟨r1, _⟩ | ⟨j', e', r1, r2, r3⟩
    · rw [q1] at r1; cases r1
    · have r4 := r1 0
      have := findKey_of hT hk hd key w hp r4
      rw [q2] at this
      injection this with this
      simp only [Option.some.injEq, Prod.mk.injEq] at this
      have hj : j = j' := by omega
      subst hj
      have hlt : j < es.size := by have := (List.getElem?_eq_some_iff.1 q3).1; simpa using this
      have hl : (es.eraseIdxIfInBounds j).toList = es.toList.eraseIdx j := by
        unfold Array.eraseIdxIfInBounds
        rw [dif_pos hlt, Array.toList_eraseIdx]
      refine ⟨es.eraseIdxIfInBounds j, ?_, by rw [hl]; exact r3, ?_, fun e he => ?_⟩
      · simp [Builtin.delete_, run_underlying hu, MapKept.run_getObj_map hg, run_checkK hT hk hd, q2, MapKept.run_setObj_map _ hg, Result.andThen]
      · rw [hl]
        exact hst.1.sublist ((List.eraseIdx_sublist _ _).map _)
      · rw [hl] at he
        exact hst.2 e ((List.eraseIdx_sublist _ _).subset he)
end
section
variable {P : Program} {Y : TX} {X : Cx} {S : XS} {β β' : Nat → Nat} {ρ ρ' : Nat → Value} {a a' : Act} {w w' : World} {n : Nat}
variable {ops : Array Oper} {Q : Exit → Act → World → Prop} {rest : List Oper} {R : Type} {k : XS → Option R} {r : R}
theorem s_delete (hT : TabOk P Y.T) (h : Rel X β ρ S.flat a w) {o : Oper} (hw : Region.wanted o (yielded ops a.tmps) = true) {t t' : TypeId} {m ky : Operand} (hop : o.op = .call ⟨.builtin .delete, ⟨[m, ky]⟩, ⟨[t, t']⟩⟩) (hd : o.dst = none) {te tk : TE} {kt et : TypeId} (hte : lookT Y.T t = some te) (htd : te.d = .map kt et) (htk : lookT Y.T kt = some tk)
    {id : Nat} {kv : AV} {kk v : Ty} {xs : List (kk.De × v.De)} {key : kk.De} (hm : S.ev [] m = some (.m id)) (hkv : S.ev [] ky = some kv) (hmo : lookM S.mem id = some (.map kk v xs)) (hkey : asD [] kv kk = some key)
    (hdk : descK Y.T kk tk.d = true) (hka : (kk.agg == kv.isAgg) = true)
    (hk : k (S.set id (.map kk v (delL key xs))) = some r) (H : KOk P ops Q rest X S β ρ k r) : wpList P ops Q (o :: rest) a w := by
  obtain ⟨c1, h1, h2⟩ := h.ev (holdsC_nil a) hm
  have h2' : c1 = [.map (some (β id))] := h2
  subst h2'
  have h1' : a.eval m = .map (some (β id)) := h1
  obtain ⟨c3, h3, h4⟩ := h.ev (holdsC_nil a) hkv
  have hkr : isV (rt kk) (okR X β ρ S.flat.mem w) w key (a.eval ky) := by
    refine ⟨c3, asD_ok (M := []) (β := β) (ρ := ρ) (by simp [lookM]) hkey h4, ?_⟩
    rw [h3]; simp only [AV.val, RT.val, rt_agg, bEq hka]; cases kv.isAgg <;> rfl
  have hke := keyV_rep (descK_key hdk) hkr
  have hm' : lookM S.flat.mem id = some (.map kk v xs) := lookM_append hmo
  obtain ⟨⟨es, clock, hg, hp, hnd, hst1, hst2⟩, hmine⟩ := h.ob hm'
  obtain ⟨es', hrun, hp', hst'⟩ := run_delete hT hte htd htk hdk hg hp ⟨hst1, hst2⟩ key t' o.type
  have hrun' : (execOp a.eval o).run P w = .ok (.value (.tuple #[])) { w with heap := w.heap.setIfInBounds (β id) (.map es' clock) } := by
    unfold execOp
    have hmm : (Array.mk [m, ky]).map a.eval = ⟨[.map (some (β id)), keyV kk key]⟩ := by simp [h1', hke]
    simp only [hop, resolve, hmm, invoke, builtin]
    simp [hrun]
  refine wpList_go hw (wp_value hrun' ?_)
  rw [hd]
  have hO' := lookM_split hm'
  obtain ⟨l1, l2, e1, e2, e3⟩ := hO'
  have hO : memO β ρ S.flat.mem = memO β ρ l1 ++ tlOf β ρ id (.map kk v xs) :: memO β ρ l2 := by rw [e1]; simp [memO]
  have hS := h.upd hO (t' := tlOf β ρ id (.map kk v (delL key xs))) (w' := { w with heap := w.heap.setIfInBounds (β id) (.map es' clock) }) rfl rfl rfl (by simp) (fun b hb hn => (MapKept.heap_set hg).2 b fun e => hn e) (fun b o hb => hb) (fun g hg => .inl hg) (fun hevo hok => by
    refine ⟨es', clock, (MapKept.heap_set hg).1, ?_, hnd.sublist ((delL_sub key).map _), hst'.1, hst'.2⟩
    exact mapP_weak (mapP_evo hp' hevo) hok)
  have hE : (S.set id (.map kk v (delL key xs))).flat = ⟨S.flat.env, setM S.flat.mem id (.map kk v (delL key xs))⟩ := by
    simp only [XS.flat, XS.set]
    rw [setM_append hmo]
  refine H β ρ _ _ _ hk ⟨rfl, rfl, rfl, agP.refl _ _ _⟩ ?_
  rw [hE, e2]
  have hmem : memO β ρ (l1 ++ (id, Ob.map kk v (delL key xs)) :: l2) = memO β ρ l1 ++ tlOf β ρ id (.map kk v (delL key xs)) :: memO β ρ l2 := by simp [memO]
  exact Rel.ofSb hS hmem.symm fun e he => by
    have := AllD_mem.1 hS.dat _ (List.mem_map.2 ⟨e, he, rfl⟩)
    rw [← hmem] at this
    exact this
theorem s_resl (hT : TabOk P Y.T) (hX : X.n = n) (hr : X.res = []) (h : Rel X β ρ S.flat a w) {o : Oper} (hw : Region.wanted o (yielded ops a.tmps) = true) {d : Nat} (hd : o.dst = some d) (hwd : okW n S d = true) {id : Nat}
    (hb : okB ⟨S.env, S.fix, remM S.mem id, S.fixM, S.prot⟩ d = true) {t : TypeId} {x : Operand} {hi mx : Option Operand} (hop : o.op = .slice t x none hi mx) {te ee : TE} {e : TypeId} (hte : lookT Y.T t = some te) (htd : te.d = .slice e) (he : lookT Y.T e = some ee) {u : Ty} (hsz : Nat.beq ee.size u.size = true)
    {xs ys : List u.De} (hx : S.ev [] x = some (.s id)) (hm : lookM S.mem id = some (.row e u xs)) {q : Int} (hq : bnd S.flat [] xs.length hi = some q) (hys : slc xs 0 q = some ys)
    (hmx : mx = none ∨ ∃ hv mv k1 k2 m, hi = some hv ∧ mx = some mv ∧ a.eval hv = .int k1 q ∧ a.eval mv = .int k2 m ∧ q ≤ m ∧ m ≤ (xs.length : Int))
    (hk : k (({ S with mem := remM S.mem id }.born d (.row e u ys)).put d [] (.s d)) = some r) (H : KOk P ops Q rest X S β ρ k r) : wpList P ops Q (o :: rest) a w := by
  obtain ⟨f1, f2, f3⟩ := okB_ok hb
  obtain ⟨h1, h2⟩ := okW_ok hwd hX hr
  have hg := guardG h hw
  obtain ⟨c1, hse, ⟨v0, hs2, hz0⟩, A, m, c, hρ⟩ := h.ev (holdsC_nil a) hx
  subst hs2
  have hm' : lookM S.flat.mem id = some (.row e u xs) := lookM_append hm
  have e4' : remM S.mem id ++ S.fixM = remM S.flat.mem id := (remM_append hm).symm
  obtain ⟨h0, hq1, hq2, hys', hyl⟩ := slc_ok hys
  have hysT : ys = xs.take q.toNat := by rw [hys']; simp
  have hun : (underlying t).run P w = .ok (.slice e) w := by rw [run_under hT w hte, htd]
  obtain ⟨⟨hl0, cs0, hown0, hr0⟩, hmine⟩ := h.ob hm'
  have hsz' := Nat.eq_of_beq_eq_true hsz
  have hgo : ∀ (A' : Option Addr) (c' : Nat), a.eval x = .slice A' xs.length c' → xs.length ≤ c' → (c' ≠ 0 → ∀ ad, A' = some ad → ad.add 0 = ad) → ∃ c2, ys.length ≤ c2 ∧ c2 ≤ c' ∧ (execOp a.eval o).run P w = .ok (.value (.slice A' ys.length c2)) w := by
    intro A' c' hv hcc hadd
    obtain ⟨c2, hc2, hc3, hbn⟩ : ∃ c2, ys.length ≤ c2 ∧ c2 ≤ c' ∧ (Instr.sliceBounds true xs.length c' none (hi.map a.eval) (mx.map a.eval)).run P w = .ok (0, q.toNat, c2) w := by
      rcases hmx with rfl | ⟨hv', mv, k1, k2, m, rfl, rfl, e1, e2, e3, e5⟩
      · exact ⟨c', by omega, Nat.le_refl _, run_bounds' (P := P) (w := w) (isS := true) (lo := none) (len := xs.length) (cap := c') (.inl ⟨rfl, rfl⟩) (h.toW.bnd (holdsC_nil a) hq) (Int.le_refl 0) hq1 (by omega) hcc⟩
      · exact ⟨m.toNat, by omega, by omega, run_bounds3 (P := P) (w := w) (lo := none) (len := xs.length) (cap := c') (.inl ⟨rfl, rfl⟩) e1 e2 (Int.le_refl 0) hq1 e3 (by omega)⟩
    refine ⟨c2, hc2, hc3, ?_⟩
    have hA' : (if c2 = 0 then A' else A'.map (·.add (0 * u.size))) = A' := by
      split
      · rfl
      · rename_i hc0
        cases A' with
        | none => rfl
        | some ad => rw [Nat.zero_mul]; simp [hadd (by omega) ad rfl]
    have hlen : q.toNat - 0 = ys.length := by omega
    unfold execOp
    rw [hop]
    simp only [hv]
    simp [Instr.sliceAt, hun, Instr.slice, hbn, run_sizeOf' hT w he, hsz', hlen]
    simpa using hA'
  rcases hz0 with hz0 | ⟨h00, A0, hz0⟩
  case inr =>
    have hse' : a.eval x = .slice A0 0 0 := by rw [hse, ← hz0]; rfl
    have hxs : xs = [] := by
      rw [h00] at hl0
      exact List.length_eq_zero_iff.1 hl0.symm
    subst hxs
    have hy0 : ys = [] := by rw [hysT]; simp
    subst hy0
    obtain ⟨c2, _, hc3, hrun⟩ := hgo A0 0 hse' (Nat.le_refl _) (fun h => absurd rfl h)
    have hc0 : c2 = 0 := by omega
    subst hc0
    refine wpList_go hw (wp_value hrun ?_)
    rw [hd]
    have hS := (h.dropM hm').toG.put h1 (.v (.slice A0 0 0))
    rw [← e4'] at hS
    exact H β (upd ρ d (.slice none 0 0)) _ _ _ hk ⟨rfl, rfl, rfl, agP_off f3 (offBy_same d β ρ _)⟩ (born_z (S := { S with mem := remM S.mem id }) hX hr h.sz hwd f1 f2 f3 hS)
  have hse' : a.eval x = .slice A m c := by rw [hse, ← hρ, ← hz0]; rfl
  have hmx : m = xs.length := by rw [hρ] at hl0; exact hl0
  subst hmx
  have hlenV : lenV (ρ id) = xs.length := by rw [hρ]; rfl
  rw [hlenV, hρ] at hown0
  have hcap : xs.length ≤ c ∧ (c ≠ 0 → ∀ ad, A = some ad → ad.add 0 = ad) := by
    rcases hown0.2 with ⟨hv, h0⟩ | ⟨g, cap, cur, fz, hv, _, _, _, hle, _⟩
    · injection hv with e1 e2 e3
      exact ⟨by omega, fun _ ad had => by rw [e1] at had; cases had⟩
    · injection hv with e1 e2 e3
      exact ⟨by omega, fun _ ad had => by rw [e1] at had; injection had with had; subst had; exact addr_add g 0 0⟩
  obtain ⟨c2, hc2, hc3, hrun⟩ := hgo A c hse' hcap.1 hcap.2
  refine wpList_go hw (wp_value hrun ?_)
  rw [hd]
  obtain ⟨l1, l2, e1, _, e3⟩ := lookM_split hm'
  have hO : memO β ρ S.flat.mem = memO β ρ l1 ++ ml (.slice A xs.length c) e (rt u) xs :: memO β ρ l2 := by rw [e1]; simp [memO, tlOf, hρ]
  have hyx : ys.length ≤ xs.length := by omega
  have hmul : ys.length * (rt u).size ≤ xs.length * (rt u).size := Nat.mul_le_mul_right _ hyx
  have hcsl : cs0.length = xs.length * (rt u).size := hown0.1
  have hrep : repA (rt u) (okR X β ρ S.flat.mem w) w ys (cs0.take (ys.length * (rt u).size)) := by
    refine repA_of ys _ (by rw [List.length_take]; omega) fun i y hy => ?_
    have hiy := (List.getElem?_eq_some_iff.1 hy).1
    rw [hysT, List.getElem?_take] at hy
    split at hy
    · refine ⟨_, repA_at hr0 hy, fun j v hj => ?_⟩
      rw [List.getElem?_take] at hj
      split at hj
      · rename_i hjs
        rw [List.getElem?_drop] at hj
        rw [List.getElem?_take, if_pos ?_]
        · exact hj
        · have : (i + 1) * (rt u).size ≤ ys.length * (rt u).size := Nat.mul_le_mul_right _ hiy
          rw [Nat.add_mul, Nat.one_mul] at this
          omega
      · cases hj
    · cases hy
  have hown : w.ownsRowS 0 e (rt u).size (.slice A ys.length c2) ys.length (cs0.take (ys.length * (rt u).size)) := by
    refine ⟨by rw [List.length_take]; omega, ?_⟩
    rcases hown0.2 with ⟨hv, h0⟩ | ⟨g, cap, cur, fz, hv, hb0, hh, hfz, hle, hcm, hcs, hcur⟩
    · injection hv with q1 q2 q3
      have hy0 : ys.length = 0 := by omega
      have hc0 : c2 = 0 := by omega
      exact .inl ⟨by rw [q1, hc0, hy0], hy0⟩
    · injection hv with q1 q2 q3
      refine .inr ⟨g, c2, cur, fz, by rw [q1], hb0, hh, hfz, by omega, by omega, Nat.le_trans (Nat.mul_le_mul_right _ (by omega)) hcs, ?_⟩
      rw [← hcur, List.take_take, Nat.min_eq_left hmul]
  have hS0 := h.toG.upd hO (t' := ml (.slice A ys.length c2) e (rt u) ys) (w' := w) rfl rfl rfl (Nat.le_refl _) (fun _ _ _ => rfl) (fun b o hb => hb) (fun g hg => .inl (by
    have hg' : (Value.slice A ys.length c2).ownBlock = some g := hg
    rw [ownBlock_len A ys.length xs.length c2 c] at hg'; exact hg')) (fun hevo hok => ⟨rfl, _, hown, repA_weak hrep hok⟩)
  have hS := hS0.put h1 (.v (.slice A ys.length c2))
  refine H β (upd ρ d (.slice A ys.length c2)) _ _ _ hk ⟨rfl, rfl, rfl, agP_off f3 (offBy_same d β ρ _)⟩ ?_
  have e4 : remM S.mem id ++ S.fixM = l1 ++ l2 := by rw [← remM_append hm]; exact e3
  have hS' := hS.perm (O' := ml (.slice A ys.length c2) e (rt u) ys :: memO β ρ (remM S.mem id ++ S.fixM)) (by rw [e4]; simp only [memO, List.map_append]; exact List.perm_middle)
  exact born_row (S := { S with mem := remM S.mem id }) (o := .row e u ys) hX hr h.sz hwd f1 f2 f3 hS' (by simp only [tlOf, upd_same]; exact simT.refl _) ⟨_, _, _, rfl⟩
theorem ptrL_ok (h : Rel X β ρ S.flat a w) : ∀ {ps : List (Nat × Operand)} {vs : List (Nat × AV)} {c : AV} {j : Nat}, evParts' S.flat [] ps = some vs → ptrL vs j = some c →
    ∃ us : List Value, ps.map (fun p => (p.1, a.eval p.2)) = (List.range' j us.length).zip us ∧ us.length = vs.length ∧ (∀ v ∈ us, cellsL v = [v]) ∧ cr β ρ (okR X β ρ S.flat.mem w) w false c us
  | [], vs, c, j, he, hx => by
    simp [evParts'] at he; subst he
    simp [ptrL] at hx; subst hx
    exact ⟨[], rfl, rfl, by simp, rfl⟩
  | (i, x) :: ps, vs, c, j, he, hx => by
    simp only [evParts'] at he
    split at he
    · rename_i v l hv hl
      simp at he; subst he
      simp only [ptrL] at hx
      obtain ⟨hb, hx⟩ := bvT hx
      simp only [Bool.and_eq_true] at hb
      have := Nat.eq_of_beq_eq_true hb.1
      subst this
      split at hx
      · rename_i r hr
        simp at hx; subst hx
        obtain ⟨us, q1, q2, q3, q4⟩ := ptrL_ok h (ps := ps) hl hr
        obtain ⟨cs, p1, p2⟩ := h.ev (holdsC_nil a) hv
        have hone : ∃ q, a.eval x = .pointer q ∧ cr β ρ (okR X β ρ S.flat.mem w) w false v [.pointer q] := by
          cases v with
          | np =>
            have p2' : cs = _ := p2
            subst p2'
            exact ⟨_, p1, rfl⟩
          | p id path =>
            have p2' : cs = _ := p2
            subst p2'
            exact ⟨_, p1, rfl⟩
          | _ => cases hb.2
        obtain ⟨q, e1, e2⟩ := hone
        refine ⟨a.eval x :: us, ?_, by simp [q2], fun u hu => ?_, ?_⟩
        · simp only [List.map_cons, List.length_cons, List.range'_succ, List.zip_cons_cons, q1]
        · rcases List.mem_cons.1 hu with rfl | hu
          · rw [e1]; rfl
          · exact q3 u hu
        · exact ⟨[.pointer q], us, by rw [e1]; rfl, e2, q4⟩
      · cases hx
    · cases he
theorem flat_cells : ∀ {us : List Value}, (∀ v ∈ us, cellsL v = [v]) → us.flatMap cellsL = us
  | [], _ => rfl
  | v :: us, h => by
    rw [List.flatMap_cons, h v (.head _), flat_cells fun u hu => h u (.tail _ hu)]; rfl
theorem s_buildP (hT : TabOk P Y.T) (hX : X.n = n) (hr : X.res = []) (h : Rel X β ρ S.flat a w) {o : Oper} (hw : Region.wanted o (yielded ops a.tmps) = true) {d : Nat} (hd : o.dst = some d) (hwd : okW n S d = true) (hb : okB S d = true)
    {t : TypeId} {m : Nat} {ps : List (Nat × Operand)} (hop : o.op = .buildSlice t (m + 1) ⟨ps⟩) {te ee : TE} {e : TypeId} (hte : lookT Y.T t = some te) (htd : te.d = .slice e) (he : lookT Y.T e = some ee)
    {vs : List (Nat × AV)} {c : AV} (hvs : evParts' S.flat [] ps = some vs) (hpl : ptrL vs 0 = some c) (hnd : noId d c = true) (hl : Nat.beq vs.length (m + 1) = true) (hsz : Nat.beq ee.size 1 = true) (hzl : Nat.beq (cellsL ee.z).length 1 = true) (hsm : Nat.ble (m + 1) 16777216 = true)
    (hk : k ((S.born d (.var e (.ag c))).put d [] (.w d 0 ((m + 1 : Nat) : Int))) = some r) (H : KOk P ops Q rest X S β ρ k r) : wpList P ops Q (o :: rest) a w := by
  obtain ⟨us, q1, q2, q3, q4⟩ := ptrL_ok h hvs hpl
  have hes := Nat.eq_of_beq_eq_true hsz
  have hul : us.length = m + 1 := q2.trans (Nat.eq_of_beq_eq_true hl)
  have hzl' := Nat.eq_of_beq_eq_true hzl
  have hz0 : (zerosS (cellsL ee.z) ((m + 1) * ee.size)).length = (m + 1) * ee.size := by simp [zerosS]
  have hfill := fillS us 0 (zerosS (cellsL ee.z) ((m + 1) * ee.size)) (s := ee.size) (fun v hv => by rw [q3 v hv, hes]; rfl) (by rw [hz0, Nat.zero_add, hul]; exact Nat.le_refl _)
  rw [← q1] at hfill
  have hfill' : fillL (placeS ee.size) (zerosS (cellsL ee.z) ((m + 1) * ee.size)) (ps.map (fun p => (p.1, a.eval p.2))) = some us := by
    rw [hfill]
    simp only [Nat.zero_mul, List.take_zero, List.nil_append, Nat.zero_add]
    rw [List.drop_of_length_le (by rw [hz0, hul]; exact Nat.le_refl _), List.append_nil, flat_cells q3]
  have hrun : (execOp a.eval o).run P w = .ok (.value (.slice (some ⟨w.heap.size, 0, none⟩) (m + 1) (m + 1))) (w.alloc (.cells us.toArray e)) := by
    have hm : (Array.mk ps).map (fun (x : Nat × Operand) => (x.1, a.eval x.2)) = ⟨ps.map (fun p => (p.1, a.eval p.2))⟩ := by simp
    have hun : (underlying t).run P w = .ok (.slice e) w := by rw [run_under hT w hte, htd]
    have h16 : ¬ (m + 1) * ee.size > 16777216 := by have := Nat.le_of_ble_eq_true hsm; rw [hes]; omega
    have hf : Instr.fill (fun i => some (i * ee.size, ee.size)) (zerosS (cellsL ee.z) ((m + 1) * ee.size)).toArray (ps.map (fun p => (p.1, a.eval p.2))) = some us.toArray := fillL_ok _ hfill'
    have hzz : (Array.range ((m + 1) * ee.size)).map (fun x => ee.z.cells[x % ee.z.cells.size]!) = (zerosS (cellsL ee.z) ((m + 1) * ee.size)).toArray := by
      rw [cellsL_eq]
      unfold zerosS
      apply Array.ext
      · simp
      · intro i h1 h2
        have hzs : ee.z.cells.size = 1 := by rw [← hzl', cellsL_eq]; simp
        have hmod : i % ee.z.cells.size < ee.z.cells.size := Nat.mod_lt _ (by omega)
        simp [getElem!_pos, hmod]
    unfold execOp
    rw [hop]
    simp only [Instr.buildSlice, Sem.run_bind, hun, run_sizeOf' hT w he, Result.andThen_ok, hm]
    have h00 : m + 1 ≠ 0 := by omega
    have h01 : ee.size ≠ 0 := by omega
    have h02 : ¬ (m + 1) * ee.size = 0 := by rw [hes]; omega
    generalize hM : m + 1 = M at *
    simp [h16, h00, h01, run_zeroValue hT w he, hzz, hf, newRow]
    exact fun e => absurd e h02
  exact s_varX (x := .w d 0 ((m + 1 : Nat) : Int)) (cv := fun g => [.slice (some ⟨g, 0, none⟩) (m + 1) (m + 1)]) hX hr h hw hd hwd hb hrun (c := .ag c) q4 hnd (fun β ρ ok w => ⟨_, _, rfl, fun _ => rfl⟩) hk H
end
end Gx

/- A region, operation by operation. -/
namespace Gx
open Go Go.RowKit Gd
set_option linter.unusedVariables false
set_option linter.unusedSimpArgs false
section
variable {P : Program} {Y : TX} {X : Cx} {S : XS} {β β' : Nat → Nat} {ρ ρ' : Nat → Value} {a a' : Act} {w w' : World} {n : Nat}
variable {ops : Array Oper} {Q : Exit → Act → World → Prop} {rest : List Oper} {R : Type} {k : XS → Option R} {r : R}
theorem isSliceD_ok {d : TypeDesc} {e : TypeId} (h : isSliceD d = some e) : d = .slice e := by
  cases d <;> simp [isSliceD] at h
  subst h; rfl
theorem stepS0_ok (hT : TabOk P Y.T) (hX : X.n = n) (hr : X.res = []) (h : Rel X β ρ S.flat a w) {o : Oper} (hw : Region.wanted o (yielded ops a.tmps) = true) (hs : stepS0 Y n o S k = some r) (H : KOk P ops Q rest X S β ρ k r) :
    wpList P ops Q (o :: rest) a w := by
  unfold stepS0 at hs
  split at hs
  ·
    rename_i t d hop hd
    split at hs
    · rename_i e ty he hty
      split at hs
      · rename_i c hc
        obtain ⟨hb, hk⟩ := bvT hs
        simp only [Bool.and_eq_true] at hb
        refine s_var (cs := cellsL e.z) hX hr h hw hd hb.1.1.1 hb.1.1.2 ?_ (zeroAV_ok hc) hb.2 hk H
        unfold execOp
        simp only [hop]
        simp [Instr.alloc, run_zeroValue hT w he, newVar, newRow, cellsL_eq]
      · cases hs
    · cases hs
  ·
    rename_i t x d hop hd
    split at hs
    · rename_i c hc
      obtain ⟨hb, hk⟩ := bvT hs
      simp only [Bool.and_eq_true] at hb
      obtain ⟨cs, h1, h2⟩ := h.ev (holdsC_nil a) hc
      refine s_var (cs := cs) hX hr h hw hd hb.1.1.1.1 hb.1.1.1.2 ?_ h2 hb.2 hk H
      have hcl := cellsL_val' h2 hb.1.1.2 hb.1.2
      have hcc : (c.val cs).cells = cs.toArray := by
        apply Array.ext'
        rw [← cellsL_eq, hcl]
      unfold execOp
      simp only [hop, h1]
      simp [Instr.box, newVar, newRow, hcc]
    · cases hs
  ·
    rename_i t p x hop hd
    split at hs
    · rename_i e id path v he hp hx
      split at hs
      · rename_i tid c hm
        split at hs
        · rename_i c' hc'
          obtain ⟨hb, hk⟩ := bvT hs
          simp only [Bool.and_eq_true] at hb
          exact s_store hT h hw hop hd he hp hx hm (fun _ h1 h2 => setP_ok h1 hc' h2) hb.1.1 hb.1.2 hb.2 hk H
        · cases hs
      · cases hs
    · rename_i e id j sz ps v he hp hx
      split at hs
      · rename_i et u xs hm
        obtain ⟨y, hy, hs⟩ := bindE hs
        split at hs
        · rename_i c hc
          split at hs
          · rename_i z0 hz
            obtain ⟨hb, hk⟩ := bvT hs
            simp only [Bool.and_eq_true] at hb
            exact s_storeEl hT h hw hop hd he hp hx hm hy hc hz hb.1.1.1.1 hb.1.1.1.2 hb.1.1.2 hb.1.2 hb.2 hk H
          · cases hs
        · cases hs
      · cases hs
    · cases hs
  ·
    rename_i t rs d hop hd
    split at hs
    · rename_i te hte
      split at hs
      · rename_i kt et htd
        split at hs
        · rename_i kk v hkk hv
          obtain ⟨hb, hk⟩ := bvT hs
          simp only [Bool.and_eq_true] at hb
          have hrs : rs = none := by
            cases rs with
            | none => rfl
            | some x => simp [isNone] at hb
          subst hrs
          exact s_makeMap hX hr h hw hd hb.1.1 hb.1.2 hop hk H
        · cases hs
      · cases hs
    · cases hs
  ·
    rename_i t m ky x hop hd
    split at hs
    · rename_i te id kv xv hte hm hkv hx
      split at hs
      · rename_i kt et kk v xs htd hmo
        split at hs
        · rename_i tk key y htk hkey hy
          obtain ⟨hb, hk⟩ := bvT hs
          simp only [Bool.and_eq_true] at hb
          exact s_mapUpdate hT h hw hop hd hte htd htk hm hkv hx hmo hkey hy hb.1.1 hb.1.2 hb.2 hk H
        · cases hs
      · rename_i kt et kk v path e u xs kh h0 htd hmo
        split at hs
        · rename_i tk key y h1 htk hkey hy hnav
          split at hs
          · rename_i e1 u1 ys hmh
            obtain ⟨hb, hs⟩ := bvT hs
            simp only [Bool.and_eq_true] at hb
            obtain ⟨⟨⟨⟨⟨b1, b2⟩, b3⟩, b4⟩, b5⟩, b6⟩ := hb
            obtain ⟨_, hch, hk⟩ := bindE hs
            have e1 := Nat.eq_of_beq_eq_true b4
            have e2 := Ty.beq_eq b5
            subst e1; subst e2
            unfold chk at hch
            exact s_close hT h hw hop hd hte htd htk hm hkv hx hmo hkey (bvT hch).1 hnav hmh hy b1 b2 b3 b6 hk H
          · cases hs
        · cases hs
      · cases hs
    · cases hs
  ·
    rename_i t l c d hop hd
    split at hs
    · rename_i te lv cv hte hl hc
      split at hs
      · rename_i e k1 nl k2 nc hse hli hci
        split at hs
        · rename_i ee u he hu
          split at hs
          · rename_i za hza
            split at hs
            · rename_i z0 hz
              obtain ⟨hb, hs⟩ := bvT hs
              simp only [Bool.and_eq_true] at hb
              obtain ⟨zs, hzs, hk⟩ := bindE hs
              exact s_make hT hX hr h hw hd hb.1.1.1.1 hb.1.1.1.2 hop hte (isSliceD_ok hse) he hl hc hli hci hza hz hb.1.1.2 hb.1.2 hb.2 hzs hk H
            · cases hs
          · cases hs
        · cases hs
      · cases hs
    · cases hs
  ·
    rename_i t len parts d hop hd
    split at hs
    · rename_i te hte
      split at hs
      · rename_i e hse
        split at hs
        · rename_i ee u he hu
          obtain ⟨hb, hs⟩ := bvT hs
          simp only [Bool.and_eq_true] at hb
          split at hs
          · obtain ⟨hb2, hk⟩ := bvT hs
            exact s_lit0 hT hX hr h hw hd hb.1 hb2 hop hte (isSliceD_ok hse) he hb.2 hk H
          · cases hs
          · rename_i m
            split at hs
            · rename_i vs hvs
              split at hs
              · rename_i xs hxs
                obtain ⟨hb2, hk⟩ := bvT hs
                simp only [Bool.and_eq_true] at hb2
                exact s_lit hT hX hr h hw hd hb.1 hop hte (isSliceD_ok hse) he hb.2 hvs hxs hb2.1.1.1 hb2.1.1.2 hb2.1.2 hb2.2 hk H
              · cases hs
            · cases hs
        · cases hs
      · cases hs
    · cases hs
  ·
    rename_i s x t t' d hop hd
    split at hs
    · rename_i te sv xv hte hsv hxv
      split at hs
      · rename_i e hse
        split at hs
        · rename_i ee he
          have hb := (bvT hs).1
          replace hs := (bvT hs).2
          simp only [Bool.and_eq_true] at hb
          obtain ⟨⟨⟨⟨b1, b2⟩, b3⟩, b4⟩, b5⟩ := hb
          have ett := Nat.eq_of_beq_eq_true b2
          subst ett
          split at hs
          · split at hs
            · rename_i u hu
              split at hs
              · rename_i ys hys
                have hb2 := (bvT hs).1
                replace hs := (bvT hs).2
                simp only [Bool.and_eq_true] at hb2
                obtain ⟨zs, hzs, hk⟩ := bindE hs
                exact s_appNil hT hX hr h hw hd b1 hb2.1 hop hte (isSliceD_ok hse) he hb2.2 b3 b4 b5 hsv hxv hys hzs hk H
              · cases hs
            · cases hs
          · split at hs
            · rename_i u hu
              split at hs
              · rename_i ys hys
                have hb2 := (bvT hs).1
                replace hs := (bvT hs).2
                simp only [Bool.and_eq_true] at hb2
                obtain ⟨zs, hzs, hk⟩ := bindE hs
                exact s_appZ hT hX hr h hw hd b1 hb2.1 hop hte (isSliceD_ok hse) he hb2.2 b3 b4 b5 hsv hxv hys hzs hk H
              · cases hs
            · cases hs
          · rename_i id
            split at hs
            · rename_i e' u xs hm
              split at hs
              · rename_i ys hys
                have hb2 := (bvT hs).1
                replace hs := (bvT hs).2
                simp only [Bool.and_eq_true] at hb2
                have ee' := Nat.eq_of_beq_eq_true hb2.2
                subst ee'
                obtain ⟨zs, hzs, hk⟩ := bindE hs
                exact s_appRow hT hX hr h hw hd b1 hb2.1.1 hop hte (isSliceD_ok hse) he hb2.1.2 b3 b4 b5 hsv hxv hm hys hzs hk H
              · cases hs
            · rename_i e' u xs hm
              split at hs
              · rename_i ys hys
                have hb2 := (bvT hs).1
                replace hs := (bvT hs).2
                simp only [Bool.and_eq_true] at hb2
                have ee' := Nat.eq_of_beq_eq_true hb2.2
                subst ee'
                obtain ⟨zs, hzs, hk⟩ := bindE hs
                exact s_appTail hT hX hr h hw hd b1 hb2.1.1 hop hte (isSliceD_ok hse) he hb2.1.2 b3 b4 b5 hsv hxv hm hys hzs hk H
              · cases hs
            · cases hs
          · cases hs
        · cases hs
      · cases hs
    · cases hs
  ·
    obtain ⟨hb, hs⟩ := bvT hs
    obtain ⟨av, hk, hsem⟩ := stepQ_ok (P := P) hT rfl hs
    exact s_val hX hr h hw (by assumption) hb hsem hk H
  · cases hs
theorem stepX_ok (hT : TabOk P Y.T) (hX : X.n = n) (hr : X.res = []) (h : Rel X β ρ S.flat a w) {o : Oper} (hw : Region.wanted o (yielded ops a.tmps) = true) (hs : stepX Y n o S k = some r) (H : KOk P ops Q rest X S β ρ k r) :
    wpList P ops Q (o :: rest) a w := by
  unfold stepX at hs
  split at hs
  ·
    rename_i s x t t' d hop hd
    split at hs
    · rename_i te te' sv l hte hte' hsv hxv
      split at hs
      · rename_i e hse
        split at hs
        · rename_i ee he
          obtain ⟨hb, hs⟩ := bvT hs
          simp only [Bool.and_eq_true] at hb
          obtain ⟨⟨⟨⟨b1, b2⟩, b3⟩, b4⟩, b5⟩ := hb
          have b2 := isStrD_ok b2
          have b3 := isZ8_ok b3
          have b4 := Nat.eq_of_beq_eq_true b4
          have b5 := Nat.eq_of_beq_eq_true b5
          split at hs
          · obtain ⟨hb2, hs⟩ := bvT hs
            obtain ⟨zs, hzs, hk⟩ := bindE hs
            exact s_appNilS hT hX hr h hw hd b1 hb2 hop hte (isSliceD_ok hse) hte' b2 he b3 b4 b5 hsv hxv hzs hk H
          · rename_i id
            split at hs
            · rename_i e' xs hm
              obtain ⟨hb2, hs2⟩ := bvT hs
              simp only [Bool.and_eq_true] at hb2
              have ee' := Nat.eq_of_beq_eq_true hb2.2
              subst ee'
              obtain ⟨zs, hzs, hk⟩ := bindE hs2
              exact s_appRowS hT hX hr h hw hd b1 hb2.1 hop hte (isSliceD_ok hse) hte' b2 he b3 b4 b5 hsv hxv hm hzs hk H
            · cases hs
          · cases hs
        · cases hs
      · cases hs
    · cases hs
  ·
    rename_i s t x d hop hd
    split at hs
    · rename_i se te l hse hte hx
      split at hs
      · rename_i e hsd
        split at hs
        · rename_i ee he
          obtain ⟨hb, hs⟩ := bvT hs
          simp only [Bool.and_eq_true] at hb
          obtain ⟨zs, hzs, hk⟩ := bindE hs
          exact s_strBytes hT hX hr h hw hd hb.1.1 hb.1.2 hop hse hte (isSliceD_ok hsd) he (isU8_ok hb.2) hx hzs hk H
        · cases hs
      · cases hs
    · cases hs
  ·
    rename_i t p x hop hd
    split at hs
    · rename_i e id path v he hp hx
      split at hs
      · rename_i tid c hm
        obtain ⟨c', hc', hset⟩ := setC_ok hs
        obtain ⟨hb, hk⟩ := bvT hc'
        simp only [Bool.and_eq_true] at hb
        exact s_store hT h hw hop hd he hp hx hm (fun hM h1 h2 => hset hM h1 h2) hb.1.1 hb.1.2 hb.2 hk H
      · cases hs
    · cases hs
  ·
    rename_i dst src t t' d hop hd
    split at hs
    · rename_i te id xv hte hdv hsv
      split at hs
      · rename_i e hse
        split at hs
        · rename_i ee et u xs he hm
          split at hs
          · rename_i ys hys
            obtain ⟨hb, hk⟩ := bvT hs
            simp only [Bool.and_eq_true] at hb
            exact s_copy hT hX hr h hw hd hb.1.1 hop hte (isSliceD_ok hse) he hdv hsv hm hys hb.1.2 hb.2 hk H
          · cases hs
        · cases hs
      · cases hs
    · cases hs
  ·
    rename_i m ky t t' hop hd
    split at hs
    · rename_i te id kv hte hm hkv
      split at hs
      · rename_i kt et kk v xs htd hmo
        split at hs
        · rename_i tk key htk hkey
          obtain ⟨hb, hk⟩ := bvT hs
          simp only [Bool.and_eq_true] at hb
          exact s_delete hT h hw hop hd hte htd htk hm hkv hmo hkey hb.1 hb.2 hk H
        · cases hs
      · cases hs
    · cases hs
  ·
    rename_i t m ps d hop hd
    split at hs
    · rename_i te hte
      split at hs
      · rename_i e hse
        split at hs
        · rename_i ee vs he hvs
          split at hs
          · rename_i c hpl
            obtain ⟨hb, hk⟩ := bvT hs
            simp only [Bool.and_eq_true] at hb
            obtain ⟨⟨⟨⟨⟨⟨b1, b2⟩, b3⟩, b4⟩, b5⟩, b6⟩, b7⟩ := hb
            exact s_buildP hT hX hr h hw hd b1 b2 hop hte (isSliceD_ok hse) he hvs hpl b3 b4 b5 b6 b7 hk H
          · cases hs
        · cases hs
      · cases hs
    · cases hs
  ·
    rename_i t x hi d hop hd
    split at hs
    · rename_i te id hte hx
      split at hs
      · rename_i e e' u xs hse hm
        split at hs
        · rename_i ee q he hq
          obtain ⟨hb, hs2⟩ := bvT hs
          simp only [Bool.and_eq_true] at hb
          have ee' := Nat.eq_of_beq_eq_true hb.2
          subst ee'
          obtain ⟨ys, hys, hk⟩ := bindE hs2
          exact s_resl hT hX hr h hw hd hb.1.1.1 hb.1.1.2 hop hte (isSliceD_ok hse) he hb.1.2 hx hm hq hys (.inl rfl) hk H
        · cases hs
      · cases hs
    · cases hs
  ·
    rename_i t x hi mx d hop hd
    split at hs
    · rename_i te id hv mv hte hx hhi hmx
      split at hs
      · rename_i e e' u xs k1 q k2 m hse hm hib him
        split at hs
        · rename_i ee he
          obtain ⟨hb, hs2⟩ := bvT hs
          simp only [Bool.and_eq_true] at hb
          have ee' := Nat.eq_of_beq_eq_true hb.2
          subst ee'
          obtain ⟨_, hck, hs3⟩ := bindE hs2
          obtain ⟨hck, _⟩ := bvT hck
          simp only [Bool.and_eq_true, decide_eq_true_eq] at hck
          obtain ⟨ys, hys, hk⟩ := bindE hs3
          have hq : bnd S.flat [] xs.length (some hi) = some q := by
            have hhi' : ev S.flat [] hi = some hv := hhi
            simp only [bnd, hhi', hib]
          exact s_resl hT hX hr h hw hd hb.1.1.1 hb.1.1.2 hop hte (isSliceD_ok hse) he hb.1.2 hx hm hq hys (.inr ⟨hi, mx, k1, k2, m, rfl, rfl, h.toW.int (holdsC_nil a) hhi hib, h.toW.int (holdsC_nil a) hmx him, hck.1, hck.2⟩) hk H
        · cases hs
      · cases hs
    · cases hs
  · cases hs
theorem stepS_ok (hT : TabOk P Y.T) (hX : X.n = n) (hr : X.res = []) (h : Rel X β ρ S.flat a w) {o : Oper} (hw : Region.wanted o (yielded ops a.tmps) = true) (hs : stepS Y n o S k = some r) (H : KOk P ops Q rest X S β ρ k r) :
    wpList P ops Q (o :: rest) a w := by
  unfold stepS at hs
  split at hs
  · exact stepS0_ok hT hX hr h hw hs H
  · exact stepX_ok hT hX hr h hw hs H
theorem wanted_none {o : Oper} (hg : o.guard = none) (y : Nat → Option Bool) : Region.wanted o y = true := by unfold Region.wanted; rw [hg]
theorem wanted_iff {l : List Oper} {o : Oper} {t : Nat} {b : Bool} (hg : gTmp l o = some (some (t, b))) : Region.wanted o (yielded ⟨l⟩ a.tmps) = true ↔ a.tmps[t]? = some (.bool b) := by
  unfold gTmp at hg
  split at hg
  · cases hg
  · rename_i j want hgd
    split at hg
    · rename_i p hp
      split at hg
      · rename_i t' ht
        simp at hg
        obtain ⟨rfl, rfl⟩ := hg
        have hp' : (Array.mk l)[j]? = some p := by simpa using hp
        unfold Region.wanted
        rw [hgd]
        simp only [yielded, hp', Option.bind_some, ht, beq_iff_eq]
        split
        · rename_i b' hb'
          rw [hb']
          constructor
          · intro e; injection e with e; subst e; rfl
          · intro e; injection e with e; injection e with e; subst e; rfl
        · rename_i hn
          constructor
          · intro e; cases e
          · intro e; exact absurd e (hn want)
      · cases hg
    · cases hg
theorem gTmp_none {l : List Oper} {o : Oper} (hg : gTmp l o = some none) : o.guard = none := by
  unfold gTmp at hg
  split at hg
  · assumption
  · split at hg
    · split at hg <;> cases hg
    · cases hg
theorem wpList_skip {o : Oper} (hw : Region.wanted o (yielded ops a.tmps) = false) (h : wpList P ops Q rest (a.put o.dst undef) w) : wpList P ops Q (o :: rest) a w := by
  unfold wpList
  rw [if_neg (by rw [hw]; simp)]
  exact h
theorem skipO_ok (hX : X.n = n) (hr : X.res = []) (h : Rel X β ρ S.flat a w) {o : Oper} (hw : Region.wanted o (yielded ops a.tmps) = false) (hs : skipO n o S k = some r) (H : KOk P ops Q rest X S β ρ k r) :
    wpList P ops Q (o :: rest) a w := by
  refine wpList_skip hw ?_
  unfold skipO at hs
  split at hs
  · rename_i d hd
    obtain ⟨hb, hk⟩ := bvT hs
    obtain ⟨h1, h2⟩ := okW_ok hb hX hr
    rw [hd]
    refine H β ρ _ _ _ hk (keeps_put S d [] _) ?_
    rw [put_flat h2]
    exact h.put0 h1 (x := .tp .nil) (c := [.tuple #[]]) ⟨[], rfl, rfl⟩
  · rename_i hd
    rw [hd]
    exact H β ρ _ _ _ hs (Keeps.refl _ _ _) h
theorem stepC_ok (hT : TabOk P Y.T) (hX : X.n = n) (hr : X.res = []) (h : Rel X β ρ S.flat a w) {l : List Oper} {o : Oper} {t : Nat} {want : Bool} (hg : gTmp l o = some (some (t, want))) (hs : stepC Y n t want o S k = some r) (H : KOk P ⟨l⟩ Q rest X S β ρ k r) :
    wpList P ⟨l⟩ Q (o :: rest) a w := by
  unfold stepC at hs
  split at hs
  · rename_i t' cs b d he hd
    obtain ⟨hb, hs⟩ := bvT hs
    simp only [Bool.and_eq_true] at hb
    obtain ⟨h1, h2⟩ := okW_ok hb.1.1 hX hr
    have htd := neB hb.1.2
    have hud : ∀ c ∈ cs, c.1 ≠ d := usesT_ok (by simpa using hb.2)
    split at hs
    · rename_i v hv
      obtain ⟨hm, ht'⟩ := lookE_ok he
      simp only at ht'
      subst ht'
      have hkeep : ∀ u : Value, holdsC (a.put (some d) u) ((t', want) :: cs) ↔ holdsC a ((t', want) :: cs) := by
        intro u
        have hne : ∀ c ∈ (t', want) :: cs, c.1 ≠ d := by
          intro c hc
          rcases List.mem_cons.1 hc with rfl | hc
          · exact htd
          · exact hud c hc
        exact ⟨fun hc c hm => by rw [← put_other (hne c hm) u]; exact hc c hm, fun hc c hm => by rw [put_other (hne c hm) u]; exact hc c hm⟩
      by_cases hw : Region.wanted o (yielded ⟨l⟩ a.tmps) = true
      · have htb := (wanted_iff hg).1 hw
        have hcs : holdsC a cs := by
          rcases (h.en hm).2 with h3 | h3
          · exact h3
          · simp only at h3; rw [rd_lt (lookE_lt he), htb] at h3; simp [undef] at h3
        have hcur : holdsC a ((t', want) :: cs) := by
          intro c hc
          rcases List.mem_cons.1 hc with rfl | hc
          · exact htb
          · exact hcs c hc
        obtain ⟨c, h3, h4⟩ := evalP_ok hT h.toW hcur hv
        refine wpList_go hw (wp_value h3 ?_)
        rw [hd]
        refine H β ρ _ _ _ hs (keeps_put S d _ _) ?_
        rw [put_flat h2]
        exact h.put h1 (fun _ => ⟨c, rfl, h4⟩) (.inl ((hkeep _).2 hcur))
      · have hw' : Region.wanted o (yielded ⟨l⟩ a.tmps) = false := by simpa using hw
        refine wpList_skip hw' ?_
        rw [hd]
        refine H β ρ _ _ _ hs (keeps_put S d _ _) ?_
        rw [put_flat h2]
        refine h.put h1 (fun hc => ?_) (.inr rfl)
        have := (hkeep _).1 hc
        exact absurd ((wanted_iff hg).2 (this _ (.head _))) hw
    · cases hs
  · cases hs
theorem stepG_ok (hT : TabOk P Y.T) (hX : X.n = n) (hr : X.res = []) {l : List Oper} (h : Rel X β ρ S.flat a w) {o : Oper} (hs : stepG Y n l o S k = some r) (H : KOk P ⟨l⟩ Q rest X S β ρ k r) : wpList P ⟨l⟩ Q (o :: rest) a w := by
  unfold stepG at hs
  split at hs
  · rename_i hg
    exact stepS_ok hT hX hr h (wanted_none (gTmp_none hg) _) hs H
  · rename_i t want hg
    exact stepC_ok hT hX hr h hg hs H
  · cases hs
theorem stepL_ok (hT : TabOk P Y.T) (hX : X.n = n) (hr : X.res = []) {l : List Oper} (h : Rel X β ρ S.flat a w) {o : Oper} (hs : Gx.stepL Y n l o S k = some r) (H : KOk P ⟨l⟩ Q rest X S β ρ k r) : wpList P ⟨l⟩ Q (o :: rest) a w := by
  unfold Gx.stepL at hs
  split at hs
  · rename_i hg
    exact stepS_ok hT hX hr h (wanted_none (gTmp_none hg) _) hs H
  · rename_i t want hg
    split at hs
    · rename_i t' b he
      obtain ⟨cs, h1, h2⟩ := h.get he (holdsC_nil a)
      have h2' : cs = _ := h2
      subst h2'
      have h1' : a.tmps[t]? = some (.bool b) := h1
      split at hs
      · rename_i hb
        have : b = want := by simpa using hb
        subst this
        exact stepS_ok hT hX hr h ((wanted_iff hg).2 h1') hs H
      · rename_i hb
        refine skipO_ok hX hr h ?_ hs H
        have hne : b ≠ want := by simpa using hb
        cases hw : Region.wanted o (yielded ⟨l⟩ a.tmps) with
        | false => rfl
        | true =>
          have := (wanted_iff hg).1 hw
          rw [h1'] at this
          injection this with this
          injection this with this
          exact absurd this hne
    · rename_i t' he
      obtain ⟨cs, h1, vs, h2, h3⟩ := h.get he (holdsC_nil a)
      subst h2
      refine skipO_ok hX hr h ?_ hs H
      cases hw : Region.wanted o (yielded ⟨l⟩ a.tmps) with
      | false => rfl
      | true =>
        have := (wanted_iff hg).1 hw
        rw [h1] at this
        injection this with this
        cases this
    · cases hs
  · cases hs
theorem runN_ok {l : List Oper} (st : Oper → XS → (XS → Option R) → Option R)
    (hst : ∀ {o : Oper} {rest : List Oper} {S : XS} {β : Nat → Nat} {ρ : Nat → Value} {a : Act} {w : World} {k : XS → Option R}, Rel X β ρ S.flat a w → st o S k = some r → KOk P ⟨l⟩ Q rest X S β ρ k r → wpList P ⟨l⟩ Q (o :: rest) a w) :
    ∀ {l1 rest : List Oper} {S : XS} {β : Nat → Nat} {ρ : Nat → Value} {a : Act} {w : World} {k : XS → Option R}, Rel X β ρ S.flat a w → runN st l1 S k = some r → KOk P ⟨l⟩ Q rest X S β ρ k r → wpList P ⟨l⟩ Q (l1 ++ rest) a w
  | [], rest, S, β, ρ, a, w, k, h, hs, H => H β ρ S a w hs (Keeps.refl _ _ _) h
  | o :: l1, rest, S, β, ρ, a, w, k, h, hs, H => by
    simp only [runN] at hs
    refine hst (rest := l1 ++ rest) h hs fun β' ρ' S' a' w' hk hkeep h' => ?_
    exact runN_ok st hst h' hk (H.after hkeep)
end
end Gx

/- Calls. -/
namespace Gx
open Go Go.RowKit Gd
set_option linter.unusedVariables false
set_option linter.unusedSimpArgs false
def PostC (c : Con) (β : Nat → Nat) (ρ : Nat → Value) (ok : Ok) (L : List Nat) (w : World) (y : c.Δ.De) (v : Value) (w' : World) : Prop :=
  ∃ (β' : Nat → Nat) (ρ' : Nat → Value), agP (c.Γ.mem.map Prod.fst) β β' ρ ρ' ∧
    (∃ cs, v = (resAV (enc c.Δ y).env).val cs ∧ cr β' ρ' (okOf (okL L ok) w.heap.size (fun _ => 0) [] (memO β' ρ' (enc c.Δ y).mem) w') w' false (resAV (enc c.Δ y).env) cs) ∧
    (∀ t ∈ memO β' ρ' (enc c.Δ y).mem, t.p (okOf (okL L ok) w.heap.size (fun _ => 0) [] (memO β' ρ' (enc c.Δ y).mem) w') w' ∧ ∀ g, t.blks g → w.heap.size ≤ g ∨ g ∈ L) ∧
    (memO β' ρ' (enc c.Δ y).mem).Pairwise fun s t => ∀ g, s.blks g → ¬ t.blks g
def GlobOk (gl : List (Nat × Σ t : Ty, t.De)) (ok : Ok) (w : World) : Prop :=
  ∀ q ∈ gl, isAt (rt q.2.1) ok w q.2.2 (.pointer (some ⟨q.1, 0, none⟩)) ∧ ok q.1 0 ∧ ∃ cs t fz, w.heap[q.1]? = some (.cells cs t fz) ∧ cs.size = q.2.1.size
theorem GlobOk.keep {gl : List (Nat × Σ t : Ty, t.De)} {ok : Ok} {w w' : World} (h : GlobOk gl ok w) (hs : w.heap.size ≤ w'.heap.size) (hb : ∀ b o, ok b o → w'.heap[b]? = w.heap[b]?) : GlobOk gl ok w' :=
  fun q hq => let ⟨h1, h2, h3⟩ := h q hq; ⟨h1.evo (Evo.of_blocks hs hb), h2, by rw [hb _ _ h2]; exact h3⟩
theorem GlobOk.weak {gl : List (Nat × Σ t : Ty, t.De)} {ok ok' : Ok} {w : World} (h : GlobOk gl ok w) (hk : ∀ b o, ok b o → ok' b o) : GlobOk gl ok' w := fun q hq => let ⟨h1, h2, h3⟩ := h q hq; ⟨h1.weak hk, hk _ _ h2, h3⟩
def okN (X : Cx) : Ok := fun b o => X.ok b o ∧ b ∉ X.lent ∧ b < X.w.heap.size
theorem glob_here {gl : List (Nat × Σ t : Ty, t.De)} {X : Cx} {β : Nat → Nat} {G : GL} {D : List DF} {O : List TL} {a : Act} {w : World} (h : Sb β X G D [] O a w) (hG : GlobOk gl (okN X) X.w) : GlobOk gl (okOf X.ok X.w.heap.size β [] O w) w := by
  refine (hG.keep h.bel.size fun b o hk => h.bel.block b hk.2.2 hk.2.1).weak fun b o hk => ⟨.inl hk.1, Nat.lt_of_lt_of_le hk.2.2 h.bel.size, by simp, fun t ht hc => ?_⟩
  rcases (h.own t ht).2 b (t.cb hc) with h1 | h1
  · have := hk.2.2; omega
  · exact hk.2.1 h1
def ConOk (P : Program) (gl : List (Nat × Σ t : Ty, t.De)) (c : Con) : Prop :=
  ∀ (ok : Ok) (w : World) (L : List Nat) (β : Nat → Nat) (ρ : Nat → Value) (x : c.Γ.De) (y : c.Δ.De) (vs : List Value), (∀ b o, ok b o → b < w.heap.size) → GlobOk gl ok w → vs.length = c.Γ.env.length → Lends (memO β ρ (enc c.Γ x).mem) L ok w →
    (∀ e ∈ (enc c.Γ x).env, ∃ cs, vs[e.t]? = some (e.av.val cs) ∧ cr β ρ ok w false e.av cs) → c.fn x = some y → Calls P c.f ⟨vs⟩ w (RetL L w (PostC c β ρ ok L w y))
section
variable {β β' : Nat → Nat} {ρ ρ' : Nat → Value} {ok : Ok} {w : World}
theorem cr_ren {g : Nat → Nat} : ∀ {m : Bool} {x : AV} {cs : List Value}, (∀ i ∈ allIds x, β' (g i) = β i ∧ ρ' (g i) = ρ i) → cr β ρ ok w m x cs → cr β' ρ' ok w m (renAV g x) cs
  | m, .d t x, cs, _, h => by cases m <;> exact h
  | m, .p id path, cs, hn, h => by
    have := (hn id (.head _)).1
    cases m <;> (simp only [cr, renAV] at h ⊢; rw [this]; exact h)
  | m, .e id path, cs, hn, h => by
    have := (hn id (.head _)).2
    cases m <;> (simp only [cr, renAV] at h ⊢; rw [this]; exact h)
  | m, .s id, cs, hn, h => by
    have := (hn id (.head _)).2
    cases m <;> (simp only [cr, renAV] at h ⊢; rw [this]; exact h)
  | m, .m id, cs, hn, h => by
    have := (hn id (.head _)).1
    cases m <;> (simp only [cr, renAV] at h ⊢; rw [this]; exact h)
  | m, .w id _ _, cs, hn, h => by
    have := (hn id (.head _)).1
    cases m <;> (simp only [cr, renAV] at h ⊢; rw [this]; exact h)
  | m, .a t x, cs, _, h => by cases m <;> exact h
  | m, .z, cs, _, h => by cases m <;> exact h
  | m, .ns, cs, _, h => by cases m <;> exact h
  | m, .np, cs, _, h => by cases m <;> exact h
  | m, .nm, cs, _, h => by cases m <;> exact h
  | m, .nf, cs, _, h => by cases m <;> exact h
  | m, .f fn caps, cs, hn, h => by cases m <;> exact let ⟨vs, h1, h2⟩ := h; ⟨vs, h1, cr_ren (fun i hi => hn i (by simpa [allIds] using hi)) h2⟩
  | m, .ag l, cs, hn, h => by cases m <;> exact cr_ren (m := false) (x := l) (fun i hi => hn i (by simpa [allIds] using hi)) h
  | m, .tp l, cs, hn, h => by cases m <;> exact let ⟨vs, h1, h2⟩ := h; ⟨vs, h1, cr_ren (fun i hi => hn i (by simpa [allIds] using hi)) h2⟩
  | m, .nil, cs, _, h => by cases m <;> exact h
  | true, .cons x r, cs, hn, h => by
    obtain ⟨c1, vs, h1, h2, h3⟩ := h
    refine ⟨c1, vs, ?_, cr_ren (fun i hi => hn i (by simp [allIds, hi])) h2, cr_ren (fun i hi => hn i (by simp [allIds, hi])) h3⟩
    rw [h1]; cases x <;> rfl
  | false, .cons x r, cs, hn, h => by
    exact let ⟨c1, vs, h1, h2, h3⟩ := h; ⟨c1, vs, h1, cr_ren (fun i hi => hn i (by simp [allIds, hi])) h2, cr_ren (fun i hi => hn i (by simp [allIds, hi])) h3⟩
theorem ren_val (g : Nat → Nat) (x : AV) (cs : List Value) : (renAV g x).val cs = x.val cs := by cases x <;> rfl
theorem ren_sim {g : Nat → Nat} : ∀ {l : List (Nat × Ob)}, (∀ i ∈ idsM l, β' (g i) = β i ∧ ρ' (g i) = ρ i) → SimL (memO β ρ l) (memO β' ρ' (renMem g l))
  | [], _ => .nil
  | (id, o) :: l, h => by
    have h1 := h id (by
      cases o with
      | mapT k v path e u xs hole => cases hole <;> simp [idsM]
      | _ => simp [idsM])
    refine .cons ?_ (ren_sim fun i hi => h i (by
      cases o with
      | mapT k v path e u xs hole => cases hole <;> simp [idsM, hi]
      | _ => simp [idsM, hi]))
    cases o with
    | var t c =>
      refine ⟨fun b => by simp only [tlOf, tlVar, renO]; rw [h1.1], fun b o => by simp only [tlOf, tlVar, renO]; rw [h1.1], fun ok w hp => ?_⟩
      obtain ⟨cs, hh, hc⟩ := hp
      exact ⟨cs, by rw [h1.1]; exact hh, cr_ren (fun i hi => h i (by simp [idsM, hi])) hc⟩
    | row e t xs => simp only [tlOf, renO, h1.2]; exact simT.refl _
    | tail e t xs => simp only [tlOf, renO, h1.2]; exact simT.refl _
    | map k v xs => simp only [tlOf, renO, h1.1]; exact simT.refl _
    | mapT k v path e u xs hole =>
      cases hole with
      | none => simp only [tlOf, renO, h1.1, h1.2, holeV]; exact simT.refl _
      | some q =>
        have h2 := (h q.2 (by simp [idsM])).2
        simp only [tlOf, renO, h1.1, h1.2, holeV, holeK, h2]; exact simT.refl _
theorem agree_sim {l : List (Nat × Ob)} (h : ∀ i ∈ idsM l, β' i = β i ∧ ρ' i = ρ i) : SimL (memO β ρ l) (memO β' ρ' l) := by
  have := ren_sim (g := id) (β' := β') (ρ' := ρ') h
  have e : renMem id l = l := by
    have hav : ∀ x : AV, renAV id x = x := by intro x; induction x <;> simp_all [renAV]
    have : ∀ q : Nat × Ob, (id q.1, renO id q.2) = q := by intro q; obtain ⟨i, o⟩ := q; cases o with
      | mapT k v path e u xs hole => cases hole <;> simp [renO]
      | _ => simp [renO, hav]
    simp only [renMem]
    rw [List.map_congr_left (g := fun q => q) (fun q _ => this q)]
    simp
  rw [e] at this
  exact this
end
theorem lookM_rem {c t : Nat} (hne : t ≠ c) : ∀ M : List (Nat × Ob), lookM (remM M t) c = lookM M c
  | [] => rfl
  | q :: l => by
    simp only [remM, lookM]
    cases hb : Nat.beq q.1 t with
    | true =>
      have h1 := Nat.eq_of_beq_eq_true hb
      cases hc : Nat.beq q.1 c with
      | true => exact absurd (h1.symm.trans (Nat.eq_of_beq_eq_true hc)) hne
      | false => rfl
    | false =>
      simp only [cond_false, lookM, lookM_rem hne l]
theorem splitM_perm : ∀ (ids : List Nat) (M : List (Nat × Ob)), ((splitM M ids).2 ++ (splitM M ids).1).Perm M
  | [], M => by simp [splitM]
  | t :: ts, M => by
    simp only [splitM]
    split
    · rename_i o ho
      obtain ⟨l1, l2, h1, _, h3⟩ := lookM_split ho
      have := splitM_perm ts (remM M t)
      simp only [List.cons_append]
      refine (List.Perm.cons _ this).trans ?_
      rw [h3, h1]
      exact List.perm_middle.symm
    · exact splitM_perm ts M
theorem splitM_mem : ∀ {ids : List Nat} {M : List (Nat × Ob)} {c : Nat} {o : Ob}, ids.Nodup → c ∈ ids → lookM M c = some o → (c, o) ∈ (splitM M ids).2
  | t :: ts, M, c, o, hn, hc, ho => by
    have hn' := List.nodup_cons.1 hn
    simp only [splitM]
    rcases List.mem_cons.1 hc with rfl | hc
    · rw [ho]; exact .head _
    · have hne : t ≠ c := fun e => hn'.1 (e ▸ hc)
      split
      · exact .tail _ (splitM_mem hn'.2 hc (by rw [lookM_rem hne]; exact ho))
      · exact splitM_mem hn'.2 hc ho
theorem splitM_sub : ∀ {ids : List Nat} {M : List (Nat × Ob)}, ids.Nodup → ∀ q ∈ (splitM M ids).2, q.1 ∈ ids ∧ lookM M q.1 = some q.2
  | [], M, _, q, hq => by simp [splitM] at hq
  | t :: ts, M, hn, q, hq => by
    have hn' := List.nodup_cons.1 hn
    simp only [splitM] at hq
    split at hq
    · rename_i o ho
      rcases List.mem_cons.1 hq with rfl | hq
      · exact ⟨.head _, ho⟩
      · obtain ⟨h1, h2⟩ := splitM_sub hn'.2 q hq
        exact ⟨.tail _ h1, by rw [lookM_rem (fun e => hn'.1 (by rw [e]; exact h1))] at h2; exact h2⟩
    · obtain ⟨h1, h2⟩ := splitM_sub hn'.2 q hq
      exact ⟨.tail _ h1, h2⟩
theorem encEnv_cs : ∀ {Γe : List (Nat × Sk)} {l : List DV}, ∀ e ∈ (encEnv Γe l).1, e.cs = []
  | [], l, e, he => by simp [encEnv] at he
  | (t, s) :: g, l, e, he => by
    simp only [encEnv] at he
    rcases List.mem_cons.1 he with rfl | he
    · rfl
    · exact encEnv_cs e he
theorem lentIds_mem {ri : List (Nat × Nat)} : ∀ {Γm : List (Nat × SkO)} {id c : Nat}, id ∈ Γm.map Prod.fst → lookN ri id = some c → c ∈ lentIds ri Γm
  | (k, s) :: l, id, c, h, hc => by
    simp only [lentIds]
    rcases List.mem_cons.1 h with e | h
    · simp only at e; subst e
      rw [hc]; exact .head _
    · split
      · exact .tail _ (lentIds_mem h hc)
      · exact lentIds_mem h hc
theorem lentIds_sub {ri : List (Nat × Nat)} : ∀ {Γm : List (Nat × SkO)} {c : Nat}, c ∈ lentIds ri Γm → ∃ id ∈ Γm.map Prod.fst, lookN ri id = some c
  | (k, s) :: l, c, h => by
    simp only [lentIds] at h
    split at h
    · rename_i x hx
      rcases List.mem_cons.1 h with rfl | h
      · exact ⟨k, .head _, hx⟩
      · obtain ⟨id, h1, h2⟩ := lentIds_sub h; exact ⟨id, .tail _ h1, h2⟩
    · obtain ⟨id, h1, h2⟩ := lentIds_sub h; exact ⟨id, .tail _ h1, h2⟩
theorem lentIds_nodup {ri : List (Nat × Nat)} : ∀ {Γm : List (Nat × SkO)} {cs : List Nat}, nodupR ri Γm cs = true → (lentIds ri Γm).Nodup ∧ ∀ c ∈ lentIds ri Γm, c ∉ cs
  | [], _, _ => ⟨.nil, by simp [lentIds]⟩
  | (id, s) :: l, cs, h => by
    simp only [nodupR] at h
    simp only [lentIds]
    split at h
    · rename_i c hc
      simp only [Bool.and_eq_true] at h
      obtain ⟨h1, h2⟩ := lentIds_nodup h.2
      refine ⟨List.nodup_cons.2 ⟨fun hm => h2 c hm (.head _), h1⟩, fun x hx => ?_⟩
      rcases List.mem_cons.1 hx with rfl | hx
      · intro hm
        have := h.1
        rw [memN_ok.2 hm] at this
        cases this
      · exact fun hm => h2 x hx (.tail _ hm)
    · exact lentIds_nodup h
def blkO (β : Nat → Nat) (ρ : Nat → Value) : Nat × Ob → List Nat
  | (id, .var _ _) => [β id]
  | (id, .map _ _ _) => [β id]
  | (id, .mapT _ _ _ _ _ _ _) => β id :: (vsOf (ρ id)).flatMap blkL
  | (id, _) => blkL (ρ id)
theorem mem_blkO {β : Nat → Nat} {ρ : Nat → Value} {q : Nat × Ob} {g : Nat} : g ∈ blkO β ρ q ↔ (tlOf β ρ q.1 q.2).blks g := by
  obtain ⟨id, o⟩ := q
  cases o with
  | var t c => simp [blkO, tlOf, tlVar]
  | row e t xs => simp only [blkO, mem_blkL, tlOf, ml]
  | tail e t xs => simp only [blkO, mem_blkL, tlOf, tlTail]
  | map k v xs => simp [blkO, tlOf, tlMap]
  | mapT k v path e u xs hole => simp only [blkO, tlOf, tlMapT, List.mem_cons, List.mem_flatMap, mem_blkL]
def isTailO : Ob → Bool
  | .tail _ _ _ => true
  | .mapT _ _ _ _ _ _ _ => true
  | _ => false
theorem full_cov {β : Nat → Nat} {ρ : Nat → Value} {id : Nat} {o : Ob} (h : isTailO o = false) {b : Nat} (f : Nat) (hb : (tlOf β ρ id o).blks b) : (tlOf β ρ id o).cov b f := by
  cases o with
  | tail e t xs => cases h
  | var t c => exact hb
  | row e t xs => exact hb
  | map k v xs => exact hb
  | mapT k v path e u xs hole => cases h
theorem decMem_kind {M F : List (Nat × Ob)} {ri : List (Nat × Nat)} {pr : List Nat} : ∀ {Γm : List (Nat × SkO)} {l : List DV}, noTail Γm = true → decMem M F ri pr Γm = some l → ∀ q ∈ Γm, ∀ c ob, lookN ri q.1 = some c → lookM M c = some ob → isTailO ob = false
  | (id, s) :: g, l, hn, h, q, hq, c, ob, hc, hob => by
    simp only [decMem] at h
    split at h
    · rename_i o ho
      split at h
      · rename_i u v hu hv
        have hn' : noTail g = true := by cases s <;> simp_all [noTail]
        rcases List.mem_cons.1 hq with rfl | hq
        · simp only [lookR, hc, hob] at ho
          simp at ho; subst ho
          cases s <;> cases ob <;> simp_all [decO, noTail, isTailO]
        · exact decMem_kind hn' hv q hq c ob hc hob
      · cases h
    · cases h
section
variable {P : Program} {Y : TX} {X : Cx} {S : XS} {β β' : Nat → Nat} {ρ ρ' : Nat → Value} {a a' : Act} {w w' : World} {n : Nat}
variable {ops : Array Oper} {Q : Exit → Act → World → Prop} {rest : List Oper} {R : Type} {k : XS → Option R} {r : R}
theorem argE_ok (h : Rel X β ρ S.flat a w) : ∀ {xs : List Operand} {i : Nat} {es : List En} (pre : List Value), pre.length = i → argE S xs i = some es →
    es.length = xs.length ∧ ∀ e ∈ es, (enD β ρ ⟨(pre ++ xs.map a.eval).toArray, []⟩ e).p (okR X β ρ S.flat.mem w) w
  | [], i, es, pre, _, he => by simp [argE] at he; subst he; exact ⟨rfl, by simp⟩
  | x :: xs, i, es, pre, hi, he => by
    simp only [argE] at he
    split at he
    · rename_i v r hv hr
      obtain ⟨hbi, he⟩ := bvT he
      simp at he; subst he
      obtain ⟨cs, h1, h2⟩ := h.ev (holdsC_nil a) hv
      obtain ⟨h3, h4⟩ := argE_ok h (xs := xs) (i := i + 1) (pre ++ [a.eval x]) (by simp [hi]) hr
      refine ⟨by simp [h3], fun e hm => ?_⟩
      have hl : pre ++ [a.eval x] ++ xs.map a.eval = pre ++ (x :: xs).map a.eval := by simp
      rw [hl] at h4
      rcases List.mem_cons.1 hm with rfl | hm
      · refine ⟨fun _ => ⟨cs, ?_, h2⟩, .inl (holdsC_nil _)⟩
        rw [rd_lt hbi]
        simp only [List.getElem?_toArray]
        rw [List.getElem?_append_right (by omega), ← hi]
        simp [h1]
      · exact h4 e hm
    · cases he
theorem argE_cs {S : XS} : ∀ {xs : List Operand} {i : Nat} {es : List En}, argE S xs i = some es → ∀ e ∈ es, e.cs = []
  | [], i, es, he => by simp [argE] at he; subst he; simp
  | x :: xs, i, es, he => by
    simp only [argE] at he
    split at he
    · rename_i v r hv hr
      obtain ⟨_, he⟩ := bvT he
      simp at he; subst he
      intro e hm
      rcases List.mem_cons.1 hm with rfl | hm
      · rfl
      · exact argE_cs hr e hm
    · cases he
theorem capE_ok {ok : Ok} {w : World} : ∀ {x : AV} {i : Nat} {cs : List En} {vs : List Value} (pre : List Value), pre.length = i → capE x i = some cs → cr β ρ ok w true x vs →
    cs.length = vs.length ∧ (∀ e ∈ cs, e.cs = []) ∧ ∀ e ∈ cs, (enD β ρ ⟨(pre ++ vs).toArray, []⟩ e).p ok w
  | .nil, i, cs, vs, pre, _, he, h => by
    simp [capE] at he; subst he
    have : vs = [] := h
    subst this
    exact ⟨rfl, by simp, by simp⟩
  | .cons y r, i, cs, vs, pre, hi, he, h => by
    simp only [capE] at he
    split at he
    · rename_i l hl
      obtain ⟨hbi, he⟩ := bvT he
      simp at he; subst he
      obtain ⟨c1, vs', rfl, h1, h2⟩ := h
      obtain ⟨h3, h4, h5⟩ := capE_ok (pre ++ [y.val c1]) (by simp [hi]) hl h2
      refine ⟨by simp [h3], fun e hm => ?_, fun e hm => ?_⟩
      · rcases List.mem_cons.1 hm with rfl | hm
        · rfl
        · exact h4 e hm
      · rcases List.mem_cons.1 hm with rfl | hm
        · refine ⟨fun _ => ⟨c1, ?_, h1⟩, .inl (holdsC_nil _)⟩
          rw [rd_lt hbi]
          simp only [List.getElem?_toArray]
          rw [List.getElem?_append_right (by omega), ← hi]
          simp
        · have := h5 e hm
          rwa [show pre ++ [y.val c1] ++ vs' = pre ++ y.val c1 :: vs' by simp] at this
    · cases he
theorem en_ext {ok : Ok} {w : World} {l post : List Value} {e : En} (hc : e.cs = []) (h : (enD β ρ ⟨l.toArray, []⟩ e).p ok w) : (enD β ρ ⟨(l ++ post).toArray, []⟩ e).p ok w := by
  obtain ⟨cs, h1, h2⟩ := h.1 (by rw [hc]; exact holdsC_nil _)
  refine ⟨fun _ => ⟨cs, ?_, h2⟩, .inl (by rw [hc]; exact holdsC_nil _)⟩
  unfold rd at h1 ⊢
  cases hb : Nat.blt e.t 100000 with
  | false => rw [hb] at h1; exact h1
  | true =>
    rw [hb] at h1
    simp only [cond_true, List.getElem?_toArray] at h1 ⊢
    have hlt := (List.getElem?_eq_some_iff.1 h1).1
    rw [List.getElem?_append_left hlt]; exact h1
theorem agP_find {ri : List (Nat × Nat)} {d : Nat} {Γk : List Nat} {S : XS} {M : List (Nat × Ob)} : ∀ {l : List Nat}, newOk ri d Γk S M l = true → ∀ j ∈ l, (∃ c, lookN ri j = some c ∧ newId ri d j = c ∧ j ∈ Γk) ∨
    (lookN ri j = none ∧ freshM (newId ri d j) M = true ∧ freshM (newId ri d j) S.fixM = true ∧ offI (newId ri d j) S.fix = true ∧ offI (newId ri d j) S.env = true ∧ memN S.prot (newId ri d j) = false ∧ j ∉ Γk)
  | i :: l, h, j, hj => by
    simp only [newOk, Bool.and_eq_true] at h
    rcases List.mem_cons.1 hj with rfl | hj
    · have h1 := h.1
      cases hl : lookN ri j with
      | some c =>
        rw [hl] at h1
        simp only [isSomeN, cond_true] at h1
        exact .inl ⟨c, rfl, by simp only [newId, hl], memN_ok.1 h1⟩
      | none =>
        rw [hl] at h1
        simp only [isSomeN, cond_false, Bool.and_eq_true] at h1
        obtain ⟨⟨⟨⟨⟨a1, a2⟩, a3⟩, a4⟩, a5⟩, a6⟩ := h1
        refine .inr ⟨rfl, a1, a2, a3, a4, by simpa using a5, fun hm => ?_⟩
        rw [memN_ok.2 hm] at a6; cases a6
    · exact agP_find h.2 j hj
theorem allMem_ok {ks : List Nat} : ∀ {l : List Nat}, allMem ks l = true → ∀ i ∈ l, i ∈ ks
  | x :: l, h, i, hi => by
    simp only [allMem, Bool.and_eq_true] at h
    rcases List.mem_cons.1 hi with rfl | hi
    · exact memN_ok.1 h.1
    · exact allMem_ok h.2 i hi
theorem nodupN_ok : ∀ {l : List Nat}, nodupN l = true → l.Nodup
  | [], _ => .nil
  | x :: l, h => by
    simp only [nodupN, Bool.and_eq_true] at h
    refine List.nodup_cons.2 ⟨fun hm => ?_, nodupN_ok h.2⟩
    have := h.1
    rw [memN_ok.2 hm] at this; cases this
def backB (g : Nat → Nat) (ks : List Nat) (β2 β : Nat → Nat) : Nat → Nat := fun i => match ks.find? fun j => g j == i with
  | some j => β2 j
  | none => β i
def backR (g : Nat → Nat) (ks : List Nat) (ρ2 ρ : Nat → Value) : Nat → Value := fun i => match ks.find? fun j => g j == i with
  | some j => ρ2 j
  | none => ρ i
theorem find_inj {g : Nat → Nat} : ∀ {ks : List Nat}, (ks.map g).Nodup → ∀ j ∈ ks, (ks.find? fun i => g i == g j) = some j
  | x :: l, hn, j, hj => by
    have hn' := List.nodup_cons.1 (by simpa using hn : (g x :: l.map g).Nodup)
    rcases List.mem_cons.1 hj with rfl | hj
    · simp
    · have hne : g x ≠ g j := fun e => hn'.1 (by rw [e]; exact List.mem_map.2 ⟨j, hj, rfl⟩)
      have : (g x == g j) = false := by simpa using hne
      simp only [List.find?_cons, this]
      exact find_inj hn'.2 j hj
theorem idsE_mem {l : List En} {e : En} (he : e ∈ l) {i : Nat} (hi : i ∈ allIds e.av) : i ∈ idsE l := by
  induction l with
  | nil => cases he
  | cons x l ih =>
    simp only [idsE, List.mem_append]
    rcases List.mem_cons.1 he with rfl | he
    · exact .inl hi
    · exact .inr (ih he)
theorem noId_ids {d : Nat} : ∀ {x : AV}, noId d x = true → d ∉ allIds x
  | .p id _, h => by intro hm; have hm : d = id := (by simpa [allIds] using hm); subst hm; simp [noId, Nat.beq_refl] at h
  | .e id _, h => by intro hm; have hm : d = id := (by simpa [allIds] using hm); subst hm; simp [noId, Nat.beq_refl] at h
  | .s id, h => by intro hm; have hm : d = id := (by simpa [allIds] using hm); subst hm; simp [noId, Nat.beq_refl] at h
  | .m id, h => by intro hm; have hm : d = id := (by simpa [allIds] using hm); subst hm; simp [noId, Nat.beq_refl] at h
  | .w id _ _, h => by intro hm; have hm : d = id := (by simpa [allIds] using hm); subst hm; simp [noId, Nat.beq_refl] at h
  | .f _ c, h => by simp only [noId] at h; simpa [allIds] using noId_ids h
  | .ag l, h => by simp only [noId] at h; simpa [allIds] using noId_ids h
  | .tp l, h => by simp only [noId] at h; simpa [allIds] using noId_ids h
  | .cons x r, h => by
    simp only [noId, Bool.and_eq_true] at h
    simp only [allIds, List.mem_append, not_or]
    exact ⟨noId_ids h.1, noId_ids h.2⟩
  | .d _ _, _ => by simp [allIds]
  | .a _ _, _ => by simp [allIds]
  | .z, _ => by simp [allIds]
  | .ns, _ => by simp [allIds]
  | .np, _ => by simp [allIds]
  | .nm, _ => by simp [allIds]
  | .nf, _ => by simp [allIds]
  | .nil, _ => by simp [allIds]
theorem freshM_ids {d : Nat} : ∀ {M : List (Nat × Ob)}, freshM d M = true → d ∉ idsM M
  | [], _ => by simp [idsM]
  | (k, o) :: l, h => by
    have hq := freshM_ok h (k, o) (.head _)
    have hl : freshM d l = true := by
      cases o with
      | mapT k1 v path e u xs hole => cases hole <;> simp only [freshM, Bool.and_eq_true] at h <;> exact h.2
      | _ => simp only [freshM, Bool.and_eq_true] at h; exact h.2
    have ih := freshM_ids hl
    cases o with
    | var t c =>
      have := noId_ids hq.2
      simp only [idsM, List.mem_cons, List.mem_append, not_or]
      exact ⟨fun e => hq.1 e.symm, this, ih⟩
    | mapT k1 v path e u xs hole =>
      cases hole with
      | none =>
        simp only [idsM, List.mem_cons, not_or]
        exact ⟨fun e => hq.1 e.symm, ih⟩
      | some q =>
        simp only [idsM, List.mem_cons, not_or]
        exact ⟨fun e => hq.1 e.symm, fun e => hq.2 e.symm, ih⟩
    | _ =>
      simp only [idsM, List.mem_cons, not_or]
      exact ⟨fun e => hq.1 e.symm, ih⟩
theorem valsE_ok {β : Nat → Nat} {ρ : Nat → Value} {ok : Ok} {w : World} : ∀ {es : List En} {vs : List Value} {i : Nat}, (∀ (j : Nat) e, es[j]? = some e → ∃ cs, vs[j]? = some (e.av.val cs) ∧ cr β ρ ok w false e.av cs) → vs.length = es.length → cr β ρ ok w true (valsE es) vs
  | [], vs, i, _, hl => List.eq_nil_of_length_eq_zero (by simpa using hl)
  | e :: es, [], i, _, hl => by simp at hl
  | e :: es, v :: vs, i, h, hl => by
    obtain ⟨cs, h1, h2⟩ := h 0 e rfl
    have h1' : v = e.av.val cs := by simpa using h1
    exact ⟨cs, vs, by rw [h1'], h2, valsE_ok (i := i) (fun j e' he => by simpa using h (j + 1) e' (by simpa using he)) (by simpa using hl)⟩
theorem idsE_valsE : ∀ (es : List En), allIds (valsE es) = idsE es
  | [] => rfl
  | e :: es => by simp only [valsE, allIds, idsE, idsE_valsE es]
theorem resAV_ids (es : List En) : ∀ i ∈ allIds (resAV es), i ∈ idsE es := by
  intro i hi
  unfold resAV at hi
  split at hi
  · simpa [idsE] using hi
  · simpa [allIds, idsE_valsE] using hi
theorem stepCall_ok (hX : X.n = n) (hr : X.res = []) (h : Rel X β ρ S.flat a w) {o : Oper} (hw : Region.wanted o (yielded ops a.tmps) = true) {c : Con} (hc : ConOk P Y.gl c) (hG : GlobOk Y.gl (okN X) X.w) (hrun : Runs P c.f) (hs : stepCall n c o S k = some r) (H : KOk P ops Q rest X S β ρ k r) :
    wpList P ops Q (o :: rest) a w := by
  unfold stepCall at hs
  split at hs
  · rename_i x0 xs ts d hop hd
    split at hs
    · rename_i f caps hx0
      have hb := (bvT hs).1
      replace hs := (bvT hs).2
      simp only [Bool.and_eq_true] at hb
      have hf := Nat.eq_of_beq_eq_true hb.1
      obtain ⟨hd1, hd2⟩ := okW_ok hb.2 hX hr
      split at hs
      · rename_i es0 cs0 hes0 hcs0
        obtain ⟨cf, hf1, vc, hf2, hf3⟩ := h.ev (holdsC_nil a) hx0
        subst hf2
        replace hf1 : a.eval x0 = .func (.func f) #[] vc.toArray := hf1
        obtain ⟨el0, hE00⟩ := argE_ok h [] rfl hes0
        simp only [List.nil_append] at hE00
        obtain ⟨el1, _, hE01⟩ := capE_ok (xs.map a.eval) (by simp) hcs0 hf3
        have el : (es0 ++ cs0).length = (xs.map a.eval ++ vc).length := by simp [el0, el1]
        have hE0 : ∀ e ∈ es0 ++ cs0, (enD β ρ ⟨(xs.map a.eval ++ vc).toArray, []⟩ e).p (okR X β ρ S.flat.mem w) w := by
          intro e he
          rcases List.mem_append.1 he with he | he
          · exact en_ext (argE_cs hes0 e he) (hE00 e he)
          · exact hE01 e he
        generalize es0 ++ cs0 = es at *
        generalize hri : findR c.Γ ⟨es, S.mem⟩ = ri at hs
        unfold stepCall.callE at hs
        split at hs
        · rename_i x hx
          have hb2 := (bvT hs).1
          replace hs := (bvT hs).2
          simp only [Bool.and_eq_true] at hb2
          have hlen := Nat.eq_of_beq_eq_true hb2.2
          obtain ⟨y, hy, hs⟩ := bindE hs
          unfold stepCall.callR at hs
          have hb3 := (bvT hs).1
          replace hs := (bvT hs).2
          simp only [Bool.and_eq_true] at hb3
          obtain ⟨⟨⟨n1, n2⟩, n3⟩, n4⟩ := hb3
          have h1 : Rel X β ρ ⟨S.env ++ S.fix, frz c.Γ ri es S.mem ++ S.fixM⟩ a w := by
            have := Rel.freeze S.mem (l0 := []) (F := S.fixM) (ks := dEnv es c.Γ.env ++ dMem S.mem ri c.Γ.mem) h
            simp only [List.nil_append] at this
            exact this
          have hM := h1.mm
          unfold decF decR at hx
          obtain ⟨hbx, hx⟩ := bvT hx
          simp only [Bool.and_eq_true] at hbx
          obtain ⟨⟨⟨b1, b2⟩, b3⟩, b4⟩ := hbx
          split at hx
          · rename_i u v hu hv
            have hxl := ofL_ok hx
            have hokk : ∀ b f, okR X β ρ S.flat.mem w b f → okR X β ρ (frz c.Γ ri es S.mem ++ S.fixM) w b f := by
              rintro b f ⟨o1, o2, o3, o4⟩
              refine ⟨o1, o2, o3, fun t' ht' hcv => ?_⟩
              obtain ⟨q, hq, rfl⟩ := List.mem_map.1 ht'
              have key : ∀ {l : List (Nat × Ob)} {ks : List Nat} {q : Nat × Ob}, q ∈ freezeX ks l → ∃ o', (q.1, o') ∈ l ∧ ∀ b f, (tlOf β ρ q.1 q.2).cov b f → (tlOf β ρ q.1 o').cov b f := by
                intro l
                induction l with
                | nil => intro ks q hq; cases hq
                | cons p l ih =>
                  intro ks q hq
                  obtain ⟨id, ob⟩ := p
                  have other : q ∈ freezeX ks l → ∃ o', (q.1, o') ∈ (id, ob) :: l ∧ ∀ b f, (tlOf β ρ q.1 q.2).cov b f → (tlOf β ρ q.1 o').cov b f := fun hq => let ⟨o', p1, p2⟩ := ih hq; ⟨o', .tail _ p1, p2⟩
                  cases ob with
                  | row e t xs =>
                    simp only [freezeX] at hq
                    rcases List.mem_cons.1 hq with e' | hq
                    · cases hbb : (memN ks id && Nat.ble 1 t.size) with
                      | true =>
                        rw [hbb] at e'; subst e'
                        exact ⟨.row e t xs, .head _, fun b f hcv => hcv.1⟩
                      | false =>
                        rw [hbb] at e'; subst e'
                        exact ⟨.row e t xs, .head _, fun b f hcv => hcv⟩
                    · exact other hq
                  | var t' c' =>
                    simp only [freezeX] at hq
                    rcases List.mem_cons.1 hq with e' | hq
                    · subst e'; exact ⟨_, .head _, fun b f hcv => hcv⟩
                    · exact other hq
                  | tail e t xs =>
                    simp only [freezeX] at hq
                    rcases List.mem_cons.1 hq with e' | hq
                    · subst e'; exact ⟨_, .head _, fun b f hcv => hcv⟩
                    · exact other hq
                  | map k' v' xs =>
                    simp only [freezeX] at hq
                    rcases List.mem_cons.1 hq with e' | hq
                    · subst e'; exact ⟨_, .head _, fun b f hcv => hcv⟩
                    · exact other hq
                  | mapT k' v' path e u xs hole =>
                    simp only [freezeX] at hq
                    rcases List.mem_cons.1 hq with e' | hq
                    · subst e'; exact ⟨_, .head _, fun b f hcv => hcv⟩
                    · exact other hq
              rcases List.mem_append.1 hq with hq | hq
              · obtain ⟨o', p1, p2⟩ := key hq
                exact o4 _ (List.mem_map.2 ⟨(q.1, o'), List.mem_append_left _ p1, rfl⟩) (p2 b f hcv)
              · exact o4 _ (List.mem_map.2 ⟨q, List.mem_append_right _ hq, rfl⟩) hcv
            obtain ⟨es', e1, e2⟩ := decEnv_ok hM (fun e he => (enD β ρ _ e).weak (hE0 e he) hokk) v hu
            obtain ⟨m1, m2⟩ := decMem_ok hM b3 hv
            have henc : enc c.Γ x = ⟨es', encMem c.Γ.mem v⟩ := by unfold enc; rw [hxl, e1]
            have hkind := decMem_kind hb2.1 hv
            obtain ⟨ln1, _⟩ := lentIds_nodup b1
            have hperm := splitM_perm (lentIds ri c.Γ.mem) (frz c.Γ ri es S.mem)
            generalize hM0 : frz c.Γ ri es S.mem = M0 at *
            have h2 : Sb (fun _ => 0) X [] ((S.env ++ S.fix).map (enD β ρ a)) [] (memO β ρ (splitM M0 (lentIds ri c.Γ.mem)).2 ++ memO β ρ ((splitM M0 (lentIds ri c.Γ.mem)).1 ++ S.fixM)) a w := by
              refine Sb.perm h1 ?_
              rw [← List.map_append]
              refine List.Perm.map _ ?_
              rw [← List.append_assoc]
              exact (hperm.append_right _).symm
            have hok2 : ∀ b f, okR X β ρ (M0 ++ S.fixM) w b f → okOf X.ok X.w.heap.size (fun _ => 0) [] (memO β ρ (splitM M0 (lentIds ri c.Γ.mem)).2 ++ memO β ρ ((splitM M0 (lentIds ri c.Γ.mem)).1 ++ S.fixM)) w b f := by
              rintro b f ⟨o1, o2, o3, o4⟩
              refine ⟨o1, o2, o3, fun t' ht' => ?_⟩
              refine o4 t' ?_
              have hp2 := (hperm.append_right S.fixM).symm.map fun q => tlOf β ρ q.1 q.2
              rw [List.append_assoc] at hp2
              exact hp2.mem_iff.2 (by rw [List.map_append]; exact ht')
            generalize hr1 : (splitM M0 (lentIds ri c.Γ.mem)).1 = Mr at *
            generalize hl1 : (splitM M0 (lentIds ri c.Γ.mem)).2 = Ml at *
            have hMl : ∀ id ∈ c.Γ.mem.map Prod.fst, ∀ cc ob, lookN ri id = some cc → lookM M0 cc = some ob → (cc, ob) ∈ Ml := by
              intro id hid cc ob e3 e4
              have := splitM_mem ln1 (lentIds_mem hid e3) e4
              rw [hl1] at this
              exact this
            have hmk : ∀ q ∈ encMem c.Γ.mem v, q.1 ∈ c.Γ.mem.map Prod.fst := by
              intro q hq
              rw [← m1]
              exact List.mem_map.2 ⟨q, hq, rfl⟩
            have hval : ∀ q ∈ encMem c.Γ.mem v, (∃ cc ob, lookN ri q.1 = some cc ∧ (cc, ob) ∈ Ml ∧ isTailO ob = false ∧ (∀ g, (tlOf (newB ri β) (newR ri [] ρ) q.1 q.2).blks g → (tlOf β ρ cc ob).blks g)) ∨ (∀ g, ¬ (tlOf (newB ri β) (newR ri [] ρ) q.1 q.2).blks g) := by
              intro q hq
              rcases m2 q hq with ⟨cc, ob, e3, e4, e5, _⟩ | ⟨_, e5, _⟩
              · have hid := hmk q hq
                obtain ⟨q', hq', he'⟩ := List.mem_map.1 hid
                exact .inl ⟨cc, ob, e3, hMl _ hid _ _ e3 e4, hkind q' hq' cc ob (by rw [he']; exact e3) e4, e5⟩
              · exact .inr e5
            have hLm : ∀ g, g ∈ (encMem c.Γ.mem v).flatMap (blkO (newB ri β) (newR ri [] ρ)) ↔ ∃ q ∈ encMem c.Γ.mem v, (tlOf (newB ri β) (newR ri [] ρ) q.1 q.2).blks g := by
              intro g
              rw [List.mem_flatMap]
              exact ⟨fun ⟨q, hq, hg⟩ => ⟨q, hq, mem_blkO.1 hg⟩, fun ⟨q, hq, hg⟩ => ⟨q, hq, mem_blkO.2 hg⟩⟩
            generalize hL : (encMem c.Γ.mem v).flatMap (blkO (newB ri β) (newR ri [] ρ)) = L at hLm
            have hLends : Lends (memO (newB ri β) (newR ri [] ρ) (enc c.Γ x).mem) L (okOf X.ok X.w.heap.size (fun _ => 0) [] (memO β ρ Ml ++ memO β ρ (Mr ++ S.fixM)) w) w := by
              rw [henc]
              refine ⟨fun t ht => ?_, ?_, fun g hg => ?_⟩
              · obtain ⟨q, hq, rfl⟩ := List.mem_map.1 ht
                refine ⟨?_, fun g hg => (hLm g).2 ⟨q, hq, hg⟩, fun g f hg hok => ?_⟩
                · rcases m2 q hq with ⟨_, _, _, _, _, _, e6⟩ | ⟨_, _, e6⟩
                  · exact (tlOf _ _ q.1 q.2).weak e6 hok2
                  · exact e6 _ _
                · rcases hval q hq with ⟨cc, ob, _, e4, e5, e6⟩ | e6
                  · exact hok.2.2.2 _ (List.mem_append_left _ (List.mem_map.2 ⟨_, e4, rfl⟩)) (full_cov e5 f (e6 g hg))
                  · exact e6 g hg
              · obtain ⟨p1, _⟩ := nodupR_ok b1 m1
                show ((encMem c.Γ.mem v).map _).Pairwise _
                rw [List.pairwise_map]
                refine List.Pairwise.imp_of_mem ?_ p1
                intro q q' hq hq' hne g hg hg'
                rcases m2 q hq with ⟨cc, ob, e3, e4, e5, _⟩ | ⟨_, e5, _⟩
                · rcases m2 q' hq' with ⟨cc', ob', e3', e4', e5', _⟩ | ⟨_, e5', _⟩
                  · exact h1.disj (lookM_append e4) (lookM_append e4') (hne cc cc' e3 e3') g (e5 g hg) (e5' g hg')
                  · exact e5' g hg'
                · exact e5 g hg
              · obtain ⟨q, hq, hg⟩ := (hLm g).1 hg
                exact ⟨_, List.mem_map.2 ⟨q, hq, rfl⟩, hg⟩
            have hargs : ∀ e ∈ (enc c.Γ x).env, ∃ cs, (xs.map a.eval ++ vc)[e.t]? = some (e.av.val cs) ∧ cr (newB ri β) (newR ri [] ρ) (okOf X.ok X.w.heap.size (fun _ => 0) [] (memO β ρ Ml ++ memO β ρ (Mr ++ S.fixM)) w) w false e.av cs := by
              intro e he
              rw [henc] at he
              have hcs : e.cs = [] := by
                have := encEnv_cs (Γe := c.Γ.env) (l := u ++ v) e (by rw [e1]; exact he)
                exact this
              obtain ⟨cs, p1, p2⟩ := (e2 e he).1.1 (by rw [hcs]; exact holdsC_nil _)
              rw [rd_lt (e2 e he).2] at p1
              exact ⟨cs, by simpa using p1, cr_weak p2 hok2⟩
            have hcall := hc _ w L _ _ x y (xs.map a.eval ++ vc) (fun b f hk => hk.2.1) (glob_here h2 hG) (by rw [← el, hlen]) hLends hargs hy
            subst hf
            refine wpList_go hw ?_
            have hrun' : (execOp a.eval o).run P w = .ok (.enter c.f ⟨xs.map a.eval ++ vc⟩) w := by
              unfold execOp
              rw [hop]
              have hm : (Array.mk xs).map a.eval = ⟨xs.map a.eval⟩ := by simp
              simp [resolve, hm, hf1, Deferred.ofValue, invoke, run_callFunc hrun]
            unfold Oper.wp
            rw [hrun']
            refine hcall.mono ?_
            rintro e' w' ⟨v0, rfl, ⟨β2, ρ2, hag, ⟨cs, hv0, hcr⟩, hT2, hpw2⟩, hbel⟩
            show wpList P ops Q rest (a.put o.dst v0) w'
            rw [hd]
            have hLl : ∀ g ∈ L, ∃ t ∈ memO β ρ Ml, t.blks g := by
              intro g hg
              obtain ⟨q, hq, hg⟩ := (hLm g).1 hg
              rcases hval q hq with ⟨cc, ob, _, e4, _, e6⟩ | e6
              · exact ⟨_, List.mem_map.2 ⟨_, e4, rfl⟩, e6 g hg⟩
              · exact absurd hg (e6 g)
            have hcov : ∀ t ∈ memO β ρ Ml, ∀ b f, t.blks b → t.cov b f := by
              intro t ht b f hb
              obtain ⟨q, hq, rfl⟩ := List.mem_map.1 ht
              rw [← hl1] at hq
              obtain ⟨p1, p2⟩ := splitM_sub ln1 q hq
              obtain ⟨id, p3, p4⟩ := lentIds_sub p1
              obtain ⟨q', hq', he'⟩ := List.mem_map.1 p3
              exact full_cov (hkind q' hq' q.1 q.2 (by rw [he']; exact p4) p2) f hb
            have h3 := Sb.callO h2 hbel hLl hcov hT2 hpw2
            generalize hS1 : enc c.Δ y = S1 at *
            have hA : ∀ j ∈ S1.mem.map Prod.fst, backB (newId ri d) (S1.mem.map Prod.fst) β2 β (newId ri d j) = β2 j ∧ backR (newId ri d) (S1.mem.map Prod.fst) ρ2 ρ (newId ri d j) = ρ2 j := by
              intro j hj
              have := find_inj (g := newId ri d) (ks := S1.mem.map Prod.fst) (by rw [List.map_map]; exact nodupN_ok n2) j hj
              exact ⟨by simp only [backB, this], by simp only [backR, this]⟩
            have hB : ∀ i, (∀ j ∈ S1.mem.map Prod.fst, lookN ri j = none → newId ri d j ≠ i) → backB (newId ri d) (S1.mem.map Prod.fst) β2 β i = β i ∧ backR (newId ri d) (S1.mem.map Prod.fst) ρ2 ρ i = ρ i := by
              intro i hi
              cases hfd : (S1.mem.map Prod.fst).find? (fun j => newId ri d j == i) with
              | none => exact ⟨by simp only [backB, hfd], by simp only [backR, hfd]⟩
              | some j =>
                have hj := List.mem_of_find?_eq_some hfd
                have hji : newId ri d j = i := by simpa using List.find?_some hfd
                rcases agP_find n1 j hj with ⟨cc, p1, p2, p3⟩ | ⟨p1, _⟩
                · obtain ⟨q1, q2⟩ := hag j p3
                  have : cc = i := by rw [← p2]; exact hji
                  subst this
                  exact ⟨by simp only [backB, hfd]; rw [q1]; simp only [newB, p1], by simp only [backR, hfd]; rw [q2]; simp only [newR, p1]⟩
                · exact absurd hji (hi j hj p1)
            have hfr := fun j hj (hn : lookN ri j = none) => (agP_find n1 j hj).resolve_left fun ⟨cc, p1, _⟩ => by rw [hn] at p1; cases p1
            have hEnv : ∀ e ∈ S.env ++ S.fix, ∀ i ∈ allIds e.av, backB (newId ri d) (S1.mem.map Prod.fst) β2 β i = β i ∧ backR (newId ri d) (S1.mem.map Prod.fst) ρ2 ρ i = ρ i := by
              intro e he i hi
              refine hB i fun j hj hn hji => ?_
              obtain ⟨_, _, _, p4, p5, _⟩ := hfr j hj hn
              have hno : noId (newId ri d j) e.av = true := by
                rcases List.mem_append.1 he with he | he
                · exact offI_mem p5 e he
                · exact offI_mem p4 e he
              exact noId_ids hno (by rw [hji]; exact hi)
            have hMem : ∀ i ∈ idsM (Mr ++ S.fixM), backB (newId ri d) (S1.mem.map Prod.fst) β2 β i = β i ∧ backR (newId ri d) (S1.mem.map Prod.fst) ρ2 ρ i = ρ i := by
              intro i hi
              refine hB i fun j hj hn hji => ?_
              obtain ⟨_, p2, p3, _⟩ := hfr j hj hn
              have happ : ∀ (l m : List (Nat × Ob)), idsM (l ++ m) = idsM l ++ idsM m := by
                intro l m
                induction l with
                | nil => rfl
                | cons q l ih =>
                  obtain ⟨k0, o0⟩ := q
                  cases o0 with
                  | mapT k1 v path e u xs hole => cases hole <;> simp [idsM, ih]
                  | _ => simp [idsM, ih]
              rw [happ, List.mem_append] at hi
              rcases hi with hi | hi
              · exact freshM_ids p2 (by rw [hji]; exact hi)
              · exact freshM_ids p3 (by rw [hji]; exact hi)
            have hsim : SimL (memO β2 ρ2 S1.mem ++ memO β ρ (Mr ++ S.fixM)) (memO (backB (newId ri d) (S1.mem.map Prod.fst) β2 β) (backR (newId ri d) (S1.mem.map Prod.fst) ρ2 ρ) (renMem (newId ri d) S1.mem) ++ memO (backB (newId ri d) (S1.mem.map Prod.fst) β2 β) (backR (newId ri d) (S1.mem.map Prod.fst) ρ2 ρ) (Mr ++ S.fixM)) :=
              (ren_sim fun i hi => hA i (allMem_ok n4 i hi)).append (agree_sim hMem)
            have h4 := Sb.simO h3 hsim
            have hmemO : memO (backB (newId ri d) (S1.mem.map Prod.fst) β2 β) (backR (newId ri d) (S1.mem.map Prod.fst) ρ2 ρ) (renMem (newId ri d) S1.mem) ++ memO (backB (newId ri d) (S1.mem.map Prod.fst) β2 β) (backR (newId ri d) (S1.mem.map Prod.fst) ρ2 ρ) (Mr ++ S.fixM) =
                memO (backB (newId ri d) (S1.mem.map Prod.fst) β2 β) (backR (newId ri d) (S1.mem.map Prod.fst) ρ2 ρ) ((renMem (newId ri d) S1.mem ++ Mr) ++ S.fixM) := by simp only [memO, List.map_append, List.append_assoc]
            have h5 : Rel X (backB (newId ri d) (S1.mem.map Prod.fst) β2 β) (backR (newId ri d) (S1.mem.map Prod.fst) ρ2 ρ) ⟨S.env ++ S.fix, (renMem (newId ri d) S1.mem ++ Mr) ++ S.fixM⟩ a w' := by
              refine Rel.ofSb h4 hmemO fun e he => ?_
              have hp := AllD_mem.1 h4.dat _ (List.mem_map.2 ⟨e, he, rfl⟩)
              rw [hmemO] at hp
              exact ⟨fun hcc => let ⟨cs, q1, q2⟩ := hp.1 hcc; ⟨cs, q1, cr_agree (hEnv e he) q2⟩, hp.2⟩
            have hres : cr (backB (newId ri d) (S1.mem.map Prod.fst) β2 β) (backR (newId ri d) (S1.mem.map Prod.fst) ρ2 ρ) (okR X (backB (newId ri d) (S1.mem.map Prod.fst) β2 β) (backR (newId ri d) (S1.mem.map Prod.fst) ρ2 ρ) ((renMem (newId ri d) S1.mem ++ Mr) ++ S.fixM) w') w' false (renAV (newId ri d) (resAV S1.env)) cs := by
              have q1 := cr_ren (g := newId ri d) (fun i hi => hA i (allMem_ok n3 i (resAV_ids _ i hi))) hcr
              refine cr_weak q1 fun b f hk => ?_
              have q2 := hsim.ok b f (okOf_call h2 hbel.size hLl b f hk)
              rw [hmemO] at q2
              exact q2
            have h6 := h5.put0 hd1 hres
            have hvv : (renAV (newId ri d) (resAV S1.env)).val cs = v0 := by rw [hv0]; exact ren_val _ _ _
            rw [hvv] at h6
            refine H _ _ _ _ _ hs ⟨rfl, rfl, rfl, fun i hi => hB i fun j hj hn hji => ?_⟩ ?_
            · obtain ⟨_, _, _, _, _, p6, _⟩ := hfr j hj hn
              rw [hji, memN_ok.2 hi] at p6; cases p6
            · rw [put_flat (S := ⟨S.env, S.fix, renMem (newId ri d) S1.mem ++ Mr, S.fixM, S.prot⟩) hd2]
              exact h6
          · cases hx
        · cases hs
      · cases hs
    · cases hs
  · cases hs
end
end Gx

/- A region whose order is drawn, once more: what is known of a temporary may speak of those it stands behind. -/
namespace Gx
open Go Go.RowKit Gd
set_option linter.unusedVariables false
set_option linter.unusedSimpArgs false
theorem fin_okL {l : List Oper} {p k i : Nat} (h : finL l p = true) (hk : p ≤ k) (hkl : k < l.length) (hi : i < k) : behindB l l.length k i = true := by
  have h1 := List.all_eq_true.1 h k (List.mem_range.2 hkl)
  simp only [Bool.or_eq_true] at h1
  rcases h1 with h1 | h1
  · have := Nat.le_of_ble_eq_true h1; omega
  · exact List.all_eq_true.1 h1 i (List.mem_range.2 hi)
structure FA where
  p : Ok → World → Act → Prop
  evo : ∀ {ok w w' a}, p ok w a → Evo ok w w' → p ok w' a
  weak : ∀ {ok ok' w a}, p ok w a → (∀ b o, ok b o → ok' b o) → p ok' w a
section
variable {P : Program} {T : Tab} {β : Nat → Nat} {X : Cx} {G : GL} {D : List DF} {H : HL} {O : List TL} {a : Act} {w w' : World}
def doneA (F : List FA) (E : Nat → Prop) (a : Act) : DF where
  p := fun ok w => ∀ (i : Nat) fv, E i → F[i]? = some fv → fv.p ok w a
  evo := fun h he i fv h1 h2 => fv.evo (h i fv h1 h2) he
  weak := fun h hk i fv h1 h2 => fv.weak (h i fv h1 h2) hk
def StepB (OW : (Nat → Bool) → Act → List TL) (β0 : Nat → Nat) (P : Program) (l : List Oper) (X : Cx) (G : GL) (D : List DF) (H : HL) (O : List TL) (ds : List Nat) (F : List FA) (i : Nat) : Prop :=
  match ds[i]?, F[i]?, l[i]? with
  | some d, some fv, some o =>
    ∀ (E : Nat → Bool) (β : Nat → Nat) (a : Act) (w : World) (dX : DF) (Ox : List TL) (Q : Exit → Act → World → Prop), closed l (fun j => E j = true) → E i = false → (∀ e ∈ o.after.toList, Region.binds .any e = true → E e.on = true) →
      Sb β ⟨X.n, X.ok, X.w, remD ds d, a, some β0, X.lent, X.lok⟩ G (dX :: D) H (Ox ++ O) a w → Ox.Perm (OW E a) →
      (∀ (j : Nat) (gv : FA), predB l i j = true → F[j]? = some gv → gv.p (okOf X.ok X.w.heap.size β H (Ox ++ O) w) w a) →
      (∀ β' a' w' Ox', Sb β' ⟨X.n, X.ok, X.w, remD ds d, a, some β0, X.lent, X.lok⟩ G (dX :: D) H (Ox' ++ O) a' w' → fv.p (okOf X.ok X.w.heap.size β' H (Ox' ++ O) w') w' a' →
        ((∀ j e : Nat, j ≠ i → ds[j]? = some e → a'.tmps.getD e undef = a.tmps.getD e undef) → Ox'.Perm (OW (fun j => j == i || E j) a')) → Q .normal a' w') →
      wpList P ⟨l⟩ Q [o] a w
  | _, _, _ => True
theorem draw_ruleB (OW : (Nat → Bool) → Act → List TL) {Ox0 : List TL} (h : Sb β X G D H (Ox0 ++ O) a w) (hO0 : Ox0.Perm (OW (fun _ => false) a)) {id : Nat} {l : List Oper} {Q : Exit → Act → World → Prop} (hX : isNil X.res = true) (hm : P.follows .mixedOrders = true) (p : Nat) (hOE : ∀ (E E' : Nat → Bool) (a : Act), (∀ i, i < p → E i = E' i) → OW E a = OW E' a)
    (ds : List Nat) (F : List FA) (hlen : Nat.beq ds.length p = true) (hlF : Nat.beq F.length p = true) (hple : Nat.ble p l.length = true) (hback : Gd.backB l = true) (hfin : finL l p = true) (hnd : nodupB ds = true)
    (hloc : ∀ (i : Nat) fv, F[i]? = some fv → ∀ (a a' : Act) ok w, (∀ j e : Nat, (j = i ∨ predB l i j = true) → ds[j]? = some e → a'.tmps.getD e undef = a.tmps.getD e undef) → fv.p ok w a → fv.p ok w a')
    (hstep : AllB (StepB OW β P l X G D H O ds F) p)
    (hend : ∀ β' a' w' Ox, Sb β' {X with pin := some β} G D H (Ox ++ O) a' w' → Ox.Perm (OW (fun _ => true) a') → (∀ (i : Nat) fv, F[i]? = some fv → fv.p (okOf X.ok X.w.heap.size β' H (Ox ++ O) w') w' a') → wpList P ⟨l⟩ Q (l.drop p) a' w') :
    (Code.region id ⟨l⟩ true).wp P Q a w := by
  refine wp_region_any hm ?_
  have hpl := Nat.le_of_ble_eq_true hple
  have hdl := Nat.eq_of_beq_eq_true hlen
  have hFl := Nat.eq_of_beq_eq_true hlF
  have hNd := nodupB_ok hnd
  have hXr : X.res = [] := by
    cases hr : X.res with
    | nil => rfl
    | cons x xs => rw [hr] at hX; simp [isNil] at hX
  let E (listed : Array Bool) : Nat → Prop := fun i => listed.getD i false = true
  let J1 (listed : Array Bool) (a : Act) (w : World) : Prop := (∀ k, p ≤ k → ¬ E listed k) ∧ ∃ β1 Ox, Sb β1 {X with pin := some β} G (doneA F (E listed) a :: D) H (Ox ++ O) a w ∧ Ox.Perm (OW (fun i => listed.getD i false) a)
  let J (listed : Array Bool) (a : Act) (w : World) : Prop := listed.size = l.length ∧ closed l (E listed) ∧
    (J1 listed a w ∨ (∃ k, p < k ∧ (∀ i, i < l.length → (E listed i ↔ i < k)) ∧ wpList P ⟨l⟩ Q (l.drop k) a w))
  have hset : ∀ (listed : Array Bool) (i j : Nat), listed.size = l.length → i < l.length → (E (listed.setIfInBounds i true) j ↔ (j = i ∨ E listed j)) := by
    intro listed i j hs hi
    simp only [E, Array.getD_eq_getD_getElem?, Array.getElem?_setIfInBounds, hs]
    by_cases hj : i = j
    · subst hj; simp [hi]
    · have hj' : ¬ j = i := fun e => hj e.symm
      simp [hj, hj']
  have hsetB : ∀ (listed : Array Bool) (i j : Nat), listed.size = l.length → i < l.length → (listed.setIfInBounds i true).getD j false = (j == i || listed.getD j false) := by
    intro listed i j hs hi
    have := hset listed i j hs hi
    simp only [E] at this
    cases h1 : (listed.setIfInBounds i true).getD j false with
    | true =>
      rcases this.1 h1 with rfl | h2
      · simp
      · simp [h2]
    | false =>
      cases h2 : (j == i || listed.getD j false) with
      | false => rfl
      | true =>
        simp only [Bool.or_eq_true, beq_iff_eq] at h2
        rw [this.2 h2] at h1; cases h1
  have hgo : ∀ listed a w, J1 listed a w → (∀ j, j < p → E listed j) → wpList P ⟨l⟩ Q (l.drop p) a w := by
    rintro listed a w ⟨hno, β1, Ox, hS, hI⟩ hall
    have hS' : Sb β1 {X with pin := some β} G D H (Ox ++ O) a w := { hS with dat := hS.dat.2 }
    refine hend β1 a w Ox hS' ?_ fun j fv hf => hS.dat.1 j fv (hall j (by have := (List.getElem?_eq_some_iff.1 hf).1; omega)) hf
    rwa [hOE _ (fun _ => true) a fun i hi => hall i hi] at hI
  have hdone : ∀ listed a w, J listed a w → (∀ i, i < l.length → E listed i) → Q .normal a w := by
    rintro listed a w ⟨hs, hc, h1 | ⟨k, hk, hE, hw⟩⟩ hall
    · have hpm : p = l.length := by
        rcases Nat.lt_or_ge p l.length with hlt | hge
        · exact absurd (hall p hlt) (h1.1 p (Nat.le_refl _))
        · omega
      have := hgo listed a w h1 fun i hi => hall i (by omega)
      rw [hpm, List.drop_length] at this
      exact this
    · have hkl : l.length ≤ k := by
        rcases Nat.lt_or_ge k l.length with hlt | hge
        · have := (hE k hlt).1 (hall k hlt); omega
        · exact hge
      rw [List.drop_eq_nil_of_le hkl] at hw
      exact hw
  have step1 : ∀ (listed : Array Bool) (a : Act) (w : World) (i : Nat) (o : Oper) (Q' : Exit → Act → World → Prop), listed.size = l.length → closed l (E listed) → J1 listed a w → i < p → l[i]? = some o → ¬ E listed i →
      (∀ e ∈ o.after.toList, Region.binds .any e = true → listed.getD e.on false = true) → (∀ a' w', J1 (listed.setIfInBounds i true) a' w' → Q' .normal a' w') → wpList P ⟨l⟩ Q' [o] a w := by
    rintro listed a w i o Q' hs hc ⟨hno, β1, Ox, hS, hI⟩ hip ho hniE hpre hK
    have hil : i < l.length := by omega
    obtain ⟨d, hd⟩ : ∃ d, ds[i]? = some d := ⟨ds[i]'(by omega), List.getElem?_eq_getElem (by omega)⟩
    obtain ⟨fv, hf⟩ : ∃ fv, F[i]? = some fv := ⟨F[i]'(by omega), List.getElem?_eq_getElem (by omega)⟩
    have hnotE : listed.getD i false = false := by
      cases h1 : listed.getD i false with
      | false => rfl
      | true => exact absurd h1 hniE
    have hst := hstep.get hip
    simp only [StepB, hd, hf, ho] at hst
    refine hst (fun i => listed.getD i false) β1 a w (doneA F (E listed) a) Ox Q' hc hnotE hpre ?_ hI ?_ ?_
    · exact { hS with fr := fun _ _ => rfl }
    · intro j gv hp hg
      have hEj : E listed j := by
        simp only [predB, ho] at hp
        obtain ⟨e', he', hb'⟩ := List.any_eq_true.1 hp
        simp only [Bool.and_eq_true] at hb'
        rw [← Nat.eq_of_beq_eq_true hb'.2]
        exact hpre e' he' hb'.1
      exact hS.dat.1 j gv hEj hg
    · intro β' a' w' Ox' hS' hfv hos
      have hgd : ∀ (j e : Nat), j ≠ i → ds[j]? = some e → a'.tmps.getD e undef = a.tmps.getD e undef := by
        intro j e hji hj
        have hne : e ≠ d := by
          intro he
          subst he
          have h1 := (List.getElem?_eq_some_iff.1 hj)
          have h2 := (List.getElem?_eq_some_iff.1 hd)
          have hpw := List.pairwise_iff_getElem.1 hNd
          rcases Nat.lt_or_ge j i with hlt | hge
          · exact hpw j i h1.1 h2.1 hlt (h1.2.trans h2.2.symm)
          · exact hpw i j h2.1 h1.1 (by omega) (h2.2.trans h1.2.symm)
        have hfr' := hS'.fr e (mem_remD (List.mem_of_getElem? hj) hne)
        simp only [Array.getD_eq_getD_getElem?]
        rw [hfr']
      refine hK a' w' ⟨fun k hk hEk => ?_, β', Ox', ?_, ?_⟩
      case refine_3 =>
        have := hos hgd
        rwa [hOE _ (fun j => (listed.setIfInBounds i true).getD j false) a' fun j _ => (hsetB listed i j hs hil).symm] at this
      · rw [hset listed i k hs hil] at hEk
        rcases hEk with rfl | hEk
        · omega
        · exact hno k hk hEk
      · have hdX := hS'.dat.1
        refine { sz := hS'.sz, df := hS'.df, fr := by (show ∀ t ∈ X.res, _; rw [hXr]; simp), pn := hS'.pn, tm := hS'.tm, bel := hS'.bel, dat := ⟨?_, hS'.dat.2⟩, obj := hS'.obj, own := hS'.own, dHH := hS'.dHH, dHO := hS'.dHO, dOO := hS'.dOO }
        intro j gv hEj hg
        rw [hset listed i j hs hil] at hEj
        by_cases hji : j = i
        · subst hji
          rw [hf] at hg; injection hg with hg; subst hg
          exact hfv
        · have hEj' : E listed j := hEj.resolve_left hji
          refine hloc j gv hg a a' _ _ (fun j' e hj' he => ?_) (hdX j gv hEj' hg)
          refine hgd j' e (fun hij => ?_) he
          subst hij
          rcases hj' with hj' | hj'
          · exact hji hj'.symm
          · simp only [predB] at hj'
            split at hj'
            · rename_i oj hoj
              obtain ⟨e', he', hb'⟩ := List.any_eq_true.1 hj'
              simp only [Bool.and_eq_true] at hb'
              have := hc j oj hEj' hoj e' he' hb'.1
              rw [Nat.eq_of_beq_eq_true hb'.2] at this
              exact hniE this
            · cases hj'
  have main : ∀ (fuel : Nat) (listed : Array Bool) (a : Act) (w : World), J listed a w → ((List.range l.length).filter fun i => !listed.getD i false).length ≤ fuel → wpAny P .any ⟨l⟩ Q fuel listed a w := by
    intro fuel
    induction fuel with
    | zero =>
      intro listed a w hJ hle
      have hall : ∀ i, i < l.length → E listed i := by
        intro i hi
        cases hl : listed.getD i false with
        | true => exact hl
        | false =>
          have : i ∈ (List.range l.length).filter fun i => !listed.getD i false := List.mem_filter.2 ⟨List.mem_range.2 hi, by rw [hl]; rfl⟩
          have hnil := List.eq_nil_of_length_eq_zero (Nat.le_zero.1 hle)
          rw [hnil] at this; simp at this
      refine ⟨?_, hdone listed a w hJ hall⟩
      apply List.eq_nil_iff_forall_not_mem.2
      intro i hi
      rw [ready_iff] at hi
      have h1 := hall i hi.1
      have h2 := hi.2.1
      simp only [E] at h1
      have h3 : listed.getD i true = listed.getD i false := by simp [Array.getD, hJ.1, hi.1]
      rw [h3, h1] at h2; cases h2
    | succ fuel ih =>
      intro listed a w hJ hle
      refine ⟨fun hr => hdone listed a w hJ (all_listed hJ.1 hback hr), fun i hi => ?_⟩
      rw [ready_iff] at hi
      obtain ⟨hil, hnl, o, ho, hpre⟩ := hi
      obtain ⟨hs, hc, hcase⟩ := hJ
      have hniE : ¬ E listed i := by
        intro hE
        have h3 : listed.getD i true = listed.getD i false := by simp [Array.getD, hs, hil]
        rw [h3] at hnl; simp only [E] at hE; rw [hE] at hnl; cases hnl
      have hcl : closed l (E (listed.setIfInBounds i true)) := by
        intro j oj hj hoj e he hb
        rw [hset listed i _ hs hil] at hj ⊢
        rcases hj with rfl | hj
        · rw [ho] at hoj; injection hoj with hoj; subst hoj
          exact .inr (hpre e he hb)
        · exact .inr (hc j oj hj hoj e he hb)
      have hcnt : ((List.range l.length).filter fun j => !(listed.setIfInBounds i true).getD j false).length ≤ fuel := by
        have hlt : ((List.range l.length).filter fun j => !(listed.setIfInBounds i true).getD j false).length < ((List.range l.length).filter fun j => !listed.getD j false).length := by
          apply filter_lt (x := i)
          · intro j hj
            have := hset listed i j hs hil
            simp only [E] at this
            cases h1 : listed.getD j false with
            | false => rfl
            | true => rw [this.2 (.inr h1)] at hj; cases hj
          · exact List.mem_range.2 hil
          · have := (hset listed i i hs hil).2 (.inl rfl)
            simp only [E] at this; rw [this]; rfl
          · cases h1 : listed.getD i false with
            | true => exact absurd h1 hniE
            | false => rfl
        omega
      rcases hcase with hJ1 | ⟨k, hk, hE, hw⟩
      · rcases Nat.lt_or_ge i p with hip | hip
        ·
          exact wpOp_of_list ho (step1 listed a w i o (Exit.then (wpAny P .any ⟨l⟩ Q fuel (listed.setIfInBounds i true)) Q) hs hc hJ1 hip ho hniE hpre fun a' w' hJ1 => ih _ a' w' ⟨by simp [hs], hcl, .inl hJ1⟩ hcnt)
        ·
          have hall : ∀ j, j < i → E listed j := fun j hj => behind_ok hc l.length i j (fin_okL hfin hip hil hj) fun o' ho' => by rw [ho] at ho'; injection ho' with ho'; subst ho'; exact hpre
          have hip' : i = p := by
            rcases Nat.lt_or_ge p i with hlt | hge
            · exact absurd (hall p hlt) (hJ1.1 p (Nat.le_refl _))
            · omega
          subst hip'
          have hw := hgo listed a w hJ1 hall
          refine wpOp_mono (fun a w hw' => ih _ a w ⟨by simp [hs], hcl, .inr ⟨i + 1, by omega, fun j hj => ?_, hw'⟩⟩ hcnt) (wpOp_of_drop ho hw)
          rw [hset listed i j hs hil]
          constructor
          · rintro (rfl | hEj)
            · omega
            · rcases Nat.lt_or_ge j i with h1 | h1
              · omega
              · exact absurd hEj (hJ1.1 j h1)
          · intro hlt
            rcases Nat.lt_or_ge j i with h1 | h1
            · exact .inr (hall j h1)
            · exact .inl (by omega)
      ·
        have hall : ∀ j, j < i → E listed j := by
          intro j hj
          have hpi : p < i := by
            rcases Nat.lt_or_ge i k with h1 | h1
            · exact absurd ((hE i hil).2 h1) hniE
            · omega
          exact behind_ok hc l.length i j (fin_okL hfin (by omega) hil hj) fun o' ho' => by rw [ho] at ho'; injection ho' with ho'; subst ho'; exact hpre
        have hik : i = k := by
          rcases Nat.lt_or_ge i k with h1 | h1
          · exact absurd ((hE i hil).2 h1) hniE
          · rcases Nat.lt_or_ge k i with h2 | h2
            · have := (hE k (by omega)).1 (hall k h2); omega
            · omega
        subst hik
        refine wpOp_mono (fun a w hw' => ih _ a w ⟨by simp [hs], hcl, .inr ⟨i + 1, by omega, fun j hj => ?_, hw'⟩⟩ hcnt) (wpOp_of_drop ho hw)
        rw [hset listed i j hs hil, hE j hj]
        constructor
        · rintro (rfl | h1) <;> omega
        · intro h1
          rcases Nat.lt_or_ge j i with h2 | h2
          · exact .inr h2
          · exact .inl (by omega)
  refine main _ _ a _ ⟨by simp, fun i o hE => ?_, .inl ⟨fun k _ hE => ?_, β, Ox0, ?_, ?_⟩⟩ ?_
  · simp only [E] at hE; simp [Array.getD_eq_getD_getElem?, Array.getElem?_replicate] at hE
    split at hE <;> simp at hE
  · simp only [E] at hE; simp [Array.getD_eq_getD_getElem?, Array.getElem?_replicate] at hE
    split at hE <;> simp at hE
  · refine { sz := h.sz, df := h.df, fr := h.fr, pn := fun f hf p _ => (by injection hf with hf; subst hf; rfl), tm := h.tm, bel := h.bel.drew, dat := ⟨?_, h.dat.evo (w' := w.drew) (Evo.of_blocks (Nat.le_refl _) fun _ _ _ => rfl)⟩, obj := h.obj, own := fun t ht => ⟨t.keep (h.own t ht).1 (fun _ _ => rfl) (Evo.of_blocks (Nat.le_refl _) fun _ _ _ => rfl), (h.own t ht).2⟩, dHH := h.dHH, dHO := h.dHO, dOO := h.dOO }
    intro i fv hE
    simp only [E] at hE; simp [Array.getD_eq_getD_getElem?, Array.getElem?_replicate] at hE
    split at hE <;> simp at hE
  · have e : (⟨l⟩ : Array Oper).size = l.length := rfl
    rwa [hOE _ (fun i => (Array.replicate (⟨l⟩ : Array Oper).size false).getD i false) a fun i hi => by
      have : (Array.replicate (⟨l⟩ : Array Oper).size false).getD i false = false := by
        simp only [Array.getD_eq_getD_getElem?, Array.getElem?_replicate]
        split <;> rfl
      exact this.symm] at hO0
  · refine Nat.le_trans (List.length_filter_le _ _) (by simp)
where
  filter_lt {α : Type} {f g : α → Bool} : ∀ {l : List α} {x : α}, (∀ y, f y = true → g y = true) → x ∈ l → f x = false → g x = true → (l.filter f).length < (l.filter g).length
    | y :: ys, x, hfg, hx, h1, h2 => by
      have hle : ∀ zs : List α, (zs.filter f).length ≤ (zs.filter g).length := by
        intro zs
        induction zs with
        | nil => simp
        | cons z zs ih =>
          simp only [List.filter_cons]
          cases hf : f z with
          | true => rw [hfg z hf]; simpa using ih
          | false => cases hg : g z <;> simp <;> omega
      rcases List.mem_cons.1 hx with rfl | hx
      · simp only [List.filter_cons, h1, h2]
        have := hle ys
        simp; omega
      · have := filter_lt hfg hx h1 h2
        simp only [List.filter_cons]
        cases hf : f y with
        | true => rw [hfg y hf]; simpa using this
        | false => cases hg : g y <;> simp <;> omega
end
end Gx

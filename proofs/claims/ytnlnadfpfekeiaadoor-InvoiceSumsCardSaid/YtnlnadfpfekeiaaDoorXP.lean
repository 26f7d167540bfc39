/- Regions, control, functions. -/
import Derived.Test.YtnlnadfpfekeiaaDoorXR4
namespace Gx
open Go Go.RowKit Gd
set_option linter.unusedVariables false
set_option linter.unusedSimpArgs false
def KsOk (P : Program) (gl : List (Nat × Σ t : Ty, t.De)) (K : List Con) : Prop := ∀ c ∈ K, ConOk P gl c ∧ Runs P c.f
def KsX (P : Program) (Y : TX) (X : Cx) (K : List Con) : Prop := KsOk P Y.gl K ∧ GlobOk Y.gl (okN X) X.w
section
variable {P : Program} {Y : TX} {X : Cx} {S : XS} {β β' : Nat → Nat} {ρ ρ' : Nat → Value} {a a' : Act} {w w' : World} {n N : Nat} {K : List Con}
variable {Q : Exit → Act → World → Prop} {R : Type} {r : R}
theorem selE_mem {env : List En} : ∀ {ts : List Nat}, ∀ e ∈ selE env ts, e ∈ env
  | [], e, he => by simp [selE] at he
  | t :: ts, e, he => by
    simp only [selE] at he
    split at he
    · rename_i x hx
      rcases List.mem_cons.1 he with rfl | he
      · exact (lookE_ok hx).1
      · exact selE_mem e he
    · exact selE_mem e he
theorem Rel.ent (h : Rel X β ρ S.flat a w) (ks ms : List Nat) : Rel X β ρ (S.ent ks ms).flat a w := by
  have h1 : Rel X β ρ ⟨S.env ++ (selE S.env ks ++ S.fix), S.flat.mem⟩ a w := Rel.less (S := S.flat) h fun e he => by
    rcases List.mem_append.1 he with he | he
    · exact List.mem_append_left _ he
    · rcases List.mem_append.1 he with he | he
      · exact List.mem_append_left _ (selE_mem e he)
      · exact List.mem_append_right _ he
  refine h1.permM ?_
  simp only [XS.flat, XS.ent]
  have := splitM_perm ms S.mem
  rw [← List.append_assoc]
  exact ((List.perm_append_comm.trans this).append_right _).symm
theorem out_flat (ks ms : List Nat) (S1 : St) : (S.out ks ms S1).flat = ((S.ent ks ms).re S1).flat := by simp [XS.flat, XS.out, XS.re, XS.ent]
theorem dec_re {S0 S' : XS} {Γ : Shp} (h : Rel X β ρ S'.flat a w) (hk : S'.fix = S0.fix ∧ S'.fixM = S0.fixM ∧ S'.prot = S0.prot) {x : Γ.De} (hd : S'.dec Γ = some x) :
    ∃ β' ρ', agP S0.prot β β' ρ ρ' ∧ Rel X β' ρ' (S0.re (enc Γ x)).flat a w := by
  obtain ⟨β', ρ', h1, h2⟩ := XS.dec_ok h hd
  rw [hk.2.2] at h1
  rw [hk.1, hk.2.1] at h2
  exact ⟨β', ρ', h1, h2⟩
theorem put_lit (h : Rel X β ρ S.flat a w) {t : Nat} {b : Bool} (he : lookE S.env t = some ⟨t, [], .d .bool b⟩) : Rel X β ρ (XS.put S t [] (.d .bool b)).flat a w := by
  obtain ⟨hm, _⟩ := lookE_ok he
  refine Rel.less (S := S.flat) h fun e hE => ?_
  rcases List.mem_append.1 hE with hE | hE
  · rcases List.mem_cons.1 hE with rfl | hE
    · exact List.mem_append_left _ hm
    · exact List.mem_append_left _ (remE_mem hE).1
  · exact List.mem_append_right _ hE
theorem runH_ok (hT : TabOk P Y.T) (hK : KsX P Y X K) (hX : X.n = n) (hr : X.res = []) {ops : List Oper} {Q : Exit → Act → World → Prop} : ∀ {R : Type} {r : R} (h : Hn) {l rest : List Oper} {S : XS} {β : Nat → Nat} {ρ : Nat → Value} {a : Act} {w : World} {k : XS → Option R},
    Rel X β ρ S.flat a w → runH Y K n ops h l S k = some r → KOk P ⟨ops⟩ Q rest X S β ρ k r → wpList P ⟨ops⟩ Q (l ++ rest) a w
  | R, r, .done, l, rest, S, β, ρ, a, w, k, hS, hs, H => by
    cases l with
    | nil => exact H β ρ S a w (by simpa [runH] using hs) (Keeps.refl _ _ _) hS
    | cons o l => simp [runH] at hs
  | R, r, .n m g, l, rest, S, β, ρ, a, w, k, hS, hs, H => by
    simp only [runH] at hs
    have := runN_ok (P := P) (X := X) (Q := Q) (r := r) (stepG Y n ops) (fun h1 h2 h3 => stepG_ok hT hX hr h1 h2 h3) (l1 := l.take m) (rest := l.drop m ++ rest) hS hs fun β' ρ' S' a' w' h1 h2 h3 => runH_ok hT hK hX hr g h3 h1 (H.after h2)
    rwa [← List.append_assoc, List.take_append_drop] at this
  | R, r, .nl m g, l, rest, S, β, ρ, a, w, k, hS, hs, H => by
    simp only [runH] at hs
    have := runN_ok (P := P) (X := X) (Q := Q) (r := r) (Gx.stepL Y n ops) (fun h1 h2 h3 => stepL_ok hT hX hr h1 h2 h3) (l1 := l.take m) (rest := l.drop m ++ rest) hS hs fun β' ρ' S' a' w' h1 h2 h3 => runH_ok hT hK hX hr g h3 h1 (H.after h2)
    rwa [← List.append_assoc, List.take_append_drop] at this
  | R, r, .call c g, l, rest, S, β, ρ, a, w, k, hS, hs, H => by
    simp only [runH] at hs
    split at hs
    · rename_i con o l' hc
      split at hs
      · rename_i hg
        have hcm := hK.1 con (List.mem_of_getElem? hc)
        exact stepCall_ok hX hr hS (wanted_none (gTmp_none hg) _) hcm.1 hK.2 hcm.2 hs fun β' ρ' S' a' w' h1 h2 h3 => runH_ok hT hK hX hr g h3 h1 (H.after h2)
      · rename_i t want hg
        split at hs
        · rename_i t' b he
          split at hs
          · rename_i hb
            have hbw : b = want := by simpa using hb
            subst hbw
            obtain ⟨cs, h1, h2⟩ := hS.get he (holdsC_nil a)
            have h2' : cs = _ := h2
            subst h2'
            have hcm := hK.1 con (List.mem_of_getElem? hc)
            exact stepCall_ok hX hr hS ((wanted_iff hg).2 h1) hcm.1 hK.2 hcm.2 hs fun β' ρ' S' a' w' h1 h2 h3 => runH_ok hT hK hX hr g h3 h1 (H.after h2)
          · cases hs
        · cases hs
      · cases hs
    · cases hs
  | R, r, .fz id g, l, rest, S, β, ρ, a, w, k, hS, hs, H => by
    simp only [runH] at hs
    have h1 : Rel X β ρ (XS.flat { S with mem := freezeX [id] S.mem }) a w := by
      have := Rel.freeze S.mem (l0 := []) (F := S.fixM) (ks := [id]) hS
      simp only [List.nil_append] at this
      exact this
    exact runH_ok hT hK hX hr g h1 hs (H.after ⟨rfl, rfl, rfl, agP.refl _ _ _⟩)
  | R, r, .keep ts g, l, rest, S, β, ρ, a, w, k, hS, hs, H => by
    simp only [runH] at hs
    have h1 : Rel X β ρ (XS.flat { S with env := selE S.env ts }) a w := Rel.less (S := S.flat) hS fun e he => by
      rcases List.mem_append.1 he with he | he
      · exact List.mem_append_left _ (selE_mem e he)
      · exact List.mem_append_right _ he
    exact runH_ok hT hK hX hr g h1 hs (H.after ⟨rfl, rfl, rfl, agP.refl _ _ _⟩)
  | R, r, .mt id path e g, l, rest, S, β, ρ, a, w, k, hS, hs, H => by
    simp only [runH] at hs
    split at hs
    · rename_i kk v hm
      split at hs
      · rename_i u f hf
        obtain ⟨hq, hs⟩ := bvT hs
        obtain ⟨ρ1, h1, h2⟩ := mt_ok hS hm hf hq
        exact runH_ok hT hK hX hr g h2 hs (H.after h1)
      · cases hs
    · cases hs
  | R, r, .op src id d g, l, rest, S, β, ρ, a, w, k, hS, hs, H => by
    simp only [runH] at hs
    split at hs
    · rename_i kk v path e u xs hm
      split at hs
      · rename_i u1 f av hf hsrc
        split at hs
        · rename_i key hkey
          obtain ⟨hb, hs⟩ := bvT hs
          simp only [Bool.and_eq_true] at hb
          have hu : u1 = u := by
            obtain ⟨f0, hf0, _⟩ := (hS.ob (lookM_append (m := S.fixM) hm)).1
            rw [hf] at hf0
            injection hf0 with hf0
            injection hf0
          subst hu
          obtain ⟨ρ1, h1, h2⟩ := op_ok hS hm hf hb.1.1 key hb.1.2 hb.2
          exact runH_ok hT hK hX hr g h2 hs (H.after h1)
        · cases hs
      · cases hs
    · cases hs
  | R, r, .fm id g, l, rest, S, β, ρ, a, w, k, hS, hs, H => by
    simp only [runH] at hs
    split at hs
    · rename_i kk v path e u xs hm
      exact runH_ok hT hK hX hr g (fm_ok hS hm) hs (H.after ⟨rfl, rfl, rfl, agP.refl _ _ _⟩)
    · cases hs
  | R, r, .md m g, l, rest, S, β, ρ, a, w, k, hS, hs, H => by simp [runH] at hs
  | R, r, .tl g, l, rest, S, β, ρ, a, w, k, hS, hs, H => by simp [runH] at hs
  | R, r, .so t x y, l, rest, S, β, ρ, a, w, k, hS, hs, H => by simp [runH] at hs
  | R, r, .sp t m ks ms Γ x y g, l, rest, S, β, ρ, a, w, k, hS, hs, H => by
    simp only [runH] at hs
    split at hs
    · rename_i t' v he
      have ht' : t' = t := (lookE_ok he).2
      subst ht'
      obtain ⟨hb, hs⟩ := bvT hs
      obtain ⟨z, hz, hs⟩ := bindE hs
      have hp := put_lit hS he
      have fin : KOk P ⟨ops⟩ Q (l.drop m ++ rest) X ((XS.put S t' [] (.d .bool v)).ent ks ms) β ρ (fun S' => S'.dec Γ) z := by
        intro β1 ρ1 S' a' w' hd hk h1
        obtain ⟨β2, ρ2, h2, h3⟩ := dec_re (S0 := (XS.put S t' [] (.d .bool v)).ent ks ms) h1 ⟨hk.fix, hk.fixM, hk.prot⟩ hd
        rw [← out_flat] at h3
        refine runH_ok hT hK hX hr g h3 hs (H.after ⟨rfl, rfl, rfl, ?_⟩)
        exact agP.trans hk.ag h2
      have e : l ++ rest = l.take m ++ (l.drop m ++ rest) := by rw [← List.append_assoc, List.take_append_drop]
      rw [e]
      cases v with
      | true =>
        rw [if_pos rfl] at hz
        exact runH_ok hT hK hX hr x (hp.ent ks ms) hz fin
      | false =>
        rw [if_neg (by simp)] at hz
        exact runH_ok hT hK hX hr y (hp.ent ks ms) hz fin
    · cases hs
theorem runG_ok : ∀ {R : Type} {r : R} (h : Hn) {S : XS} {ρ : Nat → Value} {k : XS → Option R}, Rel X β ρ S.flat a w → runG h S k = some r → ∃ S' ρ', k S' = some r ∧ Keeps S S' β β ρ ρ' ∧ Rel X β ρ' S'.flat a w
  | R, r, .done, S, ρ, k, hS, hs => ⟨S, ρ, hs, Keeps.refl _ _ _, hS⟩
  | R, r, .fz id g, S, ρ, k, hS, hs => by
    simp only [runG] at hs
    have h1 : Rel X β ρ (XS.flat { S with mem := freezeX [id] S.mem }) a w := by
      have := Rel.freeze S.mem (l0 := []) (F := S.fixM) (ks := [id]) hS
      simp only [List.nil_append] at this
      exact this
    obtain ⟨S', ρ', q1, q2, q3⟩ := runG_ok g h1 hs
    exact ⟨S', ρ', q1, ⟨q2.fix, q2.fixM, q2.prot, q2.ag⟩, q3⟩
  | R, r, .mt id path e g, S, ρ, k, hS, hs => by
    simp only [runG] at hs
    split at hs
    · rename_i kk v hm
      split at hs
      · rename_i u f hf
        obtain ⟨hq, hs⟩ := bvT hs
        obtain ⟨ρ1, h1, h2⟩ := mt_ok hS hm hf hq
        obtain ⟨S', ρ', q1, q2, q3⟩ := runG_ok g h2 hs
        exact ⟨S', ρ', q1, h1.trans q2, q3⟩
      · cases hs
    · cases hs
  | R, r, .op src id d g, S, ρ, k, hS, hs => by
    simp only [runG] at hs
    split at hs
    · rename_i kk v path e u xs hm
      split at hs
      · rename_i u1 f av hf hsrc
        split at hs
        · rename_i key hkey
          obtain ⟨hb, hs⟩ := bvT hs
          simp only [Bool.and_eq_true] at hb
          have hu : u1 = u := by
            obtain ⟨f0, hf0, _⟩ := (hS.ob (lookM_append (m := S.fixM) hm)).1
            rw [hf] at hf0
            injection hf0 with hf0
            injection hf0
          subst hu
          obtain ⟨ρ1, h1, h2⟩ := op_ok hS hm hf hb.1.1 key hb.1.2 hb.2
          obtain ⟨S', ρ', q1, q2, q3⟩ := runG_ok g h2 hs
          exact ⟨S', ρ', q1, h1.trans q2, q3⟩
        · cases hs
      · cases hs
    · cases hs
  | R, r, .fm id g, S, ρ, k, hS, hs => by
    simp only [runG] at hs
    split at hs
    · rename_i kk v path e u xs hm
      obtain ⟨S', ρ', q1, q2, q3⟩ := runG_ok g (fm_ok hS hm) hs
      exact ⟨S', ρ', q1, ⟨q2.fix, q2.fixM, q2.prot, q2.ag⟩, q3⟩
    · cases hs
  | R, r, .n _ _, S, ρ, k, hS, hs => by simp [runG] at hs
  | R, r, .nl _ _, S, ρ, k, hS, hs => by simp [runG] at hs
  | R, r, .md _ _, S, ρ, k, hS, hs => by simp [runG] at hs
  | R, r, .keep _ _, S, ρ, k, hS, hs => by simp [runG] at hs
  | R, r, .sp _ _ _ _ _ _ _ _, S, ρ, k, hS, hs => by simp [runG] at hs
  | R, r, .call _ _, S, ρ, k, hS, hs => by simp [runG] at hs
  | R, r, .tl _, S, ρ, k, hS, hs => by simp [runG] at hs
  | R, r, .so _ _ _, S, ρ, k, hS, hs => by simp [runG] at hs
def TOk (P : Program) (ops : Array Oper) (Q : Act → Prop) (rest : List Oper) (X : Cx) (w : World) (S0 : XS) (β : Nat → Nat) (ρ : Nat → Value) {R : Type} (k : XS → Option R) (r : R) : Prop :=
  ∀ (β' : Nat → Nat) (ρ' : Nat → Value) (S' : XS) (a' : Act), k S' = some r → Keeps S0 S' β β' ρ ρ' → Rel X β' ρ' S'.flat a' w → wpStill P ops w Q rest a'
theorem TOk.after {ops : Array Oper} {Q : Act → Prop} {rest : List Oper} {k : XS → Option R} (h : TOk P ops Q rest X w S β ρ k r) {S1 : XS} {β1 : Nat → Nat} {ρ1 : Nat → Value} (hk : Keeps S S1 β β1 ρ ρ1) : TOk P ops Q rest X w S1 β1 ρ1 k r :=
  fun β' ρ' S' a' h1 h2 h3 => h β' ρ' S' a' h1 (hk.trans h2) h3
section
variable {ops : List Oper} {Qs : Act → Prop} {rest : List Oper} {k : XS → Option R}
theorem still_go {o : Oper} (hw : Region.wanted o (yielded ⟨ops⟩ a.tmps) = true) {v : Value} (hr : (execOp a.eval o).run P w = .ok (.value v) w) (h : wpStill P ⟨ops⟩ w Qs rest (a.put o.dst v)) : wpStill P ⟨ops⟩ w Qs (o :: rest) a := by
  unfold wpStill
  rw [if_pos hw]
  unfold Oper.still
  rw [hr, Oper.stillUpon_value]
  exact h
theorem still_skip {o : Oper} (hw : Region.wanted o (yielded ⟨ops⟩ a.tmps) = false) (h : wpStill P ⟨ops⟩ w Qs rest (a.put o.dst undef)) : wpStill P ⟨ops⟩ w Qs (o :: rest) a := by
  unfold wpStill
  rw [if_neg (by rw [hw]; simp)]
  exact h
theorem stepT_ok (hT : TabOk P Y.T) (hX : X.n = n) (hr : X.res = []) (h : Rel X β ρ S.flat a w) {o : Oper} (hw : Region.wanted o (yielded ⟨ops⟩ a.tmps) = true) (hs : stepT Y n o S k = some r) (H : TOk P ⟨ops⟩ Qs rest X w S β ρ k r) : wpStill P ⟨ops⟩ w Qs (o :: rest) a := by
  unfold stepT at hs
  split at hs
  · rename_i d hd
    obtain ⟨hb, hs⟩ := bvT hs
    obtain ⟨av, hk, hsem⟩ := stepQ_ok (P := P) hT rfl hs
    obtain ⟨h1, h2⟩ := okW_ok hb hX hr
    obtain ⟨cs, h3, h4⟩ := hsem h.toW (holdsC_nil a)
    refine still_go hw h3 ?_
    rw [hd]
    refine H β ρ _ _ hk (keeps_put S d [] av) ?_
    rw [put_flat h2]
    exact h.put0 h1 h4
  · cases hs
theorem skipT_ok (hX : X.n = n) (hr : X.res = []) (h : Rel X β ρ S.flat a w) {o : Oper} (hw : Region.wanted o (yielded ⟨ops⟩ a.tmps) = false) (hs : skipO n o S k = some r) (H : TOk P ⟨ops⟩ Qs rest X w S β ρ k r) : wpStill P ⟨ops⟩ w Qs (o :: rest) a := by
  refine still_skip hw ?_
  unfold skipO at hs
  split at hs
  · rename_i d hd
    obtain ⟨hb, hk⟩ := bvT hs
    obtain ⟨h1, h2⟩ := okW_ok hb hX hr
    rw [hd]
    refine H β ρ _ _ hk (keeps_put S d [] _) ?_
    rw [put_flat h2]
    exact h.put0 h1 (x := .tp .nil) (c := [.tuple #[]]) ⟨[], rfl, rfl⟩
  · rename_i hd
    rw [hd]
    exact H β ρ _ _ hs (Keeps.refl _ _ _) h
theorem stepCT_ok (hT : TabOk P Y.T) (hX : X.n = n) (hr : X.res = []) (h : Rel X β ρ S.flat a w) {o : Oper} {t : Nat} {want : Bool} (hg : gTmp ops o = some (some (t, want))) (hs : stepC Y n t want o S k = some r) (H : TOk P ⟨ops⟩ Qs rest X w S β ρ k r) :
    wpStill P ⟨ops⟩ w Qs (o :: rest) a := by
  unfold stepC at hs
  split at hs
  · rename_i t' cs b d he hd
    obtain ⟨hb, hs⟩ := bvT hs
    simp only [Bool.and_eq_true] at hb
    obtain ⟨h1, h2⟩ := okW_ok hb.1.1 hX hr
    have htd := neB hb.1.2
    have hud : ∀ c ∈ cs, c.1 ≠ d := usesT_ok (by simpa using hb.2)
    split at hs
    · rename_i v hv
      obtain ⟨hm, ht'⟩ := lookE_ok he
      simp only at ht'
      subst ht'
      have hkeep : ∀ u : Value, holdsC (a.put (some d) u) ((t', want) :: cs) ↔ holdsC a ((t', want) :: cs) := by
        intro u
        have hne : ∀ c ∈ (t', want) :: cs, c.1 ≠ d := by
          intro c hc
          rcases List.mem_cons.1 hc with rfl | hc
          · exact htd
          · exact hud c hc
        exact ⟨fun hc c hm => by rw [← put_other (hne c hm) u]; exact hc c hm, fun hc c hm => by rw [put_other (hne c hm) u]; exact hc c hm⟩
      by_cases hw : Region.wanted o (yielded ⟨ops⟩ a.tmps) = true
      · have htb := (wanted_iff hg).1 hw
        have hcs : holdsC a cs := by
          rcases (h.en hm).2 with h3 | h3
          · exact h3
          · simp only at h3; rw [rd_lt (lookE_lt he), htb] at h3; simp [undef] at h3
        have hcur : holdsC a ((t', want) :: cs) := by
          intro c hc
          rcases List.mem_cons.1 hc with rfl | hc
          · exact htb
          · exact hcs c hc
        obtain ⟨c, h3, h4⟩ := evalP_ok hT h.toW hcur hv
        refine still_go hw h3 ?_
        rw [hd]
        refine H β ρ _ _ hs (keeps_put S d _ _) ?_
        rw [put_flat h2]
        exact h.put h1 (fun _ => ⟨c, rfl, h4⟩) (.inl ((hkeep _).2 hcur))
      · have hw' : Region.wanted o (yielded ⟨ops⟩ a.tmps) = false := by simpa using hw
        refine still_skip hw' ?_
        rw [hd]
        refine H β ρ _ _ hs (keeps_put S d _ _) ?_
        rw [put_flat h2]
        refine h.put h1 (fun hc => ?_) (.inr rfl)
        have := (hkeep _).1 hc
        exact absurd ((wanted_iff hg).2 (this _ (.head _))) hw
    · cases hs
  · cases hs
theorem stepGT_ok (hT : TabOk P Y.T) (hX : X.n = n) (hr : X.res = []) (h : Rel X β ρ S.flat a w) {o : Oper} (hs : stepGT Y n ops o S k = some r) (H : TOk P ⟨ops⟩ Qs rest X w S β ρ k r) : wpStill P ⟨ops⟩ w Qs (o :: rest) a := by
  unfold stepGT at hs
  split at hs
  · rename_i hg
    exact stepT_ok hT hX hr h (wanted_none (gTmp_none hg) _) hs H
  · rename_i t want hg
    exact stepCT_ok hT hX hr h hg hs H
  · cases hs
theorem stepLT_ok (hT : TabOk P Y.T) (hX : X.n = n) (hr : X.res = []) (h : Rel X β ρ S.flat a w) {o : Oper} (hs : stepLT Y n ops o S k = some r) (H : TOk P ⟨ops⟩ Qs rest X w S β ρ k r) : wpStill P ⟨ops⟩ w Qs (o :: rest) a := by
  unfold stepLT at hs
  split at hs
  · rename_i hg
    exact stepT_ok hT hX hr h (wanted_none (gTmp_none hg) _) hs H
  · rename_i t want hg
    split at hs
    · rename_i t' b he
      obtain ⟨cs, h1, h2⟩ := h.get he (holdsC_nil a)
      have h2' : cs = _ := h2
      subst h2'
      have h1' : a.tmps[t]? = some (.bool b) := h1
      split at hs
      · rename_i hb
        have : b = want := by simpa using hb
        subst this
        exact stepT_ok hT hX hr h ((wanted_iff hg).2 h1') hs H
      · rename_i hb
        refine skipT_ok hX hr h ?_ hs H
        have hne : b ≠ want := by simpa using hb
        cases hw : Region.wanted o (yielded ⟨ops⟩ a.tmps) with
        | false => rfl
        | true =>
          have := (wanted_iff hg).1 hw
          rw [h1'] at this
          injection this with this
          injection this with this
          exact absurd this hne
    · rename_i t' he
      obtain ⟨cs, h1, vs, h2, h3⟩ := h.get he (holdsC_nil a)
      subst h2
      refine skipT_ok hX hr h ?_ hs H
      cases hw : Region.wanted o (yielded ⟨ops⟩ a.tmps) with
      | false => rfl
      | true =>
        have := (wanted_iff hg).1 hw
        rw [h1] at this
        injection this with this
        cases this
    · cases hs
  · cases hs
theorem runNT_ok (st : Oper → XS → (XS → Option R) → Option R)
    (hst : ∀ {o : Oper} {rest : List Oper} {S : XS} {β : Nat → Nat} {ρ : Nat → Value} {a : Act} {k : XS → Option R}, Rel X β ρ S.flat a w → st o S k = some r → TOk P ⟨ops⟩ Qs rest X w S β ρ k r → wpStill P ⟨ops⟩ w Qs (o :: rest) a) :
    ∀ {l1 rest : List Oper} {S : XS} {β : Nat → Nat} {ρ : Nat → Value} {a : Act} {k : XS → Option R}, Rel X β ρ S.flat a w → runN st l1 S k = some r → TOk P ⟨ops⟩ Qs rest X w S β ρ k r → wpStill P ⟨ops⟩ w Qs (l1 ++ rest) a
  | [], rest, S, β, ρ, a, k, h, hs, H => H β ρ S a hs (Keeps.refl _ _ _) h
  | o :: l1, rest, S, β, ρ, a, k, h, hs, H => by
    simp only [runN] at hs
    refine hst (rest := l1 ++ rest) h hs fun β' ρ' S' a' hk hkeep h' => ?_
    exact runNT_ok st hst h' hk (H.after hkeep)
end
theorem runT_ok (hT : TabOk P Y.T) (hX : X.n = n) (hr : X.res = []) {ops : List Oper} {Qs : Act → Prop} : ∀ {R : Type} {r : R} (h : Hn) {l rest : List Oper} {S : XS} {β : Nat → Nat} {ρ : Nat → Value} {a : Act} {k : XS → Option R},
    Rel X β ρ S.flat a w → runT Y n ops h l S k = some r → TOk P ⟨ops⟩ Qs rest X w S β ρ k r → wpStill P ⟨ops⟩ w Qs (l ++ rest) a
  | R, r, .done, l, rest, S, β, ρ, a, k, hS, hs, H => by
    cases l with
    | nil => exact H β ρ S a (by simpa [runT] using hs) (Keeps.refl _ _ _) hS
    | cons o l => simp [runT] at hs
  | R, r, .n m g, l, rest, S, β, ρ, a, k, hS, hs, H => by
    simp only [runT] at hs
    have := runNT_ok (P := P) (X := X) (w := w) (r := r) (stepGT Y n ops) (fun h1 h2 h3 => stepGT_ok hT hX hr h1 h2 h3) (l1 := l.take m) (rest := l.drop m ++ rest) hS hs fun β' ρ' S' a' h1 h2 h3 => runT_ok hT hX hr g h3 h1 (H.after h2)
    rwa [← List.append_assoc, List.take_append_drop] at this
  | R, r, .nl m g, l, rest, S, β, ρ, a, k, hS, hs, H => by
    simp only [runT] at hs
    have := runNT_ok (P := P) (X := X) (w := w) (r := r) (stepLT Y n ops) (fun h1 h2 h3 => stepLT_ok hT hX hr h1 h2 h3) (l1 := l.take m) (rest := l.drop m ++ rest) hS hs fun β' ρ' S' a' h1 h2 h3 => runT_ok hT hX hr g h3 h1 (H.after h2)
    rwa [← List.append_assoc, List.take_append_drop] at this
  | R, r, .call c g, l, rest, S, β, ρ, a, k, hS, hs, H => by simp [runT] at hs
  | R, r, .fz id g, l, rest, S, β, ρ, a, k, hS, hs, H => by simp [runT] at hs
  | R, r, .keep ts g, l, rest, S, β, ρ, a, k, hS, hs, H => by simp [runT] at hs
  | R, r, .md m g, l, rest, S, β, ρ, a, k, hS, hs, H => by simp [runT] at hs
  | R, r, .mt _ _ _ _, l, rest, S, β, ρ, a, k, hS, hs, H => by simp [runT] at hs
  | R, r, .op _ _ _ _, l, rest, S, β, ρ, a, k, hS, hs, H => by simp [runT] at hs
  | R, r, .fm _ _, l, rest, S, β, ρ, a, k, hS, hs, H => by simp [runT] at hs
  | R, r, .tl g, l, rest, S, β, ρ, a, k, hS, hs, H => by simp [runT] at hs
  | R, r, .so t x y, l, rest, S, β, ρ, a, k, hS, hs, H => by simp [runT] at hs
  | R, r, .sp t m ks ms Γ x y g, l, rest, S, β, ρ, a, k, hS, hs, H => by
    simp only [runT] at hs
    split at hs
    · rename_i t' v he
      have ht' : t' = t := (lookE_ok he).2
      subst ht'
      obtain ⟨hb, hs⟩ := bvT hs
      obtain ⟨z, hz, hs⟩ := bindE hs
      have hp := put_lit hS he
      have fin : TOk P ⟨ops⟩ Qs (l.drop m ++ rest) X w ((XS.put S t' [] (.d .bool v)).ent ks ms) β ρ (fun S' => S'.dec Γ) z := by
        intro β1 ρ1 S' a' hd hk h1
        obtain ⟨β2, ρ2, h2, h3⟩ := dec_re (S0 := (XS.put S t' [] (.d .bool v)).ent ks ms) h1 ⟨hk.fix, hk.fixM, hk.prot⟩ hd
        rw [← out_flat] at h3
        refine runT_ok hT hX hr g h3 hs (H.after ⟨rfl, rfl, rfl, ?_⟩)
        exact agP.trans hk.ag h2
      have e : l ++ rest = l.take m ++ (l.drop m ++ rest) := by rw [← List.append_assoc, List.take_append_drop]
      rw [e]
      cases v with
      | true =>
        rw [if_pos rfl] at hz
        exact runT_ok hT hX hr x (hp.ent ks ms) hz fin
      | false =>
        rw [if_neg (by simp)] at hz
        exact runT_ok hT hX hr y (hp.ent ks ms) hz fin
    · cases hs
theorem Rel.drew (h : Rel X β ρ S.flat a w) : Rel X β ρ S.flat a { w with drawn := w.drawn + 1 } := Sb.below h ((Below.refl _ _).drew)
def Ex.exit : Ex → Exit
  | .n => .normal
  | .x i => .exit i
  | .r => .ret
theorem Ex.beq_ok {a b : Ex} (h : Ex.beq a b = true) : a = b := by
  cases a <;> cases b <;> simp [Ex.beq] at h <;> first | rfl | (rw [h])
def COk (Q : Exit → Act → World → Prop) (X : Cx) (S0 : XS) (β : Nat → Nat) (ρ : Nat → Value) {R : Type} (k : Ex → XS → Option R) (r : R) : Prop :=
  ∀ (e : Ex) (β' : Nat → Nat) (ρ' : Nat → Value) (S' : XS) (a' : Act) (w' : World), k e S' = some r → Keeps S0 S' β β' ρ ρ' → Rel X β' ρ' S'.flat a' w' → Q e.exit a' w'
theorem COk.after {k : Ex → XS → Option R} (h : COk Q X S β ρ k r) {S1 : XS} {β1 : Nat → Nat} {ρ1 : Nat → Value} (hk : Keeps S S1 β β1 ρ ρ1) : COk Q X S1 β1 ρ1 k r :=
  fun e β' ρ' S' a' w' h1 h2 h3 => h e β' ρ' S' a' w' h1 (hk.trans h2) h3
theorem inj_ok {k : Ex → XS → Option R} (ks ms : List Nat) : ∀ {l : Exs} {e : Ex} {S' : XS} {x : SumT l}, inj l e S' = some x → outS S ks ms k l x = some r →
    S'.fix = (S.ent ks ms).fix ∧ S'.fixM = (S.ent ks ms).fixM ∧ S'.prot = (S.ent ks ms).prot → Rel X β ρ S'.flat a w →
    ∃ β' ρ' S1, k e (S.out ks ms S1) = some r ∧ agP S.prot β β' ρ ρ' ∧ Rel X β' ρ' (S.out ks ms S1).flat a w
  | [q], e, S', x, hi, ho, hk, h => by
    simp only [inj] at hi
    obtain ⟨hb, hd⟩ := bvT hi
    have := Ex.beq_ok hb
    subst this
    obtain ⟨β', ρ', h1, h2⟩ := dec_re (S0 := S.ent ks ms) h hk hd
    rw [← out_flat] at h2
    exact ⟨β', ρ', enc q.2 x, ho, h1, h2⟩
  | q :: q2 :: l, e, S', x, hi, ho, hk, h => by
    simp only [inj] at hi
    cases hb : Ex.beq q.1 e with
    | true =>
      rw [hb] at hi
      have := Ex.beq_ok hb
      subst this
      simp only [cond_true] at hi
      split at hi
      · rename_i y hd
        injection hi with hi; subst hi
        obtain ⟨β', ρ', h1, h2⟩ := dec_re (S0 := S.ent ks ms) h hk hd
        rw [← out_flat] at h2
        exact ⟨β', ρ', enc q.2 y, ho, h1, h2⟩
      · cases hi
    | false =>
      rw [hb] at hi
      simp only [cond_false] at hi
      split at hi
      · rename_i y hd
        injection hi with hi; subst hi
        exact inj_ok ks ms hd ho hk h
      · cases hi
theorem runI_ok (hT : TabOk P Y.T) (hmix : P.follows .mixedOrders = true) (hK : KsX P Y X K) (hX : X.n = n) (hr : X.res = []) (hpin : X.pin = none) : ∀ {R : Type} {r : R} (an : An) {c : Code} {S : XS} {β : Nat → Nat} {ρ : Nat → Value} {a : Act} {w : World} {k : Ex → XS → Option R} {Q : Exit → Act → World → Prop},
    Rel X β ρ S.flat a w → runI Y K n N an c S k = some r → COk Q X S β ρ k r → c.wp P Q a w
  | R, r, .nil, c, S, β, ρ, a, w, k, Q, h, hs, H => by
    cases c <;> simp only [runI] at hs <;> first | (cases hs; done) | skip
    · exact wp_skip (H .n β ρ S a w hs (Keeps.refl _ _ _) h)
    · rename_i id; exact wp_exit (H (.x id) β ρ S a w hs (Keeps.refl _ _ _) h)
    · exact wp_ret (H .r β ρ S a w hs (Keeps.refl _ _ _) h)
  | R, r, .reg hn, c, S, β, ρ, a, w, k, Q, h, hs, H => by
    cases c with
    | region id ops draw =>
      obtain ⟨ops⟩ := ops
      cases draw with
      | true => simp [runI] at hs
      | false =>
        simp only [runI] at hs
        refine wp_region_list ?_
        have := runH_ok hT hK hX hr (Q := Q) hn (l := ops) (rest := []) h hs fun β' ρ' S' a' w' h1 h2 h3 => H .n β' ρ' S' a' w' h1 h2 h3
        simpa using this
    | _ => simp [runI] at hs
  | R, r, .dr m g1 g2, c, S, β, ρ, a, w, k, Q, h, hs, H => by
    cases c with
    | region id ops draw =>
      obtain ⟨ops⟩ := ops
      cases draw with
      | false => simp [runI] at hs
      | true =>
        simp only [runI] at hs
        obtain ⟨hb, hs⟩ := bvT hs
        have hm : P.follows .mixedOrders = true := hmix
        unfold orderB at hb
        have tail : ∀ (β' : Nat → Nat) (ρ' : Nat → Value) (S' : XS) (a' : Act), runH Y K n ops g2 (ops.drop m) S' (k .n) = some r → Keeps S S' β β' ρ ρ' → Rel X β' ρ' S'.flat a' { w with drawn := w.drawn + 1 } → wpList P ⟨ops⟩ Q (ops.drop m) a' { w with drawn := w.drawn + 1 } := by
          intro β' ρ' S' a' h1 h2 h3
          have := runH_ok hT hK hX hr (Q := Q) g2 (l := ops.drop m) (rest := []) h3 h1 fun β2 ρ2 S2 a2 w2 q1 q2 q3 => H .n β2 ρ2 S2 a2 w2 q1 (h2.trans q2) q3
          simpa using this
        cases hlt : Nat.blt m ops.length with
        | true =>
          rw [hlt] at hb
          refine wp_region_still_tail m hm hb ?_
          have := runT_ok hT hX hr (w := { w with drawn := w.drawn + 1 }) (Qs := fun a' => wpList P ⟨ops⟩ Q (ops.drop m) a' { w with drawn := w.drawn + 1 }) g1 (l := ops.take m) (rest := []) h.drew hs fun β' ρ' S' a' h1 h2 h3 => tail β' ρ' S' a' h1 h2 h3
          simpa using this
        | false =>
          rw [hlt] at hb
          simp only [cond_false, Bool.and_eq_true] at hb
          have hm2 := Nat.eq_of_beq_eq_true hb.1
          refine wp_region_still_lit hm hb.2 ?_
          have := runT_ok hT hX hr (w := { w with drawn := w.drawn + 1 }) (Qs := fun a' => wpList P ⟨ops⟩ Q (ops.drop m) a' { w with drawn := w.drawn + 1 }) g1 (l := ops.take m) (rest := []) h.drew hs fun β' ρ' S' a' h1 h2 h3 => tail β' ρ' S' a' h1 h2 h3
          rw [hm2] at this
          simp only [List.take_length, List.append_nil, List.drop_length] at this
          exact this
    | _ => simp [runI] at hs
  | R, r, .dm p ds zs g2, c, S, β, ρ, a, w, k, Q, h, hs, H => by
    cases c with
    | region id ops draw =>
      obtain ⟨ops⟩ := ops
      cases draw with
      | false => simp [runI] at hs
      | true =>
        simp only [runI] at hs
        obtain ⟨hb, hs⟩ := bvT hs
        simp only [Bool.and_eq_true] at hb
        have hC : Rel X β ρ ⟨XS.flat { S with mem := (splitM S.mem zs).1 } |>.env, (splitM S.mem zs).2 ++ (XS.flat { S with mem := (splitM S.mem zs).1 }).mem⟩ a w := by
          have hpm : (S.mem ++ S.fixM).Perm ((splitM S.mem zs).2 ++ ((splitM S.mem zs).1 ++ S.fixM)) := by
            rw [← List.append_assoc]
            exact ((splitM_perm zs S.mem).append_right S.fixM).symm
          exact Rel.permM (env := S.flat.env) (m := S.flat.mem) h hpm
        refine regionD_ok hT hK.1 hK.2 hmix hX hr hpin hb.1.2 hb.2 hC hb.1.1 hs fun β' ρ' a' w' acc h' h1 h2 h3 => ?_
        have hk0 : Keeps S { S with mem := (splitM S.mem zs).1 } β β ρ ρ := ⟨rfl, rfl, rfl, agP.refl _ _ _⟩
        have := runH_ok hT hK hX hr (Q := Q) h' (l := ops.drop p) (rest := []) h3 h1 fun β2 ρ2 S2 a2 w2 q1 q2 q3 => H .n β2 ρ2 S2 a2 w2 q1 ((hk0.trans h2).trans q2) q3
        simpa using this
    | _ => simp [runI] at hs
  | R, r, .gh g x, c, S, β, ρ, a, w, k, Q, h, hs, H => by
    simp only [runI] at hs
    obtain ⟨S1, ρ1, q1, q2, q3⟩ := runG_ok g h hs
    exact runI_ok hT hmix hK hX hr hpin x q3 q1 (H.after q2)
  | R, r, .two x y, c, S, β, ρ, a, w, k, Q, h, hs, H => by
    cases c <;> simp only [runI] at hs <;> first | (cases hs; done) | skip
    · rename_i c1 c2
      refine wp_seq (runI_ok hT hmix hK hX hr hpin x h hs fun e β' ρ' S' a' w' h1 h2 h3 => ?_)
      cases e with
      | n => exact runI_ok hT hmix hK hX hr hpin y h3 h1 (H.after h2)
      | x i => exact H (.x i) β' ρ' S' a' w' h1 h2 h3
      | r => exact H .r β' ρ' S' a' w' h1 h2 h3
    · rename_i co c1 c2
      split at hs
      · rename_i v hv
        obtain ⟨cs, h1, h2⟩ := h.ev (holdsC_nil a) hv
        have h2' : cs = _ := h2
        subst h2'
        have h1' : a.eval co = .bool v := h1
        refine wp_cond_split h1' (fun hv => ?_) (fun hv => ?_)
        · rw [if_pos hv] at hs
          exact runI_ok hT hmix hK hX hr hpin x h hs H
        · rw [if_neg (by rw [hv]; simp)] at hs
          exact runI_ok hT hmix hK hX hr hpin y h hs H
      · cases hs
  | R, r, .un x, c, S, β, ρ, a, w, k, Q, h, hs, H => by
    cases c <;> simp only [runI] at hs <;> first | (cases hs; done) | skip
    rename_i id c1
    refine wp_block (runI_ok hT hmix hK hX hr hpin x h hs fun e β' ρ' S' a' w' h1 h2 h3 => ?_)
    cases e with
    | n => exact H .n β' ρ' S' a' w' h1 h2 h3
    | x i =>
      simp only at h1
      show if i = id then Q .normal a' w' else Q (.exit i) a' w'
      cases hb : Nat.beq i id with
      | true =>
        rw [hb] at h1
        rw [if_pos (Nat.eq_of_beq_eq_true hb)]
        exact H .n β' ρ' S' a' w' h1 h2 h3
      | false =>
        rw [hb] at h1
        rw [if_neg (fun e => by rw [e, Nat.beq_refl] at hb; cases hb)]
        exact H (.x i) β' ρ' S' a' w' h1 h2 h3
    | r => exact H .r β' ρ' S' a' w' h1 h2 h3
  | R, r, .jn ks ms exs x, c, S, β, ρ, a, w, k, Q, h, hs, H => by
    simp only [runI] at hs
    obtain ⟨z, hz, ho⟩ := bindE hs
    refine runI_ok hT hmix hK hX hr hpin x (h.ent ks ms) hz fun e β' ρ' S' a' w' h1 h2 h3 => ?_
    obtain ⟨β2, ρ2, S1, h4, h5, h6⟩ := inj_ok ks ms h1 ho ⟨h2.fix, h2.fixM, h2.prot⟩ h3
    refine H e β2 ρ2 _ a' w' h4 ⟨rfl, rfl, rfl, ?_⟩ h6
    exact agP.trans h2.ag h5
  | R, r, .lp ks ms Γ exs x, c, S, β, ρ, a, w, k, Q, h, hs, H => by
    cases c <;> simp only [runI] at hs <;> first | (cases hs; done) | skip
    rename_i c1
    split at hs
    · rename_i s0 hs0
      obtain ⟨z, hz, ho⟩ := bindE hs
      obtain ⟨β1, ρ1, h1, h2⟩ := dec_re (S0 := S.ent ks ms) (h.ent ks ms) ⟨rfl, rfl, rfl⟩ hs0
      refine wp_loop_fuel (fun m a w => ∃ s β' ρ', agP S.prot β β' ρ ρ' ∧ Rel X β' ρ' ((S.ent ks ms).re (enc Γ s)).flat a w ∧ loopN _ m s = some z) N ⟨s0, β1, ρ1, h1, h2, hz⟩ ?_
      rintro m a1 w1 ⟨s, β', ρ', h3, h4, h5⟩
      cases m with
      | zero => simp [loopN] at h5
      | succ m =>
        simp only [loopN] at h5
        obtain ⟨q, hq, h5⟩ := bindE h5
        refine runI_ok hT hmix hK hX hr hpin x h4 hq fun e β2 ρ2 S' a' w' h6 h7 h8 => ?_
        cases e with
        | n =>
          simp only at h6
          split at h6
          · rename_i s' hd
            injection h6 with h6; subst h6
            obtain ⟨β3, ρ3, h9, h10⟩ := dec_re (S0 := S.ent ks ms) h8 ⟨h7.fix, h7.fixM, h7.prot⟩ hd
            exact ⟨m, Nat.lt_succ_self m, s', β3, ρ3, (h3.trans h7.ag).trans h9, h10, h5⟩
          · cases h6
        | x i =>
          simp only at h6
          split at h6
          · rename_i s' hd
            injection h6 with h6; subst h6
            injection h5 with h5; subst h5
            obtain ⟨β3, ρ3, S1, h9, h10, h11⟩ := inj_ok ks ms hd ho ⟨h7.fix, h7.fixM, h7.prot⟩ h8
            exact H (.x i) β3 ρ3 _ a' w' h9 ⟨rfl, rfl, rfl, (h3.trans h7.ag).trans h10⟩ h11
          · cases h6
        | r =>
          simp only at h6
          split at h6
          · rename_i s' hd
            injection h6 with h6; subst h6
            injection h5 with h5; subst h5
            obtain ⟨β3, ρ3, S1, h9, h10, h11⟩ := inj_ok ks ms hd ho ⟨h7.fix, h7.fixM, h7.prot⟩ h8
            exact H .r β3 ρ3 _ a' w' h9 ⟨rfl, rfl, rfl, (h3.trans h7.ag).trans h10⟩ h11
          · cases h6
    · cases hs
theorem asAddr_some (p : Addr) : (asAddr (.pointer (some p)) : Sem Addr) = pure p := rfl
theorem resE_ok (hT : TabOk P Y.T) (h : Rel X β ρ S.flat a w) : ∀ {rs : List ResultVar} {i : Nat} {es : List En} (pre : List Value), pre.length = i → resE Y S rs i = some es →
    ∃ vs : List Value, vs.length = rs.length ∧ es.length = rs.length ∧ Sem.run P (rs.mapM fun r => match r with | .tmp t => (pure (a.tmps.getD t undef) : Sem Value) | .cell ad t => do loadVar t (← asAddr (a.tmps.getD ad undef))) w = .ok vs w ∧
      ∀ e ∈ es, (enD β ρ ⟨(pre ++ vs).toArray, []⟩ e).p (okR X β ρ S.flat.mem w) w
  | [], i, es, pre, _, he => by simp [resE] at he; subst he; exact ⟨[], rfl, rfl, rfl, by simp⟩
  | .tmp t :: rs, i, es, pre, hi, he => by
    simp only [resE] at he
    split at he
    · rename_i v r hv hr
      obtain ⟨hbi, he⟩ := bvT he
      simp at he; subst he
      obtain ⟨cs, h1, h2⟩ := h.ev (holdsC_nil a) hv
      obtain ⟨vs, h3, h4, h5, h6⟩ := resE_ok hT h (rs := rs) (i := i + 1) (pre ++ [a.tmps.getD t undef]) (by simp [hi]) hr
      refine ⟨a.tmps.getD t undef :: vs, by simp [h3], by simp [h4], ?_, fun e hm => ?_⟩
      · rw [List.mapM_cons]
        simp only [pure_bind, Sem.run_bind, h5]
        rfl
      · exact resCons hi hbi (h1 ▸ rfl) h2 h6 e hm
    · cases he
  | .cell ad t :: rs, i, es, pre, hi, he => by
    simp only [resE] at he
    split at he
    · rename_i v r hv hr
      obtain ⟨hbi, he⟩ := bvT he
      simp at he; subst he
      obtain ⟨cs, h1, h2⟩ := evalP_ok (P := P) (o := ⟨none, .load t (.tmp ad), 0, "", #[], none⟩) hT h.toW (holdsC_nil a) hv
      obtain ⟨vs, h3, h4, h5, h6⟩ := resE_ok hT h (rs := rs) (i := i + 1) (pre ++ [v.val cs]) (by simp [hi]) hr
      have hp : ∃ p, a.tmps.getD ad undef = .pointer (some p) := by
        simp only [evalP] at hv
        split at hv
        · rename_i id path he' hx
          obtain ⟨cs1, q1, q2⟩ := h.ev (holdsC_nil a) hx
          have q2' : cs1 = _ := q2
          subst q2'
          exact ⟨_, q1⟩
        · rename_i t' y he' hx
          obtain ⟨cs1, q1, v0, q2, b, o, _, q3, _⟩ := h.ev (holdsC_nil a) hx
          subst q2; subst q3
          exact ⟨_, q1⟩
        · cases hv
      obtain ⟨p, hp⟩ := hp
      have hl : (loadVar t p).run P w = .ok (v.val cs) w := by
        have h1' := h1
        unfold execOp at h1'
        have hp' : a.eval (.tmp ad) = .pointer (some p) := hp
        simp only [hp', Instr.loadAt, Instr.sureAddr, Sem.run_bind, Sem.run_pure, Result.andThen_ok] at h1'
        cases hr : (loadVar t p).run P w with
        | ok v1 w1 =>
          rw [hr] at h1'
          simp at h1'
          rw [h1'.1, h1'.2]
        | _ => rw [hr] at h1'; simp [Result.andThen] at h1'
      refine ⟨v.val cs :: vs, by simp [h3], by simp [h4], ?_, fun e hm => ?_⟩
      · rw [List.mapM_cons]
        simp only [hp, asAddr_some, pure_bind, Sem.run_bind, hl, Result.andThen_ok, h5]
        rfl
      · exact resCons hi hbi rfl h2 h6 e hm
    · cases he
where
  resCons {i : Nat} {pre vs : List Value} {v0 : Value} {v : AV} {cs : List Value} {r : List En} (hi : pre.length = i) (hbi : Nat.blt i 100000 = true) (hv : v0 = v.val cs) (h2 : cr β ρ (okR X β ρ S.flat.mem w) w false v cs)
      (h6 : ∀ e ∈ r, (enD β ρ ⟨(pre ++ [v0] ++ vs).toArray, []⟩ e).p (okR X β ρ S.flat.mem w) w) : ∀ e ∈ (⟨i, [], v⟩ :: r : List En), (enD β ρ ⟨(pre ++ v0 :: vs).toArray, []⟩ e).p (okR X β ρ S.flat.mem w) w := by
    intro e hm
    have hl : pre ++ [v0] ++ vs = pre ++ (v0 :: vs) := by simp
    rw [hl] at h6
    rcases List.mem_cons.1 hm with rfl | hm
    · refine ⟨fun _ => ⟨cs, ?_, h2⟩, .inl (holdsC_nil _)⟩
      rw [rd_lt hbi]
      simp only [List.getElem?_toArray]
      rw [List.getElem?_append_right (by omega), ← hi]
      simp only [Nat.sub_self, List.getElem?_cons_zero]
      exact congrArg some hv
    · exact h6 e hm
theorem keysUp_ok : ∀ {l : List (Nat × Sk)} {i : Nat} {vs : List DV}, keysUp l i = true → ∀ (j : Nat) e, (encEnv l vs).1[j]? = some e → e.t = i + j ∧ e.cs = []
  | [], i, vs, _, j, e, h => by simp [encEnv] at h
  | (t, s) :: l, i, vs, hk, j, e, h => by
    simp only [keysUp, Bool.and_eq_true] at hk
    simp only [encEnv] at h
    cases j with
    | zero =>
      simp at h; subst h
      exact ⟨Nat.eq_of_beq_eq_true hk.1, rfl⟩
    | succ j =>
      obtain ⟨h1, h2⟩ := keysUp_ok hk.2 j e (by simpa using h)
      exact ⟨by omega, h2⟩
theorem encEnv_len : ∀ {l : List (Nat × Sk)} {vs : List DV}, (encEnv l vs).1.length = l.length
  | [], vs => rfl
  | (t, s) :: l, vs => by simp only [encEnv, List.length_cons, encEnv_len]
theorem globE_ok {gl : List (Nat × Σ t : Ty, t.De)} {ok ok' : Ok} {w : World} {β : Nat → Nat} {ρ : Nat → Value} {a : Act} (h : GlobOk gl ok w) (hk : ∀ b o, ok b o → ok' b o) : ∀ e ∈ globE gl, (enD β ρ a e).p ok' w := by
  intro e he
  obtain ⟨q, hq, rfl⟩ := List.mem_map.1 he
  refine ⟨fun _ => ⟨[.pointer (some ⟨q.1, 0, none⟩)], rd_var a q.1, _, rfl, (h q hq).1.weak hk⟩, .inl (holdsC_nil a)⟩
theorem runF_ok (hT : TabOk P Y.T) (hmix : P.follows .mixedOrders = true) (hK : KsOk P Y.gl K) {f : FuncId} {fn : Func} (hf : P.funcs[f]? = some fn) {an : An} {c : Con} (hcf : c.f = f) (hrun : ∀ x, c.fn x = runF Y K N fn an c.Γ c.Δ x) : ConOk P Y.gl c := by
  intro ok w L β ρ x y vs hok hG hlen hL hargs hy
  rw [hrun] at hy
  unfold runF at hy
  split at hy
  · rename_i code hb
    obtain ⟨hble, hy⟩ := bvT hy
    simp only [Bool.and_eq_true] at hble
    obtain ⟨hble, hku, hks⟩ := hble
    rw [hcf]
    refine enter_okL (n := fn.ntmps) (L := L) (O := memO β ρ (enc c.Γ x).mem) (D := []) hok hf hb rfl (by rw [hlen]; exact hble) trivial hL fun a h0 => ?_
    have hk0 : ∀ b o, ok b o → okR (cxL L fn.ntmps ok w) β ρ (enc c.Γ x).mem w b o := fun b o hbo => ⟨.inl (.inl hbo), hok b o hbo, by simp, fun t ht hc => (hL.1 t ht).2.2 b o (t.cb hc) hbo⟩
    have hR : Rel (cxL L fn.ntmps ok w) β ρ (XS.flat ⟨(enc c.Γ x).env, globE Y.gl, (enc c.Γ x).mem, [], c.Γ.mem.map Prod.fst⟩) a w := by
      have e : XS.flat ⟨(enc c.Γ x).env, globE Y.gl, (enc c.Γ x).mem, [], c.Γ.mem.map Prod.fst⟩ = ⟨(enc c.Γ x).env ++ globE Y.gl, (enc c.Γ x).mem⟩ := by simp [XS.flat]
      rw [e]
      refine Rel.ofSb h0 rfl fun e he => ?_
      rcases List.mem_append.1 he with he | he
      case inr => exact globE_ok hG hk0 e he
      obtain ⟨cs, h1, h2⟩ := hargs e he
      have hcs : e.cs = [] := by
        unfold enc at he
        split at he
        rename_i es r hes
        exact encEnv_cs (Γe := c.Γ.env) e (by rw [hes]; exact he)
      refine ⟨fun _ => ⟨cs, ?_, cr_weak h2 hk0⟩, .inl (by rw [hcs]; exact holdsC_nil a)⟩
      have hz : ∀ {us : List Value} {i j : Nat} {v : Value}, us[j]? = some v → (i + j, Gd.AV.v v) ∈ zipG us i := by
        intro us
        induction us with
        | nil => intro i j v h; simp at h
        | cons u us ih =>
          intro i j v h
          cases j with
          | zero => simp at h; subst h; exact .head _
          | succ j =>
            have := ih (i := i + 1) (j := j) (v := v) (by simpa using h)
            rw [show i + (j + 1) = i + 1 + j by omega]
            exact .tail _ this
      have hsm : Nat.blt e.t 100000 = true := by
        obtain ⟨j, hj⟩ := List.getElem?_of_mem he
        have hk2 : e.t = 0 + j := by
          unfold enc at hj
          split at hj
          rename_i es0 r0 hes0
          exact (keysUp_ok (vs := toL c.Γ.tys x) hku j e (by rw [hes0]; exact hj)).1
        have hjl : j < c.Γ.env.length := by
          have h4 := (List.getElem?_eq_some_iff.1 hj).1
          unfold enc at h4
          have h5 := encEnv_len (l := c.Γ.env) (vs := toL c.Γ.tys x)
          split at h4
          rename_i es0 r0 hes0
          rw [hes0] at h5
          simp only at h4 h5
          omega
        have := Nat.le_of_ble_eq_true hks
        rw [hk2]
        exact Nat.ble_eq_true_of_le (by omega)
      have := h0.tm _ (hz (i := 0) h1)
      rw [rd_lt hsm]
      simpa [den_v] using this
    refine runI_ok hT hmix ⟨hK, hG.weak fun b o hbo => ⟨.inl hbo, fun hbl => hL.2.2 b hbl |>.elim fun t ht => (hL.1 t ht.1).2.2 b o ht.2 hbo, hok b o hbo⟩⟩ rfl rfl rfl an hR hy fun e β' ρ' S' a' w' h1 h2 h3 => ?_
    have key : fin Y fn c.Δ S' = some y → bodyPost P fn (RetL L w (PostC c β ρ ok L w y)) .ret a' w' := by
      intro hfin
      unfold fin at hfin
      split at hfin
      · rename_i es hes
        obtain ⟨hkb, hd⟩ := bvT hfin
        simp only [Bool.and_eq_true] at hkb
        have hksm := Nat.le_of_ble_eq_true hkb.2
        replace hkb := hkb.1
        have hel := Nat.eq_of_beq_eq_true hkb.2
        obtain ⟨rv, r1, r2, r3, r4⟩ := resE_ok hT h3 [] rfl hes
        simp only [List.nil_append] at r4
        have hRes : Rel { cxL L fn.ntmps ok w with n := rv.length } β' ρ' (XS.flat ⟨es, [], S'.mem, S'.fixM, S'.prot⟩) ⟨rv.toArray, []⟩ w' := by
          have e : XS.flat ⟨es, [], S'.mem, S'.fixM, S'.prot⟩ = ⟨es, S'.flat.mem⟩ := by simp [XS.flat]
          rw [e]
          have hSb : Sb (fun _ => 0) { cxL L fn.ntmps ok w with n := rv.length } [] [] [] (memO β' ρ' S'.flat.mem) ⟨rv.toArray, []⟩ w' :=
            { sz := by simp, df := rfl, fr := by simp, pn := by simp, tm := by simp, bel := h3.bel, dat := trivial, obj := by simp, own := h3.own, dHH := by simp, dHO := by simp, dOO := h3.dOO }
          exact Rel.ofSb hSb rfl fun e he => r4 e he
        obtain ⟨β2, ρ2, h4, h5⟩ := XS.dec_ok hRes hd
        have hfm : S'.fixM = [] := h2.fixM
        have hpr : S'.prot = c.Γ.mem.map Prod.fst := h2.prot
        rw [hfm] at h5
        simp only [List.append_nil] at h5
        have hfacts : ∀ (j : Nat) e, (enc c.Δ y).env[j]? = some e → ∃ cs, rv[j]? = some (e.av.val cs) ∧ cr β2 ρ2 (okOf (okL L ok) w.heap.size (fun _ => 0) [] (memO β2 ρ2 (enc c.Δ y).mem) w') w' false e.av cs := by
          intro j e he
          have hk2 : e.t = 0 + j ∧ e.cs = [] := by
            unfold enc at he
            split at he
            rename_i es0 r0 hes0
            exact keysUp_ok (vs := toL c.Δ.tys y) hkb.1 j e (by rw [hes0]; exact he)
          have hen := h5.en (List.mem_of_getElem? he)
          obtain ⟨cs, q1, q2⟩ := hen.1 (by rw [hk2.2]; exact holdsC_nil _)
          rw [hk2.1, Nat.zero_add] at q1
          have hjl : j < c.Δ.env.length := by
            have h4 := (List.getElem?_eq_some_iff.1 he).1
            unfold enc at h4
            have h5 := encEnv_len (l := c.Δ.env) (vs := toL c.Δ.tys y)
            split at h4
            rename_i es0 r0 hes0
            rw [hes0] at h5
            simp only at h4 h5
            omega
          rw [rd_lt (Nat.ble_eq_true_of_le (by omega))] at q1
          exact ⟨cs, by simpa using q1, q2⟩
        have hlenE : (enc c.Δ y).env.length = rv.length := by
          have : (enc c.Δ y).env.length = c.Δ.env.length := by
            unfold enc
            have := encEnv_len (l := c.Δ.env) (vs := toL c.Δ.tys y)
            split
            rename_i es0 r0 hes0
            rw [hes0] at this
            exact this
          omega
        have hres : (results fn a'.tmps).run P w' = .ok (if h : rv.toArray.size = 1 then rv.toArray[0] else .tuple rv.toArray) w' := by
          unfold results
          rw [Array.mapM_eq_mapM_toList]
          simp only [Sem.run_bind, Sem.run_map, bind_pure_comp]
          exact congrArg (fun z : Result (List Value) => (z.andThen fun a w' => Result.ok a.toArray w').andThen fun a w' => Result.ok (if h : a.size = 1 then a[0] else Value.tuple a) w') r3
        refine ⟨h3.df, _, hres, _, rfl, ⟨β2, ρ2, ?_, ?_, ?_, ?_⟩, h3.bel⟩
        · exact agP.trans h2.ag (by rw [← hpr]; exact h4)
        · by_cases hl1 : rv.length = 1
          · obtain ⟨e0, he0⟩ := List.length_eq_one_iff.1 (hlenE.trans hl1)
            obtain ⟨cs, q1, q2⟩ := hfacts 0 e0 (by rw [he0]; rfl)
            have hra : resAV (enc c.Δ y).env = e0.av := by rw [he0]; rfl
            rw [hra]
            refine ⟨cs, ?_, q2⟩
            rw [dif_pos (by simpa using hl1)]
            have hlt : 0 < rv.length := by omega
            rw [List.getElem?_eq_getElem hlt] at q1
            exact Option.some.inj q1
          · have hra : resAV (enc c.Δ y).env = .tp (valsE (enc c.Δ y).env) := by
              unfold resAV
              split
              · rename_i e0 he0
                exact absurd (by rw [← hlenE, he0]; rfl) hl1
              · rfl
            rw [hra]
            refine ⟨[.tuple rv.toArray], ?_, rv, rfl, ?_⟩
            · rw [dif_neg (by simpa using hl1)]; rfl
            · exact valsE_ok (i := 0) hfacts hlenE.symm
        · exact fun t ht => h5.own t ht
        · exact h5.dOO
      · cases hfin
    cases e with
    | n => exact key h1
    | x i => cases h1
    | r => exact key h1
  · cases hy
end
end Gx
namespace Gx
open Go
theorem ksNil {P : Program} {gl : List (Nat × Σ t : Ty, t.De)} : KsOk P gl [] := fun _ h => by cases h
theorem ksCons {P : Program} {c : Con} {gl : List (Nat × Σ t : Ty, t.De)} {K : List Con} (h : ConOk P gl c) (hr : Gd.Runs P c.f) (hk : KsOk P gl K) : KsOk P gl (c :: K) := fun d hd => by
  rcases List.mem_cons.1 hd with rfl | hd
  · exact ⟨h, hr⟩
  · exact hk d hd
end Gx

/- A region, operation by operation. -/
import Derived.Test.YtnlnadfpfekeiaaDoorXMz
namespace Gx
open Go Go.RowKit Gd
set_option linter.unusedVariables false
set_option linter.unusedSimpArgs false
section
variable {P : Program} {Y : TX} {X : Cx} {S : XS} {β β' : Nat → Nat} {ρ ρ' : Nat → Value} {a a' : Act} {w w' : World} {n : Nat}
variable {ops : Array Oper} {Q : Exit → Act → World → Prop} {rest : List Oper} {R : Type} {k : XS → Option R} {r : R}
theorem isSliceD_ok {d : TypeDesc} {e : TypeId} (h : isSliceD d = some e) : d = .slice e := by
  cases d <;> simp [isSliceD] at h
  subst h; rfl
theorem stepS0_ok (hT : TabOk P Y.T) (hX : X.n = n) (hr : X.res = []) (h : Rel X β ρ S.flat a w) {o : Oper} (hw : Region.wanted o (yielded ops a.tmps) = true) (hs : stepS0 Y n o S k = some r) (H : KOk P ops Q rest X S β ρ k r) :
    wpList P ops Q (o :: rest) a w := by
  unfold stepS0 at hs
  split at hs
  ·
    rename_i t d hop hd
    split at hs
    · rename_i e ty he hty
      split at hs
      · rename_i c hc
        obtain ⟨hb, hk⟩ := bvT hs
        simp only [Bool.and_eq_true] at hb
        refine s_var (cs := cellsL e.z) hX hr h hw hd hb.1.1.1 hb.1.1.2 ?_ (zeroAV_ok hc) hb.2 hk H
        unfold execOp
        simp only [hop]
        simp [Instr.alloc, run_zeroValue hT w he, newVar, newRow, cellsL_eq]
      · cases hs
    · cases hs
  ·
    rename_i t x d hop hd
    split at hs
    · rename_i c hc
      obtain ⟨hb, hk⟩ := bvT hs
      simp only [Bool.and_eq_true] at hb
      obtain ⟨cs, h1, h2⟩ := h.ev (holdsC_nil a) hc
      refine s_var (cs := cs) hX hr h hw hd hb.1.1.1.1 hb.1.1.1.2 ?_ h2 hb.2 hk H
      have hcl := cellsL_val' h2 hb.1.1.2 hb.1.2
      have hcc : (c.val cs).cells = cs.toArray := by
        apply Array.ext'
        rw [← cellsL_eq, hcl]
      unfold execOp
      simp only [hop, h1]
      simp [Instr.box, newVar, newRow, hcc]
    · cases hs
  ·
    rename_i t p x hop hd
    split at hs
    · rename_i e id path v he hp hx
      split at hs
      · rename_i tid c hm
        split at hs
        · rename_i c' hc'
          obtain ⟨hb, hk⟩ := bvT hs
          simp only [Bool.and_eq_true] at hb
          exact s_store hT h hw hop hd he hp hx hm (fun _ h1 h2 => setP_ok h1 hc' h2) hb.1.1 hb.1.2 hb.2 hk H
        · cases hs
      · cases hs
    · rename_i e id j sz ps v he hp hx
      split at hs
      · rename_i et u xs hm
        obtain ⟨y, hy, hs⟩ := bindE hs
        split at hs
        · rename_i c hc
          split at hs
          · rename_i z0 hz
            obtain ⟨hb, hk⟩ := bvT hs
            simp only [Bool.and_eq_true] at hb
            exact s_storeEl hT h hw hop hd he hp hx hm hy hc hz hb.1.1.1.1 hb.1.1.1.2 hb.1.1.2 hb.1.2 hb.2 hk H
          · cases hs
        · cases hs
      · cases hs
    · cases hs
  ·
    rename_i t rs d hop hd
    split at hs
    · rename_i te hte
      split at hs
      · rename_i kt et htd
        split at hs
        · rename_i kk v hkk hv
          obtain ⟨hb, hk⟩ := bvT hs
          simp only [Bool.and_eq_true] at hb
          have hrs : rs = none := by
            cases rs with
            | none => rfl
            | some x => simp [isNone] at hb
          subst hrs
          exact s_makeMap hX hr h hw hd hb.1.1 hb.1.2 hop hk H
        · cases hs
      · cases hs
    · cases hs
  ·
    rename_i t m ky x hop hd
    split at hs
    · rename_i te id kv xv hte hm hkv hx
      split at hs
      · rename_i kt et kk v xs htd hmo
        split at hs
        · rename_i tk key y htk hkey hy
          obtain ⟨hb, hk⟩ := bvT hs
          simp only [Bool.and_eq_true] at hb
          exact s_mapUpdate hT h hw hop hd hte htd htk hm hkv hx hmo hkey hy hb.1.1 hb.1.2 hb.2 hk H
        · cases hs
      · rename_i kt et kk v path e u xs kh h0 htd hmo
        split at hs
        · rename_i tk key y h1 htk hkey hy hnav
          split at hs
          · rename_i e1 u1 ys hmh
            obtain ⟨hb, hs⟩ := bvT hs
            simp only [Bool.and_eq_true] at hb
            obtain ⟨⟨⟨⟨⟨b1, b2⟩, b3⟩, b4⟩, b5⟩, b6⟩ := hb
            obtain ⟨_, hch, hk⟩ := bindE hs
            have e1 := Nat.eq_of_beq_eq_true b4
            have e2 := Ty.beq_eq b5
            subst e1; subst e2
            unfold chk at hch
            exact s_close hT h hw hop hd hte htd htk hm hkv hx hmo hkey (bvT hch).1 hnav hmh hy b1 b2 b3 b6 hk H
          · cases hs
        · cases hs
      · cases hs
    · cases hs
  ·
    rename_i t l c d hop hd
    split at hs
    · rename_i te lv cv hte hl hc
      split at hs
      · rename_i e k1 nl k2 nc hse hli hci
        split at hs
        · rename_i ee u he hu
          split at hs
          · rename_i za hza
            split at hs
            · rename_i z0 hz
              obtain ⟨hb, hs⟩ := bvT hs
              simp only [Bool.and_eq_true] at hb
              obtain ⟨zs, hzs, hk⟩ := bindE hs
              exact s_make hT hX hr h hw hd hb.1.1.1.1 hb.1.1.1.2 hop hte (isSliceD_ok hse) he hl hc hli hci hza hz hb.1.1.2 hb.1.2 hb.2 hzs hk H
            · cases hs
          · cases hs
        · cases hs
      · cases hs
    · cases hs
  ·
    rename_i t len parts d hop hd
    split at hs
    · rename_i te hte
      split at hs
      · rename_i e hse
        split at hs
        · rename_i ee u he hu
          obtain ⟨hb, hs⟩ := bvT hs
          simp only [Bool.and_eq_true] at hb
          split at hs
          · obtain ⟨hb2, hk⟩ := bvT hs
            exact s_lit0 hT hX hr h hw hd hb.1 hb2 hop hte (isSliceD_ok hse) he hb.2 hk H
          · cases hs
          · rename_i m
            split at hs
            · rename_i vs hvs
              split at hs
              · rename_i xs hxs
                obtain ⟨hb2, hk⟩ := bvT hs
                simp only [Bool.and_eq_true] at hb2
                exact s_lit hT hX hr h hw hd hb.1 hop hte (isSliceD_ok hse) he hb.2 hvs hxs hb2.1.1.1 hb2.1.1.2 hb2.1.2 hb2.2 hk H
              · cases hs
            · cases hs
        · cases hs
      · cases hs
    · cases hs
  ·
    rename_i s x t t' d hop hd
    split at hs
    · rename_i te sv xv hte hsv hxv
      split at hs
      · rename_i e hse
        split at hs
        · rename_i ee he
          have hb := (bvT hs).1
          replace hs := (bvT hs).2
          simp only [Bool.and_eq_true] at hb
          obtain ⟨⟨⟨⟨b1, b2⟩, b3⟩, b4⟩, b5⟩ := hb
          have ett := Nat.eq_of_beq_eq_true b2
          subst ett
          split at hs
          · split at hs
            · rename_i u hu
              split at hs
              · rename_i ys hys
                have hb2 := (bvT hs).1
                replace hs := (bvT hs).2
                simp only [Bool.and_eq_true] at hb2
                obtain ⟨zs, hzs, hk⟩ := bindE hs
                exact s_appNil hT hX hr h hw hd b1 hb2.1 hop hte (isSliceD_ok hse) he hb2.2 b3 b4 b5 hsv hxv hys hzs hk H
              · cases hs
            · cases hs
          · split at hs
            · rename_i u hu
              split at hs
              · rename_i ys hys
                have hb2 := (bvT hs).1
                replace hs := (bvT hs).2
                simp only [Bool.and_eq_true] at hb2
                obtain ⟨zs, hzs, hk⟩ := bindE hs
                exact s_appZ hT hX hr h hw hd b1 hb2.1 hop hte (isSliceD_ok hse) he hb2.2 b3 b4 b5 hsv hxv hys hzs hk H
              · cases hs
            · cases hs
          · rename_i id
            split at hs
            · rename_i e' u xs hm
              split at hs
              · rename_i ys hys
                have hb2 := (bvT hs).1
                replace hs := (bvT hs).2
                simp only [Bool.and_eq_true] at hb2
                have ee' := Nat.eq_of_beq_eq_true hb2.2
                subst ee'
                obtain ⟨zs, hzs, hk⟩ := bindE hs
                exact s_appRow hT hX hr h hw hd b1 hb2.1.1 hop hte (isSliceD_ok hse) he hb2.1.2 b3 b4 b5 hsv hxv hm hys hzs hk H
              · cases hs
            · rename_i e' u xs hm
              split at hs
              · rename_i ys hys
                have hb2 := (bvT hs).1
                replace hs := (bvT hs).2
                simp only [Bool.and_eq_true] at hb2
                have ee' := Nat.eq_of_beq_eq_true hb2.2
                subst ee'
                obtain ⟨zs, hzs, hk⟩ := bindE hs
                exact s_appTail hT hX hr h hw hd b1 hb2.1.1 hop hte (isSliceD_ok hse) he hb2.1.2 b3 b4 b5 hsv hxv hm hys hzs hk H
              · cases hs
            · cases hs
          · cases hs
        · cases hs
      · cases hs
    · cases hs
  ·
    obtain ⟨hb, hs⟩ := bvT hs
    obtain ⟨av, hk, hsem⟩ := stepQ_ok (P := P) hT rfl hs
    exact s_val hX hr h hw (by assumption) hb hsem hk H
  · cases hs
theorem stepX_ok (hT : TabOk P Y.T) (hX : X.n = n) (hr : X.res = []) (h : Rel X β ρ S.flat a w) {o : Oper} (hw : Region.wanted o (yielded ops a.tmps) = true) (hs : stepX Y n o S k = some r) (H : KOk P ops Q rest X S β ρ k r) :
    wpList P ops Q (o :: rest) a w := by
  unfold stepX at hs
  split at hs
  ·
    rename_i s x t t' d hop hd
    split at hs
    · rename_i te te' sv l hte hte' hsv hxv
      split at hs
      · rename_i e hse
        split at hs
        · rename_i ee he
          obtain ⟨hb, hs⟩ := bvT hs
          simp only [Bool.and_eq_true] at hb
          obtain ⟨⟨⟨⟨b1, b2⟩, b3⟩, b4⟩, b5⟩ := hb
          have b2 := isStrD_ok b2
          have b3 := isZ8_ok b3
          have b4 := Nat.eq_of_beq_eq_true b4
          have b5 := Nat.eq_of_beq_eq_true b5
          split at hs
          · obtain ⟨hb2, hs⟩ := bvT hs
            obtain ⟨zs, hzs, hk⟩ := bindE hs
            exact s_appNilS hT hX hr h hw hd b1 hb2 hop hte (isSliceD_ok hse) hte' b2 he b3 b4 b5 hsv hxv hzs hk H
          · rename_i id
            split at hs
            · rename_i e' xs hm
              obtain ⟨hb2, hs2⟩ := bvT hs
              simp only [Bool.and_eq_true] at hb2
              have ee' := Nat.eq_of_beq_eq_true hb2.2
              subst ee'
              obtain ⟨zs, hzs, hk⟩ := bindE hs2
              exact s_appRowS hT hX hr h hw hd b1 hb2.1 hop hte (isSliceD_ok hse) hte' b2 he b3 b4 b5 hsv hxv hm hzs hk H
            · cases hs
          · cases hs
        · cases hs
      · cases hs
    · cases hs
  ·
    rename_i s t x d hop hd
    split at hs
    · rename_i se te l hse hte hx
      split at hs
      · rename_i e hsd
        split at hs
        · rename_i ee he
          obtain ⟨hb, hs⟩ := bvT hs
          simp only [Bool.and_eq_true] at hb
          obtain ⟨zs, hzs, hk⟩ := bindE hs
          exact s_strBytes hT hX hr h hw hd hb.1.1 hb.1.2 hop hse hte (isSliceD_ok hsd) he (isU8_ok hb.2) hx hzs hk H
        · cases hs
      · cases hs
    · cases hs
  ·
    rename_i t p x hop hd
    split at hs
    · rename_i e id path v he hp hx
      split at hs
      · rename_i tid c hm
        obtain ⟨c', hc', hset⟩ := setC_ok hs
        obtain ⟨hb, hk⟩ := bvT hc'
        simp only [Bool.and_eq_true] at hb
        exact s_store hT h hw hop hd he hp hx hm (fun hM h1 h2 => hset hM h1 h2) hb.1.1 hb.1.2 hb.2 hk H
      · cases hs
    · cases hs
  · cases hs
theorem stepS_ok (hT : TabOk P Y.T) (hX : X.n = n) (hr : X.res = []) (h : Rel X β ρ S.flat a w) {o : Oper} (hw : Region.wanted o (yielded ops a.tmps) = true) (hs : stepS Y n o S k = some r) (H : KOk P ops Q rest X S β ρ k r) :
    wpList P ops Q (o :: rest) a w := by
  unfold stepS at hs
  split at hs
  · exact stepS0_ok hT hX hr h hw hs H
  · exact stepX_ok hT hX hr h hw hs H
theorem wanted_none {o : Oper} (hg : o.guard = none) (y : Nat → Option Bool) : Region.wanted o y = true := by unfold Region.wanted; rw [hg]
theorem wanted_iff {l : List Oper} {o : Oper} {t : Nat} {b : Bool} (hg : gTmp l o = some (some (t, b))) : Region.wanted o (yielded ⟨l⟩ a.tmps) = true ↔ a.tmps[t]? = some (.bool b) := by
  unfold gTmp at hg
  split at hg
  · cases hg
  · rename_i j want hgd
    split at hg
    · rename_i p hp
      split at hg
      · rename_i t' ht
        simp at hg
        obtain ⟨rfl, rfl⟩ := hg
        have hp' : (Array.mk l)[j]? = some p := by simpa using hp
        unfold Region.wanted
        rw [hgd]
        simp only [yielded, hp', Option.bind_some, ht, beq_iff_eq]
        split
        · rename_i b' hb'
          rw [hb']
          constructor
          · intro e; injection e with e; subst e; rfl
          · intro e; injection e with e; injection e with e; subst e; rfl
        · rename_i hn
          constructor
          · intro e; cases e
          · intro e; exact absurd e (hn want)
      · cases hg
    · cases hg
theorem gTmp_none {l : List Oper} {o : Oper} (hg : gTmp l o = some none) : o.guard = none := by
  unfold gTmp at hg
  split at hg
  · assumption
  · split at hg
    · split at hg <;> cases hg
    · cases hg
theorem wpList_skip {o : Oper} (hw : Region.wanted o (yielded ops a.tmps) = false) (h : wpList P ops Q rest (a.put o.dst undef) w) : wpList P ops Q (o :: rest) a w := by
  unfold wpList
  rw [if_neg (by rw [hw]; simp)]
  exact h
theorem skipO_ok (hX : X.n = n) (hr : X.res = []) (h : Rel X β ρ S.flat a w) {o : Oper} (hw : Region.wanted o (yielded ops a.tmps) = false) (hs : skipO n o S k = some r) (H : KOk P ops Q rest X S β ρ k r) :
    wpList P ops Q (o :: rest) a w := by
  refine wpList_skip hw ?_
  unfold skipO at hs
  split at hs
  · rename_i d hd
    obtain ⟨hb, hk⟩ := bvT hs
    obtain ⟨h1, h2⟩ := okW_ok hb hX hr
    rw [hd]
    refine H β ρ _ _ _ hk (keeps_put S d [] _) ?_
    rw [put_flat h2]
    exact h.put0 h1 (x := .tp .nil) (c := [.tuple #[]]) ⟨[], rfl, rfl⟩
  · rename_i hd
    rw [hd]
    exact H β ρ _ _ _ hs (Keeps.refl _ _ _) h
theorem stepC_ok (hT : TabOk P Y.T) (hX : X.n = n) (hr : X.res = []) (h : Rel X β ρ S.flat a w) {l : List Oper} {o : Oper} {t : Nat} {want : Bool} (hg : gTmp l o = some (some (t, want))) (hs : stepC Y n t want o S k = some r) (H : KOk P ⟨l⟩ Q rest X S β ρ k r) :
    wpList P ⟨l⟩ Q (o :: rest) a w := by
  unfold stepC at hs
  split at hs
  · rename_i t' cs b d he hd
    obtain ⟨hb, hs⟩ := bvT hs
    simp only [Bool.and_eq_true] at hb
    obtain ⟨h1, h2⟩ := okW_ok hb.1.1 hX hr
    have htd := neB hb.1.2
    have hud : ∀ c ∈ cs, c.1 ≠ d := usesT_ok (by simpa using hb.2)
    split at hs
    · rename_i v hv
      obtain ⟨hm, ht'⟩ := lookE_ok he
      simp only at ht'
      subst ht'
      have hkeep : ∀ u : Value, holdsC (a.put (some d) u) ((t', want) :: cs) ↔ holdsC a ((t', want) :: cs) := by
        intro u
        have hne : ∀ c ∈ (t', want) :: cs, c.1 ≠ d := by
          intro c hc
          rcases List.mem_cons.1 hc with rfl | hc
          · exact htd
          · exact hud c hc
        exact ⟨fun hc c hm => by rw [← put_other (hne c hm) u]; exact hc c hm, fun hc c hm => by rw [put_other (hne c hm) u]; exact hc c hm⟩
      by_cases hw : Region.wanted o (yielded ⟨l⟩ a.tmps) = true
      · have htb := (wanted_iff hg).1 hw
        have hcs : holdsC a cs := by
          rcases (h.en hm).2 with h3 | h3
          · exact h3
          · simp only at h3; rw [rd_lt (lookE_lt he), htb] at h3; simp [undef] at h3
        have hcur : holdsC a ((t', want) :: cs) := by
          intro c hc
          rcases List.mem_cons.1 hc with rfl | hc
          · exact htb
          · exact hcs c hc
        obtain ⟨c, h3, h4⟩ := evalP_ok hT h.toW hcur hv
        refine wpList_go hw (wp_value h3 ?_)
        rw [hd]
        refine H β ρ _ _ _ hs (keeps_put S d _ _) ?_
        rw [put_flat h2]
        exact h.put h1 (fun _ => ⟨c, rfl, h4⟩) (.inl ((hkeep _).2 hcur))
      · have hw' : Region.wanted o (yielded ⟨l⟩ a.tmps) = false := by simpa using hw
        refine wpList_skip hw' ?_
        rw [hd]
        refine H β ρ _ _ _ hs (keeps_put S d _ _) ?_
        rw [put_flat h2]
        refine h.put h1 (fun hc => ?_) (.inr rfl)
        have := (hkeep _).1 hc
        exact absurd ((wanted_iff hg).2 (this _ (.head _))) hw
    · cases hs
  · cases hs
theorem stepG_ok (hT : TabOk P Y.T) (hX : X.n = n) (hr : X.res = []) {l : List Oper} (h : Rel X β ρ S.flat a w) {o : Oper} (hs : stepG Y n l o S k = some r) (H : KOk P ⟨l⟩ Q rest X S β ρ k r) : wpList P ⟨l⟩ Q (o :: rest) a w := by
  unfold stepG at hs
  split at hs
  · rename_i hg
    exact stepS_ok hT hX hr h (wanted_none (gTmp_none hg) _) hs H
  · rename_i t want hg
    exact stepC_ok hT hX hr h hg hs H
  · cases hs
theorem stepL_ok (hT : TabOk P Y.T) (hX : X.n = n) (hr : X.res = []) {l : List Oper} (h : Rel X β ρ S.flat a w) {o : Oper} (hs : Gx.stepL Y n l o S k = some r) (H : KOk P ⟨l⟩ Q rest X S β ρ k r) : wpList P ⟨l⟩ Q (o :: rest) a w := by
  unfold Gx.stepL at hs
  split at hs
  · rename_i hg
    exact stepS_ok hT hX hr h (wanted_none (gTmp_none hg) _) hs H
  · rename_i t want hg
    split at hs
    · rename_i t' b he
      obtain ⟨cs, h1, h2⟩ := h.get he (holdsC_nil a)
      have h2' : cs = _ := h2
      subst h2'
      have h1' : a.tmps[t]? = some (.bool b) := h1
      split at hs
      · rename_i hb
        have : b = want := by simpa using hb
        subst this
        exact stepS_ok hT hX hr h ((wanted_iff hg).2 h1') hs H
      · rename_i hb
        refine skipO_ok hX hr h ?_ hs H
        have hne : b ≠ want := by simpa using hb
        cases hw : Region.wanted o (yielded ⟨l⟩ a.tmps) with
        | false => rfl
        | true =>
          have := (wanted_iff hg).1 hw
          rw [h1'] at this
          injection this with this
          injection this with this
          exact absurd this hne
    · rename_i t' he
      obtain ⟨cs, h1, vs, h2, h3⟩ := h.get he (holdsC_nil a)
      subst h2
      refine skipO_ok hX hr h ?_ hs H
      cases hw : Region.wanted o (yielded ⟨l⟩ a.tmps) with
      | false => rfl
      | true =>
        have := (wanted_iff hg).1 hw
        rw [h1] at this
        injection this with this
        cases this
    · cases hs
  · cases hs
theorem runN_ok {l : List Oper} (st : Oper → XS → (XS → Option R) → Option R)
    (hst : ∀ {o : Oper} {rest : List Oper} {S : XS} {β : Nat → Nat} {ρ : Nat → Value} {a : Act} {w : World} {k : XS → Option R}, Rel X β ρ S.flat a w → st o S k = some r → KOk P ⟨l⟩ Q rest X S β ρ k r → wpList P ⟨l⟩ Q (o :: rest) a w) :
    ∀ {l1 rest : List Oper} {S : XS} {β : Nat → Nat} {ρ : Nat → Value} {a : Act} {w : World} {k : XS → Option R}, Rel X β ρ S.flat a w → runN st l1 S k = some r → KOk P ⟨l⟩ Q rest X S β ρ k r → wpList P ⟨l⟩ Q (l1 ++ rest) a w
  | [], rest, S, β, ρ, a, w, k, h, hs, H => H β ρ S a w hs (Keeps.refl _ _ _) h
  | o :: l1, rest, S, β, ρ, a, w, k, h, hs, H => by
    simp only [runN] at hs
    refine hst (rest := l1 ++ rest) h hs fun β' ρ' S' a' w' hk hkeep h' => ?_
    exact runN_ok st hst h' hk (H.after hkeep)
end
end Gx

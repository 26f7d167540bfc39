/- Struct equality, literals of the call's own, results in cells, local arrays, function values. -/
import Derived.Test.YtnlnadfpfekeiaaDoorGDraw
namespace Gd
open Go Go.RowKit
set_option linter.unusedVariables false
set_option linter.unusedSimpArgs false
def eqFs (T : Tab) : List Field → List Value → List Value → Option Bool
  | [], _, _ => some true
  | f :: fs, xs, ys => match lookT T f.type, xs[f.offset]?, ys[f.offset]?, eqFs T fs xs ys with
    | some ⟨_, .int _, _, _, _⟩, some (.int k a), some (.int k' b), some r => bif sameK k k' then some ((a == b) && r) else none
    | some ⟨_, .bool, _, _, _⟩, some (.bool a), some (.bool b), some r => some ((a == b) && r)
    | some ⟨_, .string, _, _, _⟩, some (.string ⟨⟨a⟩⟩), some (.string ⟨⟨b⟩⟩), some r => some ((a == b) && r)
    | _, _, _, _ => none
def blankB (fs : List Field) : Bool := fs.all fun f => f.name != "_"
section
variable {P : Program} {T : Tab} {β : Nat → Nat} {X : Cx} {G : GL} {D : List DF} {H : HL} {O : List TL} {a : Act} {w w' : World}
variable {ops : Array Oper} {Q : Exit → Act → World → Prop} {rest : List Oper}
theorem part_plain (hT : TabOk P T) {t : TypeId} {e : TE} (he : lookT T t = some e) (ha : isAggD e.d = false) {xs : List Value} {off : Nat} {v : Value} (hv : xs[off]? = some v) :
    (part t xs.toArray off).run P w = .ok v w := run_part hT w he xs off (by rw [ha]; simpa using hv)
theorem eqFs_ok (hT : TabOk P T) (d : Nat) : ∀ {fs : List Field} {xs ys : List Value} {r : Bool}, blankB fs = true → eqFs T fs xs ys = some r → (Op.eqFields (d + 1) xs.toArray ys.toArray fs).run P w = .ok r w
  | [], xs, ys, r, _, h => by simp [eqFs] at h; subst h; rfl
  | f :: fs, xs, ys, r, hb, h => by
    simp only [blankB, List.all_cons, Bool.and_eq_true] at hb
    have hn : f.name ≠ "_" := by simpa using hb.1
    simp only [eqFs] at h
    have key : ∀ {e : TE} {u v : Value} {p q : Bool}, lookT T f.type = some e → isAggD e.d = false → xs[f.offset]? = some u → ys[f.offset]? = some v →
        (Op.equalIn (d + 1) f.type u v).run P w = .ok p w → eqFs T fs xs ys = some q → (Op.eqFields (d + 1) xs.toArray ys.toArray (f :: fs)).run P w = .ok (p && q) w := by
      intro e u v p q he ha hu hv hp hq
      have ih := eqFs_ok hT d (by simpa [blankB] using hb.2) hq
      simp only [Op.eqFields, ne_eq, hn, not_false_eq_true, if_true, Sem.run_bind, part_plain hT he ha hu, part_plain hT he ha hv, Result.andThen_ok, hp]
      cases p with
      | true => simpa using ih
      | false => simp
    split at h
    · rename_i t1 k z1 s1 b1 k1 a1 k2 a2 q he hu hv hq
      cases hk : sameK k1 k2 with
      | false => rw [hk] at h; cases h
      | true =>
        rw [hk] at h
        simp only [cond_true, Option.some.injEq] at h
        subst h
        have := sameK_eq hk
        subst this
        exact key he rfl hu hv (run_equalIn_int w d f.type k1 k a1 a2 (lookT_ok hT he).2) hq
    · rename_i he hu hv hq
      simp at h; subst h
      exact key he rfl hu hv (run_equalIn_bool' w d f.type _ _ (lookT_ok hT he).2) hq
    · rename_i t1 z1 s1 b1 a1 a2 q he hu hv hq
      simp at h; subst h
      refine key he rfl hu hv ?_ hq
      rw [run_equalIn_string w d f.type ⟨⟨a1⟩⟩ ⟨⟨a2⟩⟩ (lookT_ok hT he).2]
      rw [show (ByteArray.mk ⟨a1⟩).toList = a1 from ByteArray.toList_mk a1, show (ByteArray.mk ⟨a2⟩).toList = a2 from ByteArray.toList_mk a2]
    · cases h
theorem Sb.allocTL (h : Sb β X G D H O a w) (hb : Below w.heap.size w w') {t : TL} (ht : ∀ g, t.blks g → w.heap.size ≤ g) (hq : t.p (okOf X.ok X.w.heap.size β H (t :: O) w') w') : Sb β X G D H (t :: O) a w' := by
  have h' := h.below hb
  have hevo : Evo (okOf X.ok X.w.heap.size β H O w) w w' := (Evo.of_below hb).mono fun b o hk => hk.2.1
  have hok : ∀ b o, okOf X.ok X.w.heap.size β H O w b o → okOf X.ok X.w.heap.size β H (t :: O) w' b o := by
    rintro b o ⟨h1, h2, h3, h4⟩
    refine ⟨h1, Nat.lt_of_lt_of_le h2 hb.size, h3, fun u hu hc => ?_⟩
    rcases List.mem_cons.1 hu with rfl | hu
    · have := ht b (u.cb hc); omega
    · exact h4 u hu hc
  refine { h' with dat := (h.dat.evo hevo).weak hok, own := fun u hu => ?_, dHO := fun p hp u hu => ?_, dOO := List.Pairwise.cons (fun u hu g hg hg2 => ?_) h'.dOO }
  · rcases List.mem_cons.1 hu with rfl | hu
    · exact ⟨hq, fun g hg => .inl (Nat.le_trans h.bel.size (ht g hg))⟩
    · exact ⟨u.weak (u.keep (h.own u hu).1 (fun g hg => hb.block g (h.olt hu hg)) hevo) hok, (h.own u hu).2⟩
  · rcases List.mem_cons.1 hu with rfl | hu
    · intro hg
      have := ht _ hg
      have := h.hlt hp
      omega
    · exact h'.dHO p hp u hu
  · have := ht g hg
    have := h.olt hu hg2
    omega
theorem Sb.allocOwn (h : Sb β X G D H O a w) (hb : Below w.heap.size w w') {v : Value} {e sz m : Nat} {xs : List Value} (hv : v.ownBlock = some w.heap.size ∨ v.ownBlock = none) (hm : lenV v = m) (hown : w'.ownsRowS 0 e sz v m xs) :
    Sb β X G D H (tl v e sz :: O) a w' := by
  subst hm
  refine h.allocTL hb (t := tl v e sz) (fun g hg => ?_) ⟨xs, hown⟩
  rcases hv with hv | hv
  · have hg : v.ownBlock = some g := hg
    rw [hv] at hg; injection hg with hg; omega
  · have hg : v.ownBlock = some g := hg
    rw [hv] at hg; cases hg
theorem own_new (w : World) (B : Nat) (hB : B ≤ w.heap.size) (e sz m : Nat) (cs : List Value) (hl : cs.length = m * sz) (hm : m ≤ maxLen) :
    (w.alloc (.cells cs.toArray e)).ownsRowS B e sz (.slice (some ⟨w.heap.size, 0, none⟩) m m) m cs :=
  ⟨hl, .inr ⟨w.heap.size, m, cs.toArray, (0, 0), rfl, hB, heap_alloc_new w _, .inl rfl, Nat.le_refl _, hm, by simp [hl], by rw [← hl]; simp⟩⟩
theorem step_buildOwn0 (hT : TabOk P T) (h : Sb β X G D H O a w) {t : TypeId} {d : Nat} {ps : String} {af : Array Edge} {ty : TypeId} {gd : Option (Nat × Bool)}
    (hg : guardV ops G ⟨some d, .buildSlice t 0 ⟨[]⟩, ty, ps, af, gd⟩ = some true) (hlt : okD X d = true)
    {τ : Type} {r : RT τ} {e : TypeId} {te ee : TE} (ht : lookT T t = some te) (htd : te.d = .slice e) (he : lookT T e = some ee)
    (hk : ∀ b a' w', isV (rSl r) (okOf X.ok X.w.heap.size β H (tl (.slice (some ⟨b, 0, none⟩) (List.length ([] : List τ)) 0) e ee.size :: O) w') w' [] (.slice (some ⟨b, 0, none⟩) (List.length ([] : List τ)) 0) →
      Sb β X (setN G d (.v (.slice (some ⟨b, 0, none⟩) (List.length ([] : List τ)) 0))) D H (tl (.slice (some ⟨b, 0, none⟩) (List.length ([] : List τ)) 0) e ee.size :: O) a' w' → wpList P ops Q rest a' w') :
    wpList P ops Q (⟨some d, .buildSlice t 0 ⟨[]⟩, ty, ps, af, gd⟩ :: rest) a w := by
  have hrun : (execOp a.eval ⟨some d, .buildSlice t 0 ⟨[]⟩, ty, ps, af, gd⟩).run P w = .ok (.value (.slice (some ⟨w.heap.size, 0, none⟩) 0 0)) (w.alloc (.cells #[] e)) := by
    have hun : (underlying t).run P w = .ok (.slice e) w := by rw [run_under hT w ht, htd]
    unfold execOp
    simp [Instr.buildSlice, hun, run_sizeOf' hT w he, Instr.fill, newRow]
    rw [show Array.range 0 = #[] from by simp [Array.range]]
    simp
  refine wpList_go (guardV_ok h hg) (wp_value hrun ?_)
  have hb : Below w.heap.size w (w.alloc (.cells #[] e)) := (Below.refl _ _).alloc (Nat.le_refl _) _
  exact hk _ _ _ (isV_sl.2 ⟨_, 0, 0, rfl, rfl, Nat.le_refl _, fun h => absurd h (by omega)⟩)
    ((h.allocOwn hb (.inl rfl) rfl (own_new w 0 (Nat.zero_le _) e ee.size 0 [] (by simp) (by simp [maxLen]))).put hlt (.v _))
end
end Gd

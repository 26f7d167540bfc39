/- Parts of slices and strings; conversions; text put together. -/
import Derived.Test.YtnlnadfpfekeiaaDoorGAppend
namespace Gd
open Go Go.RowKit
set_option linter.unusedVariables false
set_option linter.unusedSimpArgs false

/-- A part of a list. -/
def slc {α : Type} (xs : List α) (lo hi : Int) : Option (List α) := if 0 ≤ lo ∧ lo ≤ hi ∧ hi ≤ (xs.length : Int) then some ((xs.drop lo.toNat).take (hi - lo).toNat) else none
theorem slc_ok {α : Type} {xs ys : List α} {lo hi : Int} (h : slc xs lo hi = some ys) : 0 ≤ lo ∧ lo ≤ hi ∧ hi ≤ (xs.length : Int) ∧ ys = (xs.drop lo.toNat).take (hi - lo).toNat ∧ ys.length = (hi - lo).toNat := by
  unfold slc at h
  split at h
  · rename_i hc
    have := (Option.some.inj h).symm
    refine ⟨hc.1, hc.2.1, hc.2.2, this, ?_⟩
    rw [this]; simp; omega
  · cases h

/-- A bound that is written, or left out. -/
def bndV (G : GL) (x : Option Operand) (dflt i : Int) : Prop :=
  match x with
  | none => i = dflt
  | some x => ∃ k, gv G x = some (.v (.int k i))

def scat (a b : Str) : Option Str := if a.length + b.length ≤ 9223372036854775807 then some (a ++ b) else none
def bstr (xs : List Int) : Str := xs.map fun i => UInt8.ofNat i.toNat
def sbytes (s : Str) : List Int := s.map fun c => (c.toNat : Int)

section
variable {P : Program} {T : Tab} {β : Nat → Nat} {X : Cx} {G : GL} {D : List DF} {H : HL} {O : List TL} {a : Act} {w w' : World}
variable {ops : Array Oper} {Q : Exit → Act → World → Prop} {rest : List Oper}

theorem run_sliceBound' {k : IntKind} {i : Int} {y : Nat} {code : BoundsCode} (h0 : 0 ≤ i) (h1 : i ≤ y) : (Instr.sliceBound (.int k i) y code).run P w = .ok i.toNat w := by
  simp [Instr.sliceBound, asIntOf, h0, h1]

theorem run_bounds (h : Sb β X G D H O a w) {isS : Bool} {lo hi : Option Operand} {l h' : Int} {len cap : Nat} (hlo : bndV G lo 0 l) (hhi : bndV G hi len h') (h0 : 0 ≤ l) (h1 : l ≤ h') (h2 : h' ≤ len) (h3 : len ≤ cap) :
    (Instr.sliceBounds isS len cap (lo.map a.eval) (hi.map a.eval) none).run P w = .ok (l.toNat, h'.toNat, cap) w := by
  have hH : ∀ c : BoundsCode, (match (hi.map a.eval : Option Value) with | some v => Instr.sliceBound v cap c | none => pure len : Sem Nat).run P w = .ok h'.toNat w := by
    intro c
    cases hi with
    | none => simp only [bndV] at hhi; subst hhi; simp
    | some x => obtain ⟨k, hx⟩ := hhi; simp only [Option.map_some, h.ev hx, den_v]; exact run_sliceBound' (by omega) (by omega)
  have hL : (match (lo.map a.eval : Option Value) with | some v => Instr.sliceBound v h'.toNat .sliceB | none => pure 0 : Sem Nat).run P w = .ok l.toNat w := by
    cases lo with
    | none => simp only [bndV] at hlo; subst hlo; simp
    | some x => obtain ⟨k, hx⟩ := hlo; simp only [Option.map_some, h.ev hx, den_v]; exact run_sliceBound' h0 (by omega)
  unfold Instr.sliceBounds
  cases hi with
  | none =>
    have hH' := hH .sliceAcap
    simp only [Option.map_none, Sem.run_pure] at hH'
    injection hH' with e1
    simp only [Option.map_none, Sem.run_bind, Sem.run_pure, Result.andThen_ok, e1]
    cases lo with
    | none => simp only [Option.map_none, Sem.run_pure] at hL ⊢; injection hL with e2; simp [← e2]
    | some x => simp only [Option.map_some] at hL ⊢; simp [hL]
  | some x =>
    have hH' := hH (if isS then .sliceAcap else .sliceAlen)
    simp only [Option.map_some] at hH'
    simp only [Option.map_some, Sem.run_bind, Sem.run_pure, Result.andThen_ok, hH']
    cases lo with
    | none => simp only [Option.map_none, Sem.run_pure] at hL ⊢; injection hL with e2; simp [← e2]
    | some x => simp only [Option.map_some] at hL ⊢; simp [hL]

theorem step_slice (hT : TabOk P T) (h : Sb β X G D H O a w) {t : TypeId} {x : Operand} {lo hi : Option Operand} {d : Nat} {ps : String} {af : Array Edge} {ty : TypeId} {gd : Option (Nat × Bool)}
    (hg : guardV ops G ⟨some d, .slice t x lo hi none, ty, ps, af, gd⟩ = some true) (hlt : okD X d = true)
    {τ : Type} {r : RT τ} {xs ys : List τ} {A : Option Addr} {m c : Nat} {l u : Int} {e : TypeId} {te ee : TE} (ht : lookT T t = some te) (htd : te.d = .slice e) (he : lookT T e = some ee) (hs : ee.size = r.size)
    (hx : gv G x = some (.v (.slice A m c))) (hD : isV (rSl r) (okOf X.ok X.w.heap.size β H O w) w xs (.slice A m c)) (hlo : bndV G lo 0 l) (hhi : bndV G hi m u) (hsl : slc xs l u = some ys)
    (hk : ∀ A' c' a', isV (rSl r) (okOf X.ok X.w.heap.size β H O w) w ys (.slice A' ys.length c') → Sb β X (setN G d (.v (.slice A' ys.length c'))) D H O a' w → wpList P ops Q rest a' w) :
    wpList P ops Q (⟨some d, .slice t x lo hi none, ty, ps, af, gd⟩ :: rest) a w := by
  obtain ⟨A0, m0, c0, hv, hl, hc, hn⟩ := isV_sl.1 hD
  injection hv with e1 e2 e3
  subst e1; subst e2; subst e3
  obtain ⟨h0, h1, h2, hys, hyl⟩ := slc_ok hsl
  have hun : (underlying t).run P w = .ok (.slice e) w := by rw [run_under hT w ht, htd]
  have hb := run_bounds (P := P) (isS := true) h hlo hhi h0 h1 (by omega) hc
  have hrun : (execOp a.eval ⟨some d, .slice t x lo hi none, ty, ps, af, gd⟩).run P w = .ok (.value (.slice (if c = l.toNat then A else A.map (·.add (l.toNat * r.size))) ys.length (c - l.toNat))) w := by
    unfold execOp
    have hlen : u.toNat - l.toNat = ys.length := by omega
    simp only [h.ev hx, den_v]
    simp [Instr.sliceAt, hun, Instr.slice, hb, run_sizeOf' hT w he, hs, hlen]
  refine step_val h (g := none) hg rfl hlt hrun fun a' h' => hk _ _ a' ?_ h'
  refine isV_sl.2 ⟨_, _, _, rfl, rfl, by omega, fun hpos => ?_⟩
  obtain ⟨b, o, rfl, hx'⟩ := hn (by omega)
  have hne : ¬ c = l.toNat := by omega
  rw [if_neg hne]
  refine ⟨b, o + l.toNat * r.size, by simp [Addr.add_lit], fun i y hy => ?_⟩
  have hi : i < (u - l).toNat := by have := (List.getElem?_eq_some_iff.1 hy).1; omega
  rw [hys, List.getElem?_take_of_lt hi, List.getElem?_drop] at hy
  obtain ⟨cs, hr, ha⟩ := hx' _ y hy
  refine ⟨cs, hr, ?_⟩
  have e4 : o + (l.toNat + i) * r.size = o + l.toNat * r.size + i * r.size := by rw [Nat.add_mul]; omega
  rw [← e4]
  exact ha

theorem step_sslice (hT : TabOk P T) (h : Sb β X G D H O a w) {t : TypeId} {x : Operand} {lo hi : Option Operand} {d : Nat} {ps : String} {af : Array Edge} {ty : TypeId} {gd : Option (Nat × Bool)}
    (hg : guardV ops G ⟨some d, .slice t x lo hi none, ty, ps, af, gd⟩ = some true) (hlt : okD X d = true)
    {s z : Str} {l u : Int} {te : TE} (ht : lookT T t = some te) (htd : te.d = .string)
    (hx : gv G x = some (.v (strV s))) (hlo : bndV G lo 0 l) (hhi : bndV G hi s.length u) (hsl : slc s l u = some z)
    (hk : ∀ a', Sb β X (setN G d (.v (strV z))) D H O a' w → wpList P ops Q rest a' w) :
    wpList P ops Q (⟨some d, .slice t x lo hi none, ty, ps, af, gd⟩ :: rest) a w := by
  obtain ⟨h0, h1, h2, hys, hyl⟩ := slc_ok hsl
  have hun : (underlying t).run P w = .ok .string w := by rw [run_under hT w ht, htd]
  have hb := run_bounds (P := P) (isS := false) (cap := s.length) h hlo hhi h0 h1 (by omega) (Nat.le_refl _)
  refine step_val h (g := none) hg rfl hlt (v := strV z) ?_ hk
  have hex : (ByteArray.mk s.toArray).extract l.toNat u.toNat = ByteArray.mk z.toArray := by
    rw [ByteArray.extract_mk, hys]; congr 2; congr 1; omega
  unfold execOp
  simp only [h.ev hx, den_v]
  have hsz : (ByteArray.mk s.toArray).size = s.length := rfl
  simp only [Instr.sliceAt, Sem.run_bind, hun, Result.andThen_ok, Instr.slice, strV, Option.map_none, Option.isSome_none, Bool.false_eq_true, if_false, Sem.run_pure, hsz, hb, hex]

theorem step_scat (h : Sb β X G D H O a w) {t : TypeId} {x y : Operand} {yt : TypeId} {d : Nat} {ps : String} {af : Array Edge} {ty : TypeId} {gd : Option (Nat × Bool)}
    (hg : guardV ops G ⟨some d, .binOp .add t x y yt, ty, ps, af, gd⟩ = some true) (hlt : okD X d = true)
    {s z q : Str} (hx : gv G x = some (.v (strV s))) (hy : gv G y = some (.v (strV z))) (hc : scat s z = some q)
    (hk : ∀ a', Sb β X (setN G d (.v (strV q))) D H O a' w → wpList P ops Q rest a' w) :
    wpList P ops Q (⟨some d, .binOp .add t x y yt, ty, ps, af, gd⟩ :: rest) a w := by
  unfold scat at hc
  split at hc
  · rename_i hle
    have hq := (Option.some.inj hc).symm
    subst hq
    refine step_val h (g := none) hg rfl hlt (v := strV (s ++ z)) ?_ hk
    have hr : (Op.stringOp .add (ByteArray.mk s.toArray) (ByteArray.mk z.toArray)).run P w = .ok (.string (ByteArray.mk (s ++ z).toArray)) w := by
      rw [run_string_add_sum _ _ _ (by exact hle)]
      congr 2
    unfold execOp
    simp only [h.ev hx, h.ev hy, den_v, strV]
    simp [eqGuard_add, binOp_string_add, hr]
  · cases hc

theorem foldl_push (ns : List Int) (s : Str) : ns.foldl (fun r n => r.push (UInt8.ofNat n.toNat)) (ByteArray.mk s.toArray) = ByteArray.mk (s ++ bstr ns).toArray := by
  induction ns generalizing s with
  | nil => simp [bstr]
  | cons x ns ih =>
    simp only [List.foldl_cons]
    have : (ByteArray.mk s.toArray).push (UInt8.ofNat x.toNat) = ByteArray.mk (s ++ [UInt8.ofNat x.toNat]).toArray := by
      apply ByteArray.ext; simp [ByteArray.push]
    rw [this, ih]
    simp [bstr]

theorem step_b2s (hT : TabOk P T) (h : Sb β X G D H O a w) {s t : TypeId} {x : Operand} {d : Nat} {ps : String} {af : Array Edge} {ty : TypeId} {gd : Option (Nat × Bool)}
    (hg : guardV ops G ⟨some d, .convert s t x, ty, ps, af, gd⟩ = some true) (hlt : okD X d = true)
    {xs : List Int} {A : Option Addr} {m c : Nat} {e : TypeId} {te ee se : TE} (ht : lookT T t = some te) (htd : te.d = .string) (hse : lookT T s = some se) (hsd : se.d = .slice e) (he : lookT T e = some ee) (hed : ee.d = .int .u8)
    (hx : gv G x = some (.v (.slice A m c))) (hD : isV (rSl (rInt .u8)) (okOf X.ok X.w.heap.size β H O w) w xs (.slice A m c))
    (hk : ∀ a', Sb β X (setN G d (.v (strV (bstr xs)))) D H O a' w → wpList P ops Q rest a' w) :
    wpList P ops Q (⟨some d, .convert s t x, ty, ps, af, gd⟩ :: rest) a w := by
  obtain ⟨A0, m0, c0, hv, hl, hc, hn⟩ := isV_sl.1 hD
  injection hv with e1 e2 e3
  subst e1; subst e2; subst e3
  refine step_val h (g := none) hg rfl hlt (v := strV (bstr xs)) ?_ hk
  have hus := (lookT_ok hT hse).2; rw [hsd] at hus
  have hut := (lookT_ok hT ht).2; rw [htd] at hut
  have hue := (lookT_ok hT he).2; rw [hed] at hue
  have hconv := run_convert_bytes_string (P := P) w s t e A m c hus hue hut
  have hrun : (Conv.bytesToString (.slice A m c)).run P w = .ok (strV (bstr xs)) w := by
    cases A with
    | none =>
      have hm0 : m = 0 := by
        rcases Nat.eq_zero_or_pos m with h0 | h0
        · exact h0
        · obtain ⟨b, o, hA, _⟩ := hn h0; cases hA
      have : xs = [] := List.eq_nil_of_length_eq_zero (by omega)
      subst this
      simp [Conv.bytesToString, bstr, strV]; rfl
    | some ad =>
      have hload : (loadCells ad m).run P w = .ok (xs.map (Value.int .u8)).toArray w := by
        have := run_loadCells_list (P := P) w ad (xs.map (Value.int .u8)) (fun j v hj => by
          rw [List.getElem?_map] at hj
          obtain ⟨y, hy, rfl⟩ := Option.map_eq_some_iff.1 hj
          have hj' := (List.getElem?_eq_some_iff.1 hy).1
          obtain ⟨b, o, hA, hcs⟩ := hn (by omega)
          injection hA with hA
          subst hA
          obtain ⟨cs, hr, ha⟩ := hcs j y hy
          have hcs' : cs = [.int .u8 y] := hr
          subst hcs'
          have := (ha 0 _ rfl).2
          rw [addr_add]
          simpa [rInt] using this)
        simpa [hl] using this
      rw [run_bytesToString w ad m c xs hload]
      have := foldl_push xs []
      simp only [List.nil_append] at this
      show Result.ok (Value.string (xs.foldl _ (ByteArray.mk ([] : List UInt8).toArray))) w = _
      rw [this]; rfl
  unfold execOp
  simp only [h.ev hx, den_v]
  simp [hconv, hrun]
end
end Gd

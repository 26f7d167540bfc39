/- Parts of slices and strings; conversions; text put together. -/
import Derived.Test.YtnlnadfpfekeiaaDoorGAppend
namespace Gd
open Go Go.RowKit
set_option linter.unusedVariables false
set_option linter.unusedSimpArgs false
def slc {α : Type} (xs : List α) (lo hi : Int) : Option (List α) := if 0 ≤ lo ∧ lo ≤ hi ∧ hi ≤ (xs.length : Int) then some ((xs.drop lo.toNat).take (hi - lo).toNat) else none
theorem slc_ok {α : Type} {xs ys : List α} {lo hi : Int} (h : slc xs lo hi = some ys) : 0 ≤ lo ∧ lo ≤ hi ∧ hi ≤ (xs.length : Int) ∧ ys = (xs.drop lo.toNat).take (hi - lo).toNat ∧ ys.length = (hi - lo).toNat := by
  unfold slc at h
  split at h
  · rename_i hc
    have := (Option.some.inj h).symm
    refine ⟨hc.1, hc.2.1, hc.2.2, this, ?_⟩
    rw [this]; simp; omega
  · cases h
def scat (a b : Str) : Option Str := if a.length + b.length ≤ 9223372036854775807 then some (a ++ b) else none
def bstr (xs : List Int) : Str := xs.map fun i => UInt8.ofNat i.toNat
def sbytes (s : Str) : List Int := s.map fun c => (c.toNat : Int)
section
variable {P : Program} {T : Tab} {β : Nat → Nat} {X : Cx} {G : GL} {D : List DF} {H : HL} {O : List TL} {a : Act} {w w' : World}
variable {ops : Array Oper} {Q : Exit → Act → World → Prop} {rest : List Oper}
theorem run_sliceBound' {k : IntKind} {i : Int} {y : Nat} {code : BoundsCode} (h0 : 0 ≤ i) (h1 : i ≤ y) : (Instr.sliceBound (.int k i) y code).run P w = .ok i.toNat w := by
  simp [Instr.sliceBound, asIntOf, h0, h1]
theorem foldl_push (ns : List Int) (s : Str) : ns.foldl (fun r n => r.push (UInt8.ofNat n.toNat)) (ByteArray.mk s.toArray) = ByteArray.mk (s ++ bstr ns).toArray := by
  induction ns generalizing s with
  | nil => simp [bstr]
  | cons x ns ih =>
    simp only [List.foldl_cons]
    have : (ByteArray.mk s.toArray).push (UInt8.ofNat x.toNat) = ByteArray.mk (s ++ [UInt8.ofNat x.toNat]).toArray := by
      apply ByteArray.ext; simp [ByteArray.push]
    rw [this, ih]
    simp [bstr]
end
end Gd

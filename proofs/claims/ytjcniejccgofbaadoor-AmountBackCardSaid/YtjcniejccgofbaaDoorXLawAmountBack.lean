/- AmountBack: proved for every input. The plain law, the walk of the law, and the statement. Conditions: none. -/
import Derived.Test.YtjcniejccgofbaaDoorRows
import Derived.Test.YtjcniejccgofbaaDoorXRuns
import Derived.Test.YtjcniejccgofbaaDoorXPlainAmountBack
import Derived.Test.YtjcniejccgofbaaDoorXQ
import Derived.WalkKit
import Derived.ProofKit
import Derived.OpenShut
import Derived.Test.YtjcniejccgofbaaDoorCards
import Derived.Test.YtjcniejccgofbaaDoorTie
import Derived.Lay
import Derived.Stop.LaidErr
import Derived.LaidOnce
import Derived.SevenTiedAt
import Derived.MakeChecks
namespace Gx
open Go Gd Go.Proofs Go.Proofs.YtjcniejccgofbaaDoor Go.RowKit Go.WideShapes Go.ChangeShapes
set_option linter.unusedVariables false
theorem op3 : OpensT Tryd.prog 3 (.int .i64) := openT_int (show Tryd.prog.underlying 3 = some (.int .i64) by kernel_rfl) (by kernel_rfl)
end Gx
namespace Go.Proofs.YtjcniejccgofbaaDoor
open Go Gd Gx Go.ChangeShapes Go.WideShapes Go.ChangeAt Go.RowKit
set_option linter.unusedVariables false
theorem own : ownKnob Tryd.prog.godebug = none := by kernel_rfl
theorem laidIs : Rows.amountBackRow.laid = [("math/bits.deBruijn32tab", Rows.laid_math_bits_deBruijn32tab), ("math/bits.deBruijn64tab", Rows.laid_math_bits_deBruijn64tab), ("internal/strconv.uint64pow10", Lib.tabData .u64 Lib.pow10Tab), ("unicode/utf8.acceptRanges", Rows.laid_unicode_utf8_acceptRanges), ("billing/amount.powers", Lib.tabData .i64 ([1, 10, 100, 1000, 10000] : List Int)), ("unicode/utf8.first", Rows.laid_unicode_utf8_first)] := by kernel_rfl
theorem globs {W : World} (hL : laidMetH Tryd.prog Rows.amountBackRow.laid W) : GlobOk tx.gl (lt W) W := by
  rw [MakeChecks.laidMetH_plain _ _ _ (by kernel_rfl), laidIs] at hL
  have t4 := Lib.tabIs_of_head (g := 4) (t := 85) (e := 71) (n := 20) (by kernel_rfl) (by kernel_rfl) (by kernel_rfl) (by kernel_rfl) (by kernel_rfl) (by kernel_rfl) hL.tail.tail
  have t0 := Lib.tabIs_of_head (g := 0) (t := 52) (e := 3) (n := 5) (by kernel_rfl) (by kernel_rfl) (by kernel_rfl) (by kernel_rfl) (by kernel_rfl) (by kernel_rfl) hL.tail.tail.tail.tail
  intro q hq
  rcases List.mem_cons.1 hq with rfl | hq
  · exact glob_of_tab t0 (by kernel_rfl) (by kernel_rfl) (by kernel_rfl)
  rcases List.mem_cons.1 hq with rfl | hq
  · exact glob_of_tab t4 (by kernel_rfl) (by kernel_rfl) (by kernel_rfl)
  cases hq
set_option maxRecDepth 100000 in
/-- What the walk and the plain law give. -/
theorem amountBack_lifted (os : Os) (started : os.Started) (H : Type) (enc : TypeId × Value → H) :
    ReturnsInHanded {} Tryd.checked os 8 .any (fun w args => (Rows.amountBackSpec.pre enc Tryd.prog Tryd.f8 [] false w args ∧ laidMetH Tryd.prog Rows.amountBackRow.laid w) ∧ sizedMet enc Tryd.prog Tryd.f8 (OpenSpec.ofChange Rows.amountBackSpec) false w args)
      (Rows.amountBackSpec.post enc Tryd.prog Tryd.f8 false true false false) := by
  refine returnsInHanded_of_change_and (C := Tryd.checked) (X := fun w _ => laidMetH Tryd.prog Rows.amountBackRow.laid w) (fun _ _ _ hh h => h.of_heap hh) own started (by kernel_rfl) Tryd.func8
    (ChangeSpec.witness_shaped (enc := enc) (C := Tryd.checked) (os := os) (X := fun w _ => laidMetH Tryd.prog Rows.amountBackRow.laid w) false (World.laidAll Tryd.prog os Rows.amountBackRow.laid) #[.int .i64 0] 8 (World.laidAll_os _ _ _)
      (World.shaped_of_ZipB (by kernel_rfl) (by kernel_rfl)) (by kernel_rfl) (by kernel_rfl) (by kernel_rfl)
      (by rw [MakeChecks.laidMetH_plain _ _ _ (by kernel_rfl)]; exact laidMet_laidAll _ (by kernel_rfl) (by kernel_rfl))) ?_
  intro W base args ds gs before hval0 hW _ hz hL _
  have hval : ∀ (j : Nat) t v, Tryd.f8.params[j]? = some t → args[j]? = some v → Value.okWide Tryd.prog W .any base t v := hval0
  obtain ⟨v0, x0, hargs, hv0, g0⟩ := open1 (show Tryd.f8.params = #[3] by kernel_rfl) hval hW op3
  subst hargs
  obtain ⟨N, hF⟩ := law_AmountBack x0 g0
  exact law_post (tb := 4) (by kernel_rfl) (show Tryd.prog.underlying 4 = some .bool by kernel_rfl) rfl (by kernel_rfl) (by kernel_rfl) (fun d hd => (match d, hd with
      | [d0], _ => rfl)) hW
    (post_true (c := con_billinglaw01_AmountBack N) (ok_billinglaw01_AmountBack N (lt W) W [] (fun _ => 0) (fun _ => undef) x0 true [v0] (fun _ _ h => h) (globs hL) rfl lends_nil (args1 hv0) hF) rfl)

/-- The row of AmountBack. -/
theorem amountBack_row : Rows.AmountBackSaid :=
  OpenClaim.holds_of_wide 8 Tryd.f8 rfl rfl rfl rfl rfl rfl rfl ⟨rfl, rfl, rfl, rfl, rfl⟩ rfl rfl rfl rfl rfl (by kernel_rfl) Tryd.func8 (by kernel_rfl)
    (of_decide_eq_true (by kernel_rfl)) (by unfold Func.isWrapper; first | (rw [if_pos (by decide +kernel)]; kernel_rfl) | (rw [if_neg (by decide +kernel)]; exact ⟨rfl, rfl⟩))
    (fun os started H enc _ => amountBack_lifted os started H enc)
/-- The card of AmountBack. -/
theorem amountBack_proved : Rows.AmountBackCardSaid :=
  Claim7.holds_tied_plain_at .later [] [.data, .data, .data, .data, .data, .pinned] true (true, "fad210967e209c7d3885355149286db7f8051611d1a76ebd06ee20d1ec0252a5") false
    amountBack_row (fun _ h => by cases h) (by kernel_rfl) (fun _ h => by cases h) amountBack_row_tie rfl ⟨rfl, rfl⟩ (by kernel_rfl) rfl
    (fun f fn hf hfn => by
      obtain rfl : f = 8 := Option.some.inj ((show Tryd.prog.funcNamed "billing/billinglaw01.AmountBack" = some 8 by kernel_rfl).symm.trans hf) |>.symm
      obtain rfl : fn = Tryd.f8 := (Option.some.inj (Tryd.func8.symm.trans hfn)).symm
      exact ⟨by kernel_rfl, fun j t ht => by
        rw [show Tryd.f8.params = #[3] by kernel_rfl] at ht
        have hm : t ∈ [3] := by simpa using Array.mem_of_getElem? ht
        have hall : ([3].all fun u => !Tryd.prog.wantsStandIn u) = true := by kernel_rfl
        exact (show Tryd.prog.wantsStandIn t = false by simpa using List.all_eq_true.1 hall t hm)⟩)
    (by kernel_rfl)
end Go.Proofs.YtjcniejccgofbaaDoor

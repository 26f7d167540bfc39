/- AmountAdds: proved for every input. The plain law, the walk of the law, and the statement. Conditions: none. -/
import Derived.Test.YtjcniejccgofbaaDoorRows
import Derived.Test.YtjcniejccgofbaaDoorXRuns
import Derived.Test.YtjcniejccgofbaaDoorXPlainAmountAdds
import Derived.Test.YtjcniejccgofbaaDoorXQ
import Derived.WalkKit
import Derived.ProofKit
import Derived.OpenShut
import Derived.Test.YtjcniejccgofbaaDoorCards
import Derived.Test.YtjcniejccgofbaaDoorTie
import Derived.Lay
import Derived.Stop.LaidErr
import Derived.LaidOnce
import Derived.SevenTiedAt
import Derived.MakeChecks
namespace Gx
open Go Gd Go.Proofs Go.Proofs.YtjcniejccgofbaaDoor Go.RowKit Go.WideShapes Go.ChangeShapes
set_option linter.unusedVariables false
theorem op3 : OpensT Tryd.prog 3 (.int .i64) := openT_int (show Tryd.prog.underlying 3 = some (.int .i64) by kernel_rfl) (by kernel_rfl)
theorem op27 : OpensT Tryd.prog 27 (.sl (.int .i64)) := openT_sl (show Tryd.prog.underlying 27 = some (.slice 3) by kernel_rfl) (by kernel_rfl) op3 (by decide)
end Gx
namespace Go.Proofs.YtjcniejccgofbaaDoor
open Go Gd Gx Go.ChangeShapes Go.WideShapes Go.ChangeAt Go.RowKit
set_option linter.unusedVariables false
theorem own : ownKnob Tryd.prog.godebug = none := by kernel_rfl
theorem laidIs : Rows.amountAddsRow.laid = [("math/bits.deBruijn32tab", Rows.laid_math_bits_deBruijn32tab), ("math/bits.deBruijn64tab", Rows.laid_math_bits_deBruijn64tab), ("internal/strconv.uint64pow10", Lib.tabData .u64 Lib.pow10Tab), ("unicode/utf8.acceptRanges", Rows.laid_unicode_utf8_acceptRanges), ("billing/amount.powers", Lib.tabData .i64 ([1, 10, 100, 1000, 10000] : List Int)), ("unicode/utf8.first", Rows.laid_unicode_utf8_first)] := by kernel_rfl
theorem globs {W : World} (hL : laidMetH Tryd.prog Rows.amountAddsRow.laid W) : GlobOk tx.gl (lt W) W := by
  rw [MakeChecks.laidMetH_plain _ _ _ (by kernel_rfl), laidIs] at hL
  have t4 := Lib.tabIs_of_head (g := 4) (t := 85) (e := 71) (n := 20) (by kernel_rfl) (by kernel_rfl) (by kernel_rfl) (by kernel_rfl) (by kernel_rfl) (by kernel_rfl) hL.tail.tail
  have t0 := Lib.tabIs_of_head (g := 0) (t := 52) (e := 3) (n := 5) (by kernel_rfl) (by kernel_rfl) (by kernel_rfl) (by kernel_rfl) (by kernel_rfl) (by kernel_rfl) hL.tail.tail.tail.tail
  intro q hq
  rcases List.mem_cons.1 hq with rfl | hq
  · exact glob_of_tab t0 (by kernel_rfl) (by kernel_rfl) (by kernel_rfl)
  rcases List.mem_cons.1 hq with rfl | hq
  · exact glob_of_tab t4 (by kernel_rfl) (by kernel_rfl) (by kernel_rfl)
  cases hq
set_option maxRecDepth 100000 in
/-- What the walk and the plain law give. -/
theorem amountAdds_lifted (os : Os) (started : os.Started) (H : Type) (enc : TypeId × Value → H) :
    ReturnsInHanded {} Tryd.checked os 11 .any (fun w args => (Rows.amountAddsSpec.pre enc Tryd.prog Tryd.f11 [] false w args ∧ laidMetH Tryd.prog Rows.amountAddsRow.laid w) ∧ sizedMet enc Tryd.prog Tryd.f11 (OpenSpec.ofChange Rows.amountAddsSpec) false w args)
      (Rows.amountAddsSpec.post enc Tryd.prog Tryd.f11 false true false false) := by
  refine returnsInHanded_of_change_and (C := Tryd.checked) (X := fun w _ => laidMetH Tryd.prog Rows.amountAddsRow.laid w) (fun _ _ _ hh h => h.of_heap hh) own started (by kernel_rfl) Tryd.func11
    (ChangeSpec.witness_shaped (enc := enc) (C := Tryd.checked) (os := os) (X := fun w _ => laidMetH Tryd.prog Rows.amountAddsRow.laid w) false (World.laidAll Tryd.prog os Rows.amountAddsRow.laid) #[.int .i64 0, .int .i64 0, .slice none 0 0] 8 (World.laidAll_os _ _ _)
      (World.shaped_of_ZipB (by kernel_rfl) (by kernel_rfl)) (by kernel_rfl) (by kernel_rfl) (by kernel_rfl)
      (by rw [MakeChecks.laidMetH_plain _ _ _ (by kernel_rfl)]; exact laidMet_laidAll _ (by kernel_rfl) (by kernel_rfl))) ?_
  intro W base args ds gs before hval0 hW _ hz hL _
  have hval : ∀ (j : Nat) t v, Tryd.f11.params[j]? = some t → args[j]? = some v → Value.okWide Tryd.prog W .any base t v := hval0
  obtain ⟨v0, v1, v2, x0, x1, x2, hargs, hv0, g0, hv1, g1, hv2, g2⟩ := open3 (show Tryd.f11.params = #[3, 3, 27] by kernel_rfl) hval hW op3 op3 op27
  subst hargs
  obtain ⟨N, hF⟩ := law_AmountAdds x0 g0 x1 g1 x2 g2 (by have h : List.length x2 * Tryd.prog.bytesOf 3 ≤ reachBytes := weight_of 2 hW hz (show Tryd.prog.underlying 27 = some (.slice 3) by kernel_rfl) rfl rfl hv2; rw [show Tryd.prog.bytesOf 3 = 8 by kernel_rfl] at h; exact h)
  exact law_post (tb := 4) (by kernel_rfl) (show Tryd.prog.underlying 4 = some .bool by kernel_rfl) rfl (by kernel_rfl) (by kernel_rfl) (fun d hd => (match d, hd with
      | [d0, d1, d2], _ => rfl)) hW
    (post_true (c := con_billinglaw01_AmountAdds N) (ok_billinglaw01_AmountAdds N (lt W) W [] (fun _ => 0) (fun _ => undef) (x0, x1, x2) true [v0, v1, v2] (fun _ _ h => h) (globs hL) rfl lends_nil (args3 hv0 hv1 hv2) hF) rfl)

/-- The row of AmountAdds. -/
theorem amountAdds_row : Rows.AmountAddsSaid :=
  OpenClaim.holds_of_wide 11 Tryd.f11 rfl rfl rfl rfl rfl rfl rfl ⟨rfl, rfl, rfl, rfl, rfl⟩ rfl rfl rfl rfl rfl (by kernel_rfl) Tryd.func11 (by kernel_rfl)
    (of_decide_eq_true (by kernel_rfl)) (by unfold Func.isWrapper; first | (rw [if_pos (by decide +kernel)]; kernel_rfl) | (rw [if_neg (by decide +kernel)]; exact ⟨rfl, rfl⟩))
    (fun os started H enc _ => amountAdds_lifted os started H enc)
/-- The card of AmountAdds. -/
theorem amountAdds_proved : Rows.AmountAddsCardSaid :=
  Claim7.holds_tied_plain_at .later [] [.data, .data, .data, .data, .data, .pinned] true (true, "fad210967e209c7d3885355149286db7f8051611d1a76ebd06ee20d1ec0252a5") false
    amountAdds_row (fun _ h => by cases h) (by kernel_rfl) (fun _ h => by cases h) amountAdds_row_tie rfl ⟨rfl, rfl⟩ (by kernel_rfl) rfl
    (fun f fn hf hfn => by
      obtain rfl : f = 11 := Option.some.inj ((show Tryd.prog.funcNamed "billing/billinglaw01.AmountAdds" = some 11 by kernel_rfl).symm.trans hf) |>.symm
      obtain rfl : fn = Tryd.f11 := (Option.some.inj (Tryd.func11.symm.trans hfn)).symm
      exact ⟨by kernel_rfl, fun j t ht => by
        rw [show Tryd.f11.params = #[3, 3, 27] by kernel_rfl] at ht
        have hm : t ∈ [3, 3, 27] := by simpa using Array.mem_of_getElem? ht
        have hall : ([3, 3, 27].all fun u => !Tryd.prog.wantsStandIn u) = true := by kernel_rfl
        exact (show Tryd.prog.wantsStandIn t = false by simpa using List.all_eq_true.1 hall t hm)⟩)
    (by kernel_rfl)
end Go.Proofs.YtjcniejccgofbaaDoor

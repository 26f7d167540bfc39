/- The walks, part 1. -/
import Derived.Test.YteiofmonhoddfaaGFns
import Derived.Test.YteiofmonhoddfaaProg
namespace Gd
open Go Go.Proofs
set_option linter.unusedVariables false
set_option linter.unusedSimpArgs false
def tab : Tab := [
  ⟨3, .int .i64, .int .i64 0, 1, 8⟩,
  ⟨4, .bool, .bool false, 1, 1⟩,
  ⟨5, .int .u8, .int .u8 0, 1, 1⟩,
  ⟨9, .string, strV [], 1, 16⟩,
  ⟨22, .slice 38, .slice none 0 0, 1, 24⟩,
  ⟨24, .struct ⟨[⟨"At", 3, 0, false, "", "", 0⟩, ⟨"Text", 9, 1, false, "", "", 8⟩, ⟨"Posts", 22, 2, false, "", "", 24⟩]⟩, .agg ⟨[.int .i64 0, strV [], .slice none 0 0]⟩, 3, 48⟩,
  ⟨27, .int .i64, .int .i64 0, 1, 8⟩,
  ⟨30, .slice 24, .slice none 0 0, 1, 24⟩,
  ⟨38, .struct ⟨[⟨"Account", 9, 0, false, "", "", 0⟩, ⟨"Amount", 3, 1, false, "", "", 16⟩]⟩, .agg ⟨[strV [], .int .i64 0]⟩, 2, 24⟩,
  ⟨46, .struct ⟨[⟨"From", 3, 0, false, "", "", 0⟩, ⟨"To", 3, 1, false, "", "", 8⟩]⟩, .agg ⟨[.int .i64 0, .int .i64 0]⟩, 2, 16⟩,
  ⟨48, .struct ⟨[⟨"Category", 9, 0, false, "", "", 0⟩, ⟨"Points", 3, 1, false, "", "", 16⟩, ⟨"Base", 3, 2, false, "", "", 24⟩, ⟨"Rounded", 3, 3, false, "", "", 32⟩]⟩, .agg ⟨[strV [], .int .i64 0, .int .i64 0, .int .i64 0]⟩, 4, 40⟩,
  ⟨49, .slice 48, .slice none 0 0, 1, 24⟩,
  ⟨50, .slice 82, .slice none 0 0, 1, 24⟩,
  ⟨52, .struct ⟨[⟨"Account", 3, 0, false, "", "", 0⟩, ⟨"Period", 46, 1, false, "", "", 8⟩, ⟨"Lines", 50, 3, false, "", "", 24⟩, ⟨"Taxes", 49, 4, false, "", "", 48⟩, ⟨"Net", 3, 5, false, "", "", 72⟩, ⟨"Tax", 3, 6, false, "", "", 80⟩, ⟨"Total", 3, 7, false, "", "", 88⟩]⟩, .agg ⟨[.int .i64 0, .int .i64 0, .int .i64 0, .slice none 0 0, .slice none 0 0, .int .i64 0, .int .i64 0, .int .i64 0]⟩, 8, 96⟩,
  ⟨63, .array 20 5, .agg ⟨[.int .u8 0, .int .u8 0, .int .u8 0, .int .u8 0, .int .u8 0, .int .u8 0, .int .u8 0, .int .u8 0, .int .u8 0, .int .u8 0, .int .u8 0, .int .u8 0, .int .u8 0, .int .u8 0, .int .u8 0, .int .u8 0, .int .u8 0, .int .u8 0, .int .u8 0, .int .u8 0]⟩, 20, 20⟩,
  ⟨64, .slice 5, .slice none 0 0, 1, 24⟩,
  ⟨82, .struct ⟨[⟨"Kind", 3, 0, false, "", "", 0⟩, ⟨"Sub", 3, 1, false, "", "", 8⟩, ⟨"Name", 9, 2, false, "", "", 16⟩, ⟨"Category", 9, 3, false, "", "", 32⟩, ⟨"Count", 3, 4, false, "", "", 48⟩, ⟨"Units", 3, 5, false, "", "", 56⟩, ⟨"Amount", 3, 6, false, "", "", 64⟩, ⟨"Rounded", 3, 7, false, "", "", 72⟩]⟩, .agg ⟨[.int .i64 0, .int .i64 0, strV [], strV [], .int .i64 0, .int .i64 0, .int .i64 0, .int .i64 0]⟩, 8, 80⟩]
theorem tabOk : TabOk Try.prog tab := ⟨⟨by kernel_rfl, by kernel_rfl⟩, ⟨by kernel_rfl, by kernel_rfl⟩, ⟨by kernel_rfl, by kernel_rfl⟩, ⟨by kernel_rfl, by kernel_rfl⟩, ⟨by kernel_rfl, by kernel_rfl⟩, ⟨by kernel_rfl, by kernel_rfl⟩, ⟨by kernel_rfl, by kernel_rfl⟩, ⟨by kernel_rfl, by kernel_rfl⟩, ⟨by kernel_rfl, by kernel_rfl⟩, ⟨by kernel_rfl, by kernel_rfl⟩, ⟨by kernel_rfl, by kernel_rfl⟩, ⟨by kernel_rfl, by kernel_rfl⟩, ⟨by kernel_rfl, by kernel_rfl⟩, ⟨by kernel_rfl, by kernel_rfl⟩, ⟨by kernel_rfl, by kernel_rfl⟩, ⟨by kernel_rfl, by kernel_rfl⟩, ⟨by kernel_rfl, by kernel_rfl⟩, trivial⟩
theorem tb3 : lookT tab 3 = some (⟨3, .int .i64, .int .i64 0, 1, 8⟩) := by kernel_rfl
theorem tb4 : lookT tab 4 = some (⟨4, .bool, .bool false, 1, 1⟩) := by kernel_rfl
theorem tb5 : lookT tab 5 = some (⟨5, .int .u8, .int .u8 0, 1, 1⟩) := by kernel_rfl
theorem tb9 : lookT tab 9 = some (⟨9, .string, strV [], 1, 16⟩) := by kernel_rfl
theorem tb22 : lookT tab 22 = some (⟨22, .slice 38, .slice none 0 0, 1, 24⟩) := by kernel_rfl
theorem tb24 : lookT tab 24 = some (⟨24, .struct ⟨[⟨"At", 3, 0, false, "", "", 0⟩, ⟨"Text", 9, 1, false, "", "", 8⟩, ⟨"Posts", 22, 2, false, "", "", 24⟩]⟩, .agg ⟨[.int .i64 0, strV [], .slice none 0 0]⟩, 3, 48⟩) := by kernel_rfl
theorem tb27 : lookT tab 27 = some (⟨27, .int .i64, .int .i64 0, 1, 8⟩) := by kernel_rfl
theorem tb30 : lookT tab 30 = some (⟨30, .slice 24, .slice none 0 0, 1, 24⟩) := by kernel_rfl
theorem tb38 : lookT tab 38 = some (⟨38, .struct ⟨[⟨"Account", 9, 0, false, "", "", 0⟩, ⟨"Amount", 3, 1, false, "", "", 16⟩]⟩, .agg ⟨[strV [], .int .i64 0]⟩, 2, 24⟩) := by kernel_rfl
theorem tb46 : lookT tab 46 = some (⟨46, .struct ⟨[⟨"From", 3, 0, false, "", "", 0⟩, ⟨"To", 3, 1, false, "", "", 8⟩]⟩, .agg ⟨[.int .i64 0, .int .i64 0]⟩, 2, 16⟩) := by kernel_rfl
theorem tb48 : lookT tab 48 = some (⟨48, .struct ⟨[⟨"Category", 9, 0, false, "", "", 0⟩, ⟨"Points", 3, 1, false, "", "", 16⟩, ⟨"Base", 3, 2, false, "", "", 24⟩, ⟨"Rounded", 3, 3, false, "", "", 32⟩]⟩, .agg ⟨[strV [], .int .i64 0, .int .i64 0, .int .i64 0]⟩, 4, 40⟩) := by kernel_rfl
theorem tb49 : lookT tab 49 = some (⟨49, .slice 48, .slice none 0 0, 1, 24⟩) := by kernel_rfl
theorem tb50 : lookT tab 50 = some (⟨50, .slice 82, .slice none 0 0, 1, 24⟩) := by kernel_rfl
theorem tb52 : lookT tab 52 = some (⟨52, .struct ⟨[⟨"Account", 3, 0, false, "", "", 0⟩, ⟨"Period", 46, 1, false, "", "", 8⟩, ⟨"Lines", 50, 3, false, "", "", 24⟩, ⟨"Taxes", 49, 4, false, "", "", 48⟩, ⟨"Net", 3, 5, false, "", "", 72⟩, ⟨"Tax", 3, 6, false, "", "", 80⟩, ⟨"Total", 3, 7, false, "", "", 88⟩]⟩, .agg ⟨[.int .i64 0, .int .i64 0, .int .i64 0, .slice none 0 0, .slice none 0 0, .int .i64 0, .int .i64 0, .int .i64 0]⟩, 8, 96⟩) := by kernel_rfl
theorem tb63 : lookT tab 63 = some (⟨63, .array 20 5, .agg ⟨[.int .u8 0, .int .u8 0, .int .u8 0, .int .u8 0, .int .u8 0, .int .u8 0, .int .u8 0, .int .u8 0, .int .u8 0, .int .u8 0, .int .u8 0, .int .u8 0, .int .u8 0, .int .u8 0, .int .u8 0, .int .u8 0, .int .u8 0, .int .u8 0, .int .u8 0, .int .u8 0]⟩, 20, 20⟩) := by kernel_rfl
theorem tb64 : lookT tab 64 = some (⟨64, .slice 5, .slice none 0 0, 1, 24⟩) := by kernel_rfl
theorem tb82 : lookT tab 82 = some (⟨82, .struct ⟨[⟨"Kind", 3, 0, false, "", "", 0⟩, ⟨"Sub", 3, 1, false, "", "", 8⟩, ⟨"Name", 9, 2, false, "", "", 16⟩, ⟨"Category", 9, 3, false, "", "", 32⟩, ⟨"Count", 3, 4, false, "", "", 48⟩, ⟨"Units", 3, 5, false, "", "", 56⟩, ⟨"Amount", 3, 6, false, "", "", 64⟩, ⟨"Rounded", 3, 7, false, "", "", 72⟩]⟩, .agg ⟨[.int .i64 0, .int .i64 0, strV [], strV [], .int .i64 0, .int .i64 0, .int .i64 0, .int .i64 0]⟩, 8, 80⟩) := by kernel_rfl
theorem runs28 : Runs Try.prog 28 := ⟨_, Try.func28, by decide, rfl⟩
theorem runs29 : Runs Try.prog 29 := ⟨_, Try.func29, by decide, rfl⟩
theorem runs11 : Runs Try.prog 11 := ⟨_, Try.func11, by decide, rfl⟩
theorem runs12 : Runs Try.prog 12 := ⟨_, Try.func12, by decide, rfl⟩
theorem runs39 : Runs Try.prog 39 := ⟨_, Try.func39, by decide, rfl⟩
theorem runs34 : Runs Try.prog 34 := ⟨_, Try.func34, by decide, rfl⟩
theorem runs22 : Runs Try.prog 22 := ⟨_, Try.func22, by decide, rfl⟩
theorem runs33 : Runs Try.prog 33 := ⟨_, Try.func33, by decide, rfl⟩
theorem runs23 : Runs Try.prog 23 := ⟨_, Try.func23, by decide, rfl⟩
theorem runs17 : Runs Try.prog 17 := ⟨_, Try.func17, by decide, rfl⟩
theorem runs16 : Runs Try.prog 16 := ⟨_, Try.func16, by decide, rfl⟩
theorem runs24 : Runs Try.prog 24 := ⟨_, Try.func24, by decide, rfl⟩
theorem runs25 : Runs Try.prog 25 := ⟨_, Try.func25, by decide, rfl⟩
theorem runs26 : Runs Try.prog 26 := ⟨_, Try.func26, by decide, rfl⟩
theorem runs27 : Runs Try.prog 27 := ⟨_, Try.func27, by decide, rfl⟩
theorem runs9 : Runs Try.prog 9 := ⟨_, Try.func9, by decide, rfl⟩
theorem runs8 : Runs Try.prog 8 := ⟨_, Try.func8, by decide, rfl⟩
theorem runs10 : Runs Try.prog 10 := ⟨_, Try.func10, by decide, rfl⟩
theorem runs14 : Runs Try.prog 14 := ⟨_, Try.func14, by decide, rfl⟩
theorem runs32 : Runs Try.prog 32 := ⟨_, Try.func32, by decide, rfl⟩
theorem runs31 : Runs Try.prog 31 := ⟨_, Try.func31, by decide, rfl⟩
theorem runs30 : Runs Try.prog 30 := ⟨_, Try.func30, by decide, rfl⟩
theorem runs13 : Runs Try.prog 13 := ⟨_, Try.func13, by decide, rfl⟩
theorem runs5 : Runs Try.prog 5 := ⟨_, Try.func5, by decide, rfl⟩
theorem c_billingref47_Plain {ok : Ok} {w : World} (hok : ∀ b o, ok b o → b < w.heap.size) (N : Nat) {x0 : Str} {x1 : Int} {r : Bool} (hF : billingref47_Plain N x0 x1 = some r) :
    Calls Try.prog 28 ⟨[strV x0, .int .u8 x1]⟩ w (Ret w (R1 rBool ok w r)) := by
  rw [billingref47_Plain] at hF
  refine enter_ok (n := 23) hok Try.func28 rfl rfl rfl (D := []) trivial (fun a h => ?_)
  simp only [zipG, Nat.zero_add, Nat.reduceAdd] at h
  refine start_ctx fun Q hn hr => ?_
  refine seq_region tabOk h [0, 1] [] [(0, .v (strV x0)), (1, .v (.int .u8 x1))] [] (by kernel_rfl) fun β1 a2 w3 h4 => ?_
  clear h
  refine seq_ctx fun Q5 hn5 hr5 hx5 => ?_
  refine seq_region tabOk h4 [0, 1, 5] [] [(0, .v (strV x0)), (1, .v (.int .u8 x1)), (5, .v (.int .i64 0))] [] (by kernel_rfl) fun β6 a7 w8 h9 => ?_
  clear h4
  obtain ⟨out10, hL10, hC10⟩ := bindE hF
  clear hF
  have j11 : ∀ a w', ((∃ β, Sb β (cx 23 ok w) [] [] [] [] a w') ∧ billingref47_Plain_j11 N = some r) → Q5 .normal a w' := by
    rintro a12 w13 ⟨⟨β14, h15⟩, hF16⟩
    rw [billingref47_Plain_j11] at hF16
    refine hn5 _ _ ?_
    refine seq_region tabOk h15 [4] [] [(4, .v (.bool true))] [] (by kernel_rfl) fun β17 a18 w19 h20 => ?_
    clear h15
    refine wp_ret ?_
    refine hr _ _ ?_
    obtain rfl := Option.some.inj hF16
    exact ret1_ok h20 rfl rfl (isV_bool.2 rfl)
  refine block_ctx fun Qb10 hnb10 hrb10 hbb10 hxb10 => ?_
  have h22 : Sb β6 (cx 23 ok w) [(0, .v (strV x0)), (1, .v (.int .u8 x1)), (5, .v (.int .i64 0))] [] [] [] a7 w8 := (h9).sel [0, 1, 5] [] []
  refine loop_ctx (fun m a w' => ∃ (i21 : Int), (∃ β, Sb β (cx 23 ok w) [(0, .v (strV x0)), (1, .v (.int .u8 x1)), (5, .v (.int .i64 i21))] [] [] [] a w') ∧ billingref47_Plain_l10 N x0 x1 m i21 = some out10) N ⟨0, ⟨_, h22⟩, hL10⟩ ?_
  rintro Q10 m23 a24 w25 ⟨i21, ⟨β26, h27⟩, hF28⟩ hn10 hr10 hx10
  obtain _ | m23 := m23
  · exact absurd hF28 (by simp [billingref47_Plain_l10])
  rw [billingref47_Plain_l10] at hF28
  refine seq_ctx fun Q29 hn29 hr29 hx29 => ?_
  refine seq_region tabOk h27 [0, 1, 5, 9] [] [(0, .v (strV x0)), (1, .v (.int .u8 x1)), (5, .v (.int .i64 i21)), (9, .v (.bool (decide (i21 < (List.length x0 : Int)))))] [] (by kernel_rfl) fun β30 a31 w32 h33 => ?_
  clear h27
  refine wp_if h33 rfl (fun hb34 => ?_) (fun hb34 => ?_)
  · skip
    have hF35 := ifT hb34 hF28
    clear hF28
    refine wp_skip ?_
    refine hn29 _ _ ?_
    refine seq_ctx fun Q36 hn36 hr36 hx36 => ?_
    refine block_ctx fun Q37 hn37 hr37 hb37 hx37 => ?_
    obtain ⟨g39, hv40, hF41⟩ := bindE hF35
    clear hF35
    refine seq_join (J := fun a w' => ∃ β, Sb β (cx 23 ok w) [(0, .v (strV x0)), (1, .v (.int .u8 x1)), (5, .v (.int .i64 i21)), (22, .v (.bool g39))] [] [] [] a w') ?_ ?_
    · skip
      rintro a42 w43 ⟨β44, h45⟩
      refine wp_if h45 rfl (fun hb46 => ?_) (fun hb46 => ?_)
      · skip
        have hF47 := ifT hb46 hF41
        clear hF41
        refine seq_region tabOk h45 [4] [] [(4, .v (.bool false))] [] (by kernel_rfl) fun β48 a49 w50 h51 => ?_
        clear h45
        refine wp_ret ?_
        refine hr37 _ _ ?_
        refine hr36 _ _ ?_
        refine hr10 _ _ ?_
        refine hrb10 _ _ ?_
        refine hr5 _ _ ?_
        refine hr _ _ ?_
        obtain rfl := Option.some.inj hF47
        obtain rfl := Option.some.inj hC10
        exact ret1_ok h51 rfl rfl (isV_bool.2 rfl)
      · skip
        have hF52 := ifF hb46 hF41
        clear hF41
        refine wp_skip ?_
        refine hn37 _ _ ?_
        refine hn36 _ _ ?_
        refine evalR_ok tabOk h45 [0, 1, 5] [] [(0, .v (strV x0)), (1, .v (.int .u8 x1)), (5, .v (.int .i64 (IntKind.wrap .i64 (i21 + 1))))] [] (by kernel_rfl) fun β53 a54 w55 h56 => ?_
        clear h45
        have h57 : Sb β53 (cx 23 ok w) [(0, .v (strV x0)), (1, .v (.int .u8 x1)), (5, .v (.int .i64 (IntKind.wrap .i64 (i21 + 1))))] [] [] [] a54 w55 := (h56).sel [0, 1, 5] [] []
        exact hn10 _ _ _ (Nat.lt_succ_self _) ⟨(IntKind.wrap .i64 (i21 + 1)), ⟨_, h57⟩, hF52⟩
    · skip
      refine region_ok ?_
      refine evalS_ok tabOk h33 2 [0, 1, 5, 12, 13] [] [(0, .v (strV x0)), (1, .v (.int .u8 x1)), (5, .v (.int .i64 i21)), (12, .v (strV x0)), (13, .v (.int .i64 i21))] [] (by kernel_rfl) fun β58 a59 w60 h61 => ?_
      clear h33
      obtain ⟨x62, hx62, hv63⟩ := bindE hv40
      clear hv40
      refine step_sidx tabOk h61 rfl rfl rfl rfl hx62 tb9 rfl fun a64 h65 => ?_
      clear h61
      refine evalS_ok tabOk h65 3 [0, 1, 5, 17] [] [(0, .v (strV x0)), (1, .v (.int .u8 x1)), (5, .v (.int .i64 i21)), (17, .v (.bool (decide (x62 < x1))))] [] (by kernel_rfl) fun β66 a67 w68 h69 => ?_
      clear h65
      refine bcases (b := (decide (x62 < x1))) (fun hb70 => ?_) (fun hb70 => ?_)
      · skip
        have hv71 := ifT hb70 hv63
        clear hv63
        have h72 := h69.reb (t := 17) rfl hb70
        clear h69
        refine evalS_ok tabOk h72 5 [0, 1, 5, 22] [] [(0, .v (strV x0)), (1, .v (.int .u8 x1)), (5, .v (.int .i64 i21)), (22, .v (.bool true))] [] (by kernel_rfl) fun β73 a74 w75 h76 => ?_
        clear h72
        obtain rfl := Option.some.inj hv71
        have h77 : Sb β73 (cx 23 ok w) [(0, .v (strV x0)), (1, .v (.int .u8 x1)), (5, .v (.int .i64 i21)), (22, .v (.bool true))] [] [] [] a74 w75 := h76.sel [0, 1, 5, 22] [] []
        clear h76
        exact wpl_end (then_n ⟨_, h77⟩)
      · skip
        have hv78 := ifF hb70 hv63
        clear hv63
        have h79 := h69.reb (t := 17) rfl hb70
        clear h69
        refine evalS_ok tabOk h79 2 [0, 1, 5, 17, 18, 19] [] [(0, .v (strV x0)), (1, .v (.int .u8 x1)), (5, .v (.int .i64 i21)), (17, .v (.bool false)), (18, .v (strV x0)), (19, .v (.int .i64 i21))] [] (by kernel_rfl) fun β80 a81 w82 h83 => ?_
        clear h79
        obtain ⟨x84, hx84, hv85⟩ := bindE hv78
        clear hv78
        refine step_sidx tabOk h83 rfl rfl rfl rfl hx84 tb9 rfl fun a86 h87 => ?_
        clear h83
        refine evalS_ok tabOk h87 2 [0, 1, 5, 22] [] [(0, .v (strV x0)), (1, .v (.int .u8 x1)), (5, .v (.int .i64 i21)), (22, .v (.bool (decide (x84 > 126))))] [] (by kernel_rfl) fun β88 a89 w90 h91 => ?_
        clear h87
        obtain rfl := Option.some.inj hv85
        have h92 : Sb β88 (cx 23 ok w) [(0, .v (strV x0)), (1, .v (.int .u8 x1)), (5, .v (.int .i64 i21)), (22, .v (.bool (decide (x84 > 126))))] [] [] [] a89 w90 := h91.sel [0, 1, 5, 22] [] []
        clear h91
        exact wpl_end (then_n ⟨_, h92⟩)
  · skip
    have hF93 := ifF hb34 hF28
    clear hF28
    refine wp_exit ?_
    refine hx29 0 _ _ ?_
    refine hx10 0 _ _ ?_
    refine hbb10 _ _ ?_
    obtain rfl := Option.some.inj hF93
    have h94 : Sb β30 (cx 23 ok w) [] [] [] [] a31 w32 := (h33).sel [] [] []
    exact j11 _ _ ⟨⟨_, h94⟩, hC10⟩

theorem c_billingref01_Valid {ok : Ok} {w : World} (hok : ∀ b o, ok b o → b < w.heap.size) (N : Nat) {x0 : Int} {r : Bool} (hF : billingref01_Valid N x0 = some r) :
    Calls Try.prog 29 ⟨[.int .i64 x0]⟩ w (Ret w (R1 rBool ok w r)) := by
  rw [billingref01_Valid] at hF
  refine enter_ok (n := 9) hok Try.func29 rfl rfl rfl (D := []) trivial (fun a h => ?_)
  simp only [zipG, Nat.zero_add, Nat.reduceAdd] at h
  refine start_ctx fun Q hn hr => ?_
  refine seq_region tabOk h [0] [] [(0, .v (.int .i64 x0))] [] (by kernel_rfl) fun β1 a2 w3 h4 => ?_
  clear h
  obtain ⟨g6, hg6⟩ : ∃ z, z = ((decide (x0 ≥ (-1125899906842624))) && (decide (x0 ≤ 1125899906842624))) := ⟨_, rfl⟩
  skip
  refine seq_join (J := fun a w' => ∃ β, Sb β (cx 9 ok w) [(2, .v (.bool g6))] [] [] [] a w') ?_ ?_
  · skip
    rintro a7 w8 ⟨β9, h10⟩
    subst hg6
    refine wp_ret ?_
    refine hr _ _ ?_
    obtain rfl := Option.some.inj hF
    exact ret1_ok h10 rfl rfl (isV_bool.2 rfl)
  · skip
    refine region_ok ?_
    refine evalS_ok tabOk h4 3 [0, 5] [] [(0, .v (.int .i64 x0)), (5, .v (.bool (decide (x0 ≥ (-1125899906842624)))))] [] (by kernel_rfl) fun β11 a12 w13 h14 => ?_
    clear h4
    refine bcases (b := (decide (x0 ≥ (-1125899906842624)))) (fun hb15 => ?_) (fun hb15 => ?_)
    · skip
      have h16 := h14.reb (t := 5) rfl hb15
      clear h14
      refine evalS_ok tabOk h16 4 [2] [] [(2, .v (.bool (decide (x0 ≤ 1125899906842624))))] [] (by kernel_rfl) fun β17 a18 w19 h20 => ?_
      clear h16
      obtain rfl : g6 = (decide (x0 ≤ 1125899906842624)) := by rw [hg6]; simp only [*, Bool.and_true, Bool.true_and, Bool.or_true, Bool.true_or, Bool.or_false, Bool.false_or, Bool.and_false, Bool.false_and, cond_true, cond_false]
      have h21 : Sb β17 (cx 9 ok w) [(2, .v (.bool (decide (x0 ≤ 1125899906842624))))] [] [] [] a18 w19 := h20.sel [2] [] []
      clear h20
      exact wpl_end (then_n ⟨_, h21⟩)
    · skip
      have h22 := h14.reb (t := 5) rfl hb15
      clear h14
      refine evalS_ok tabOk h22 4 [2] [] [(2, .v (.bool false))] [] (by kernel_rfl) fun β23 a24 w25 h26 => ?_
      clear h22
      obtain rfl : g6 = false := by rw [hg6]; simp only [*, Bool.and_true, Bool.true_and, Bool.or_true, Bool.true_or, Bool.or_false, Bool.false_or, Bool.and_false, Bool.false_and, cond_true, cond_false]
      have h27 : Sb β23 (cx 9 ok w) [(2, .v (.bool false))] [] [] [] a24 w25 := h26.sel [2] [] []
      clear h26
      exact wpl_end (then_n ⟨_, h27⟩)

theorem c_billingref47_Check {ok : Ok} {w : World} (hok : ∀ b o, ok b o → b < w.heap.size) (N : Nat) {x0 : ApiEntry} {A1 : Option Addr} {c2 : Nat} (d0 : isV (rSl rApiPost) ok w x0.Posts (.slice A1 (List.length x0.Posts) c2)) {r : Int} (hF : billingref47_Check N x0 = some r) :
    Calls Try.prog 11 ⟨[.agg ⟨[.int .i64 x0.At, strV x0.Text, .slice A1 (List.length x0.Posts) c2]⟩]⟩ w (Ret w (R1 (rInt .i64) ok w r)) := by
  rw [billingref47_Check] at hF
  refine enter_ok (n := 91) hok Try.func11 rfl rfl rfl (D := [DF.v (rSl rApiPost) x0.Posts (.slice A1 (List.length x0.Posts) c2)]) ⟨d0, trivial⟩ (fun a h => ?_)
  simp only [zipG, Nat.zero_add, Nat.reduceAdd] at h
  refine start_ctx fun Q hn hr => ?_
  refine seq_region tabOk h [1] [1] [(1, .o 1 0)] [(1, ⟨[.int .i64 x0.At, strV x0.Text, .slice A1 (List.length x0.Posts) c2], 24⟩)] (by kernel_rfl) fun β3 a4 w5 h6 => ?_
  clear h
  refine seq_ctx fun Q7 hn7 hr7 hx7 => ?_
  obtain ⟨g9, hg9⟩ : ∃ z, z = ((decide (x0.At < 0)) || (decide (x0.At ≥ 12622780800))) := ⟨_, rfl⟩
  skip
  refine seq_join (J := fun a w' => ∃ β, Sb β (cx 91 ok w) [(1, .o 1 0), (13, .v (.bool g9))] [DF.v (rSl rApiPost) x0.Posts (.slice A1 (List.length x0.Posts) c2)] [(1, ⟨[.int .i64 x0.At, strV x0.Text, .slice A1 (List.length x0.Posts) c2], 24⟩)] [] a w') ?_ ?_
  · skip
    rintro a10 w11 ⟨β12, h13⟩
    subst hg9
    refine wp_if h13 rfl (fun hb14 => ?_) (fun hb14 => ?_)
    · skip
      have hF15 := ifT hb14 hF
      clear hF
      refine seq_region tabOk h13 [2] [] [(2, .v (.int .i64 15))] [] (by kernel_rfl) fun β16 a17 w18 h19 => ?_
      clear h13
      refine wp_ret ?_
      refine hr7 _ _ ?_
      refine hr _ _ ?_
      obtain rfl := Option.some.inj hF15
      exact ret1_ok h19 rfl rfl (isV_int.2 rfl)
    · skip
      have hF20 := ifF hb14 hF
      clear hF
      refine wp_skip ?_
      refine hn7 _ _ ?_
      refine seq_ctx fun Q21 hn21 hr21 hx21 => ?_
      obtain ⟨g23, hg23⟩ : ∃ z, z = ((decide ((List.length x0.Text : Int) > 200)) || (decide ((List.length x0.Posts : Int) > 64))) := ⟨_, rfl⟩
      skip
      refine seq_join (J := fun a w' => ∃ β, Sb β (cx 91 ok w) [(1, .o 1 0), (23, .v (.bool g23))] [DF.v (rSl rApiPost) x0.Posts (.slice A1 (List.length x0.Posts) c2)] [(1, ⟨[.int .i64 x0.At, strV x0.Text, .slice A1 (List.length x0.Posts) c2], 24⟩)] [] a w') ?_ ?_
      · skip
        rintro a24 w25 ⟨β26, h27⟩
        subst hg23
        refine wp_if h27 rfl (fun hb28 => ?_) (fun hb28 => ?_)
        · skip
          have hF29 := ifT hb28 hF20
          clear hF20
          refine seq_region tabOk h27 [2] [] [(2, .v (.int .i64 5))] [] (by kernel_rfl) fun β30 a31 w32 h33 => ?_
          clear h27
          refine wp_ret ?_
          refine hr21 _ _ ?_
          refine hr _ _ ?_
          obtain rfl := Option.some.inj hF29
          exact ret1_ok h33 rfl rfl (isV_int.2 rfl)
        · skip
          have hF34 := ifF hb28 hF20
          clear hF20
          refine wp_skip ?_
          refine hn21 _ _ ?_
          refine seq_ctx fun Q35 hn35 hr35 hx35 => ?_
          obtain ⟨g37, hv38, hF39⟩ := bindE hF34
          clear hF34
          refine seq_join (J := fun a w' => ∃ β, Sb β (cx 91 ok w) [(1, .o 1 0), (33, .v (.bool g37))] [DF.v (rSl rApiPost) x0.Posts (.slice A1 (List.length x0.Posts) c2)] [(1, ⟨[.int .i64 x0.At, strV x0.Text, .slice A1 (List.length x0.Posts) c2], 24⟩)] [] a w') ?_ ?_
          · skip
            rintro a40 w41 ⟨β42, h43⟩
            refine wp_if h43 rfl (fun hb44 => ?_) (fun hb44 => ?_)
            · skip
              have hF45 := ifT hb44 hF39
              clear hF39
              refine seq_region tabOk h43 [2] [] [(2, .v (.int .i64 8))] [] (by kernel_rfl) fun β46 a47 w48 h49 => ?_
              clear h43
              refine wp_ret ?_
              refine hr35 _ _ ?_
              refine hr _ _ ?_
              obtain rfl := Option.some.inj hF45
              exact ret1_ok h49 rfl rfl (isV_int.2 rfl)
            · skip
              have hF50 := ifF hb44 hF39
              clear hF39
              refine wp_skip ?_
              refine hn35 _ _ ?_
              refine seq_region tabOk h43 [1, 3] [1] [(1, .o 1 0), (3, .v (.int .i64 0))] [(1, ⟨[.int .i64 x0.At, strV x0.Text, .slice A1 (List.length x0.Posts) c2], 24⟩)] (by kernel_rfl) fun β51 a52 w53 h54 => ?_
              clear h43
              refine seq_ctx fun Q55 hn55 hr55 hx55 => ?_
              refine seq_region tabOk h54 [1, 3, 4] [1] [(1, .o 1 0), (3, .v (.int .i64 0)), (4, .v (.int .i64 0))] [(1, ⟨[.int .i64 x0.At, strV x0.Text, .slice A1 (List.length x0.Posts) c2], 24⟩)] (by kernel_rfl) fun β56 a57 w58 h59 => ?_
              clear h54
              obtain ⟨out60, hL60, hC60⟩ := bindE hF50
              clear hF50
              have j62 : ∀ a w', (∃ (i61 : Int), (∃ β, Sb β (cx 91 ok w) [(3, .v (.int .i64 i61))] [] [] [] a w') ∧ billingref47_Check_j62 N i61 = some r) → Q55 .normal a w' := by
                rintro a63 w64 ⟨i61, ⟨β65, h66⟩, hF67⟩
                rw [billingref47_Check_j62] at hF67
                refine hn55 _ _ ?_
                refine seq_ctx fun Q68 hn68 hr68 hx68 => ?_
                refine seq_region tabOk h66 [90] [] [(90, .v (.bool (i61 != 0)))] [] (by kernel_rfl) fun β69 a70 w71 h72 => ?_
                clear h66
                refine wp_if h72 rfl (fun hb73 => ?_) (fun hb73 => ?_)
                · skip
                  have hF74 := ifT hb73 hF67
                  clear hF67
                  refine seq_region tabOk h72 [2] [] [(2, .v (.int .i64 21))] [] (by kernel_rfl) fun β75 a76 w77 h78 => ?_
                  clear h72
                  refine wp_ret ?_
                  refine hr68 _ _ ?_
                  refine hr _ _ ?_
                  obtain rfl := Option.some.inj hF74
                  exact ret1_ok h78 rfl rfl (isV_int.2 rfl)
                · skip
                  have hF79 := ifF hb73 hF67
                  clear hF67
                  refine wp_skip ?_
                  refine hn68 _ _ ?_
                  refine seq_region tabOk h72 [2] [] [(2, .v (.int .i64 0))] [] (by kernel_rfl) fun β80 a81 w82 h83 => ?_
                  clear h72
                  refine wp_ret ?_
                  refine hr _ _ ?_
                  obtain rfl := Option.some.inj hF79
                  exact ret1_ok h83 rfl rfl (isV_int.2 rfl)
              refine block_ctx fun Qb60 hnb60 hrb60 hbb60 hxb60 => ?_
              have h86 : Sb β56 (cx 91 ok w) [(1, .o 1 0), (3, .v (.int .i64 0)), (4, .v (.int .i64 0))] [DF.v (rSl rApiPost) x0.Posts (.slice A1 (List.length x0.Posts) c2)] [(1, ⟨[.int .i64 x0.At, strV x0.Text, .slice A1 (List.length x0.Posts) c2], 24⟩)] [] a57 w58 := (h59).sel [1, 3, 4] [0] [1]
              refine loop_ctx (fun m a w' => ∃ (i84 : Int) (i85 : Int), (∃ β, Sb β (cx 91 ok w) [(1, .o 1 0), (3, .v (.int .i64 i84)), (4, .v (.int .i64 i85))] [DF.v (rSl rApiPost) x0.Posts (.slice A1 (List.length x0.Posts) c2)] [(1, ⟨[.int .i64 x0.At, strV x0.Text, .slice A1 (List.length x0.Posts) c2], 24⟩)] [] a w') ∧ billingref47_Check_l60 N x0 m i84 i85 = some out60) N ⟨0, 0, ⟨_, h86⟩, hL60⟩ ?_
              rintro Q60 m87 a88 w89 ⟨i84, i85, ⟨β90, h91⟩, hF92⟩ hn60 hr60 hx60
              obtain _ | m87 := m87
              · exact absurd hF92 (by simp [billingref47_Check_l60])
              rw [billingref47_Check_l60] at hF92
              refine seq_ctx fun Q93 hn93 hr93 hx93 => ?_
              refine seq_region tabOk h91 [1, 3, 4, 38] [1] [(1, .o 1 0), (3, .v (.int .i64 i84)), (4, .v (.int .i64 i85)), (38, .v (.bool (decide (i85 < (List.length x0.Posts : Int)))))] [(1, ⟨[.int .i64 x0.At, strV x0.Text, .slice A1 (List.length x0.Posts) c2], 24⟩)] (by kernel_rfl) fun β94 a95 w96 h97 => ?_
              clear h91
              refine wp_if h97 rfl (fun hb98 => ?_) (fun hb98 => ?_)
              · skip
                have hF99 := ifT hb98 hF92
                clear hF92
                refine wp_skip ?_
                refine hn93 _ _ ?_
                refine seq_ctx fun Q100 hn100 hr100 hx100 => ?_
                refine block_ctx fun Q101 hn101 hr101 hb101 hx101 => ?_
                refine seq_list fun Q102 hq102 => ?_
                refine evalS_ok tabOk h97 3 [1, 3, 4, 42, 43] [1] [(1, .o 1 0), (3, .v (.int .i64 i84)), (4, .v (.int .i64 i85)), (42, .v (.slice A1 (List.length x0.Posts) c2)), (43, .v (.int .i64 i85))] [(1, ⟨[.int .i64 x0.At, strV x0.Text, .slice A1 (List.length x0.Posts) c2], 24⟩)] (by kernel_rfl) fun β103 a104 w105 h106 => ?_
                clear h97
                obtain ⟨x107, hx107, hF108⟩ := bindE hF99
                clear hF99
                refine step_idx tabOk h106 0 rfl rfl rfl rfl rfl hx107 tb22 rfl tb38 rfl fun p109 a110 h111 => ?_
                clear h106
                refine step_load tabOk h111 0 rfl rfl rfl rfl tb38 rfl rfl fun v112 a114 hv113 h115 => ?_
                clear h111
                obtain rfl := ex_ApiPost hv113
                refine evalS_ok tabOk h115 2 [1, 3, 4, 5] [1, 5] [(1, .o 1 0), (3, .v (.int .i64 i84)), (4, .v (.int .i64 i85)), (5, .o 5 0)] [(1, ⟨[.int .i64 x0.At, strV x0.Text, .slice A1 (List.length x0.Posts) c2], 24⟩), (5, ⟨[strV x107.Account, .int .i64 x107.Amount], 38⟩)] (by kernel_rfl) fun β116 a117 w118 h119 => ?_
                clear h115
                have h120 : Sb β116 (cx 91 ok w) [(1, .o 1 0), (3, .v (.int .i64 i84)), (4, .v (.int .i64 i85)), (5, .o 5 0)] [DF.v (rSl rApiPost) x0.Posts (.slice A1 (List.length x0.Posts) c2)] [(1, ⟨[.int .i64 x0.At, strV x0.Text, .slice A1 (List.length x0.Posts) c2], 24⟩), (5, ⟨[strV x107.Account, .int .i64 x107.Amount], 38⟩)] [] a117 w118 := h119.sel [1, 3, 4, 5] [2] [1, 5]
                clear h119
                refine wpl_end (hq102 _ _ ?_)
                refine seq_ctx fun Q121 hn121 hr121 hx121 => ?_
                obtain ⟨g123, hv124, hF125⟩ := bindE hF108
                clear hF108
                refine seq_join (J := fun a w' => ∃ β, Sb β (cx 91 ok w) [(1, .o 1 0), (3, .v (.int .i64 i84)), (4, .v (.int .i64 i85)), (5, .o 5 0), (61, .v (.bool g123))] [DF.v (rSl rApiPost) x0.Posts (.slice A1 (List.length x0.Posts) c2)] [(1, ⟨[.int .i64 x0.At, strV x0.Text, .slice A1 (List.length x0.Posts) c2], 24⟩), (5, ⟨[strV x107.Account, .int .i64 x107.Amount], 38⟩)] [] a w') ?_ ?_
                · skip
                  rintro a126 w127 ⟨β128, h129⟩
                  refine wp_if h129 rfl (fun hb130 => ?_) (fun hb130 => ?_)
                  · skip
                    have hF131 := ifT hb130 hF125
                    clear hF125
                    refine seq_region tabOk h129 [2] [] [(2, .v (.int .i64 8))] [] (by kernel_rfl) fun β132 a133 w134 h135 => ?_
                    clear h129
                    refine wp_ret ?_
                    refine hr121 _ _ ?_
                    refine hr101 _ _ ?_
                    refine hr100 _ _ ?_
                    refine hr60 _ _ ?_
                    refine hrb60 _ _ ?_
                    refine hr55 _ _ ?_
                    refine hr _ _ ?_
                    obtain rfl := Option.some.inj hF131
                    obtain rfl := Option.some.inj hC60
                    exact ret1_ok h135 rfl rfl (isV_int.2 rfl)
                  · skip
                    have hF136 := ifF hb130 hF125
                    clear hF125
                    refine wp_skip ?_
                    refine hn121 _ _ ?_
                    refine seq_ctx fun Q137 hn137 hr137 hx137 => ?_
                    obtain ⟨g139, hv140, hF141⟩ := bindE hF136
                    clear hF136
                    refine seq_join (J := fun a w' => ∃ β, Sb β (cx 91 ok w) [(1, .o 1 0), (3, .v (.int .i64 i84)), (4, .v (.int .i64 i85)), (5, .o 5 0), (75, .v (.bool g139))] [DF.v (rSl rApiPost) x0.Posts (.slice A1 (List.length x0.Posts) c2)] [(1, ⟨[.int .i64 x0.At, strV x0.Text, .slice A1 (List.length x0.Posts) c2], 24⟩), (5, ⟨[strV x107.Account, .int .i64 x107.Amount], 38⟩)] [] a w') ?_ ?_
                    · skip
                      rintro a142 w143 ⟨β144, h145⟩
                      refine wp_if h145 rfl (fun hb146 => ?_) (fun hb146 => ?_)
                      · skip
                        have hF147 := ifT hb146 hF141
                        clear hF141
                        refine seq_region tabOk h145 [2] [] [(2, .v (.int .i64 9))] [] (by kernel_rfl) fun β148 a149 w150 h151 => ?_
                        clear h145
                        refine wp_ret ?_
                        refine hr137 _ _ ?_
                        refine hr101 _ _ ?_
                        refine hr100 _ _ ?_
                        refine hr60 _ _ ?_
                        refine hrb60 _ _ ?_
                        refine hr55 _ _ ?_
                        refine hr _ _ ?_
                        obtain rfl := Option.some.inj hF147
                        obtain rfl := Option.some.inj hC60
                        exact ret1_ok h151 rfl rfl (isV_int.2 rfl)
                      · skip
                        have hF152 := ifF hb146 hF141
                        clear hF141
                        refine wp_skip ?_
                        refine hn137 _ _ ?_
                        refine seq_ctx fun Q153 hn153 hr153 hx153 => ?_
                        obtain ⟨g155, hv156, hF157⟩ := bindE hF152
                        clear hF152
                        refine seq_join (J := fun a w' => ∃ β, Sb β (cx 91 ok w) [(1, .o 1 0), (3, .v (.int .i64 i84)), (4, .v (.int .i64 i85)), (5, .o 5 0), (84, .v (.bool g155))] [DF.v (rSl rApiPost) x0.Posts (.slice A1 (List.length x0.Posts) c2)] [(1, ⟨[.int .i64 x0.At, strV x0.Text, .slice A1 (List.length x0.Posts) c2], 24⟩), (5, ⟨[strV x107.Account, .int .i64 x107.Amount], 38⟩)] [] a w') ?_ ?_
                        · skip
                          rintro a158 w159 ⟨β160, h161⟩
                          refine wp_if h161 rfl (fun hb162 => ?_) (fun hb162 => ?_)
                          · skip
                            have hF163 := ifT hb162 hF157
                            clear hF157
                            refine seq_region tabOk h161 [2] [] [(2, .v (.int .i64 6))] [] (by kernel_rfl) fun β164 a165 w166 h167 => ?_
                            clear h161
                            refine wp_ret ?_
                            refine hr153 _ _ ?_
                            refine hr101 _ _ ?_
                            refine hr100 _ _ ?_
                            refine hr60 _ _ ?_
                            refine hrb60 _ _ ?_
                            refine hr55 _ _ ?_
                            refine hr _ _ ?_
                            obtain rfl := Option.some.inj hF163
                            obtain rfl := Option.some.inj hC60
                            exact ret1_ok h167 rfl rfl (isV_int.2 rfl)
                          · skip
                            have hF168 := ifF hb162 hF157
                            clear hF157
                            refine wp_skip ?_
                            refine hn153 _ _ ?_
                            refine evalR_ok tabOk h161 [1, 3, 4] [1] [(1, .o 1 0), (3, .v (.int .i64 (IntKind.wrap .i64 (i84 + x107.Amount)))), (4, .v (.int .i64 i85))] [(1, ⟨[.int .i64 x0.At, strV x0.Text, .slice A1 (List.length x0.Posts) c2], 24⟩)] (by kernel_rfl) fun β169 a170 w171 h172 => ?_
                            clear h161
                            refine hn101 _ _ ?_
                            refine hn100 _ _ ?_
                            refine evalR_ok tabOk h172 [1, 3, 4] [1] [(1, .o 1 0), (3, .v (.int .i64 (IntKind.wrap .i64 (i84 + x107.Amount)))), (4, .v (.int .i64 (IntKind.wrap .i64 (i85 + 1))))] [(1, ⟨[.int .i64 x0.At, strV x0.Text, .slice A1 (List.length x0.Posts) c2], 24⟩)] (by kernel_rfl) fun β173 a174 w175 h176 => ?_
                            clear h172
                            have h177 : Sb β173 (cx 91 ok w) [(1, .o 1 0), (3, .v (.int .i64 (IntKind.wrap .i64 (i84 + x107.Amount)))), (4, .v (.int .i64 (IntKind.wrap .i64 (i85 + 1))))] [DF.v (rSl rApiPost) x0.Posts (.slice A1 (List.length x0.Posts) c2)] [(1, ⟨[.int .i64 x0.At, strV x0.Text, .slice A1 (List.length x0.Posts) c2], 24⟩)] [] a174 w175 := (h176).sel [1, 3, 4] [0] [1]
                            exact hn60 _ _ _ (Nat.lt_succ_self _) ⟨(IntKind.wrap .i64 (i84 + x107.Amount)), (IntKind.wrap .i64 (i85 + 1)), ⟨_, h177⟩, hF168⟩
                        · skip
                          refine region_ok ?_
                          refine evalS_ok tabOk h145 4 [1, 3, 4, 5, 79] [1, 5] [(1, .o 1 0), (3, .v (.int .i64 i84)), (4, .v (.int .i64 i85)), (5, .o 5 0), (79, .v (.bool (x107.Amount == 0)))] [(1, ⟨[.int .i64 x0.At, strV x0.Text, .slice A1 (List.length x0.Posts) c2], 24⟩), (5, ⟨[strV x107.Account, .int .i64 x107.Amount], 38⟩)] (by kernel_rfl) fun β178 a179 w180 h181 => ?_
                          clear h145
                          refine bcases (b := (x107.Amount == 0)) (fun hb182 => ?_) (fun hb182 => ?_)
                          · skip
                            have hv183 := ifT hb182 hv156
                            clear hv156
                            have h184 := h181.reb (t := 79) rfl hb182
                            clear h181
                            refine evalS_ok tabOk h184 5 [1, 3, 4, 5, 84] [1, 5] [(1, .o 1 0), (3, .v (.int .i64 i84)), (4, .v (.int .i64 i85)), (5, .o 5 0), (84, .v (.bool true))] [(1, ⟨[.int .i64 x0.At, strV x0.Text, .slice A1 (List.length x0.Posts) c2], 24⟩), (5, ⟨[strV x107.Account, .int .i64 x107.Amount], 38⟩)] (by kernel_rfl) fun β185 a186 w187 h188 => ?_
                            clear h184
                            obtain rfl := Option.some.inj hv183
                            have h189 : Sb β185 (cx 91 ok w) [(1, .o 1 0), (3, .v (.int .i64 i84)), (4, .v (.int .i64 i85)), (5, .o 5 0), (84, .v (.bool true))] [DF.v (rSl rApiPost) x0.Posts (.slice A1 (List.length x0.Posts) c2)] [(1, ⟨[.int .i64 x0.At, strV x0.Text, .slice A1 (List.length x0.Posts) c2], 24⟩), (5, ⟨[strV x107.Account, .int .i64 x107.Amount], 38⟩)] [] a186 w187 := h188.sel [1, 3, 4, 5, 84] [0] [1, 5]
                            clear h188
                            exact wpl_end (then_n ⟨_, h189⟩)
                          · skip
                            have hv190 := ifF hb182 hv156
                            clear hv156
                            have h191 := h181.reb (t := 79) rfl hb182
                            clear h181
                            refine evalS_ok tabOk h191 2 [1, 3, 4, 5, 79, 81] [1, 5] [(1, .o 1 0), (3, .v (.int .i64 i84)), (4, .v (.int .i64 i85)), (5, .o 5 0), (79, .v (.bool false)), (81, .v (.int .i64 x107.Amount))] [(1, ⟨[.int .i64 x0.At, strV x0.Text, .slice A1 (List.length x0.Posts) c2], 24⟩), (5, ⟨[strV x107.Account, .int .i64 x107.Amount], 38⟩)] (by kernel_rfl) fun β192 a193 w194 h195 => ?_
                            clear h191
                            obtain ⟨y196, hy196, hv197⟩ := bindE hv190
                            clear hv190
                            refine step_call h195 rfl rfl runs29 (vs := [(.int .i64 x107.Amount)]) (by kernel_rfl) (c_billingref01_Valid (x0 := x107.Amount) h195.okLt N hy196) fun v198 a201 w202 hR199 hk200 h203 => ?_
                            clear h195
                            have hv204 := isV.weak hR199 hk200
                            obtain rfl := isV_bool.1 hv204
                            refine evalS_ok tabOk h203 2 [1, 3, 4, 5, 84] [1, 5] [(1, .o 1 0), (3, .v (.int .i64 i84)), (4, .v (.int .i64 i85)), (5, .o 5 0), (84, .v (.bool (!y196)))] [(1, ⟨[.int .i64 x0.At, strV x0.Text, .slice A1 (List.length x0.Posts) c2], 24⟩), (5, ⟨[strV x107.Account, .int .i64 x107.Amount], 38⟩)] (by kernel_rfl) fun β205 a206 w207 h208 => ?_
                            clear h203
                            obtain rfl := Option.some.inj hv197
                            have h209 : Sb β205 (cx 91 ok w) [(1, .o 1 0), (3, .v (.int .i64 i84)), (4, .v (.int .i64 i85)), (5, .o 5 0), (84, .v (.bool (!y196)))] [DF.v (rSl rApiPost) x0.Posts (.slice A1 (List.length x0.Posts) c2)] [(1, ⟨[.int .i64 x0.At, strV x0.Text, .slice A1 (List.length x0.Posts) c2], 24⟩), (5, ⟨[strV x107.Account, .int .i64 x107.Amount], 38⟩)] [] a206 w207 := h208.sel [1, 3, 4, 5, 84] [0] [1, 5]
                            clear h208
                            exact wpl_end (then_n ⟨_, h209⟩)
                    · skip
                      refine bcases (b := (decide (i85 > 0))) (fun hb210 => ?_) (fun hb210 => ?_)
                      · skip
                        have hv211 := ifT hb210 hv140
                        clear hv140
                        obtain ⟨x212, hx212, hv213⟩ := bindE hv211
                        clear hv211
                        have h215 : Sb β128 (cx 91 ok w) [(1, .o 1 0), (3, .v (.int .i64 i84)), (4, .v (.int .i64 i85)), (5, .o 5 0)] [DF.v (rSl rApiPost) x0.Posts (.slice A1 (List.length x0.Posts) c2)] [(1, ⟨[.int .i64 x0.At, strV x0.Text, .slice A1 (List.length x0.Posts) c2], 24⟩), (5, ⟨[strV x107.Account, .int .i64 x107.Amount], 38⟩)] [] a126 w127 := h129.sel [1, 3, 4, 5] [0] [1, 5]
                        refine draw_rule h215 rfl (by kernel_rfl) 14 [62, 63, 64, 65, 66, 67, 68, 69, 70, 71, 72, 73, 74, 75] [FV.eq (.int .i64 i85), FV.eq (.bool (decide (i85 > 0))), FV.eq (.bool (decide (i85 > 0))), FV.eq (.pointer (some ⟨β128 5, 0, none⟩)), FV.eq (strV x107.Account), FV.eq (.pointer (some ⟨β128 1, 2, none⟩)), FV.eq (.slice A1 (List.length x0.Posts) c2), FV.eq (.int .i64 i85), FV.eq (.int .i64 (IntKind.wrap .i64 (i85 - 1))), FV.at rApiPost x212, FV.at rStr x212.Account, FV.eq (strV x212.Account), FV.eq (.bool (Op.bytesLess x107.Account x212.Account || x107.Account == x212.Account)), FV.eq (.bool (Op.bytesLess x107.Account x212.Account || x107.Account == x212.Account))] rfl rfl rfl (by kernel_rfl) (by kernel_rfl) (by kernel_rfl) (by kernel_rfl) (by kernel_rfl) ?_ ?_
                        · skip
                          refine ⟨⟨⟨⟨⟨⟨⟨⟨⟨⟨⟨⟨⟨⟨trivial, ?_⟩, ?_⟩, ?_⟩, ?_⟩, ?_⟩, ?_⟩, ?_⟩, ?_⟩, ?_⟩, ?_⟩, ?_⟩, ?_⟩, ?_⟩, ?_⟩
                          · skip
                            intro β216 a217 w218 dX219 Ox220 Q221 h222 hq223 hp224 hk225
                            refine evalS_ok tabOk h222 1 [1, 3, 4, 5, 62] [1, 5] [(1, .o 1 0), (3, .v (.int .i64 i84)), (4, .v (.int .i64 i85)), (5, .o 5 0), (62, .v (.int .i64 i85))] [(1, ⟨[.int .i64 x0.At, strV x0.Text, .slice A1 (List.length x0.Posts) c2], 24⟩), (5, ⟨[strV x107.Account, .int .i64 x107.Amount], 38⟩)] (by kernel_rfl) fun β226 a227 w228 h229 => ?_
                            exact wpl_end (hk225 _ _ _ _ (h229.sel [1, 3, 4, 5] [0, 1] [1, 5]) (h229.getD rfl) rfl)
                          · skip
                            intro β230 a231 w232 dX233 Ox234 Q235 h236 hq237 hp238 hk239
                            have h240 := h236.learnE (d := 62) rfl (hp238 0 62 _ rfl rfl rfl)
                            clear h236
                            refine evalS_ok tabOk h240 1 [1, 3, 4, 5, 63] [1, 5] [(1, .o 1 0), (3, .v (.int .i64 i84)), (4, .v (.int .i64 i85)), (5, .o 5 0), (63, .v (.bool (decide (i85 > 0))))] [(1, ⟨[.int .i64 x0.At, strV x0.Text, .slice A1 (List.length x0.Posts) c2], 24⟩), (5, ⟨[strV x107.Account, .int .i64 x107.Amount], 38⟩)] (by kernel_rfl) fun β241 a242 w243 h244 => ?_
                            exact wpl_end (hk239 _ _ _ _ (h244.sel [1, 3, 4, 5] [0, 1] [1, 5]) (h244.getD rfl) rfl)
                          · skip
                            intro β245 a246 w247 dX248 Ox249 Q250 h251 hq252 hp253 hk254
                            have h255 := h251.learnE (d := 63) rfl (hp253 1 63 _ rfl rfl rfl)
                            clear h251
                            refine evalS_ok tabOk h255 1 [1, 3, 4, 5, 64] [1, 5] [(1, .o 1 0), (3, .v (.int .i64 i84)), (4, .v (.int .i64 i85)), (5, .o 5 0), (64, .v (.bool (decide (i85 > 0))))] [(1, ⟨[.int .i64 x0.At, strV x0.Text, .slice A1 (List.length x0.Posts) c2], 24⟩), (5, ⟨[strV x107.Account, .int .i64 x107.Amount], 38⟩)] (by kernel_rfl) fun β256 a257 w258 h259 => ?_
                            exact wpl_end (hk254 _ _ _ _ (h259.sel [1, 3, 4, 5] [0, 1] [1, 5]) (h259.getD rfl) rfl)
                          · skip
                            intro β260 a261 w262 dX263 Ox264 Q265 h266 hq267 hp268 hk269
                            have h270 := h266.learnE (d := 64) rfl (hp268 2 64 _ rfl rfl rfl)
                            clear h266
                            have h271 := h270.reb (t := 64) rfl hb210
                            clear h270
                            refine evalS_ok tabOk h271 1 [1, 3, 4, 5, 65] [1, 5] [(1, .o 1 0), (3, .v (.int .i64 i84)), (4, .v (.int .i64 i85)), (5, .o 5 0), (65, .o 5 0)] [(1, ⟨[.int .i64 x0.At, strV x0.Text, .slice A1 (List.length x0.Posts) c2], 24⟩), (5, ⟨[strV x107.Account, .int .i64 x107.Amount], 38⟩)] (by kernel_rfl) fun β272 a273 w274 h275 => ?_
                            exact wpl_end (hk269 _ _ _ _ (h275.sel [1, 3, 4, 5] [0, 1] [1, 5]) (h275.getO rfl rfl rfl) rfl)
                          · skip
                            intro β276 a277 w278 dX279 Ox280 Q281 h282 hq283 hp284 hk285
                            have h286 := h282.learnE (d := 64) rfl (hp284 2 64 _ rfl rfl rfl)
                            clear h282
                            have h287 := h286.reb (t := 64) rfl hb210
                            clear h286
                            have h288 := h287.learnO (d := 65) (id := 5) (off := 0) rfl rfl rfl (hp284 3 65 _ rfl rfl rfl)
                            clear h287
                            refine evalS_ok tabOk h288 1 [1, 3, 4, 5, 66] [1, 5] [(1, .o 1 0), (3, .v (.int .i64 i84)), (4, .v (.int .i64 i85)), (5, .o 5 0), (66, .v (strV x107.Account))] [(1, ⟨[.int .i64 x0.At, strV x0.Text, .slice A1 (List.length x0.Posts) c2], 24⟩), (5, ⟨[strV x107.Account, .int .i64 x107.Amount], 38⟩)] (by kernel_rfl) fun β289 a290 w291 h292 => ?_
                            exact wpl_end (hk285 _ _ _ _ (h292.sel [1, 3, 4, 5] [0, 1] [1, 5]) (h292.getD rfl) rfl)
                          · skip
                            intro β293 a294 w295 dX296 Ox297 Q298 h299 hq300 hp301 hk302
                            have h303 := h299.learnE (d := 64) rfl (hp301 2 64 _ rfl rfl rfl)
                            clear h299
                            have h304 := h303.reb (t := 64) rfl hb210
                            clear h303
                            refine evalS_ok tabOk h304 1 [1, 3, 4, 5, 67] [1, 5] [(1, .o 1 0), (3, .v (.int .i64 i84)), (4, .v (.int .i64 i85)), (5, .o 5 0), (67, .o 1 2)] [(1, ⟨[.int .i64 x0.At, strV x0.Text, .slice A1 (List.length x0.Posts) c2], 24⟩), (5, ⟨[strV x107.Account, .int .i64 x107.Amount], 38⟩)] (by kernel_rfl) fun β305 a306 w307 h308 => ?_
                            exact wpl_end (hk302 _ _ _ _ (h308.sel [1, 3, 4, 5] [0, 1] [1, 5]) (h308.getO rfl rfl rfl) rfl)
                          · skip
                            intro β309 a310 w311 dX312 Ox313 Q314 h315 hq316 hp317 hk318
                            have h319 := h315.learnE (d := 64) rfl (hp317 2 64 _ rfl rfl rfl)
                            clear h315
                            have h320 := h319.reb (t := 64) rfl hb210
                            clear h319
                            have h321 := h320.learnO (d := 67) (id := 1) (off := 2) rfl rfl rfl (hp317 5 67 _ rfl rfl rfl)
                            clear h320
                            refine evalS_ok tabOk h321 1 [1, 3, 4, 5, 68] [1, 5] [(1, .o 1 0), (3, .v (.int .i64 i84)), (4, .v (.int .i64 i85)), (5, .o 5 0), (68, .v (.slice A1 (List.length x0.Posts) c2))] [(1, ⟨[.int .i64 x0.At, strV x0.Text, .slice A1 (List.length x0.Posts) c2], 24⟩), (5, ⟨[strV x107.Account, .int .i64 x107.Amount], 38⟩)] (by kernel_rfl) fun β322 a323 w324 h325 => ?_
                            exact wpl_end (hk318 _ _ _ _ (h325.sel [1, 3, 4, 5] [0, 1] [1, 5]) (h325.getD rfl) rfl)
                          · skip
                            intro β326 a327 w328 dX329 Ox330 Q331 h332 hq333 hp334 hk335
                            have h336 := h332.learnE (d := 64) rfl (hp334 2 64 _ rfl rfl rfl)
                            clear h332
                            have h337 := h336.reb (t := 64) rfl hb210
                            clear h336
                            refine evalS_ok tabOk h337 1 [1, 3, 4, 5, 69] [1, 5] [(1, .o 1 0), (3, .v (.int .i64 i84)), (4, .v (.int .i64 i85)), (5, .o 5 0), (69, .v (.int .i64 i85))] [(1, ⟨[.int .i64 x0.At, strV x0.Text, .slice A1 (List.length x0.Posts) c2], 24⟩), (5, ⟨[strV x107.Account, .int .i64 x107.Amount], 38⟩)] (by kernel_rfl) fun β338 a339 w340 h341 => ?_
                            exact wpl_end (hk335 _ _ _ _ (h341.sel [1, 3, 4, 5] [0, 1] [1, 5]) (h341.getD rfl) rfl)
                          · skip
                            intro β342 a343 w344 dX345 Ox346 Q347 h348 hq349 hp350 hk351
                            have h352 := h348.learnE (d := 64) rfl (hp350 2 64 _ rfl rfl rfl)
                            clear h348
                            have h353 := h352.reb (t := 64) rfl hb210
                            clear h352
                            have h354 := h353.learnE (d := 69) rfl (hp350 7 69 _ rfl rfl rfl)
                            clear h353
                            refine evalS_ok tabOk h354 1 [1, 3, 4, 5, 70] [1, 5] [(1, .o 1 0), (3, .v (.int .i64 i84)), (4, .v (.int .i64 i85)), (5, .o 5 0), (70, .v (.int .i64 (IntKind.wrap .i64 (i85 - 1))))] [(1, ⟨[.int .i64 x0.At, strV x0.Text, .slice A1 (List.length x0.Posts) c2], 24⟩), (5, ⟨[strV x107.Account, .int .i64 x107.Amount], 38⟩)] (by kernel_rfl) fun β355 a356 w357 h358 => ?_
                            exact wpl_end (hk351 _ _ _ _ (h358.sel [1, 3, 4, 5] [0, 1] [1, 5]) (h358.getD rfl) rfl)
                          · skip
                            intro β359 a360 w361 dX362 Ox363 Q364 h365 hq366 hp367 hk368
                            have h369 := h365.learnE (d := 64) rfl (hp367 2 64 _ rfl rfl rfl)
                            clear h365
                            have h370 := h369.reb (t := 64) rfl hb210
                            clear h369
                            have h371 := h370.learnE (d := 68) rfl (hp367 6 68 _ rfl rfl rfl)
                            clear h370
                            have h372 := h371.learnE (d := 70) rfl (hp367 8 70 _ rfl rfl rfl)
                            clear h371
                            refine step_idx tabOk h372 1 rfl rfl rfl rfl rfl hx212 tb22 rfl tb38 rfl fun p373 a374 h375 => ?_
                            clear h372
                            exact wpl_end (hk368 _ _ _ _ (h375.sel [1, 3, 4, 5] [1, 2] [1, 5]) (h375.getA rfl (h375.d 0 rfl)) rfl)
                          · skip
                            intro β376 a377 w378 dX379 Ox380 Q381 h382 hq383 hp384 hk385
                            have h386 := h382.learnE (d := 64) rfl (hp384 2 64 _ rfl rfl rfl)
                            clear h382
                            have h387 := h386.reb (t := 64) rfl hb210
                            clear h386
                            have h388 := h387.learn (d := 71) rfl
                            clear h387
                            have f389 := hp384 9 71 _ rfl rfl rfl
                            generalize a377.tmps.getD 71 undef = v390 at h388 f389
                            have h391 := h388.addD (d := DF.at rApiPost x212 (v390)) f389
                            clear h388
                            refine step_field tabOk h391 0 rfl rfl rfl rfl tb38 rfl rfl rfl fun p392 a393 (h394 : Sb β376 _ _ (DF.at rStr x212.Account (p392) :: _) _ _ a393 w378) => ?_
                            clear h391
                            exact wpl_end (hk385 _ _ _ _ (h394.sel [1, 3, 4, 5] [2, 3] [1, 5]) (h394.getA rfl (h394.d 0 rfl)) rfl)
                          · skip
                            intro β395 a396 w397 dX398 Ox399 Q400 h401 hq402 hp403 hk404
                            have h405 := h401.learnE (d := 64) rfl (hp403 2 64 _ rfl rfl rfl)
                            clear h401
                            have h406 := h405.reb (t := 64) rfl hb210
                            clear h405
                            have h407 := h406.learn (d := 72) rfl
                            clear h406
                            have f408 := hp403 10 72 _ rfl rfl rfl
                            generalize a396.tmps.getD 72 undef = v409 at h407 f408
                            have h410 := h407.addD (d := DF.at rStr x212.Account (v409)) f408
                            clear h407
                            refine step_load tabOk h410 0 rfl rfl rfl rfl tb9 rfl rfl fun v411 a413 hv412 h414 => ?_
                            clear h410
                            obtain rfl := isV_str.1 hv412
                            exact wpl_end (hk404 _ _ _ _ (h414.sel [1, 3, 4, 5] [2, 3] [1, 5]) (h414.getD rfl) rfl)
                          · skip
                            intro β415 a416 w417 dX418 Ox419 Q420 h421 hq422 hp423 hk424
                            have h425 := h421.learnE (d := 64) rfl (hp423 2 64 _ rfl rfl rfl)
                            clear h421
                            have h426 := h425.reb (t := 64) rfl hb210
                            clear h425
                            have h427 := h426.learnE (d := 66) rfl (hp423 4 66 _ rfl rfl rfl)
                            clear h426
                            have h428 := h427.learnE (d := 73) rfl (hp423 11 73 _ rfl rfl rfl)
                            clear h427
                            refine evalS_ok tabOk h428 1 [1, 3, 4, 5, 74] [1, 5] [(1, .o 1 0), (3, .v (.int .i64 i84)), (4, .v (.int .i64 i85)), (5, .o 5 0), (74, .v (.bool (Op.bytesLess x107.Account x212.Account || x107.Account == x212.Account)))] [(1, ⟨[.int .i64 x0.At, strV x0.Text, .slice A1 (List.length x0.Posts) c2], 24⟩), (5, ⟨[strV x107.Account, .int .i64 x107.Amount], 38⟩)] (by kernel_rfl) fun β429 a430 w431 h432 => ?_
                            exact wpl_end (hk424 _ _ _ _ (h432.sel [1, 3, 4, 5] [0, 1] [1, 5]) (h432.getD rfl) rfl)
                          · skip
                            intro β433 a434 w435 dX436 Ox437 Q438 h439 hq440 hp441 hk442
                            have h443 := h439.learnE (d := 64) rfl (hp441 2 64 _ rfl rfl rfl)
                            clear h439
                            have h444 := h443.reb (t := 64) rfl hb210
                            clear h443
                            have h445 := h444.learnE (d := 74) rfl (hp441 12 74 _ rfl rfl rfl)
                            clear h444
                            refine evalS_ok tabOk h445 1 [1, 3, 4, 5, 75] [1, 5] [(1, .o 1 0), (3, .v (.int .i64 i84)), (4, .v (.int .i64 i85)), (5, .o 5 0), (75, .v (.bool (Op.bytesLess x107.Account x212.Account || x107.Account == x212.Account)))] [(1, ⟨[.int .i64 x0.At, strV x0.Text, .slice A1 (List.length x0.Posts) c2], 24⟩), (5, ⟨[strV x107.Account, .int .i64 x107.Amount], 38⟩)] (by kernel_rfl) fun β446 a447 w448 h449 => ?_
                            exact wpl_end (hk442 _ _ _ _ (h449.sel [1, 3, 4, 5] [0, 1] [1, 5]) (h449.getD rfl) rfl)
                        · skip
                          intro β450 a451 w452 h453 ha454
                          have h455 := h453.learnE (d := 75) rfl (ha454 13 75 _ rfl rfl)
                          clear h453
                          have h456 := h455.unpin rfl
                          clear h455
                          obtain rfl := Option.some.inj hv213
                          have h457 : Sb β450 (cx 91 ok w) [(1, .o 1 0), (3, .v (.int .i64 i84)), (4, .v (.int .i64 i85)), (5, .o 5 0), (75, .v (.bool (Op.bytesLess x107.Account x212.Account || x107.Account == x212.Account)))] [DF.v (rSl rApiPost) x0.Posts (.slice A1 (List.length x0.Posts) c2)] [(1, ⟨[.int .i64 x0.At, strV x0.Text, .slice A1 (List.length x0.Posts) c2], 24⟩), (5, ⟨[strV x107.Account, .int .i64 x107.Amount], 38⟩)] [] a451 w452 := h456.sel [1, 3, 4, 5, 75] [0] [1, 5]
                          clear h456
                          exact wpl_end (then_n ⟨_, h457⟩)
                      · skip
                        have hv458 := ifF hb210 hv140
                        clear hv140
                        have h460 : Sb β128 (cx 91 ok w) [(1, .o 1 0), (3, .v (.int .i64 i84)), (4, .v (.int .i64 i85)), (5, .o 5 0)] [DF.v (rSl rApiPost) x0.Posts (.slice A1 (List.length x0.Posts) c2)] [(1, ⟨[.int .i64 x0.At, strV x0.Text, .slice A1 (List.length x0.Posts) c2], 24⟩), (5, ⟨[strV x107.Account, .int .i64 x107.Amount], 38⟩)] [] a126 w127 := h129.sel [1, 3, 4, 5] [0] [1, 5]
                        refine draw_rule h460 rfl (by kernel_rfl) 14 [62, 63, 64, 65, 66, 67, 68, 69, 70, 71, 72, 73, 74, 75] [FV.eq (.int .i64 i85), FV.eq (.bool (decide (i85 > 0))), FV.eq (.bool (decide (i85 > 0))), FV.any, FV.any, FV.any, FV.any, FV.any, FV.any, FV.any, FV.any, FV.any, FV.any, FV.eq (.bool false)] rfl rfl rfl (by kernel_rfl) (by kernel_rfl) (by kernel_rfl) (by kernel_rfl) (by kernel_rfl) ?_ ?_
                        · skip
                          refine ⟨⟨⟨⟨⟨⟨⟨⟨⟨⟨⟨⟨⟨⟨trivial, ?_⟩, ?_⟩, ?_⟩, ?_⟩, ?_⟩, ?_⟩, ?_⟩, ?_⟩, ?_⟩, ?_⟩, ?_⟩, ?_⟩, ?_⟩, ?_⟩
                          · skip
                            intro β461 a462 w463 dX464 Ox465 Q466 h467 hq468 hp469 hk470
                            refine evalS_ok tabOk h467 1 [1, 3, 4, 5, 62] [1, 5] [(1, .o 1 0), (3, .v (.int .i64 i84)), (4, .v (.int .i64 i85)), (5, .o 5 0), (62, .v (.int .i64 i85))] [(1, ⟨[.int .i64 x0.At, strV x0.Text, .slice A1 (List.length x0.Posts) c2], 24⟩), (5, ⟨[strV x107.Account, .int .i64 x107.Amount], 38⟩)] (by kernel_rfl) fun β471 a472 w473 h474 => ?_
                            exact wpl_end (hk470 _ _ _ _ (h474.sel [1, 3, 4, 5] [0, 1] [1, 5]) (h474.getD rfl) rfl)
                          · skip
                            intro β475 a476 w477 dX478 Ox479 Q480 h481 hq482 hp483 hk484
                            have h485 := h481.learnE (d := 62) rfl (hp483 0 62 _ rfl rfl rfl)
                            clear h481
                            refine evalS_ok tabOk h485 1 [1, 3, 4, 5, 63] [1, 5] [(1, .o 1 0), (3, .v (.int .i64 i84)), (4, .v (.int .i64 i85)), (5, .o 5 0), (63, .v (.bool (decide (i85 > 0))))] [(1, ⟨[.int .i64 x0.At, strV x0.Text, .slice A1 (List.length x0.Posts) c2], 24⟩), (5, ⟨[strV x107.Account, .int .i64 x107.Amount], 38⟩)] (by kernel_rfl) fun β486 a487 w488 h489 => ?_
                            exact wpl_end (hk484 _ _ _ _ (h489.sel [1, 3, 4, 5] [0, 1] [1, 5]) (h489.getD rfl) rfl)
                          · skip
                            intro β490 a491 w492 dX493 Ox494 Q495 h496 hq497 hp498 hk499
                            have h500 := h496.learnE (d := 63) rfl (hp498 1 63 _ rfl rfl rfl)
                            clear h496
                            refine evalS_ok tabOk h500 1 [1, 3, 4, 5, 64] [1, 5] [(1, .o 1 0), (3, .v (.int .i64 i84)), (4, .v (.int .i64 i85)), (5, .o 5 0), (64, .v (.bool (decide (i85 > 0))))] [(1, ⟨[.int .i64 x0.At, strV x0.Text, .slice A1 (List.length x0.Posts) c2], 24⟩), (5, ⟨[strV x107.Account, .int .i64 x107.Amount], 38⟩)] (by kernel_rfl) fun β501 a502 w503 h504 => ?_
                            exact wpl_end (hk499 _ _ _ _ (h504.sel [1, 3, 4, 5] [0, 1] [1, 5]) (h504.getD rfl) rfl)
                          · skip
                            intro β505 a506 w507 dX508 Ox509 Q510 h511 hq512 hp513 hk514
                            have h515 := h511.learnE (d := 64) rfl (hp513 2 64 _ rfl rfl rfl)
                            clear h511
                            have h516 := h515.reb (t := 64) rfl hb210
                            clear h515
                            refine evalS_ok tabOk h516 1 [1, 3, 4, 5] [1, 5] [(1, .o 1 0), (3, .v (.int .i64 i84)), (4, .v (.int .i64 i85)), (5, .o 5 0)] [(1, ⟨[.int .i64 x0.At, strV x0.Text, .slice A1 (List.length x0.Posts) c2], 24⟩), (5, ⟨[strV x107.Account, .int .i64 x107.Amount], 38⟩)] (by kernel_rfl) fun β517 a518 w519 h520 => ?_
                            exact wpl_end (hk514 _ _ _ _ (h520.sel [1, 3, 4, 5] [0, 1] [1, 5]) trivial rfl)
                          · skip
                            intro β521 a522 w523 dX524 Ox525 Q526 h527 hq528 hp529 hk530
                            have h531 := h527.learnE (d := 64) rfl (hp529 2 64 _ rfl rfl rfl)
                            clear h527
                            have h532 := h531.reb (t := 64) rfl hb210
                            clear h531
                            refine evalS_ok tabOk h532 1 [1, 3, 4, 5] [1, 5] [(1, .o 1 0), (3, .v (.int .i64 i84)), (4, .v (.int .i64 i85)), (5, .o 5 0)] [(1, ⟨[.int .i64 x0.At, strV x0.Text, .slice A1 (List.length x0.Posts) c2], 24⟩), (5, ⟨[strV x107.Account, .int .i64 x107.Amount], 38⟩)] (by kernel_rfl) fun β533 a534 w535 h536 => ?_
                            exact wpl_end (hk530 _ _ _ _ (h536.sel [1, 3, 4, 5] [0, 1] [1, 5]) trivial rfl)
                          · skip
                            intro β537 a538 w539 dX540 Ox541 Q542 h543 hq544 hp545 hk546
                            have h547 := h543.learnE (d := 64) rfl (hp545 2 64 _ rfl rfl rfl)
                            clear h543
                            have h548 := h547.reb (t := 64) rfl hb210
                            clear h547
                            refine evalS_ok tabOk h548 1 [1, 3, 4, 5] [1, 5] [(1, .o 1 0), (3, .v (.int .i64 i84)), (4, .v (.int .i64 i85)), (5, .o 5 0)] [(1, ⟨[.int .i64 x0.At, strV x0.Text, .slice A1 (List.length x0.Posts) c2], 24⟩), (5, ⟨[strV x107.Account, .int .i64 x107.Amount], 38⟩)] (by kernel_rfl) fun β549 a550 w551 h552 => ?_
                            exact wpl_end (hk546 _ _ _ _ (h552.sel [1, 3, 4, 5] [0, 1] [1, 5]) trivial rfl)
                          · skip
                            intro β553 a554 w555 dX556 Ox557 Q558 h559 hq560 hp561 hk562
                            have h563 := h559.learnE (d := 64) rfl (hp561 2 64 _ rfl rfl rfl)
                            clear h559
                            have h564 := h563.reb (t := 64) rfl hb210
                            clear h563
                            refine evalS_ok tabOk h564 1 [1, 3, 4, 5] [1, 5] [(1, .o 1 0), (3, .v (.int .i64 i84)), (4, .v (.int .i64 i85)), (5, .o 5 0)] [(1, ⟨[.int .i64 x0.At, strV x0.Text, .slice A1 (List.length x0.Posts) c2], 24⟩), (5, ⟨[strV x107.Account, .int .i64 x107.Amount], 38⟩)] (by kernel_rfl) fun β565 a566 w567 h568 => ?_
                            exact wpl_end (hk562 _ _ _ _ (h568.sel [1, 3, 4, 5] [0, 1] [1, 5]) trivial rfl)
                          · skip
                            intro β569 a570 w571 dX572 Ox573 Q574 h575 hq576 hp577 hk578
                            have h579 := h575.learnE (d := 64) rfl (hp577 2 64 _ rfl rfl rfl)
                            clear h575
                            have h580 := h579.reb (t := 64) rfl hb210
                            clear h579
                            refine evalS_ok tabOk h580 1 [1, 3, 4, 5] [1, 5] [(1, .o 1 0), (3, .v (.int .i64 i84)), (4, .v (.int .i64 i85)), (5, .o 5 0)] [(1, ⟨[.int .i64 x0.At, strV x0.Text, .slice A1 (List.length x0.Posts) c2], 24⟩), (5, ⟨[strV x107.Account, .int .i64 x107.Amount], 38⟩)] (by kernel_rfl) fun β581 a582 w583 h584 => ?_
                            exact wpl_end (hk578 _ _ _ _ (h584.sel [1, 3, 4, 5] [0, 1] [1, 5]) trivial rfl)
                          · skip
                            intro β585 a586 w587 dX588 Ox589 Q590 h591 hq592 hp593 hk594
                            have h595 := h591.learnE (d := 64) rfl (hp593 2 64 _ rfl rfl rfl)
                            clear h591
                            have h596 := h595.reb (t := 64) rfl hb210
                            clear h595
                            refine evalS_ok tabOk h596 1 [1, 3, 4, 5] [1, 5] [(1, .o 1 0), (3, .v (.int .i64 i84)), (4, .v (.int .i64 i85)), (5, .o 5 0)] [(1, ⟨[.int .i64 x0.At, strV x0.Text, .slice A1 (List.length x0.Posts) c2], 24⟩), (5, ⟨[strV x107.Account, .int .i64 x107.Amount], 38⟩)] (by kernel_rfl) fun β597 a598 w599 h600 => ?_
                            exact wpl_end (hk594 _ _ _ _ (h600.sel [1, 3, 4, 5] [0, 1] [1, 5]) trivial rfl)
                          · skip
                            intro β601 a602 w603 dX604 Ox605 Q606 h607 hq608 hp609 hk610
                            have h611 := h607.learnE (d := 64) rfl (hp609 2 64 _ rfl rfl rfl)
                            clear h607
                            have h612 := h611.reb (t := 64) rfl hb210
                            clear h611
                            refine evalS_ok tabOk h612 1 [1, 3, 4, 5] [1, 5] [(1, .o 1 0), (3, .v (.int .i64 i84)), (4, .v (.int .i64 i85)), (5, .o 5 0)] [(1, ⟨[.int .i64 x0.At, strV x0.Text, .slice A1 (List.length x0.Posts) c2], 24⟩), (5, ⟨[strV x107.Account, .int .i64 x107.Amount], 38⟩)] (by kernel_rfl) fun β613 a614 w615 h616 => ?_
                            exact wpl_end (hk610 _ _ _ _ (h616.sel [1, 3, 4, 5] [0, 1] [1, 5]) trivial rfl)
                          · skip
                            intro β617 a618 w619 dX620 Ox621 Q622 h623 hq624 hp625 hk626
                            have h627 := h623.learnE (d := 64) rfl (hp625 2 64 _ rfl rfl rfl)
                            clear h623
                            have h628 := h627.reb (t := 64) rfl hb210
                            clear h627
                            refine evalS_ok tabOk h628 1 [1, 3, 4, 5] [1, 5] [(1, .o 1 0), (3, .v (.int .i64 i84)), (4, .v (.int .i64 i85)), (5, .o 5 0)] [(1, ⟨[.int .i64 x0.At, strV x0.Text, .slice A1 (List.length x0.Posts) c2], 24⟩), (5, ⟨[strV x107.Account, .int .i64 x107.Amount], 38⟩)] (by kernel_rfl) fun β629 a630 w631 h632 => ?_
                            exact wpl_end (hk626 _ _ _ _ (h632.sel [1, 3, 4, 5] [0, 1] [1, 5]) trivial rfl)
                          · skip
                            intro β633 a634 w635 dX636 Ox637 Q638 h639 hq640 hp641 hk642
                            have h643 := h639.learnE (d := 64) rfl (hp641 2 64 _ rfl rfl rfl)
                            clear h639
                            have h644 := h643.reb (t := 64) rfl hb210
                            clear h643
                            refine evalS_ok tabOk h644 1 [1, 3, 4, 5] [1, 5] [(1, .o 1 0), (3, .v (.int .i64 i84)), (4, .v (.int .i64 i85)), (5, .o 5 0)] [(1, ⟨[.int .i64 x0.At, strV x0.Text, .slice A1 (List.length x0.Posts) c2], 24⟩), (5, ⟨[strV x107.Account, .int .i64 x107.Amount], 38⟩)] (by kernel_rfl) fun β645 a646 w647 h648 => ?_
                            exact wpl_end (hk642 _ _ _ _ (h648.sel [1, 3, 4, 5] [0, 1] [1, 5]) trivial rfl)
                          · skip
                            intro β649 a650 w651 dX652 Ox653 Q654 h655 hq656 hp657 hk658
                            have h659 := h655.learnE (d := 64) rfl (hp657 2 64 _ rfl rfl rfl)
                            clear h655
                            have h660 := h659.reb (t := 64) rfl hb210
                            clear h659
                            refine evalS_ok tabOk h660 1 [1, 3, 4, 5] [1, 5] [(1, .o 1 0), (3, .v (.int .i64 i84)), (4, .v (.int .i64 i85)), (5, .o 5 0)] [(1, ⟨[.int .i64 x0.At, strV x0.Text, .slice A1 (List.length x0.Posts) c2], 24⟩), (5, ⟨[strV x107.Account, .int .i64 x107.Amount], 38⟩)] (by kernel_rfl) fun β661 a662 w663 h664 => ?_
                            exact wpl_end (hk658 _ _ _ _ (h664.sel [1, 3, 4, 5] [0, 1] [1, 5]) trivial rfl)
                          · skip
                            intro β665 a666 w667 dX668 Ox669 Q670 h671 hq672 hp673 hk674
                            have h675 := h671.learnE (d := 64) rfl (hp673 2 64 _ rfl rfl rfl)
                            clear h671
                            have h676 := h675.reb (t := 64) rfl hb210
                            clear h675
                            refine evalS_ok tabOk h676 1 [1, 3, 4, 5, 75] [1, 5] [(1, .o 1 0), (3, .v (.int .i64 i84)), (4, .v (.int .i64 i85)), (5, .o 5 0), (75, .v (.bool false))] [(1, ⟨[.int .i64 x0.At, strV x0.Text, .slice A1 (List.length x0.Posts) c2], 24⟩), (5, ⟨[strV x107.Account, .int .i64 x107.Amount], 38⟩)] (by kernel_rfl) fun β677 a678 w679 h680 => ?_
                            exact wpl_end (hk674 _ _ _ _ (h680.sel [1, 3, 4, 5] [0, 1] [1, 5]) (h680.getD rfl) rfl)
                        · skip
                          intro β681 a682 w683 h684 ha685
                          have h686 := h684.learnE (d := 75) rfl (ha685 13 75 _ rfl rfl)
                          clear h684
                          have h687 := h686.unpin rfl
                          clear h686
                          obtain rfl := Option.some.inj hv458
                          have h688 : Sb β681 (cx 91 ok w) [(1, .o 1 0), (3, .v (.int .i64 i84)), (4, .v (.int .i64 i85)), (5, .o 5 0), (75, .v (.bool false))] [DF.v (rSl rApiPost) x0.Posts (.slice A1 (List.length x0.Posts) c2)] [(1, ⟨[.int .i64 x0.At, strV x0.Text, .slice A1 (List.length x0.Posts) c2], 24⟩), (5, ⟨[strV x107.Account, .int .i64 x107.Amount], 38⟩)] [] a682 w683 := h687.sel [1, 3, 4, 5, 75] [0] [1, 5]
                          clear h687
                          exact wpl_end (then_n ⟨_, h688⟩)
                · skip
                  refine region_ok ?_
                  refine evalS_ok tabOk h120 5 [1, 3, 4, 5, 50] [1, 5] [(1, .o 1 0), (3, .v (.int .i64 i84)), (4, .v (.int .i64 i85)), (5, .o 5 0), (50, .v (.bool (decide ((List.length x107.Account : Int) < 1))))] [(1, ⟨[.int .i64 x0.At, strV x0.Text, .slice A1 (List.length x0.Posts) c2], 24⟩), (5, ⟨[strV x107.Account, .int .i64 x107.Amount], 38⟩)] (by kernel_rfl) fun β689 a690 w691 h692 => ?_
                  clear h120
                  refine bcases (b := (decide ((List.length x107.Account : Int) < 1))) (fun hb693 => ?_) (fun hb693 => ?_)
                  · skip
                    have hv694 := ifT hb693 hv124
                    clear hv124
                    have h695 := h692.reb (t := 50) rfl hb693
                    clear h692
                    refine evalS_ok tabOk h695 11 [1, 3, 4, 5, 61] [1, 5] [(1, .o 1 0), (3, .v (.int .i64 i84)), (4, .v (.int .i64 i85)), (5, .o 5 0), (61, .v (.bool true))] [(1, ⟨[.int .i64 x0.At, strV x0.Text, .slice A1 (List.length x0.Posts) c2], 24⟩), (5, ⟨[strV x107.Account, .int .i64 x107.Amount], 38⟩)] (by kernel_rfl) fun β696 a697 w698 h699 => ?_
                    clear h695
                    obtain rfl := Option.some.inj hv694
                    have h700 : Sb β696 (cx 91 ok w) [(1, .o 1 0), (3, .v (.int .i64 i84)), (4, .v (.int .i64 i85)), (5, .o 5 0), (61, .v (.bool true))] [DF.v (rSl rApiPost) x0.Posts (.slice A1 (List.length x0.Posts) c2)] [(1, ⟨[.int .i64 x0.At, strV x0.Text, .slice A1 (List.length x0.Posts) c2], 24⟩), (5, ⟨[strV x107.Account, .int .i64 x107.Amount], 38⟩)] [] a697 w698 := h699.sel [1, 3, 4, 5, 61] [0] [1, 5]
                    clear h699
                    exact wpl_end (then_n ⟨_, h700⟩)
                  · skip
                    have hv701 := ifF hb693 hv124
                    clear hv124
                    have h702 := h692.reb (t := 50) rfl hb693
                    clear h692
                    refine evalS_ok tabOk h702 6 [1, 3, 4, 5, 56] [1, 5] [(1, .o 1 0), (3, .v (.int .i64 i84)), (4, .v (.int .i64 i85)), (5, .o 5 0), (56, .v (.bool (decide ((List.length x107.Account : Int) > 200))))] [(1, ⟨[.int .i64 x0.At, strV x0.Text, .slice A1 (List.length x0.Posts) c2], 24⟩), (5, ⟨[strV x107.Account, .int .i64 x107.Amount], 38⟩)] (by kernel_rfl) fun β703 a704 w705 h706 => ?_
                    clear h702
                    refine bcases (b := (decide ((List.length x107.Account : Int) > 200))) (fun hb707 => ?_) (fun hb707 => ?_)
                    · skip
                      have hv708 := ifT hb707 hv701
                      clear hv701
                      have h709 := h706.reb (t := 56) rfl hb707
                      clear h706
                      refine evalS_ok tabOk h709 5 [1, 3, 4, 5, 61] [1, 5] [(1, .o 1 0), (3, .v (.int .i64 i84)), (4, .v (.int .i64 i85)), (5, .o 5 0), (61, .v (.bool true))] [(1, ⟨[.int .i64 x0.At, strV x0.Text, .slice A1 (List.length x0.Posts) c2], 24⟩), (5, ⟨[strV x107.Account, .int .i64 x107.Amount], 38⟩)] (by kernel_rfl) fun β710 a711 w712 h713 => ?_
                      clear h709
                      obtain rfl := Option.some.inj hv708
                      have h714 : Sb β710 (cx 91 ok w) [(1, .o 1 0), (3, .v (.int .i64 i84)), (4, .v (.int .i64 i85)), (5, .o 5 0), (61, .v (.bool true))] [DF.v (rSl rApiPost) x0.Posts (.slice A1 (List.length x0.Posts) c2)] [(1, ⟨[.int .i64 x0.At, strV x0.Text, .slice A1 (List.length x0.Posts) c2], 24⟩), (5, ⟨[strV x107.Account, .int .i64 x107.Amount], 38⟩)] [] a711 w712 := h713.sel [1, 3, 4, 5, 61] [0] [1, 5]
                      clear h713
                      exact wpl_end (then_n ⟨_, h714⟩)
                    · skip
                      have hv715 := ifF hb707 hv701
                      clear hv701
                      have h716 := h706.reb (t := 56) rfl hb707
                      clear h706
                      refine evalS_ok tabOk h716 2 [1, 3, 4, 5, 56, 58] [1, 5] [(1, .o 1 0), (3, .v (.int .i64 i84)), (4, .v (.int .i64 i85)), (5, .o 5 0), (56, .v (.bool false)), (58, .v (strV x107.Account))] [(1, ⟨[.int .i64 x0.At, strV x0.Text, .slice A1 (List.length x0.Posts) c2], 24⟩), (5, ⟨[strV x107.Account, .int .i64 x107.Amount], 38⟩)] (by kernel_rfl) fun β717 a718 w719 h720 => ?_
                      clear h716
                      obtain ⟨y721, hy721, hv722⟩ := bindE hv715
                      clear hv715
                      refine step_call h720 rfl rfl runs28 (vs := [(strV x107.Account), (.int .u8 33)]) (by kernel_rfl) (c_billingref47_Plain (x0 := x107.Account) (x1 := 33) h720.okLt N hy721) fun v723 a726 w727 hR724 hk725 h728 => ?_
                      clear h720
                      have hv729 := isV.weak hR724 hk725
                      obtain rfl := isV_bool.1 hv729
                      refine evalS_ok tabOk h728 2 [1, 3, 4, 5, 61] [1, 5] [(1, .o 1 0), (3, .v (.int .i64 i84)), (4, .v (.int .i64 i85)), (5, .o 5 0), (61, .v (.bool (!y721)))] [(1, ⟨[.int .i64 x0.At, strV x0.Text, .slice A1 (List.length x0.Posts) c2], 24⟩), (5, ⟨[strV x107.Account, .int .i64 x107.Amount], 38⟩)] (by kernel_rfl) fun β730 a731 w732 h733 => ?_
                      clear h728
                      obtain rfl := Option.some.inj hv722
                      have h734 : Sb β730 (cx 91 ok w) [(1, .o 1 0), (3, .v (.int .i64 i84)), (4, .v (.int .i64 i85)), (5, .o 5 0), (61, .v (.bool (!y721)))] [DF.v (rSl rApiPost) x0.Posts (.slice A1 (List.length x0.Posts) c2)] [(1, ⟨[.int .i64 x0.At, strV x0.Text, .slice A1 (List.length x0.Posts) c2], 24⟩), (5, ⟨[strV x107.Account, .int .i64 x107.Amount], 38⟩)] [] a731 w732 := h733.sel [1, 3, 4, 5, 61] [0] [1, 5]
                      clear h733
                      exact wpl_end (then_n ⟨_, h734⟩)
              · skip
                have hF735 := ifF hb98 hF92
                clear hF92
                refine wp_exit ?_
                refine hx93 0 _ _ ?_
                refine hx60 0 _ _ ?_
                refine hbb60 _ _ ?_
                obtain rfl := Option.some.inj hF735
                have h736 : Sb β94 (cx 91 ok w) [(3, .v (.int .i64 i84))] [] [] [] a95 w96 := (h97).sel [3] [] []
                exact j62 _ _ ⟨i84, ⟨_, h736⟩, hC60⟩
          · skip
            refine region_ok ?_
            refine evalS_ok tabOk h27 2 [1, 25] [1] [(1, .o 1 0), (25, .v (strV x0.Text))] [(1, ⟨[.int .i64 x0.At, strV x0.Text, .slice A1 (List.length x0.Posts) c2], 24⟩)] (by kernel_rfl) fun β738 a739 w740 h741 => ?_
            clear h27
            obtain ⟨y742, hy742, hv743⟩ := bindE hv38
            clear hv38
            refine step_call h741 rfl rfl runs28 (vs := [(strV x0.Text), (.int .u8 32)]) (by kernel_rfl) (c_billingref47_Plain (x0 := x0.Text) (x1 := 32) h741.okLt N hy742) fun v744 a747 w748 hR745 hk746 h749 => ?_
            clear h741
            have hv750 := isV.weak hR745 hk746
            obtain rfl := isV_bool.1 hv750
            refine evalS_ok tabOk h749 2 [1, 28] [1] [(1, .o 1 0), (28, .v (.bool (!y742)))] [(1, ⟨[.int .i64 x0.At, strV x0.Text, .slice A1 (List.length x0.Posts) c2], 24⟩)] (by kernel_rfl) fun β751 a752 w753 h754 => ?_
            clear h749
            refine bcases (b := (!y742)) (fun hb755 => ?_) (fun hb755 => ?_)
            · skip
              have hv756 := ifT hb755 hv743
              clear hv743
              have h757 := h754.reb (t := 28) rfl hb755
              clear h754
              refine evalS_ok tabOk h757 5 [1, 33] [1] [(1, .o 1 0), (33, .v (.bool true))] [(1, ⟨[.int .i64 x0.At, strV x0.Text, .slice A1 (List.length x0.Posts) c2], 24⟩)] (by kernel_rfl) fun β758 a759 w760 h761 => ?_
              clear h757
              obtain rfl := Option.some.inj hv756
              have h762 : Sb β758 (cx 91 ok w) [(1, .o 1 0), (33, .v (.bool true))] [DF.v (rSl rApiPost) x0.Posts (.slice A1 (List.length x0.Posts) c2)] [(1, ⟨[.int .i64 x0.At, strV x0.Text, .slice A1 (List.length x0.Posts) c2], 24⟩)] [] a759 w760 := h761.sel [1, 33] [0] [1]
              clear h761
              exact wpl_end (then_n ⟨_, h762⟩)
            · skip
              have hv763 := ifF hb755 hv743
              clear hv743
              have h764 := h754.reb (t := 28) rfl hb755
              clear h754
              refine evalS_ok tabOk h764 5 [1, 33] [1] [(1, .o 1 0), (33, .v (.bool (decide ((List.length x0.Posts : Int) < 2))))] [(1, ⟨[.int .i64 x0.At, strV x0.Text, .slice A1 (List.length x0.Posts) c2], 24⟩)] (by kernel_rfl) fun β765 a766 w767 h768 => ?_
              clear h764
              obtain rfl := Option.some.inj hv763
              have h769 : Sb β765 (cx 91 ok w) [(1, .o 1 0), (33, .v (.bool (decide ((List.length x0.Posts : Int) < 2))))] [DF.v (rSl rApiPost) x0.Posts (.slice A1 (List.length x0.Posts) c2)] [(1, ⟨[.int .i64 x0.At, strV x0.Text, .slice A1 (List.length x0.Posts) c2], 24⟩)] [] a766 w767 := h768.sel [1, 33] [0] [1]
              clear h768
              exact wpl_end (then_n ⟨_, h769⟩)
      · skip
        refine region_ok ?_
        refine evalS_ok tabOk h13 5 [1, 18] [1] [(1, .o 1 0), (18, .v (.bool (decide ((List.length x0.Text : Int) > 200))))] [(1, ⟨[.int .i64 x0.At, strV x0.Text, .slice A1 (List.length x0.Posts) c2], 24⟩)] (by kernel_rfl) fun β770 a771 w772 h773 => ?_
        clear h13
        refine bcases (b := (decide ((List.length x0.Text : Int) > 200))) (fun hb774 => ?_) (fun hb774 => ?_)
        · skip
          have h775 := h773.reb (t := 18) rfl hb774
          clear h773
          refine evalS_ok tabOk h775 5 [1, 23] [1] [(1, .o 1 0), (23, .v (.bool true))] [(1, ⟨[.int .i64 x0.At, strV x0.Text, .slice A1 (List.length x0.Posts) c2], 24⟩)] (by kernel_rfl) fun β776 a777 w778 h779 => ?_
          clear h775
          obtain rfl : g23 = true := by rw [hg23]; simp only [*, Bool.and_true, Bool.true_and, Bool.or_true, Bool.true_or, Bool.or_false, Bool.false_or, Bool.and_false, Bool.false_and, cond_true, cond_false]
          have h780 : Sb β776 (cx 91 ok w) [(1, .o 1 0), (23, .v (.bool true))] [DF.v (rSl rApiPost) x0.Posts (.slice A1 (List.length x0.Posts) c2)] [(1, ⟨[.int .i64 x0.At, strV x0.Text, .slice A1 (List.length x0.Posts) c2], 24⟩)] [] a777 w778 := h779.sel [1, 23] [0] [1]
          clear h779
          exact wpl_end (then_n ⟨_, h780⟩)
        · skip
          have h781 := h773.reb (t := 18) rfl hb774
          clear h773
          refine evalS_ok tabOk h781 5 [1, 23] [1] [(1, .o 1 0), (23, .v (.bool (decide ((List.length x0.Posts : Int) > 64))))] [(1, ⟨[.int .i64 x0.At, strV x0.Text, .slice A1 (List.length x0.Posts) c2], 24⟩)] (by kernel_rfl) fun β782 a783 w784 h785 => ?_
          clear h781
          obtain rfl : g23 = (decide ((List.length x0.Posts : Int) > 64)) := by rw [hg23]; simp only [*, Bool.and_true, Bool.true_and, Bool.or_true, Bool.true_or, Bool.or_false, Bool.false_or, Bool.and_false, Bool.false_and, cond_true, cond_false]
          have h786 : Sb β782 (cx 91 ok w) [(1, .o 1 0), (23, .v (.bool (decide ((List.length x0.Posts : Int) > 64))))] [DF.v (rSl rApiPost) x0.Posts (.slice A1 (List.length x0.Posts) c2)] [(1, ⟨[.int .i64 x0.At, strV x0.Text, .slice A1 (List.length x0.Posts) c2], 24⟩)] [] a783 w784 := h785.sel [1, 23] [0] [1]
          clear h785
          exact wpl_end (then_n ⟨_, h786⟩)
  · skip
    refine region_ok ?_
    refine evalS_ok tabOk h6 4 [1, 9] [1] [(1, .o 1 0), (9, .v (.bool (decide (x0.At < 0))))] [(1, ⟨[.int .i64 x0.At, strV x0.Text, .slice A1 (List.length x0.Posts) c2], 24⟩)] (by kernel_rfl) fun β787 a788 w789 h790 => ?_
    clear h6
    refine bcases (b := (decide (x0.At < 0))) (fun hb791 => ?_) (fun hb791 => ?_)
    · skip
      have h792 := h790.reb (t := 9) rfl hb791
      clear h790
      refine evalS_ok tabOk h792 4 [1, 13] [1] [(1, .o 1 0), (13, .v (.bool true))] [(1, ⟨[.int .i64 x0.At, strV x0.Text, .slice A1 (List.length x0.Posts) c2], 24⟩)] (by kernel_rfl) fun β793 a794 w795 h796 => ?_
      clear h792
      obtain rfl : g9 = true := by rw [hg9]; simp only [*, Bool.and_true, Bool.true_and, Bool.or_true, Bool.true_or, Bool.or_false, Bool.false_or, Bool.and_false, Bool.false_and, cond_true, cond_false]
      have h797 : Sb β793 (cx 91 ok w) [(1, .o 1 0), (13, .v (.bool true))] [DF.v (rSl rApiPost) x0.Posts (.slice A1 (List.length x0.Posts) c2)] [(1, ⟨[.int .i64 x0.At, strV x0.Text, .slice A1 (List.length x0.Posts) c2], 24⟩)] [] a794 w795 := h796.sel [1, 13] [0] [1]
      clear h796
      exact wpl_end (then_n ⟨_, h797⟩)
    · skip
      have h798 := h790.reb (t := 9) rfl hb791
      clear h790
      refine evalS_ok tabOk h798 4 [1, 13] [1] [(1, .o 1 0), (13, .v (.bool (decide (x0.At ≥ 12622780800))))] [(1, ⟨[.int .i64 x0.At, strV x0.Text, .slice A1 (List.length x0.Posts) c2], 24⟩)] (by kernel_rfl) fun β799 a800 w801 h802 => ?_
      clear h798
      obtain rfl : g9 = (decide (x0.At ≥ 12622780800)) := by rw [hg9]; simp only [*, Bool.and_true, Bool.true_and, Bool.or_true, Bool.true_or, Bool.or_false, Bool.false_or, Bool.and_false, Bool.false_and, cond_true, cond_false]
      have h803 : Sb β799 (cx 91 ok w) [(1, .o 1 0), (13, .v (.bool (decide (x0.At ≥ 12622780800))))] [DF.v (rSl rApiPost) x0.Posts (.slice A1 (List.length x0.Posts) c2)] [(1, ⟨[.int .i64 x0.At, strV x0.Text, .slice A1 (List.length x0.Posts) c2], 24⟩)] [] a800 w801 := h802.sel [1, 13] [0] [1]
      clear h802
      exact wpl_end (then_n ⟨_, h803⟩)

theorem c_billingref47_ValidAll {ok : Ok} {w : World} (hok : ∀ b o, ok b o → b < w.heap.size) (N : Nat) {x0 : (List ApiEntry)} {x1 : Int} {A1 : Option Addr} {c2 : Nat} (d0 : isV (rSl rApiEntry) ok w x0 (.slice A1 (List.length x0) c2)) {r : Bool} (hF : billingref47_ValidAll N x0 x1 = some r) :
    Calls Try.prog 12 ⟨[.slice A1 (List.length x0) c2, .int .i64 x1]⟩ w (Ret w (R1 rBool ok w r)) := by
  rw [billingref47_ValidAll] at hF
  refine enter_ok (n := 22) hok Try.func12 rfl rfl rfl (D := [DF.v (rSl rApiEntry) x0 (.slice A1 (List.length x0) c2)]) ⟨d0, trivial⟩ (fun a h => ?_)
  simp only [zipG, Nat.zero_add, Nat.reduceAdd] at h
  refine start_ctx fun Q hn hr => ?_
  refine seq_region tabOk h [0, 1] [] [(0, .v (.slice A1 (List.length x0) c2)), (1, .v (.int .i64 x1))] [] (by kernel_rfl) fun β3 a4 w5 h6 => ?_
  clear h
  refine seq_ctx fun Q7 hn7 hr7 hx7 => ?_
  refine seq_region tabOk h6 [0, 9] [] [(0, .v (.slice A1 (List.length x0) c2)), (9, .v (.bool (decide ((List.length x0 : Int) > x1))))] [] (by kernel_rfl) fun β8 a9 w10 h11 => ?_
  clear h6
  refine wp_if h11 rfl (fun hb12 => ?_) (fun hb12 => ?_)
  · skip
    have hF13 := ifT hb12 hF
    clear hF
    refine seq_region tabOk h11 [4] [] [(4, .v (.bool false))] [] (by kernel_rfl) fun β14 a15 w16 h17 => ?_
    clear h11
    refine wp_ret ?_
    refine hr7 _ _ ?_
    refine hr _ _ ?_
    obtain rfl := Option.some.inj hF13
    exact ret1_ok h17 rfl rfl (isV_bool.2 rfl)
  · skip
    have hF18 := ifF hb12 hF
    clear hF
    refine wp_skip ?_
    refine hn7 _ _ ?_
    refine seq_ctx fun Q19 hn19 hr19 hx19 => ?_
    refine seq_region tabOk h11 [0, 5] [] [(0, .v (.slice A1 (List.length x0) c2)), (5, .v (.int .i64 0))] [] (by kernel_rfl) fun β20 a21 w22 h23 => ?_
    clear h11
    obtain ⟨out24, hL24, hC24⟩ := bindE hF18
    clear hF18
    have j25 : ∀ a w', ((∃ β, Sb β (cx 22 ok w) [] [] [] [] a w') ∧ billingref47_ValidAll_j25 N = some r) → Q19 .normal a w' := by
      rintro a26 w27 ⟨⟨β28, h29⟩, hF30⟩
      rw [billingref47_ValidAll_j25] at hF30
      refine hn19 _ _ ?_
      refine seq_region tabOk h29 [4] [] [(4, .v (.bool true))] [] (by kernel_rfl) fun β31 a32 w33 h34 => ?_
      clear h29
      refine wp_ret ?_
      refine hr _ _ ?_
      obtain rfl := Option.some.inj hF30
      exact ret1_ok h34 rfl rfl (isV_bool.2 rfl)
    refine block_ctx fun Qb24 hnb24 hrb24 hbb24 hxb24 => ?_
    have h36 : Sb β20 (cx 22 ok w) [(0, .v (.slice A1 (List.length x0) c2)), (5, .v (.int .i64 0))] [DF.v (rSl rApiEntry) x0 (.slice A1 (List.length x0) c2)] [] [] a21 w22 := (h23).sel [0, 5] [0] []
    refine loop_ctx (fun m a w' => ∃ (i35 : Int), (∃ β, Sb β (cx 22 ok w) [(0, .v (.slice A1 (List.length x0) c2)), (5, .v (.int .i64 i35))] [DF.v (rSl rApiEntry) x0 (.slice A1 (List.length x0) c2)] [] [] a w') ∧ billingref47_ValidAll_l24 N x0 m i35 = some out24) N ⟨0, ⟨_, h36⟩, hL24⟩ ?_
    rintro Q24 m37 a38 w39 ⟨i35, ⟨β40, h41⟩, hF42⟩ hn24 hr24 hx24
    obtain _ | m37 := m37
    · exact absurd hF42 (by simp [billingref47_ValidAll_l24])
    rw [billingref47_ValidAll_l24] at hF42
    refine seq_ctx fun Q43 hn43 hr43 hx43 => ?_
    refine seq_region tabOk h41 [0, 5, 13] [] [(0, .v (.slice A1 (List.length x0) c2)), (5, .v (.int .i64 i35)), (13, .v (.bool (decide (i35 < (List.length x0 : Int)))))] [] (by kernel_rfl) fun β44 a45 w46 h47 => ?_
    clear h41
    refine wp_if h47 rfl (fun hb48 => ?_) (fun hb48 => ?_)
    · skip
      have hF49 := ifT hb48 hF42
      clear hF42
      refine wp_skip ?_
      refine hn43 _ _ ?_
      refine seq_ctx fun Q50 hn50 hr50 hx50 => ?_
      refine block_ctx fun Q51 hn51 hr51 hb51 hx51 => ?_
      refine seq_list fun Q52 hq52 => ?_
      refine evalS_ok tabOk h47 2 [0, 5, 16, 17] [] [(0, .v (.slice A1 (List.length x0) c2)), (5, .v (.int .i64 i35)), (16, .v (.slice A1 (List.length x0) c2)), (17, .v (.int .i64 i35))] [] (by kernel_rfl) fun β53 a54 w55 h56 => ?_
      clear h47
      obtain ⟨x57, hx57, hF58⟩ := bindE hF49
      clear hF49
      refine step_idx tabOk h56 0 rfl rfl rfl rfl rfl hx57 tb30 rfl tb24 rfl fun p59 a60 h61 => ?_
      clear h56
      refine step_load tabOk h61 0 rfl rfl rfl rfl tb24 rfl rfl fun v62 a64 hv63 h65 => ?_
      clear h61
      obtain ⟨v68, hs69, rfl⟩ := ex_ApiEntry hv63
      obtain ⟨A66, c67, rfl, hs70⟩ := slForm hs69
      have h71 := h65.addD (d := DF.v (rSl rApiPost) x57.Posts (.slice A66 (List.length x57.Posts) c67)) hs70
      clear h65
      obtain ⟨y72, hy72, hF73⟩ := bindE hF58
      clear hF58
      refine step_call h71 rfl rfl runs11 (vs := [(.agg ⟨[.int .i64 x57.At, strV x57.Text, .slice A66 (List.length x57.Posts) c67]⟩)]) (by kernel_rfl) (c_billingref47_Check (x0 := x57) h71.okLt N (h71.d 0 rfl) hy72) fun v74 a77 w78 hR75 hk76 h79 => ?_
      clear h71
      have hv80 := isV.weak hR75 hk76
      obtain rfl := isV_int.1 hv80
      refine evalS_ok tabOk h79 1 [0, 5, 21] [] [(0, .v (.slice A1 (List.length x0) c2)), (5, .v (.int .i64 i35)), (21, .v (.bool (y72 != 0)))] [] (by kernel_rfl) fun β81 a82 w83 h84 => ?_
      clear h79
      have h85 : Sb β81 (cx 22 ok w) [(0, .v (.slice A1 (List.length x0) c2)), (5, .v (.int .i64 i35)), (21, .v (.bool (y72 != 0)))] [DF.v (rSl rApiEntry) x0 (.slice A1 (List.length x0) c2)] [] [] a82 w83 := h84.sel [0, 5, 21] [3] []
      clear h84
      refine wpl_end (hq52 _ _ ?_)
      refine wp_if h85 rfl (fun hb86 => ?_) (fun hb86 => ?_)
      · skip
        have hF87 := ifT hb86 hF73
        clear hF73
        refine seq_region tabOk h85 [4] [] [(4, .v (.bool false))] [] (by kernel_rfl) fun β88 a89 w90 h91 => ?_
        clear h85
        refine wp_ret ?_
        refine hr51 _ _ ?_
        refine hr50 _ _ ?_
        refine hr24 _ _ ?_
        refine hrb24 _ _ ?_
        refine hr19 _ _ ?_
        refine hr _ _ ?_
        obtain rfl := Option.some.inj hF87
        obtain rfl := Option.some.inj hC24
        exact ret1_ok h91 rfl rfl (isV_bool.2 rfl)
      · skip
        have hF92 := ifF hb86 hF73
        clear hF73
        refine wp_skip ?_
        refine hn51 _ _ ?_
        refine hn50 _ _ ?_
        refine evalR_ok tabOk h85 [0, 5] [] [(0, .v (.slice A1 (List.length x0) c2)), (5, .v (.int .i64 (IntKind.wrap .i64 (i35 + 1))))] [] (by kernel_rfl) fun β93 a94 w95 h96 => ?_
        clear h85
        have h97 : Sb β93 (cx 22 ok w) [(0, .v (.slice A1 (List.length x0) c2)), (5, .v (.int .i64 (IntKind.wrap .i64 (i35 + 1))))] [DF.v (rSl rApiEntry) x0 (.slice A1 (List.length x0) c2)] [] [] a94 w95 := (h96).sel [0, 5] [0] []
        exact hn24 _ _ _ (Nat.lt_succ_self _) ⟨(IntKind.wrap .i64 (i35 + 1)), ⟨_, h97⟩, hF92⟩
    · skip
      have hF98 := ifF hb48 hF42
      clear hF42
      refine wp_exit ?_
      refine hx43 0 _ _ ?_
      refine hx24 0 _ _ ?_
      refine hbb24 _ _ ?_
      obtain rfl := Option.some.inj hF98
      have h99 : Sb β44 (cx 22 ok w) [] [] [] [] a45 w46 := (h47).sel [] [] []
      exact j25 _ _ ⟨⟨_, h99⟩, hC24⟩

theorem c_ledger_receivable {ok : Ok} {w : World} (hok : ∀ b o, ok b o → b < w.heap.size) (N : Nat) {x0 : Int} {r : Str} (hF : ledger_receivable N x0 = some r) :
    Calls Try.prog 39 ⟨[.int .i64 x0]⟩ w (Ret w (R1 rStr ok w r)) := by
  rw [ledger_receivable] at hF
  refine enter_ok (n := 28) hok Try.func39 rfl rfl rfl (D := []) trivial (fun a h => ?_)
  simp only [zipG, Nat.zero_add, Nat.reduceAdd] at h
  refine start_ctx fun Q hn hr => ?_
  refine seq_region tabOk h [0] [] [(0, .v (.int .i64 x0))] [] (by kernel_rfl) fun β1 a2 w3 h4 => ?_
  clear h
  refine seq_region tabOk h4 [0, 3] [3] [(0, .v (.int .i64 x0)), (3, .o 3 0)] [(3, ⟨arrC .u8 (List.replicate 20 0), 63⟩)] (by kernel_rfl) fun β5 a6 w7 h8 => ?_
  clear h4
  refine seq_region tabOk h8 [0, 3, 4] [3] [(0, .v (.int .i64 x0)), (3, .o 3 0), (4, .v (.int .i64 20))] [(3, ⟨arrC .u8 (List.replicate 20 0), 63⟩)] (by kernel_rfl) fun β9 a10 w11 h12 => ?_
  clear h8
  refine seq_ctx fun Q13 hn13 hr13 hx13 => ?_
  refine seq_region tabOk h12 [3, 4, 5] [3] [(3, .o 3 0), (4, .v (.int .i64 20)), (5, .v (.int .i64 (if 0 > x0 then 0 else x0)))] [(3, ⟨arrC .u8 (List.replicate 20 0), 63⟩)] (by kernel_rfl) fun β14 a15 w16 h17 => ?_
  clear h12
  obtain ⟨out18, hL18, hC18⟩ := bindE hF
  clear hF
  have j21 : ∀ a w', (∃ (i19 : Int) (l20 : List Int), (∃ β, Sb β (cx 28 ok w) [(3, .o 3 0), (4, .v (.int .i64 i19))] [DF.pure (List.length l20 = 20)] [(3, ⟨arrC .u8 l20, 63⟩)] [] a w') ∧ ledger_receivable_j21 N i19 l20 = some r) → Q13 .normal a w' := by
    rintro a22 w23 ⟨i19, l20, ⟨β24, h25⟩, hF26⟩
    rw [ledger_receivable_j21] at hF26
    refine hn13 _ _ ?_
    refine seq_list fun Q27 hq27 => ?_
    refine evalS_ok tabOk h25 1 [3, 24] [3] [(3, .o 3 0), (24, .v (.int .i64 i19))] [(3, ⟨arrC .u8 l20, 63⟩)] (by kernel_rfl) fun β28 a29 w30 h31 => ?_
    clear h25
    obtain ⟨z32, hz32, hF33⟩ := bindE hF26
    clear hF26
    refine step_arrStr tabOk h31 rfl rfl (l := l20) (lw := i19) (u := (List.length l20 : Int)) tb63 rfl tb5 rfl (h31.d 0 rfl) tb64 rfl tb5 rfl tb9 rfl rfl rfl ⟨_, rfl⟩ rfl hz32 fun a34 h35 => ?_
    clear h31
    obtain ⟨s36, hs36, hF37⟩ := bindE hF33
    clear hF33
    refine step_scat h35 rfl rfl rfl rfl hs36 fun a38 h39 => ?_
    clear h35
    refine evalS_ok tabOk h39 1 [2] [] [(2, .v (strV s36))] [] (by kernel_rfl) fun β40 a41 w42 h43 => ?_
    clear h39
    have h44 : Sb β40 (cx 28 ok w) [(2, .v (strV s36))] [] [] [] a41 w42 := h43.sel [2] [] []
    clear h43
    refine wpl_end (hq27 _ _ ?_)
    refine wp_ret ?_
    refine hr _ _ ?_
    obtain rfl := Option.some.inj hF37
    exact ret1_ok h44 rfl rfl (isV_str.2 rfl)
  refine block_ctx fun Qb18 hnb18 hrb18 hbb18 hxb18 => ?_
  have h48 : Sb β14 (cx 28 ok w) [(3, .o 3 0), (4, .v (.int .i64 20)), (5, .v (.int .i64 (if 0 > x0 then 0 else x0)))] [DF.pure (List.length (List.replicate 20 0) = 20)] [(3, ⟨arrC .u8 (List.replicate 20 0), 63⟩)] [] a15 w16 := (h17.addD (d := DF.pure (List.length (List.replicate 20 0) = 20)) List.length_replicate).sel [3, 4, 5] [0] [3]
  refine loop_ctx (fun m a w' => ∃ (i45 : Int) (i46 : Int) (l47 : List Int), (∃ β, Sb β (cx 28 ok w) [(3, .o 3 0), (4, .v (.int .i64 i45)), (5, .v (.int .i64 i46))] [DF.pure (List.length l47 = 20)] [(3, ⟨arrC .u8 l47, 63⟩)] [] a w') ∧ ledger_receivable_l18 N m i45 i46 l47 = some out18) N ⟨20, (if 0 > x0 then 0 else x0), (List.replicate 20 0), ⟨_, h48⟩, hL18⟩ ?_
  rintro Q18 m49 a50 w51 ⟨i45, i46, l47, ⟨β52, h53⟩, hF54⟩ hn18 hr18 hx18
  obtain _ | m49 := m49
  · exact absurd hF54 (by simp [ledger_receivable_l18])
  rw [ledger_receivable_l18] at hF54
  refine seq_ctx fun Q55 hn55 hr55 hx55 => ?_
  obtain ⟨g57, hg57⟩ : ∃ z, z = ((decide (i46 > 0)) || (i45 == 20)) := ⟨_, rfl⟩
  skip
  refine seq_join (J := fun a w' => ∃ β, Sb β (cx 28 ok w) [(3, .o 3 0), (4, .v (.int .i64 i45)), (5, .v (.int .i64 i46)), (13, .v (.bool g57))] [DF.pure (List.length l47 = 20)] [(3, ⟨arrC .u8 l47, 63⟩)] [] a w') ?_ ?_
  · skip
    rintro a58 w59 ⟨β60, h61⟩
    subst hg57
    refine wp_if h61 rfl (fun hb62 => ?_) (fun hb62 => ?_)
    · skip
      have hF63 := ifT hb62 hF54
      clear hF54
      refine wp_skip ?_
      refine hn55 _ _ ?_
      refine seq_ctx fun Q64 hn64 hr64 hx64 => ?_
      refine block_ctx fun Q65 hn65 hr65 hb65 hx65 => ?_
      refine seq_region tabOk h61 [3, 4, 5] [3] [(3, .o 3 0), (4, .v (.int .i64 (IntKind.wrap .i64 (i45 - 1)))), (5, .v (.int .i64 i46))] [(3, ⟨arrC .u8 l47, 63⟩)] (by kernel_rfl) fun β66 a67 w68 h69 => ?_
      clear h61
      refine region_ok ?_
      refine evalS_ok tabOk h69 5 [3, 4, 5, 18, 22] [3] [(3, .o 3 0), (4, .v (.int .i64 (IntKind.wrap .i64 (i45 - 1)))), (5, .v (.int .i64 i46)), (18, .v (.int .i64 (IntKind.wrap .i64 (i45 - 1)))), (22, .v (.int .u8 (IntKind.wrap .u8 ((IntKind.wrap .i64 (48 + (Int.tmod i46 10)))))))] [(3, ⟨arrC .u8 l47, 63⟩)] (by kernel_rfl) fun β71 a72 w73 h74 => ?_
      clear h69
      obtain ⟨x75, hx75, hF76⟩ := bindE hF63
      clear hF63
      refine step_arrIdx tabOk h74 rfl rfl (l := l47) tb63 rfl tb5 rfl (h74.d 0 rfl) rfl rfl hx75 fun a77 h78 => ?_
      clear h74
      refine step_arrStore tabOk h78 rfl tb5 rfl rfl rfl rfl hx75 rfl fun a79 w80 h81 => ?_
      clear h78
      have h82 : Sb β71 (cx 28 ok w) [(3, .o 3 0), (4, .v (.int .i64 (IntKind.wrap .i64 (i45 - 1)))), (5, .v (.int .i64 i46))] [DF.pure (List.length l47 = 20)] [(3, ⟨arrC .u8 (List.set l47 (Int.toNat (IntKind.wrap .i64 (i45 - 1))) (IntKind.wrap .u8 ((IntKind.wrap .i64 (48 + (Int.tmod i46 10)))))), 63⟩)] [] a79 w80 := h81.sel [3, 4, 5] [0] [3]
      clear h81
      refine wpl_end ?_
      refine hn65 _ _ ?_
      refine hn64 _ _ ?_
      refine evalR_ok tabOk h82 [3, 4, 5] [3] [(3, .o 3 0), (4, .v (.int .i64 (IntKind.wrap .i64 (i45 - 1)))), (5, .v (.int .i64 (IntKind.wrap .i64 (Int.tdiv i46 10))))] [(3, ⟨arrC .u8 (List.set l47 (Int.toNat (IntKind.wrap .i64 (i45 - 1))) (IntKind.wrap .u8 ((IntKind.wrap .i64 (48 + (Int.tmod i46 10)))))), 63⟩)] (by kernel_rfl) fun β83 a84 w85 h86 => ?_
      clear h82
      have h87 : Sb β83 (cx 28 ok w) [(3, .o 3 0), (4, .v (.int .i64 (IntKind.wrap .i64 (i45 - 1)))), (5, .v (.int .i64 (IntKind.wrap .i64 (Int.tdiv i46 10))))] [DF.pure (List.length (List.set l47 (Int.toNat (IntKind.wrap .i64 (i45 - 1))) (IntKind.wrap .u8 ((IntKind.wrap .i64 (48 + (Int.tmod i46 10)))))) = 20)] [(3, ⟨arrC .u8 (List.set l47 (Int.toNat (IntKind.wrap .i64 (i45 - 1))) (IntKind.wrap .u8 ((IntKind.wrap .i64 (48 + (Int.tmod i46 10)))))), 63⟩)] [] a84 w85 := (h86.addD (d := DF.pure (List.length (List.set l47 (Int.toNat (IntKind.wrap .i64 (i45 - 1))) (IntKind.wrap .u8 ((IntKind.wrap .i64 (48 + (Int.tmod i46 10)))))) = 20)) (by simp only [List.length_set]; exact h86.d 0 rfl)).sel [3, 4, 5] [0] [3]
      exact hn18 _ _ _ (Nat.lt_succ_self _) ⟨(IntKind.wrap .i64 (i45 - 1)), (IntKind.wrap .i64 (Int.tdiv i46 10)), (List.set l47 (Int.toNat (IntKind.wrap .i64 (i45 - 1))) (IntKind.wrap .u8 ((IntKind.wrap .i64 (48 + (Int.tmod i46 10)))))), ⟨_, h87⟩, hF76⟩
    · skip
      have hF88 := ifF hb62 hF54
      clear hF54
      refine wp_exit ?_
      refine hx55 0 _ _ ?_
      refine hx18 0 _ _ ?_
      refine hbb18 _ _ ?_
      obtain rfl := Option.some.inj hF88
      have h89 : Sb β60 (cx 28 ok w) [(3, .o 3 0), (4, .v (.int .i64 i45))] [DF.pure (List.length l47 = 20)] [(3, ⟨arrC .u8 l47, 63⟩)] [] a58 w59 := (h61).sel [3, 4] [0] [3]
      exact j21 _ _ ⟨i45, l47, ⟨_, h89⟩, hC18⟩
  · skip
    refine region_ok ?_
    refine evalS_ok tabOk h53 3 [3, 4, 5, 10] [3] [(3, .o 3 0), (4, .v (.int .i64 i45)), (5, .v (.int .i64 i46)), (10, .v (.bool (decide (i46 > 0))))] [(3, ⟨arrC .u8 l47, 63⟩)] (by kernel_rfl) fun β91 a92 w93 h94 => ?_
    clear h53
    refine bcases (b := (decide (i46 > 0))) (fun hb95 => ?_) (fun hb95 => ?_)
    · skip
      have h96 := h94.reb (t := 10) rfl hb95
      clear h94
      refine evalS_ok tabOk h96 3 [3, 4, 5, 13] [3] [(3, .o 3 0), (4, .v (.int .i64 i45)), (5, .v (.int .i64 i46)), (13, .v (.bool true))] [(3, ⟨arrC .u8 l47, 63⟩)] (by kernel_rfl) fun β97 a98 w99 h100 => ?_
      clear h96
      obtain rfl : g57 = true := by rw [hg57]; simp only [*, Bool.and_true, Bool.true_and, Bool.or_true, Bool.true_or, Bool.or_false, Bool.false_or, Bool.and_false, Bool.false_and, cond_true, cond_false]
      have h101 : Sb β97 (cx 28 ok w) [(3, .o 3 0), (4, .v (.int .i64 i45)), (5, .v (.int .i64 i46)), (13, .v (.bool true))] [DF.pure (List.length l47 = 20)] [(3, ⟨arrC .u8 l47, 63⟩)] [] a98 w99 := h100.sel [3, 4, 5, 13] [0] [3]
      clear h100
      exact wpl_end (then_n ⟨_, h101⟩)
    · skip
      have h102 := h94.reb (t := 10) rfl hb95
      clear h94
      refine evalS_ok tabOk h102 3 [3, 4, 5, 13] [3] [(3, .o 3 0), (4, .v (.int .i64 i45)), (5, .v (.int .i64 i46)), (13, .v (.bool (i45 == 20)))] [(3, ⟨arrC .u8 l47, 63⟩)] (by kernel_rfl) fun β103 a104 w105 h106 => ?_
      clear h102
      obtain rfl : g57 = (i45 == 20) := by rw [hg57]; simp only [*, Bool.and_true, Bool.true_and, Bool.or_true, Bool.true_or, Bool.or_false, Bool.false_or, Bool.and_false, Bool.false_and, cond_true, cond_false]
      have h107 : Sb β103 (cx 28 ok w) [(3, .o 3 0), (4, .v (.int .i64 i45)), (5, .v (.int .i64 i46)), (13, .v (.bool (i45 == 20)))] [DF.pure (List.length l47 = 20)] [(3, ⟨arrC .u8 l47, 63⟩)] [] a104 w105 := h106.sel [3, 4, 5, 13] [0] [3]
      clear h106
      exact wpl_end (then_n ⟨_, h107⟩)

theorem co_ledger_nonzero {ok : Ok} {w : World} (hok : ∀ b o, ok b o → b < w.heap.size) (N : Nat) {x0 : (List ApiPost)} {A1 : Option Addr} {c2 : Nat} (d0 : isV (rSl rApiPost) ok w x0 (.slice A1 (List.length x0) c2)) {r : (List ApiPost)} (hF : ledger_nonzero N x0 = some r) :
    Calls Try.prog 34 ⟨[.slice A1 (List.length x0) c2]⟩ w (Ret w (R1o (rSl rApiPost) 38 2 ok w r)) := by
  rw [ledger_nonzero] at hF
  refine enter_ok (n := 21) hok Try.func34 rfl rfl rfl (D := [DF.v (rSl rApiPost) x0 (.slice A1 (List.length x0) c2)]) ⟨d0, trivial⟩ (fun a h => ?_)
  simp only [zipG, Nat.zero_add, Nat.reduceAdd] at h
  refine start_ctx fun Q hn hr => ?_
  refine seq_region tabOk h [0] [] [(0, .v (.slice A1 (List.length x0) c2))] [] (by kernel_rfl) fun β3 a4 w5 h6 => ?_
  clear h
  refine seq_region tabOk h6 [0, 3] [] [(0, .v (.slice A1 (List.length x0) c2)), (3, .v (.slice none 0 0))] [] (by kernel_rfl) fun β7 a8 w9 h10 => ?_
  clear h6
  have h11 := h10.addNil 38 2
  refine seq_ctx fun Q12 hn12 hr12 hx12 => ?_
  refine seq_region tabOk h11 [3, 6, 7, 8] [] [(3, .v (.slice none 0 0)), (6, .v (.slice A1 (List.length x0) c2)), (7, .v (.int .i64 (List.length x0 : Int))), (8, .v (.int .i64 0))] [] (by kernel_rfl) fun β13 a14 w15 h16 => ?_
  clear h11
  obtain ⟨out17, hL17, hC17⟩ := bindE hF
  clear hF
  have j21 : ∀ a w', (∃ (l18 : List ApiPost) (A19 : Option Addr) (c20 : Nat), (∃ β, Sb β (cx 21 ok w) [(3, .v (.slice A19 (List.length l18) c20))] [DF.v (rSl rApiPost) l18 (.slice A19 (List.length l18) c20)] [] [⟨.slice A19 (List.length l18) c20, 38, 2⟩] a w') ∧ ledger_nonzero_j21 N l18 = some r) → Q12 .normal a w' := by
    rintro a22 w23 ⟨l18, A19, c20, ⟨β24, h25⟩, hF26⟩
    rw [ledger_nonzero_j21] at hF26
    refine hn12 _ _ ?_
    refine seq_region tabOk h25 [2] [] [(2, .v (.slice A19 (List.length l18) c20))] [] (by kernel_rfl) fun β27 a28 w29 h30 => ?_
    clear h25
    refine wp_ret ?_
    refine hr _ _ ?_
    obtain rfl := Option.some.inj hF26
    exact ret1_ok h30 rfl rfl (own_out h30 hok (.head _) (h30.d 0 rfl))
  refine block_ctx fun Qb17 hnb17 hrb17 hbb17 hxb17 => ?_
  have h35 : Sb β13 (cx 21 ok w) [(3, .v (.slice none 0 0)), (6, .v (.slice A1 (List.length x0) c2)), (7, .v (.int .i64 (List.length x0 : Int))), (8, .v (.int .i64 0))] [DF.v (rSl rApiPost) [] (.slice none 0 0), DF.v (rSl rApiPost) x0 (.slice A1 (List.length x0) c2)] [] [⟨.slice none 0 0, 38, 2⟩] a14 w15 := (h16.addD (d := DF.v (rSl rApiPost) [] (.slice none 0 0)) slNil).sel [3, 6, 7, 8] [0, 1] []
  refine loop_ctx (fun m a w' => ∃ (l31 : List ApiPost) (i34 : Int) (A32 : Option Addr) (c33 : Nat), (∃ β, Sb β (cx 21 ok w) [(3, .v (.slice A32 (List.length l31) c33)), (6, .v (.slice A1 (List.length x0) c2)), (7, .v (.int .i64 (List.length x0 : Int))), (8, .v (.int .i64 i34))] [DF.v (rSl rApiPost) l31 (.slice A32 (List.length l31) c33), DF.v (rSl rApiPost) x0 (.slice A1 (List.length x0) c2)] [] [⟨.slice A32 (List.length l31) c33, 38, 2⟩] a w') ∧ ledger_nonzero_l17 N x0 m l31 i34 = some out17) N ⟨[], 0, none, 0, ⟨_, h35⟩, hL17⟩ ?_
  rintro Q17 m36 a37 w38 ⟨l31, i34, A32, c33, ⟨β39, h40⟩, hF41⟩ hn17 hr17 hx17
  obtain _ | m36 := m36
  · exact absurd hF41 (by simp [ledger_nonzero_l17])
  rw [ledger_nonzero_l17] at hF41
  refine seq_region tabOk h40 [3, 6, 7, 8, 9] [] [(3, .v (.slice A32 (List.length l31) c33)), (6, .v (.slice A1 (List.length x0) c2)), (7, .v (.int .i64 (List.length x0 : Int))), (8, .v (.int .i64 i34)), (9, .v (.bool (decide (i34 < (List.length x0 : Int)))))] [] (by kernel_rfl) fun β42 a43 w44 h45 => ?_
  clear h40
  refine seq_ctx fun Q46 hn46 hr46 hx46 => ?_
  refine wp_if h45 rfl (fun hb47 => ?_) (fun hb47 => ?_)
  · skip
    have hF48 := ifT hb47 hF41
    clear hF41
    refine wp_skip ?_
    refine hn46 _ _ ?_
    refine seq_ctx fun Q49 hn49 hr49 hx49 => ?_
    refine block_ctx fun Q50 hn50 hr50 hb50 hx50 => ?_
    refine seq_list fun Q51 hq51 => ?_
    obtain ⟨x52, hx52, hF53⟩ := bindE hF48
    clear hF48
    refine step_idx tabOk h45 1 rfl rfl rfl rfl rfl hx52 tb22 rfl tb38 rfl fun p54 a55 h56 => ?_
    clear h45
    refine step_load tabOk h56 0 rfl rfl rfl rfl tb38 rfl rfl fun v57 a59 hv58 h60 => ?_
    clear h56
    obtain rfl := ex_ApiPost hv58
    refine evalS_ok tabOk h60 2 [3, 5, 6, 7, 8] [5] [(3, .v (.slice A32 (List.length l31) c33)), (5, .o 5 0), (6, .v (.slice A1 (List.length x0) c2)), (7, .v (.int .i64 (List.length x0 : Int))), (8, .v (.int .i64 i34))] [(5, ⟨[strV x52.Account, .int .i64 x52.Amount], 38⟩)] (by kernel_rfl) fun β61 a62 w63 h64 => ?_
    clear h60
    have h65 : Sb β61 (cx 21 ok w) [(3, .v (.slice A32 (List.length l31) c33)), (5, .o 5 0), (6, .v (.slice A1 (List.length x0) c2)), (7, .v (.int .i64 (List.length x0 : Int))), (8, .v (.int .i64 i34))] [DF.v (rSl rApiPost) l31 (.slice A32 (List.length l31) c33), DF.v (rSl rApiPost) x0 (.slice A1 (List.length x0) c2)] [(5, ⟨[strV x52.Account, .int .i64 x52.Amount], 38⟩)] [⟨.slice A32 (List.length l31) c33, 38, 2⟩] a62 w63 := h64.sel [3, 5, 6, 7, 8] [2, 3] [5]
    clear h64
    refine wpl_end (hq51 _ _ ?_)
    refine seq_region tabOk h65 [3, 5, 6, 7, 8, 14] [5] [(3, .v (.slice A32 (List.length l31) c33)), (5, .o 5 0), (6, .v (.slice A1 (List.length x0) c2)), (7, .v (.int .i64 (List.length x0 : Int))), (8, .v (.int .i64 i34)), (14, .v (.bool (x52.Amount != 0)))] [(5, ⟨[strV x52.Account, .int .i64 x52.Amount], 38⟩)] (by kernel_rfl) fun β66 a67 w68 h69 => ?_
    clear h65
    refine wp_if h69 rfl (fun hb70 => ?_) (fun hb70 => ?_)
    · skip
      have hF71 := ifT hb70 hF53
      clear hF53
      refine region_ok ?_
      refine evalS_ok tabOk h69 2 [3, 6, 7, 8, 15, 16] [] [(3, .v (.slice A32 (List.length l31) c33)), (6, .v (.slice A1 (List.length x0) c2)), (7, .v (.int .i64 (List.length x0 : Int))), (8, .v (.int .i64 i34)), (15, .v (.slice A32 (List.length l31) c33)), (16, .v (.agg ⟨[strV x52.Account, .int .i64 x52.Amount]⟩))] [] (by kernel_rfl) fun β73 a74 w75 h76 => ?_
      clear h69
      refine step_buildSlice tabOk h76 rfl rfl (r := rApiPost) (xs := ([x52] : List ApiPost)) (vs := [.agg ⟨[strV x52.Account, .int .i64 x52.Amount]⟩]) (pvs := [(0, .agg ⟨[strV x52.Account, .int .i64 x52.Amount]⟩)]) (by kernel_rfl) tb22 rfl tb38 rfl rfl rfl rfl rfl (by kernel_rfl) ⟨(im_ApiPost (x := x52)), trivial⟩ fun A77 c78 a80 w81 hv79 h82 => ?_
      clear h76
      have h83 := h82.addD (d := DF.v (rSl rApiPost) ([x52] : List ApiPost) (.slice A77 (List.length ([x52] : List ApiPost)) c78)) hv79
      clear h82
      obtain ⟨z84, hz84, hF85⟩ := bindE hF71
      clear hF71
      refine step_append tabOk h83 1 0 [] [] rfl rfl (r := rApiPost) (xs := l31) tb22 rfl tb38 rfl rfl rfl rfl rfl rfl rfl rfl (h83.d 0 rfl) hz84 fun A86 c87 a89 w90 hv88 h91 => ?_
      clear h83
      have h92 := h91.addD (d := DF.v (rSl rApiPost) z84 (.slice A86 (List.length z84) c87)) hv88
      clear h91
      refine evalS_ok tabOk h92 1 [3, 6, 7, 8] [] [(3, .v (.slice A86 (List.length z84) c87)), (6, .v (.slice A1 (List.length x0) c2)), (7, .v (.int .i64 (List.length x0 : Int))), (8, .v (.int .i64 i34))] [] (by kernel_rfl) fun β93 a94 w95 h96 => ?_
      clear h92
      have h97 : Sb β93 (cx 21 ok w) [(3, .v (.slice A86 (List.length z84) c87)), (6, .v (.slice A1 (List.length x0) c2)), (7, .v (.int .i64 (List.length x0 : Int))), (8, .v (.int .i64 i34))] [DF.v (rSl rApiPost) z84 (.slice A86 (List.length z84) c87), DF.v (rSl rApiPost) x0 (.slice A1 (List.length x0) c2)] [] [⟨.slice A86 (List.length z84) c87, 38, 2⟩] a94 w95 := h96.sel [3, 6, 7, 8] [0, 3] []
      clear h96
      refine wpl_end ?_
      refine hn50 _ _ ?_
      refine hn49 _ _ ?_
      refine evalR_ok tabOk h97 [3, 6, 7, 8] [] [(3, .v (.slice A86 (List.length z84) c87)), (6, .v (.slice A1 (List.length x0) c2)), (7, .v (.int .i64 (List.length x0 : Int))), (8, .v (.int .i64 (IntKind.wrap .i64 (i34 + 1))))] [] (by kernel_rfl) fun β98 a99 w100 h101 => ?_
      clear h97
      have h102 : Sb β98 (cx 21 ok w) [(3, .v (.slice A86 (List.length z84) c87)), (6, .v (.slice A1 (List.length x0) c2)), (7, .v (.int .i64 (List.length x0 : Int))), (8, .v (.int .i64 (IntKind.wrap .i64 (i34 + 1))))] [DF.v (rSl rApiPost) z84 (.slice A86 (List.length z84) c87), DF.v (rSl rApiPost) x0 (.slice A1 (List.length x0) c2)] [] [⟨.slice A86 (List.length z84) c87, 38, 2⟩] a99 w100 := (h101).sel [3, 6, 7, 8] [0, 1] []
      exact hn17 _ _ _ (Nat.lt_succ_self _) ⟨z84, (IntKind.wrap .i64 (i34 + 1)), A86, c87, ⟨_, h102⟩, hF85⟩
    · skip
      have hF103 := ifF hb70 hF53
      clear hF53
      refine wp_skip ?_
      refine hn50 _ _ ?_
      refine hn49 _ _ ?_
      refine evalR_ok tabOk h69 [3, 6, 7, 8] [] [(3, .v (.slice A32 (List.length l31) c33)), (6, .v (.slice A1 (List.length x0) c2)), (7, .v (.int .i64 (List.length x0 : Int))), (8, .v (.int .i64 (IntKind.wrap .i64 (i34 + 1))))] [] (by kernel_rfl) fun β104 a105 w106 h107 => ?_
      clear h69
      have h108 : Sb β104 (cx 21 ok w) [(3, .v (.slice A32 (List.length l31) c33)), (6, .v (.slice A1 (List.length x0) c2)), (7, .v (.int .i64 (List.length x0 : Int))), (8, .v (.int .i64 (IntKind.wrap .i64 (i34 + 1))))] [DF.v (rSl rApiPost) l31 (.slice A32 (List.length l31) c33), DF.v (rSl rApiPost) x0 (.slice A1 (List.length x0) c2)] [] [⟨.slice A32 (List.length l31) c33, 38, 2⟩] a105 w106 := (h107).sel [3, 6, 7, 8] [0, 1] []
      exact hn17 _ _ _ (Nat.lt_succ_self _) ⟨l31, (IntKind.wrap .i64 (i34 + 1)), A32, c33, ⟨_, h108⟩, hF103⟩
  · skip
    have hF109 := ifF hb47 hF41
    clear hF41
    refine wp_exit ?_
    refine hx46 0 _ _ ?_
    refine hx17 0 _ _ ?_
    refine hbb17 _ _ ?_
    obtain rfl := Option.some.inj hF109
    have h110 : Sb β42 (cx 21 ok w) [(3, .v (.slice A32 (List.length l31) c33))] [DF.v (rSl rApiPost) l31 (.slice A32 (List.length l31) c33)] [] [⟨.slice A32 (List.length l31) c33, 38, 2⟩] a43 w44 := (h45).sel [3] [0] []
    exact j21 _ _ ⟨l31, A32, c33, ⟨_, h110⟩, hC17⟩
theorem c_ledger_nonzero {ok : Ok} {w : World} (hok : ∀ b o, ok b o → b < w.heap.size) (N : Nat) {x0 : (List ApiPost)} {A1 : Option Addr} {c2 : Nat} (d0 : isV (rSl rApiPost) ok w x0 (.slice A1 (List.length x0) c2)) {r : (List ApiPost)} (hF : ledger_nonzero N x0 = some r) :
    Calls Try.prog 34 ⟨[.slice A1 (List.length x0) c2]⟩ w (Ret w (R1 (rSl rApiPost) ok w r)) :=
  Calls.own1 (co_ledger_nonzero hok N d0 hF)

theorem c_ledger_Payment {ok : Ok} {w : World} (hok : ∀ b o, ok b o → b < w.heap.size) (N : Nat) {x0 : Int} {x1 : Int} {x2 : Int} {r : ApiEntry} (hF : ledger_Payment N x0 x1 x2 = some r) :
    Calls Try.prog 22 ⟨[.int .i64 x0, .int .i64 x1, .int .i64 x2]⟩ w (Ret w (R1 rApiEntry ok w r)) := by
  rw [ledger_Payment] at hF
  refine enter_ok (n := 20) hok Try.func22 rfl rfl rfl (D := []) trivial (fun a h => ?_)
  simp only [zipG, Nat.zero_add, Nat.reduceAdd] at h
  refine start_ctx fun Q hn hr => ?_
  refine seq_region tabOk h [0, 1, 2, 6] [6] [(0, .v (.int .i64 x0)), (1, .v (.int .i64 x1)), (2, .v (.int .i64 x2)), (6, .o 6 0)] [(6, ⟨[.int .i64 0, strV ([] : Str), .slice none 0 0], 24⟩)] (by kernel_rfl) fun β1 a2 w3 h4 => ?_
  clear h
  refine seq_list fun Q5 hq5 => ?_
  refine evalS_ok tabOk h4 3 [1, 2, 6, 9, 10] [6] [(1, .v (.int .i64 x1)), (2, .v (.int .i64 x2)), (6, .o 6 0), (9, .v (.agg ⟨[strV ([99, 97, 115, 104] : Str), .int .i64 x2]⟩)), (10, .v (.int .i64 x0))] [(6, ⟨[.int .i64 0, strV ([] : Str), .slice none 0 0], 24⟩)] (by kernel_rfl) fun β6 a7 w8 h9 => ?_
  clear h4
  obtain ⟨y10, hy10, hF11⟩ := bindE hF
  clear hF
  refine step_call h9 rfl rfl runs39 (vs := [(.int .i64 x0)]) (by kernel_rfl) (c_ledger_receivable (x0 := x0) h9.okLt N hy10) fun v12 a15 w16 hR13 hk14 h17 => ?_
  clear h9
  have hv18 := isV.weak hR13 hk14
  obtain rfl := isV_str.1 hv18
  refine evalS_ok tabOk h17 3 [1, 6, 9, 14] [6] [(1, .v (.int .i64 x1)), (6, .o 6 0), (9, .v (.agg ⟨[strV ([99, 97, 115, 104] : Str), .int .i64 x2]⟩)), (14, .v (.agg ⟨[strV y10, .int .i64 (IntKind.wrap .i64 (0 - x2))]⟩))] [(6, ⟨[.int .i64 0, strV ([] : Str), .slice none 0 0], 24⟩)] (by kernel_rfl) fun β19 a20 w21 h22 => ?_
  clear h17
  refine step_buildSlice tabOk h22 rfl rfl (r := rApiPost) (xs := ([(⟨([99, 97, 115, 104] : Str), x2⟩ : ApiPost), (⟨y10, (IntKind.wrap .i64 (0 - x2))⟩ : ApiPost)] : List ApiPost)) (vs := [.agg ⟨[strV ([99, 97, 115, 104] : Str), .int .i64 x2]⟩, .agg ⟨[strV y10, .int .i64 (IntKind.wrap .i64 (0 - x2))]⟩]) (pvs := [(0, .agg ⟨[strV ([99, 97, 115, 104] : Str), .int .i64 x2]⟩), (1, .agg ⟨[strV y10, .int .i64 (IntKind.wrap .i64 (0 - x2))]⟩)]) (by kernel_rfl) tb22 rfl tb38 rfl rfl rfl rfl rfl (by kernel_rfl) ⟨(im_ApiPost (x := (⟨([99, 97, 115, 104] : Str), x2⟩ : ApiPost))), (im_ApiPost (x := (⟨y10, (IntKind.wrap .i64 (0 - x2))⟩ : ApiPost))), trivial⟩ fun A23 c24 a26 w27 hv25 h28 => ?_
  clear h22
  have h29 := h28.addD (d := DF.v (rSl rApiPost) ([(⟨([99, 97, 115, 104] : Str), x2⟩ : ApiPost), (⟨y10, (IntKind.wrap .i64 (0 - x2))⟩ : ApiPost)] : List ApiPost) (.slice A23 (List.length ([(⟨([99, 97, 115, 104] : Str), x2⟩ : ApiPost), (⟨y10, (IntKind.wrap .i64 (0 - x2))⟩ : ApiPost)] : List ApiPost)) c24)) hv25
  clear h28
  refine evalS_ok tabOk h29 1 [1, 6, 7] [6] [(1, .v (.int .i64 x1)), (6, .o 6 0), (7, .v (.slice A23 (List.length ([(⟨([99, 97, 115, 104] : Str), x2⟩ : ApiPost), (⟨y10, (IntKind.wrap .i64 (0 - x2))⟩ : ApiPost)] : List ApiPost)) c24))] [(6, ⟨[.int .i64 0, strV ([] : Str), .slice none 0 0], 24⟩)] (by kernel_rfl) fun β30 a31 w32 h33 => ?_
  clear h29
  have h34 : Sb β30 (cx 20 ok w) [(1, .v (.int .i64 x1)), (6, .o 6 0), (7, .v (.slice A23 (List.length ([(⟨([99, 97, 115, 104] : Str), x2⟩ : ApiPost), (⟨y10, (IntKind.wrap .i64 (0 - x2))⟩ : ApiPost)] : List ApiPost)) c24))] [DF.v (rSl rApiPost) ([(⟨([99, 97, 115, 104] : Str), x2⟩ : ApiPost), (⟨y10, (IntKind.wrap .i64 (0 - x2))⟩ : ApiPost)] : List ApiPost) (.slice A23 (List.length ([(⟨([99, 97, 115, 104] : Str), x2⟩ : ApiPost), (⟨y10, (IntKind.wrap .i64 (0 - x2))⟩ : ApiPost)] : List ApiPost)) c24)] [(6, ⟨[.int .i64 0, strV ([] : Str), .slice none 0 0], 24⟩)] [] a31 w32 := h33.sel [1, 6, 7] [0] [6]
  clear h33
  refine wpl_end (hq5 _ _ ?_)
  refine seq_list fun Q35 hq35 => ?_
  refine evalS_ok tabOk h34 2 [6, 16, 17] [6] [(6, .o 6 0), (16, .v (.int .i64 x1)), (17, .v (.slice A23 (List.length ([(⟨([99, 97, 115, 104] : Str), x2⟩ : ApiPost), (⟨y10, (IntKind.wrap .i64 (0 - x2))⟩ : ApiPost)] : List ApiPost)) c24))] [(6, ⟨[.int .i64 0, strV ([] : Str), .slice none 0 0], 24⟩)] (by kernel_rfl) fun β36 a37 w38 h39 => ?_
  clear h34
  obtain ⟨y40, hy40, hF41⟩ := bindE hF11
  clear hF11
  refine step_call h39 rfl rfl runs34 (vs := [(.slice A23 (List.length ([(⟨([99, 97, 115, 104] : Str), x2⟩ : ApiPost), (⟨y10, (IntKind.wrap .i64 (0 - x2))⟩ : ApiPost)] : List ApiPost)) c24)]) (by kernel_rfl) (c_ledger_nonzero (x0 := ([(⟨([99, 97, 115, 104] : Str), x2⟩ : ApiPost), (⟨y10, (IntKind.wrap .i64 (0 - x2))⟩ : ApiPost)] : List ApiPost)) h39.okLt N (h39.d 0 rfl) hy40) fun v42 a45 w46 hR43 hk44 h47 => ?_
  clear h39
  have hv48 := isV.weak hR43 hk44
  obtain ⟨A49, c50, rfl, hs51⟩ := slForm hv48
  have h52 := h47.addD (d := DF.v (rSl rApiPost) y40 (.slice A49 (List.length y40) c50)) hs51
  clear h47
  refine evalS_ok tabOk h52 2 [6] [6] [(6, .o 6 0)] [(6, ⟨[.int .i64 x1, strV ([112, 97, 121, 109, 101, 110, 116] : Str), .slice A49 (List.length y40) c50], 24⟩)] (by kernel_rfl) fun β53 a54 w55 h56 => ?_
  clear h52
  have h57 : Sb β53 (cx 20 ok w) [(6, .o 6 0)] [DF.v (rSl rApiPost) y40 (.slice A49 (List.length y40) c50)] [(6, ⟨[.int .i64 x1, strV ([112, 97, 121, 109, 101, 110, 116] : Str), .slice A49 (List.length y40) c50], 24⟩)] [] a54 w55 := h56.sel [6] [0] [6]
  clear h56
  refine wpl_end (hq35 _ _ ?_)
  refine wp_ret ?_
  refine hr _ _ ?_
  obtain rfl := Option.some.inj hF41
  exact ret1c_ok tabOk h57 rfl rfl rfl (v := .agg ⟨[.int .i64 x1, strV ([112, 97, 121, 109, 101, 110, 116] : Str), .slice A49 (List.length y40) c50]⟩) (by kernel_rfl) (im_ApiEntry (x := (⟨x1, ([112, 97, 121, 109, 101, 110, 116] : Str), y40⟩ : ApiEntry)) (isV.weak (h57.d 0 rfl) (okOf_out h57 hok)))

theorem co_ledger_place {ok : Ok} {w : World} (hok : ∀ b o, ok b o → b < w.heap.size) (N : Nat) {x0 : (List ApiPost)} {x1 : ApiPost} {A1 : Option Addr} {c2 : Nat} (d0 : isV (rSl rApiPost) ok w x0 (.slice A1 (List.length x0) c2)) {r : (List ApiPost)} (hF : ledger_place N x0 x1 = some r) :
    Calls Try.prog 33 ⟨[.slice A1 (List.length x0) c2, .agg ⟨[strV x1.Account, .int .i64 x1.Amount]⟩]⟩ w (Ret w (R1o (rSl rApiPost) 38 2 ok w r)) := by
  rw [ledger_place] at hF
  refine enter_ok (n := 66) hok Try.func33 rfl rfl rfl (D := [DF.v (rSl rApiPost) x0 (.slice A1 (List.length x0) c2)]) ⟨d0, trivial⟩ (fun a h => ?_)
  simp only [zipG, Nat.zero_add, Nat.reduceAdd] at h
  refine start_ctx fun Q hn hr => ?_
  refine seq_region tabOk h [0, 3] [3] [(0, .v (.slice A1 (List.length x0) c2)), (3, .o 3 0)] [(3, ⟨[strV x1.Account, .int .i64 x1.Amount], 38⟩)] (by kernel_rfl) fun β3 a4 w5 h6 => ?_
  clear h
  refine seq_region tabOk h6 [0, 3, 5, 6] [3] [(0, .v (.slice A1 (List.length x0) c2)), (3, .o 3 0), (5, .v (.int .i64 0)), (6, .v (.int .i64 (List.length x0 : Int)))] [(3, ⟨[strV x1.Account, .int .i64 x1.Amount], 38⟩)] (by kernel_rfl) fun β7 a8 w9 h10 => ?_
  clear h6
  refine seq_ctx fun Q11 hn11 hr11 hx11 => ?_
  obtain ⟨out12, hL12, hC12⟩ := bindE hF
  clear hF
  have j14 : ∀ a w', (∃ (i13 : Int), (∃ β, Sb β (cx 66 ok w) [(0, .v (.slice A1 (List.length x0) c2)), (3, .o 3 0), (5, .v (.int .i64 i13))] [DF.v (rSl rApiPost) x0 (.slice A1 (List.length x0) c2)] [(3, ⟨[strV x1.Account, .int .i64 x1.Amount], 38⟩)] [] a w') ∧ ledger_place_j14 N x0 x1 i13 = some r) → Q11 .normal a w' := by
    rintro a15 w16 ⟨i13, ⟨β17, h18⟩, hF19⟩
    rw [ledger_place_j14] at hF19
    refine hn11 _ _ ?_
    refine seq_list fun Q20 hq20 => ?_
    refine evalS_ok tabOk h18 2 [0, 3, 5, 30, 31] [3] [(0, .v (.slice A1 (List.length x0) c2)), (3, .o 3 0), (5, .v (.int .i64 i13)), (30, .v (.slice A1 (List.length x0) c2)), (31, .v (.int .i64 i13))] [(3, ⟨[strV x1.Account, .int .i64 x1.Amount], 38⟩)] (by kernel_rfl) fun β21 a22 w23 h24 => ?_
    clear h18
    obtain ⟨z25, hz25, hF26⟩ := bindE hF19
    clear hF19
    refine step_slice tabOk h24 rfl rfl (r := rApiPost) (l := 0) (u := i13) tb22 rfl tb38 rfl rfl (h24.d 0 rfl) rfl ⟨_, rfl⟩ hz25 fun A27 c28 a30 hv29 h31 => ?_
    clear h24
    have h32 := h31.addD (d := DF.v (rSl rApiPost) z25 (.slice A27 (List.length z25) c28)) hv29
    clear h31
    have h33 := h32.addNil 38 2
    clear h32
    have h34 := h33.addD (d := DF.v (rSl rApiPost) ([] : List ApiPost) (.slice none 0 0)) slNil
    clear h33
    obtain ⟨z35, hz35, hF36⟩ := bindE hF26
    clear hF26
    refine step_append tabOk h34 0 0 [] [] rfl rfl (r := rApiPost) (xs := ([] : List ApiPost)) tb22 rfl tb38 rfl rfl rfl rfl rfl rfl rfl rfl (h34.d 1 rfl) hz35 fun A37 c38 a40 w41 hv39 h42 => ?_
    clear h34
    have h43 := h42.addD (d := DF.v (rSl rApiPost) z35 (.slice A37 (List.length z35) c38)) hv39
    clear h42
    refine evalS_ok tabOk h43 1 [0, 3, 5, 8] [3] [(0, .v (.slice A1 (List.length x0) c2)), (3, .o 3 0), (5, .v (.int .i64 i13)), (8, .v (.slice A37 (List.length z35) c38))] [(3, ⟨[strV x1.Account, .int .i64 x1.Amount], 38⟩)] (by kernel_rfl) fun β44 a45 w46 h47 => ?_
    clear h43
    have h48 : Sb β44 (cx 66 ok w) [(0, .v (.slice A1 (List.length x0) c2)), (3, .o 3 0), (5, .v (.int .i64 i13)), (8, .v (.slice A37 (List.length z35) c38))] [DF.v (rSl rApiPost) x0 (.slice A1 (List.length x0) c2), DF.v (rSl rApiPost) z35 (.slice A37 (List.length z35) c38)] [(3, ⟨[strV x1.Account, .int .i64 x1.Amount], 38⟩)] [⟨.slice A37 (List.length z35) c38, 38, 2⟩] a45 w46 := h47.sel [0, 3, 5, 8] [3, 0] [3]
    clear h47
    refine wpl_end (hq20 _ _ ?_)
    refine seq_list fun Q49 hq49 => ?_
    refine evalS_ok tabOk h48 2 [3, 8, 34, 35] [3] [(3, .o 3 0), (8, .v (.slice A37 (List.length z35) c38)), (34, .v (.slice A1 (List.length x0) c2)), (35, .v (.int .i64 i13))] [(3, ⟨[strV x1.Account, .int .i64 x1.Amount], 38⟩)] (by kernel_rfl) fun β50 a51 w52 h53 => ?_
    clear h48
    obtain ⟨z54, hz54, hF55⟩ := bindE hF36
    clear hF36
    refine step_slice tabOk h53 rfl rfl (r := rApiPost) (l := i13) (u := (List.length x0 : Int)) tb22 rfl tb38 rfl rfl (h53.d 0 rfl) ⟨_, rfl⟩ rfl hz54 fun A56 c57 a59 hv58 h60 => ?_
    clear h53
    have h61 := h60.addD (d := DF.v (rSl rApiPost) z54 (.slice A56 (List.length z54) c57)) hv58
    clear h60
    refine evalS_ok tabOk h61 1 [3, 8, 9] [3] [(3, .o 3 0), (8, .v (.slice A37 (List.length z35) c38)), (9, .v (.slice A56 (List.length z54) c57))] [(3, ⟨[strV x1.Account, .int .i64 x1.Amount], 38⟩)] (by kernel_rfl) fun β62 a63 w64 h65 => ?_
    clear h61
    have h66 : Sb β62 (cx 66 ok w) [(3, .o 3 0), (8, .v (.slice A37 (List.length z35) c38)), (9, .v (.slice A56 (List.length z54) c57))] [DF.v (rSl rApiPost) z35 (.slice A37 (List.length z35) c38), DF.v (rSl rApiPost) z54 (.slice A56 (List.length z54) c57)] [(3, ⟨[strV x1.Account, .int .i64 x1.Amount], 38⟩)] [⟨.slice A37 (List.length z35) c38, 38, 2⟩] a63 w64 := h65.sel [3, 8, 9] [2, 0] [3]
    clear h65
    refine wpl_end (hq49 _ _ ?_)
    refine seq_ctx fun Q67 hn67 hr67 hx67 => ?_
    obtain ⟨g69, hv70, hF71⟩ := bindE hF55
    clear hF55
    refine seq_join (J := fun a w' => ∃ β, Sb β (cx 66 ok w) [(3, .o 3 0), (8, .v (.slice A37 (List.length z35) c38)), (9, .v (.slice A56 (List.length z54) c57)), (48, .v (.bool g69))] [DF.v (rSl rApiPost) z35 (.slice A37 (List.length z35) c38), DF.v (rSl rApiPost) z54 (.slice A56 (List.length z54) c57)] [(3, ⟨[strV x1.Account, .int .i64 x1.Amount], 38⟩)] [⟨.slice A37 (List.length z35) c38, 38, 2⟩] a w') ?_ ?_
    · skip
      rintro a72 w73 ⟨β74, h75⟩
      have j81 : ∀ a w', (∃ (l76 : List ApiPost) (s79 : Str) (i80 : Int) (A77 : Option Addr) (c78 : Nat), (∃ β, Sb β (cx 66 ok w) [(3, .o 3 0), (8, .v (.slice A37 (List.length z35) c38)), (9, .v (.slice A77 (List.length l76) c78))] [DF.v (rSl rApiPost) z35 (.slice A37 (List.length z35) c38), DF.v (rSl rApiPost) l76 (.slice A77 (List.length l76) c78)] [(3, ⟨[strV s79, .int .i64 i80], 38⟩)] [⟨.slice A37 (List.length z35) c38, 38, 2⟩] a w') ∧ ledger_place_j81 N z35 l76 s79 i80 = some r) → Q67 .normal a w' := by
        rintro a82 w83 ⟨l76, s79, i80, A77, c78, ⟨β84, h85⟩, hF86⟩
        rw [ledger_place_j81] at hF86
        refine hn67 _ _ ?_
        refine seq_list fun Q87 hq87 => ?_
        refine evalS_ok tabOk h85 2 [8, 9, 59, 60] [] [(8, .v (.slice A37 (List.length z35) c38)), (9, .v (.slice A77 (List.length l76) c78)), (59, .v (.slice A37 (List.length z35) c38)), (60, .v (.agg ⟨[strV s79, .int .i64 i80]⟩))] [] (by kernel_rfl) fun β88 a89 w90 h91 => ?_
        clear h85
        refine step_buildSlice tabOk h91 rfl rfl (r := rApiPost) (xs := ([(⟨s79, i80⟩ : ApiPost)] : List ApiPost)) (vs := [.agg ⟨[strV s79, .int .i64 i80]⟩]) (pvs := [(0, .agg ⟨[strV s79, .int .i64 i80]⟩)]) (by kernel_rfl) tb22 rfl tb38 rfl rfl rfl rfl rfl (by kernel_rfl) ⟨(im_ApiPost (x := (⟨s79, i80⟩ : ApiPost))), trivial⟩ fun A92 c93 a95 w96 hv94 h97 => ?_
        clear h91
        have h98 := h97.addD (d := DF.v (rSl rApiPost) ([(⟨s79, i80⟩ : ApiPost)] : List ApiPost) (.slice A92 (List.length ([(⟨s79, i80⟩ : ApiPost)] : List ApiPost)) c93)) hv94
        clear h97
        obtain ⟨z99, hz99, hF100⟩ := bindE hF86
        clear hF86
        refine step_append tabOk h98 1 0 [] [] rfl rfl (r := rApiPost) (xs := z35) tb22 rfl tb38 rfl rfl rfl rfl rfl rfl rfl rfl (h98.d 0 rfl) hz99 fun A101 c102 a104 w105 hv103 h106 => ?_
        clear h98
        have h107 := h106.addD (d := DF.v (rSl rApiPost) z99 (.slice A101 (List.length z99) c102)) hv103
        clear h106
        refine evalS_ok tabOk h107 1 [8, 9] [] [(8, .v (.slice A101 (List.length z99) c102)), (9, .v (.slice A77 (List.length l76) c78))] [] (by kernel_rfl) fun β108 a109 w110 h111 => ?_
        clear h107
        have h112 : Sb β108 (cx 66 ok w) [(8, .v (.slice A101 (List.length z99) c102)), (9, .v (.slice A77 (List.length l76) c78))] [DF.v (rSl rApiPost) z99 (.slice A101 (List.length z99) c102), DF.v (rSl rApiPost) l76 (.slice A77 (List.length l76) c78)] [] [⟨.slice A101 (List.length z99) c102, 38, 2⟩] a109 w110 := h111.sel [8, 9] [0, 3] []
        clear h111
        refine wpl_end (hq87 _ _ ?_)
        refine seq_list fun Q113 hq113 => ?_
        refine evalS_ok tabOk h112 2 [63, 64] [] [(63, .v (.slice A101 (List.length z99) c102)), (64, .v (.slice A77 (List.length l76) c78))] [] (by kernel_rfl) fun β114 a115 w116 h117 => ?_
        clear h112
        obtain ⟨z118, hz118, hF119⟩ := bindE hF100
        clear hF100
        refine step_append tabOk h117 0 0 [] [] rfl rfl (r := rApiPost) (xs := z99) tb22 rfl tb38 rfl rfl rfl rfl rfl rfl rfl rfl (h117.d 1 rfl) hz118 fun A120 c121 a123 w124 hv122 h125 => ?_
        clear h117
        have h126 := h125.addD (d := DF.v (rSl rApiPost) z118 (.slice A120 (List.length z118) c121)) hv122
        clear h125
        refine evalS_ok tabOk h126 1 [4] [] [(4, .v (.slice A120 (List.length z118) c121))] [] (by kernel_rfl) fun β127 a128 w129 h130 => ?_
        clear h126
        have h131 : Sb β127 (cx 66 ok w) [(4, .v (.slice A120 (List.length z118) c121))] [DF.v (rSl rApiPost) z118 (.slice A120 (List.length z118) c121)] [] [⟨.slice A120 (List.length z118) c121, 38, 2⟩] a128 w129 := h130.sel [4] [0] []
        clear h130
        refine wpl_end (hq113 _ _ ?_)
        refine wp_ret ?_
        refine hr _ _ ?_
        obtain rfl := Option.some.inj hF119
        exact ret1_ok h131 rfl rfl (own_out h131 hok (.head _) (h131.d 0 rfl))
      refine wp_if h75 rfl (fun hb132 => ?_) (fun hb132 => ?_)
      · skip
        have hF133 := ifT hb132 hF71
        clear hF71
        refine seq_draw fun Q134 hq134 => ?_
        obtain ⟨x135, hx135, hF136⟩ := bindE hF133
        clear hF133
        have h138 : Sb β74 (cx 66 ok w) [(3, .o 3 0), (8, .v (.slice A37 (List.length z35) c38)), (9, .v (.slice A56 (List.length z54) c57))] [DF.v (rSl rApiPost) z35 (.slice A37 (List.length z35) c38), DF.v (rSl rApiPost) z54 (.slice A56 (List.length z54) c57)] [(3, ⟨[strV x1.Account, .int .i64 x1.Amount], 38⟩)] [⟨.slice A37 (List.length z35) c38, 38, 2⟩] a72 w73 := h75.sel [3, 8, 9] [0, 1] [3]
        refine draw_rule h138 rfl (by kernel_rfl) 8 [49, 50, 51, 52, 53, 54, 55, 56] [FV.eq (.pointer (some ⟨β74 3, 1, none⟩)), FV.eq (.int .i64 x1.Amount), FV.eq (.slice A56 (List.length z54) c57), FV.at rApiPost x135, FV.at (rInt .i64) x135.Amount, FV.eq (.int .i64 x135.Amount), FV.eq (.int .i64 (IntKind.wrap .i64 (x1.Amount + x135.Amount))), FV.eq (.pointer (some ⟨β74 3, 1, none⟩))] rfl rfl rfl (by kernel_rfl) (by kernel_rfl) (by kernel_rfl) (by kernel_rfl) (by kernel_rfl) ?_ ?_
        · skip
          refine ⟨⟨⟨⟨⟨⟨⟨⟨trivial, ?_⟩, ?_⟩, ?_⟩, ?_⟩, ?_⟩, ?_⟩, ?_⟩, ?_⟩
          · skip
            intro β139 a140 w141 dX142 Ox143 Q144 h145 hq146 hp147 hk148
            refine evalS_ok tabOk h145 1 [3, 8, 9, 49] [3] [(3, .o 3 0), (8, .v (.slice A37 (List.length z35) c38)), (9, .v (.slice A56 (List.length z54) c57)), (49, .o 3 1)] [(3, ⟨[strV x1.Account, .int .i64 x1.Amount], 38⟩)] (by kernel_rfl) fun β149 a150 w151 h152 => ?_
            exact wpl_end (hk148 _ _ _ _ (h152.sel [3, 8, 9] [0, 1, 2] [3]) (h152.getO rfl rfl rfl) rfl)
          · skip
            intro β153 a154 w155 dX156 Ox157 Q158 h159 hq160 hp161 hk162
            have h163 := h159.learnO (d := 49) (id := 3) (off := 1) rfl rfl rfl (hp161 0 49 _ rfl rfl rfl)
            clear h159
            refine evalS_ok tabOk h163 1 [3, 8, 9, 50] [3] [(3, .o 3 0), (8, .v (.slice A37 (List.length z35) c38)), (9, .v (.slice A56 (List.length z54) c57)), (50, .v (.int .i64 x1.Amount))] [(3, ⟨[strV x1.Account, .int .i64 x1.Amount], 38⟩)] (by kernel_rfl) fun β164 a165 w166 h167 => ?_
            exact wpl_end (hk162 _ _ _ _ (h167.sel [3, 8, 9] [0, 1, 2] [3]) (h167.getD rfl) rfl)
          · skip
            intro β168 a169 w170 dX171 Ox172 Q173 h174 hq175 hp176 hk177
            refine evalS_ok tabOk h174 1 [3, 8, 9, 51] [3] [(3, .o 3 0), (8, .v (.slice A37 (List.length z35) c38)), (9, .v (.slice A56 (List.length z54) c57)), (51, .v (.slice A56 (List.length z54) c57))] [(3, ⟨[strV x1.Account, .int .i64 x1.Amount], 38⟩)] (by kernel_rfl) fun β178 a179 w180 h181 => ?_
            exact wpl_end (hk177 _ _ _ _ (h181.sel [3, 8, 9] [0, 1, 2] [3]) (h181.getD rfl) rfl)
          · skip
            intro β182 a183 w184 dX185 Ox186 Q187 h188 hq189 hp190 hk191
            have h192 := h188.learnE (d := 51) rfl (hp190 2 51 _ rfl rfl rfl)
            clear h188
            refine step_idx tabOk h192 2 rfl rfl rfl rfl rfl hx135 tb22 rfl tb38 rfl fun p193 a194 h195 => ?_
            clear h192
            exact wpl_end (hk191 _ _ _ _ (h195.sel [3, 8, 9] [1, 2, 3] [3]) (h195.getA rfl (h195.d 0 rfl)) rfl)
          · skip
            intro β196 a197 w198 dX199 Ox200 Q201 h202 hq203 hp204 hk205
            have h206 := h202.learn (d := 52) rfl
            clear h202
            have f207 := hp204 3 52 _ rfl rfl rfl
            generalize a197.tmps.getD 52 undef = v208 at h206 f207
            have h209 := h206.addD (d := DF.at rApiPost x135 (v208)) f207
            clear h206
            refine step_field tabOk h209 0 rfl rfl rfl rfl tb38 rfl rfl rfl fun p210 a211 (h212 : Sb β196 _ _ (DF.at (rInt .i64) x135.Amount (p210) :: _) _ _ a211 w198) => ?_
            clear h209
            exact wpl_end (hk205 _ _ _ _ (h212.sel [3, 8, 9] [2, 3, 4] [3]) (h212.getA rfl (h212.d 0 rfl)) rfl)
          · skip
            intro β213 a214 w215 dX216 Ox217 Q218 h219 hq220 hp221 hk222
            have h223 := h219.learn (d := 53) rfl
            clear h219
            have f224 := hp221 4 53 _ rfl rfl rfl
            generalize a214.tmps.getD 53 undef = v225 at h223 f224
            have h226 := h223.addD (d := DF.at (rInt .i64) x135.Amount (v225)) f224
            clear h223
            refine step_load tabOk h226 0 rfl rfl rfl rfl tb3 rfl rfl fun v227 a229 hv228 h230 => ?_
            clear h226
            obtain rfl := isV_int.1 hv228
            exact wpl_end (hk222 _ _ _ _ (h230.sel [3, 8, 9] [2, 3, 4] [3]) (h230.getD rfl) rfl)
          · skip
            intro β231 a232 w233 dX234 Ox235 Q236 h237 hq238 hp239 hk240
            have h241 := h237.learnE (d := 50) rfl (hp239 1 50 _ rfl rfl rfl)
            clear h237
            have h242 := h241.learnE (d := 54) rfl (hp239 5 54 _ rfl rfl rfl)
            clear h241
            refine evalS_ok tabOk h242 1 [3, 8, 9, 55] [3] [(3, .o 3 0), (8, .v (.slice A37 (List.length z35) c38)), (9, .v (.slice A56 (List.length z54) c57)), (55, .v (.int .i64 (IntKind.wrap .i64 (x1.Amount + x135.Amount))))] [(3, ⟨[strV x1.Account, .int .i64 x1.Amount], 38⟩)] (by kernel_rfl) fun β243 a244 w245 h246 => ?_
            exact wpl_end (hk240 _ _ _ _ (h246.sel [3, 8, 9] [0, 1, 2] [3]) (h246.getD rfl) rfl)
          · skip
            intro β247 a248 w249 dX250 Ox251 Q252 h253 hq254 hp255 hk256
            refine evalS_ok tabOk h253 1 [3, 8, 9, 56] [3] [(3, .o 3 0), (8, .v (.slice A37 (List.length z35) c38)), (9, .v (.slice A56 (List.length z54) c57)), (56, .o 3 1)] [(3, ⟨[strV x1.Account, .int .i64 x1.Amount], 38⟩)] (by kernel_rfl) fun β257 a258 w259 h260 => ?_
            exact wpl_end (hk256 _ _ _ _ (h260.sel [3, 8, 9] [0, 1, 2] [3]) (h260.getO rfl rfl rfl) rfl)
        · skip
          intro β261 a262 w263 h264 ha265
          have h266 := h264.learnE (d := 55) rfl (ha265 6 55 _ rfl rfl)
          clear h264
          have h267 := h266.learnO (d := 56) (id := 3) (off := 1) rfl rfl rfl (ha265 7 56 _ rfl rfl)
          clear h266
          have h268 := h267.unpin rfl
          clear h267
          refine evalS_ok tabOk h268 1 [3, 8, 9] [3] [(3, .o 3 0), (8, .v (.slice A37 (List.length z35) c38)), (9, .v (.slice A56 (List.length z54) c57))] [(3, ⟨[strV x1.Account, .int .i64 (IntKind.wrap .i64 (x1.Amount + x135.Amount))], 38⟩)] (by kernel_rfl) fun β269 a270 w271 h272 => ?_
          clear h268
          have h273 : Sb β269 (cx 66 ok w) [(3, .o 3 0), (8, .v (.slice A37 (List.length z35) c38)), (9, .v (.slice A56 (List.length z54) c57))] [DF.v (rSl rApiPost) z35 (.slice A37 (List.length z35) c38), DF.v (rSl rApiPost) z54 (.slice A56 (List.length z54) c57)] [(3, ⟨[strV x1.Account, .int .i64 (IntKind.wrap .i64 (x1.Amount + x135.Amount))], 38⟩)] [⟨.slice A37 (List.length z35) c38, 38, 2⟩] a270 w271 := h272.sel [3, 8, 9] [0, 1] [3]
          clear h272
          refine wpl_end (hq134 _ _ ?_)
          refine region_ok ?_
          refine evalS_ok tabOk h273 1 [3, 8, 9, 57] [3] [(3, .o 3 0), (8, .v (.slice A37 (List.length z35) c38)), (9, .v (.slice A56 (List.length z54) c57)), (57, .v (.slice A56 (List.length z54) c57))] [(3, ⟨[strV x1.Account, .int .i64 (IntKind.wrap .i64 (x1.Amount + x135.Amount))], 38⟩)] (by kernel_rfl) fun β275 a276 w277 h278 => ?_
          clear h273
          obtain ⟨z279, hz279, hF280⟩ := bindE hF136
          clear hF136
          refine step_slice tabOk h278 rfl rfl (r := rApiPost) (l := 1) (u := (List.length z54 : Int)) tb22 rfl tb38 rfl rfl (h278.d 1 rfl) ⟨_, rfl⟩ rfl hz279 fun A281 c282 a284 hv283 h285 => ?_
          clear h278
          have h286 := h285.addD (d := DF.v (rSl rApiPost) z279 (.slice A281 (List.length z279) c282)) hv283
          clear h285
          refine evalS_ok tabOk h286 1 [3, 8, 9] [3] [(3, .o 3 0), (8, .v (.slice A37 (List.length z35) c38)), (9, .v (.slice A281 (List.length z279) c282))] [(3, ⟨[strV x1.Account, .int .i64 (IntKind.wrap .i64 (x1.Amount + x135.Amount))], 38⟩)] (by kernel_rfl) fun β287 a288 w289 h290 => ?_
          clear h286
          have h291 : Sb β287 (cx 66 ok w) [(3, .o 3 0), (8, .v (.slice A37 (List.length z35) c38)), (9, .v (.slice A281 (List.length z279) c282))] [DF.v (rSl rApiPost) z35 (.slice A37 (List.length z35) c38), DF.v (rSl rApiPost) z279 (.slice A281 (List.length z279) c282)] [(3, ⟨[strV x1.Account, .int .i64 (IntKind.wrap .i64 (x1.Amount + x135.Amount))], 38⟩)] [⟨.slice A37 (List.length z35) c38, 38, 2⟩] a288 w289 := h290.sel [3, 8, 9] [1, 0] [3]
          clear h290
          refine wpl_end ?_
          have h292 : Sb β287 (cx 66 ok w) [(3, .o 3 0), (8, .v (.slice A37 (List.length z35) c38)), (9, .v (.slice A281 (List.length z279) c282))] [DF.v (rSl rApiPost) z35 (.slice A37 (List.length z35) c38), DF.v (rSl rApiPost) z279 (.slice A281 (List.length z279) c282)] [(3, ⟨[strV x1.Account, .int .i64 (IntKind.wrap .i64 (x1.Amount + x135.Amount))], 38⟩)] [⟨.slice A37 (List.length z35) c38, 38, 2⟩] a288 w289 := (h291).sel [3, 8, 9] [0, 1] [3]
          exact j81 _ _ ⟨z279, x1.Account, (IntKind.wrap .i64 (x1.Amount + x135.Amount)), A281, c282, ⟨_, h292⟩, hF280⟩
      · skip
        have hF293 := ifF hb132 hF71
        clear hF71
        refine wp_skip ?_
        have h294 : Sb β74 (cx 66 ok w) [(3, .o 3 0), (8, .v (.slice A37 (List.length z35) c38)), (9, .v (.slice A56 (List.length z54) c57))] [DF.v (rSl rApiPost) z35 (.slice A37 (List.length z35) c38), DF.v (rSl rApiPost) z54 (.slice A56 (List.length z54) c57)] [(3, ⟨[strV x1.Account, .int .i64 x1.Amount], 38⟩)] [⟨.slice A37 (List.length z35) c38, 38, 2⟩] a72 w73 := (h75).sel [3, 8, 9] [0, 1] [3]
        exact j81 _ _ ⟨z54, x1.Account, x1.Amount, A56, c57, ⟨_, h294⟩, hF293⟩
    · skip
      refine bcases (b := (decide ((List.length z54 : Int) > 0))) (fun hb295 => ?_) (fun hb295 => ?_)
      · skip
        have hv296 := ifT hb295 hv70
        clear hv70
        obtain ⟨x297, hx297, hv298⟩ := bindE hv296
        clear hv296
        have h300 : Sb β62 (cx 66 ok w) [(3, .o 3 0), (8, .v (.slice A37 (List.length z35) c38)), (9, .v (.slice A56 (List.length z54) c57))] [DF.v (rSl rApiPost) z35 (.slice A37 (List.length z35) c38), DF.v (rSl rApiPost) z54 (.slice A56 (List.length z54) c57)] [(3, ⟨[strV x1.Account, .int .i64 x1.Amount], 38⟩)] [⟨.slice A37 (List.length z35) c38, 38, 2⟩] a63 w64 := h66.sel [3, 8, 9] [0, 1] [3]
        refine draw_rule h300 rfl (by kernel_rfl) 12 [37, 38, 39, 40, 41, 42, 43, 44, 45, 46, 47, 48] [FV.eq (.slice A56 (List.length z54) c57), FV.eq (.int .i64 (List.length z54 : Int)), FV.eq (.bool (decide ((List.length z54 : Int) > 0))), FV.eq (.bool (decide ((List.length z54 : Int) > 0))), FV.eq (.slice A56 (List.length z54) c57), FV.at rApiPost x297, FV.at rStr x297.Account, FV.eq (strV x297.Account), FV.eq (.pointer (some ⟨β62 3, 0, none⟩)), FV.eq (strV x1.Account), FV.eq (.bool (x297.Account == x1.Account)), FV.eq (.bool (x297.Account == x1.Account))] rfl rfl rfl (by kernel_rfl) (by kernel_rfl) (by kernel_rfl) (by kernel_rfl) (by kernel_rfl) ?_ ?_
        · skip
          refine ⟨⟨⟨⟨⟨⟨⟨⟨⟨⟨⟨⟨trivial, ?_⟩, ?_⟩, ?_⟩, ?_⟩, ?_⟩, ?_⟩, ?_⟩, ?_⟩, ?_⟩, ?_⟩, ?_⟩, ?_⟩
          · skip
            intro β301 a302 w303 dX304 Ox305 Q306 h307 hq308 hp309 hk310
            refine evalS_ok tabOk h307 1 [3, 8, 9, 37] [3] [(3, .o 3 0), (8, .v (.slice A37 (List.length z35) c38)), (9, .v (.slice A56 (List.length z54) c57)), (37, .v (.slice A56 (List.length z54) c57))] [(3, ⟨[strV x1.Account, .int .i64 x1.Amount], 38⟩)] (by kernel_rfl) fun β311 a312 w313 h314 => ?_
            exact wpl_end (hk310 _ _ _ _ (h314.sel [3, 8, 9] [0, 1, 2] [3]) (h314.getD rfl) rfl)
          · skip
            intro β315 a316 w317 dX318 Ox319 Q320 h321 hq322 hp323 hk324
            have h325 := h321.learnE (d := 37) rfl (hp323 0 37 _ rfl rfl rfl)
            clear h321
            refine evalS_ok tabOk h325 1 [3, 8, 9, 38] [3] [(3, .o 3 0), (8, .v (.slice A37 (List.length z35) c38)), (9, .v (.slice A56 (List.length z54) c57)), (38, .v (.int .i64 (List.length z54 : Int)))] [(3, ⟨[strV x1.Account, .int .i64 x1.Amount], 38⟩)] (by kernel_rfl) fun β326 a327 w328 h329 => ?_
            exact wpl_end (hk324 _ _ _ _ (h329.sel [3, 8, 9] [0, 1, 2] [3]) (h329.getD rfl) rfl)
          · skip
            intro β330 a331 w332 dX333 Ox334 Q335 h336 hq337 hp338 hk339
            have h340 := h336.learnE (d := 38) rfl (hp338 1 38 _ rfl rfl rfl)
            clear h336
            refine evalS_ok tabOk h340 1 [3, 8, 9, 39] [3] [(3, .o 3 0), (8, .v (.slice A37 (List.length z35) c38)), (9, .v (.slice A56 (List.length z54) c57)), (39, .v (.bool (decide ((List.length z54 : Int) > 0))))] [(3, ⟨[strV x1.Account, .int .i64 x1.Amount], 38⟩)] (by kernel_rfl) fun β341 a342 w343 h344 => ?_
            exact wpl_end (hk339 _ _ _ _ (h344.sel [3, 8, 9] [0, 1, 2] [3]) (h344.getD rfl) rfl)
          · skip
            intro β345 a346 w347 dX348 Ox349 Q350 h351 hq352 hp353 hk354
            have h355 := h351.learnE (d := 39) rfl (hp353 2 39 _ rfl rfl rfl)
            clear h351
            refine evalS_ok tabOk h355 1 [3, 8, 9, 40] [3] [(3, .o 3 0), (8, .v (.slice A37 (List.length z35) c38)), (9, .v (.slice A56 (List.length z54) c57)), (40, .v (.bool (decide ((List.length z54 : Int) > 0))))] [(3, ⟨[strV x1.Account, .int .i64 x1.Amount], 38⟩)] (by kernel_rfl) fun β356 a357 w358 h359 => ?_
            exact wpl_end (hk354 _ _ _ _ (h359.sel [3, 8, 9] [0, 1, 2] [3]) (h359.getD rfl) rfl)
          · skip
            intro β360 a361 w362 dX363 Ox364 Q365 h366 hq367 hp368 hk369
            have h370 := h366.learnE (d := 40) rfl (hp368 3 40 _ rfl rfl rfl)
            clear h366
            have h371 := h370.reb (t := 40) rfl hb295
            clear h370
            refine evalS_ok tabOk h371 1 [3, 8, 9, 41] [3] [(3, .o 3 0), (8, .v (.slice A37 (List.length z35) c38)), (9, .v (.slice A56 (List.length z54) c57)), (41, .v (.slice A56 (List.length z54) c57))] [(3, ⟨[strV x1.Account, .int .i64 x1.Amount], 38⟩)] (by kernel_rfl) fun β372 a373 w374 h375 => ?_
            exact wpl_end (hk369 _ _ _ _ (h375.sel [3, 8, 9] [0, 1, 2] [3]) (h375.getD rfl) rfl)
          · skip
            intro β376 a377 w378 dX379 Ox380 Q381 h382 hq383 hp384 hk385
            have h386 := h382.learnE (d := 40) rfl (hp384 3 40 _ rfl rfl rfl)
            clear h382
            have h387 := h386.reb (t := 40) rfl hb295
            clear h386
            have h388 := h387.learnE (d := 41) rfl (hp384 4 41 _ rfl rfl rfl)
            clear h387
            refine step_idx tabOk h388 2 rfl rfl rfl rfl rfl hx297 tb22 rfl tb38 rfl fun p389 a390 h391 => ?_
            clear h388
            exact wpl_end (hk385 _ _ _ _ (h391.sel [3, 8, 9] [1, 2, 3] [3]) (h391.getA rfl (h391.d 0 rfl)) rfl)
          · skip
            intro β392 a393 w394 dX395 Ox396 Q397 h398 hq399 hp400 hk401
            have h402 := h398.learnE (d := 40) rfl (hp400 3 40 _ rfl rfl rfl)
            clear h398
            have h403 := h402.reb (t := 40) rfl hb295
            clear h402
            have h404 := h403.learn (d := 42) rfl
            clear h403
            have f405 := hp400 5 42 _ rfl rfl rfl
            generalize a393.tmps.getD 42 undef = v406 at h404 f405
            have h407 := h404.addD (d := DF.at rApiPost x297 (v406)) f405
            clear h404
            refine step_field tabOk h407 0 rfl rfl rfl rfl tb38 rfl rfl rfl fun p408 a409 (h410 : Sb β392 _ _ (DF.at rStr x297.Account (p408) :: _) _ _ a409 w394) => ?_
            clear h407
            exact wpl_end (hk401 _ _ _ _ (h410.sel [3, 8, 9] [2, 3, 4] [3]) (h410.getA rfl (h410.d 0 rfl)) rfl)
          · skip
            intro β411 a412 w413 dX414 Ox415 Q416 h417 hq418 hp419 hk420
            have h421 := h417.learnE (d := 40) rfl (hp419 3 40 _ rfl rfl rfl)
            clear h417
            have h422 := h421.reb (t := 40) rfl hb295
            clear h421
            have h423 := h422.learn (d := 43) rfl
            clear h422
            have f424 := hp419 6 43 _ rfl rfl rfl
            generalize a412.tmps.getD 43 undef = v425 at h423 f424
            have h426 := h423.addD (d := DF.at rStr x297.Account (v425)) f424
            clear h423
            refine step_load tabOk h426 0 rfl rfl rfl rfl tb9 rfl rfl fun v427 a429 hv428 h430 => ?_
            clear h426
            obtain rfl := isV_str.1 hv428
            exact wpl_end (hk420 _ _ _ _ (h430.sel [3, 8, 9] [2, 3, 4] [3]) (h430.getD rfl) rfl)
          · skip
            intro β431 a432 w433 dX434 Ox435 Q436 h437 hq438 hp439 hk440
            have h441 := h437.learnE (d := 40) rfl (hp439 3 40 _ rfl rfl rfl)
            clear h437
            have h442 := h441.reb (t := 40) rfl hb295
            clear h441
            refine evalS_ok tabOk h442 1 [3, 8, 9, 45] [3] [(3, .o 3 0), (8, .v (.slice A37 (List.length z35) c38)), (9, .v (.slice A56 (List.length z54) c57)), (45, .o 3 0)] [(3, ⟨[strV x1.Account, .int .i64 x1.Amount], 38⟩)] (by kernel_rfl) fun β443 a444 w445 h446 => ?_
            exact wpl_end (hk440 _ _ _ _ (h446.sel [3, 8, 9] [0, 1, 2] [3]) (h446.getO rfl rfl rfl) rfl)
          · skip
            intro β447 a448 w449 dX450 Ox451 Q452 h453 hq454 hp455 hk456
            have h457 := h453.learnE (d := 40) rfl (hp455 3 40 _ rfl rfl rfl)
            clear h453
            have h458 := h457.reb (t := 40) rfl hb295
            clear h457
            have h459 := h458.learnO (d := 45) (id := 3) (off := 0) rfl rfl rfl (hp455 8 45 _ rfl rfl rfl)
            clear h458
            refine evalS_ok tabOk h459 1 [3, 8, 9, 46] [3] [(3, .o 3 0), (8, .v (.slice A37 (List.length z35) c38)), (9, .v (.slice A56 (List.length z54) c57)), (46, .v (strV x1.Account))] [(3, ⟨[strV x1.Account, .int .i64 x1.Amount], 38⟩)] (by kernel_rfl) fun β460 a461 w462 h463 => ?_
            exact wpl_end (hk456 _ _ _ _ (h463.sel [3, 8, 9] [0, 1, 2] [3]) (h463.getD rfl) rfl)
          · skip
            intro β464 a465 w466 dX467 Ox468 Q469 h470 hq471 hp472 hk473
            have h474 := h470.learnE (d := 40) rfl (hp472 3 40 _ rfl rfl rfl)
            clear h470
            have h475 := h474.reb (t := 40) rfl hb295
            clear h474
            have h476 := h475.learnE (d := 44) rfl (hp472 7 44 _ rfl rfl rfl)
            clear h475
            have h477 := h476.learnE (d := 46) rfl (hp472 9 46 _ rfl rfl rfl)
            clear h476
            refine evalS_ok tabOk h477 1 [3, 8, 9, 47] [3] [(3, .o 3 0), (8, .v (.slice A37 (List.length z35) c38)), (9, .v (.slice A56 (List.length z54) c57)), (47, .v (.bool (x297.Account == x1.Account)))] [(3, ⟨[strV x1.Account, .int .i64 x1.Amount], 38⟩)] (by kernel_rfl) fun β478 a479 w480 h481 => ?_
            exact wpl_end (hk473 _ _ _ _ (h481.sel [3, 8, 9] [0, 1, 2] [3]) (h481.getD rfl) rfl)
          · skip
            intro β482 a483 w484 dX485 Ox486 Q487 h488 hq489 hp490 hk491
            have h492 := h488.learnE (d := 40) rfl (hp490 3 40 _ rfl rfl rfl)
            clear h488
            have h493 := h492.reb (t := 40) rfl hb295
            clear h492
            have h494 := h493.learnE (d := 47) rfl (hp490 10 47 _ rfl rfl rfl)
            clear h493
            refine evalS_ok tabOk h494 1 [3, 8, 9, 48] [3] [(3, .o 3 0), (8, .v (.slice A37 (List.length z35) c38)), (9, .v (.slice A56 (List.length z54) c57)), (48, .v (.bool (x297.Account == x1.Account)))] [(3, ⟨[strV x1.Account, .int .i64 x1.Amount], 38⟩)] (by kernel_rfl) fun β495 a496 w497 h498 => ?_
            exact wpl_end (hk491 _ _ _ _ (h498.sel [3, 8, 9] [0, 1, 2] [3]) (h498.getD rfl) rfl)
        · skip
          intro β499 a500 w501 h502 ha503
          have h504 := h502.learnE (d := 48) rfl (ha503 11 48 _ rfl rfl)
          clear h502
          have h505 := h504.unpin rfl
          clear h504
          obtain rfl := Option.some.inj hv298
          have h506 : Sb β499 (cx 66 ok w) [(3, .o 3 0), (8, .v (.slice A37 (List.length z35) c38)), (9, .v (.slice A56 (List.length z54) c57)), (48, .v (.bool (x297.Account == x1.Account)))] [DF.v (rSl rApiPost) z35 (.slice A37 (List.length z35) c38), DF.v (rSl rApiPost) z54 (.slice A56 (List.length z54) c57)] [(3, ⟨[strV x1.Account, .int .i64 x1.Amount], 38⟩)] [⟨.slice A37 (List.length z35) c38, 38, 2⟩] a500 w501 := h505.sel [3, 8, 9, 48] [0, 1] [3]
          clear h505
          exact wpl_end (then_n ⟨_, h506⟩)
      · skip
        have hv507 := ifF hb295 hv70
        clear hv70
        have h509 : Sb β62 (cx 66 ok w) [(3, .o 3 0), (8, .v (.slice A37 (List.length z35) c38)), (9, .v (.slice A56 (List.length z54) c57))] [DF.v (rSl rApiPost) z35 (.slice A37 (List.length z35) c38), DF.v (rSl rApiPost) z54 (.slice A56 (List.length z54) c57)] [(3, ⟨[strV x1.Account, .int .i64 x1.Amount], 38⟩)] [⟨.slice A37 (List.length z35) c38, 38, 2⟩] a63 w64 := h66.sel [3, 8, 9] [0, 1] [3]
        refine draw_rule h509 rfl (by kernel_rfl) 12 [37, 38, 39, 40, 41, 42, 43, 44, 45, 46, 47, 48] [FV.eq (.slice A56 (List.length z54) c57), FV.eq (.int .i64 (List.length z54 : Int)), FV.eq (.bool (decide ((List.length z54 : Int) > 0))), FV.eq (.bool (decide ((List.length z54 : Int) > 0))), FV.any, FV.any, FV.any, FV.any, FV.any, FV.any, FV.any, FV.eq (.bool false)] rfl rfl rfl (by kernel_rfl) (by kernel_rfl) (by kernel_rfl) (by kernel_rfl) (by kernel_rfl) ?_ ?_
        · skip
          refine ⟨⟨⟨⟨⟨⟨⟨⟨⟨⟨⟨⟨trivial, ?_⟩, ?_⟩, ?_⟩, ?_⟩, ?_⟩, ?_⟩, ?_⟩, ?_⟩, ?_⟩, ?_⟩, ?_⟩, ?_⟩
          · skip
            intro β510 a511 w512 dX513 Ox514 Q515 h516 hq517 hp518 hk519
            refine evalS_ok tabOk h516 1 [3, 8, 9, 37] [3] [(3, .o 3 0), (8, .v (.slice A37 (List.length z35) c38)), (9, .v (.slice A56 (List.length z54) c57)), (37, .v (.slice A56 (List.length z54) c57))] [(3, ⟨[strV x1.Account, .int .i64 x1.Amount], 38⟩)] (by kernel_rfl) fun β520 a521 w522 h523 => ?_
            exact wpl_end (hk519 _ _ _ _ (h523.sel [3, 8, 9] [0, 1, 2] [3]) (h523.getD rfl) rfl)
          · skip
            intro β524 a525 w526 dX527 Ox528 Q529 h530 hq531 hp532 hk533
            have h534 := h530.learnE (d := 37) rfl (hp532 0 37 _ rfl rfl rfl)
            clear h530
            refine evalS_ok tabOk h534 1 [3, 8, 9, 38] [3] [(3, .o 3 0), (8, .v (.slice A37 (List.length z35) c38)), (9, .v (.slice A56 (List.length z54) c57)), (38, .v (.int .i64 (List.length z54 : Int)))] [(3, ⟨[strV x1.Account, .int .i64 x1.Amount], 38⟩)] (by kernel_rfl) fun β535 a536 w537 h538 => ?_
            exact wpl_end (hk533 _ _ _ _ (h538.sel [3, 8, 9] [0, 1, 2] [3]) (h538.getD rfl) rfl)
          · skip
            intro β539 a540 w541 dX542 Ox543 Q544 h545 hq546 hp547 hk548
            have h549 := h545.learnE (d := 38) rfl (hp547 1 38 _ rfl rfl rfl)
            clear h545
            refine evalS_ok tabOk h549 1 [3, 8, 9, 39] [3] [(3, .o 3 0), (8, .v (.slice A37 (List.length z35) c38)), (9, .v (.slice A56 (List.length z54) c57)), (39, .v (.bool (decide ((List.length z54 : Int) > 0))))] [(3, ⟨[strV x1.Account, .int .i64 x1.Amount], 38⟩)] (by kernel_rfl) fun β550 a551 w552 h553 => ?_
            exact wpl_end (hk548 _ _ _ _ (h553.sel [3, 8, 9] [0, 1, 2] [3]) (h553.getD rfl) rfl)
          · skip
            intro β554 a555 w556 dX557 Ox558 Q559 h560 hq561 hp562 hk563
            have h564 := h560.learnE (d := 39) rfl (hp562 2 39 _ rfl rfl rfl)
            clear h560
            refine evalS_ok tabOk h564 1 [3, 8, 9, 40] [3] [(3, .o 3 0), (8, .v (.slice A37 (List.length z35) c38)), (9, .v (.slice A56 (List.length z54) c57)), (40, .v (.bool (decide ((List.length z54 : Int) > 0))))] [(3, ⟨[strV x1.Account, .int .i64 x1.Amount], 38⟩)] (by kernel_rfl) fun β565 a566 w567 h568 => ?_
            exact wpl_end (hk563 _ _ _ _ (h568.sel [3, 8, 9] [0, 1, 2] [3]) (h568.getD rfl) rfl)
          · skip
            intro β569 a570 w571 dX572 Ox573 Q574 h575 hq576 hp577 hk578
            have h579 := h575.learnE (d := 40) rfl (hp577 3 40 _ rfl rfl rfl)
            clear h575
            have h580 := h579.reb (t := 40) rfl hb295
            clear h579
            refine evalS_ok tabOk h580 1 [3, 8, 9] [3] [(3, .o 3 0), (8, .v (.slice A37 (List.length z35) c38)), (9, .v (.slice A56 (List.length z54) c57))] [(3, ⟨[strV x1.Account, .int .i64 x1.Amount], 38⟩)] (by kernel_rfl) fun β581 a582 w583 h584 => ?_
            exact wpl_end (hk578 _ _ _ _ (h584.sel [3, 8, 9] [0, 1, 2] [3]) trivial rfl)
          · skip
            intro β585 a586 w587 dX588 Ox589 Q590 h591 hq592 hp593 hk594
            have h595 := h591.learnE (d := 40) rfl (hp593 3 40 _ rfl rfl rfl)
            clear h591
            have h596 := h595.reb (t := 40) rfl hb295
            clear h595
            refine evalS_ok tabOk h596 1 [3, 8, 9] [3] [(3, .o 3 0), (8, .v (.slice A37 (List.length z35) c38)), (9, .v (.slice A56 (List.length z54) c57))] [(3, ⟨[strV x1.Account, .int .i64 x1.Amount], 38⟩)] (by kernel_rfl) fun β597 a598 w599 h600 => ?_
            exact wpl_end (hk594 _ _ _ _ (h600.sel [3, 8, 9] [0, 1, 2] [3]) trivial rfl)
          · skip
            intro β601 a602 w603 dX604 Ox605 Q606 h607 hq608 hp609 hk610
            have h611 := h607.learnE (d := 40) rfl (hp609 3 40 _ rfl rfl rfl)
            clear h607
            have h612 := h611.reb (t := 40) rfl hb295
            clear h611
            refine evalS_ok tabOk h612 1 [3, 8, 9] [3] [(3, .o 3 0), (8, .v (.slice A37 (List.length z35) c38)), (9, .v (.slice A56 (List.length z54) c57))] [(3, ⟨[strV x1.Account, .int .i64 x1.Amount], 38⟩)] (by kernel_rfl) fun β613 a614 w615 h616 => ?_
            exact wpl_end (hk610 _ _ _ _ (h616.sel [3, 8, 9] [0, 1, 2] [3]) trivial rfl)
          · skip
            intro β617 a618 w619 dX620 Ox621 Q622 h623 hq624 hp625 hk626
            have h627 := h623.learnE (d := 40) rfl (hp625 3 40 _ rfl rfl rfl)
            clear h623
            have h628 := h627.reb (t := 40) rfl hb295
            clear h627
            refine evalS_ok tabOk h628 1 [3, 8, 9] [3] [(3, .o 3 0), (8, .v (.slice A37 (List.length z35) c38)), (9, .v (.slice A56 (List.length z54) c57))] [(3, ⟨[strV x1.Account, .int .i64 x1.Amount], 38⟩)] (by kernel_rfl) fun β629 a630 w631 h632 => ?_
            exact wpl_end (hk626 _ _ _ _ (h632.sel [3, 8, 9] [0, 1, 2] [3]) trivial rfl)
          · skip
            intro β633 a634 w635 dX636 Ox637 Q638 h639 hq640 hp641 hk642
            have h643 := h639.learnE (d := 40) rfl (hp641 3 40 _ rfl rfl rfl)
            clear h639
            have h644 := h643.reb (t := 40) rfl hb295
            clear h643
            refine evalS_ok tabOk h644 1 [3, 8, 9] [3] [(3, .o 3 0), (8, .v (.slice A37 (List.length z35) c38)), (9, .v (.slice A56 (List.length z54) c57))] [(3, ⟨[strV x1.Account, .int .i64 x1.Amount], 38⟩)] (by kernel_rfl) fun β645 a646 w647 h648 => ?_
            exact wpl_end (hk642 _ _ _ _ (h648.sel [3, 8, 9] [0, 1, 2] [3]) trivial rfl)
          · skip
            intro β649 a650 w651 dX652 Ox653 Q654 h655 hq656 hp657 hk658
            have h659 := h655.learnE (d := 40) rfl (hp657 3 40 _ rfl rfl rfl)
            clear h655
            have h660 := h659.reb (t := 40) rfl hb295
            clear h659
            refine evalS_ok tabOk h660 1 [3, 8, 9] [3] [(3, .o 3 0), (8, .v (.slice A37 (List.length z35) c38)), (9, .v (.slice A56 (List.length z54) c57))] [(3, ⟨[strV x1.Account, .int .i64 x1.Amount], 38⟩)] (by kernel_rfl) fun β661 a662 w663 h664 => ?_
            exact wpl_end (hk658 _ _ _ _ (h664.sel [3, 8, 9] [0, 1, 2] [3]) trivial rfl)
          · skip
            intro β665 a666 w667 dX668 Ox669 Q670 h671 hq672 hp673 hk674
            have h675 := h671.learnE (d := 40) rfl (hp673 3 40 _ rfl rfl rfl)
            clear h671
            have h676 := h675.reb (t := 40) rfl hb295
            clear h675
            refine evalS_ok tabOk h676 1 [3, 8, 9] [3] [(3, .o 3 0), (8, .v (.slice A37 (List.length z35) c38)), (9, .v (.slice A56 (List.length z54) c57))] [(3, ⟨[strV x1.Account, .int .i64 x1.Amount], 38⟩)] (by kernel_rfl) fun β677 a678 w679 h680 => ?_
            exact wpl_end (hk674 _ _ _ _ (h680.sel [3, 8, 9] [0, 1, 2] [3]) trivial rfl)
          · skip
            intro β681 a682 w683 dX684 Ox685 Q686 h687 hq688 hp689 hk690
            have h691 := h687.learnE (d := 40) rfl (hp689 3 40 _ rfl rfl rfl)
            clear h687
            have h692 := h691.reb (t := 40) rfl hb295
            clear h691
            refine evalS_ok tabOk h692 1 [3, 8, 9, 48] [3] [(3, .o 3 0), (8, .v (.slice A37 (List.length z35) c38)), (9, .v (.slice A56 (List.length z54) c57)), (48, .v (.bool false))] [(3, ⟨[strV x1.Account, .int .i64 x1.Amount], 38⟩)] (by kernel_rfl) fun β693 a694 w695 h696 => ?_
            exact wpl_end (hk690 _ _ _ _ (h696.sel [3, 8, 9] [0, 1, 2] [3]) (h696.getD rfl) rfl)
        · skip
          intro β697 a698 w699 h700 ha701
          have h702 := h700.learnE (d := 48) rfl (ha701 11 48 _ rfl rfl)
          clear h700
          have h703 := h702.unpin rfl
          clear h702
          obtain rfl := Option.some.inj hv507
          have h704 : Sb β697 (cx 66 ok w) [(3, .o 3 0), (8, .v (.slice A37 (List.length z35) c38)), (9, .v (.slice A56 (List.length z54) c57)), (48, .v (.bool false))] [DF.v (rSl rApiPost) z35 (.slice A37 (List.length z35) c38), DF.v (rSl rApiPost) z54 (.slice A56 (List.length z54) c57)] [(3, ⟨[strV x1.Account, .int .i64 x1.Amount], 38⟩)] [⟨.slice A37 (List.length z35) c38, 38, 2⟩] a698 w699 := h703.sel [3, 8, 9, 48] [0, 1] [3]
          clear h703
          exact wpl_end (then_n ⟨_, h704⟩)
  refine block_ctx fun Qb12 hnb12 hrb12 hbb12 hxb12 => ?_
  have h707 : Sb β7 (cx 66 ok w) [(0, .v (.slice A1 (List.length x0) c2)), (3, .o 3 0), (5, .v (.int .i64 0)), (6, .v (.int .i64 (List.length x0 : Int)))] [DF.v (rSl rApiPost) x0 (.slice A1 (List.length x0) c2)] [(3, ⟨[strV x1.Account, .int .i64 x1.Amount], 38⟩)] [] a8 w9 := (h10).sel [0, 3, 5, 6] [0] [3]
  refine loop_ctx (fun m a w' => ∃ (i705 : Int) (i706 : Int), (∃ β, Sb β (cx 66 ok w) [(0, .v (.slice A1 (List.length x0) c2)), (3, .o 3 0), (5, .v (.int .i64 i705)), (6, .v (.int .i64 i706))] [DF.v (rSl rApiPost) x0 (.slice A1 (List.length x0) c2)] [(3, ⟨[strV x1.Account, .int .i64 x1.Amount], 38⟩)] [] a w') ∧ ledger_place_l12 N x0 x1 m i705 i706 = some out12) N ⟨0, (List.length x0 : Int), ⟨_, h707⟩, hL12⟩ ?_
  rintro Q12 m708 a709 w710 ⟨i705, i706, ⟨β711, h712⟩, hF713⟩ hn12 hr12 hx12
  obtain _ | m708 := m708
  · exact absurd hF713 (by simp [ledger_place_l12])
  rw [ledger_place_l12] at hF713
  refine seq_ctx fun Q714 hn714 hr714 hx714 => ?_
  refine seq_region tabOk h712 [0, 3, 5, 6, 14] [3] [(0, .v (.slice A1 (List.length x0) c2)), (3, .o 3 0), (5, .v (.int .i64 i705)), (6, .v (.int .i64 i706)), (14, .v (.bool (decide (i705 < i706))))] [(3, ⟨[strV x1.Account, .int .i64 x1.Amount], 38⟩)] (by kernel_rfl) fun β715 a716 w717 h718 => ?_
  clear h712
  refine wp_if h718 rfl (fun hb719 => ?_) (fun hb719 => ?_)
  · skip
    have hF720 := ifT hb719 hF713
    clear hF713
    refine wp_skip ?_
    refine hn714 _ _ ?_
    refine block_ctx fun Q721 hn721 hr721 hb721 hx721 => ?_
    refine seq_region tabOk h718 [0, 3, 5, 6, 7] [3] [(0, .v (.slice A1 (List.length x0) c2)), (3, .o 3 0), (5, .v (.int .i64 i705)), (6, .v (.int .i64 i706)), (7, .v (.int .i64 (IntKind.wrap .i64 (Int.tdiv (IntKind.wrap .i64 (i705 + i706)) 2))))] [(3, ⟨[strV x1.Account, .int .i64 x1.Amount], 38⟩)] (by kernel_rfl) fun β722 a723 w724 h725 => ?_
    clear h718
    refine seq_draw fun Q726 hq726 => ?_
    obtain ⟨x727, hx727, hF728⟩ := bindE hF720
    clear hF720
    have h730 : Sb β722 (cx 66 ok w) [(0, .v (.slice A1 (List.length x0) c2)), (3, .o 3 0), (5, .v (.int .i64 i705)), (6, .v (.int .i64 i706)), (7, .v (.int .i64 (IntKind.wrap .i64 (Int.tdiv (IntKind.wrap .i64 (i705 + i706)) 2))))] [DF.v (rSl rApiPost) x0 (.slice A1 (List.length x0) c2)] [(3, ⟨[strV x1.Account, .int .i64 x1.Amount], 38⟩)] [] a723 w724 := h725.sel [0, 3, 5, 6, 7] [0] [3]
    refine draw_rule h730 rfl (by kernel_rfl) 8 [19, 20, 21, 22, 23, 24, 25, 26] [FV.eq (.slice A1 (List.length x0) c2), FV.eq (.int .i64 (IntKind.wrap .i64 (Int.tdiv (IntKind.wrap .i64 (i705 + i706)) 2))), FV.at rApiPost x727, FV.at rStr x727.Account, FV.eq (strV x727.Account), FV.eq (.pointer (some ⟨β722 3, 0, none⟩)), FV.eq (strV x1.Account), FV.eq (.bool (Op.bytesLess x727.Account x1.Account))] rfl rfl rfl (by kernel_rfl) (by kernel_rfl) (by kernel_rfl) (by kernel_rfl) (by kernel_rfl) ?_ ?_
    · skip
      refine ⟨⟨⟨⟨⟨⟨⟨⟨trivial, ?_⟩, ?_⟩, ?_⟩, ?_⟩, ?_⟩, ?_⟩, ?_⟩, ?_⟩
      · skip
        intro β731 a732 w733 dX734 Ox735 Q736 h737 hq738 hp739 hk740
        refine evalS_ok tabOk h737 1 [0, 3, 5, 6, 7, 19] [3] [(0, .v (.slice A1 (List.length x0) c2)), (3, .o 3 0), (5, .v (.int .i64 i705)), (6, .v (.int .i64 i706)), (7, .v (.int .i64 (IntKind.wrap .i64 (Int.tdiv (IntKind.wrap .i64 (i705 + i706)) 2)))), (19, .v (.slice A1 (List.length x0) c2))] [(3, ⟨[strV x1.Account, .int .i64 x1.Amount], 38⟩)] (by kernel_rfl) fun β741 a742 w743 h744 => ?_
        exact wpl_end (hk740 _ _ _ _ (h744.sel [0, 3, 5, 6, 7] [0, 1] [3]) (h744.getD rfl) rfl)
      · skip
        intro β745 a746 w747 dX748 Ox749 Q750 h751 hq752 hp753 hk754
        refine evalS_ok tabOk h751 1 [0, 3, 5, 6, 7, 20] [3] [(0, .v (.slice A1 (List.length x0) c2)), (3, .o 3 0), (5, .v (.int .i64 i705)), (6, .v (.int .i64 i706)), (7, .v (.int .i64 (IntKind.wrap .i64 (Int.tdiv (IntKind.wrap .i64 (i705 + i706)) 2)))), (20, .v (.int .i64 (IntKind.wrap .i64 (Int.tdiv (IntKind.wrap .i64 (i705 + i706)) 2))))] [(3, ⟨[strV x1.Account, .int .i64 x1.Amount], 38⟩)] (by kernel_rfl) fun β755 a756 w757 h758 => ?_
        exact wpl_end (hk754 _ _ _ _ (h758.sel [0, 3, 5, 6, 7] [0, 1] [3]) (h758.getD rfl) rfl)
      · skip
        intro β759 a760 w761 dX762 Ox763 Q764 h765 hq766 hp767 hk768
        have h769 := h765.learnE (d := 19) rfl (hp767 0 19 _ rfl rfl rfl)
        clear h765
        have h770 := h769.learnE (d := 20) rfl (hp767 1 20 _ rfl rfl rfl)
        clear h769
        refine step_idx tabOk h770 1 rfl rfl rfl rfl rfl hx727 tb22 rfl tb38 rfl fun p771 a772 h773 => ?_
        clear h770
        exact wpl_end (hk768 _ _ _ _ (h773.sel [0, 3, 5, 6, 7] [1, 2] [3]) (h773.getA rfl (h773.d 0 rfl)) rfl)
      · skip
        intro β774 a775 w776 dX777 Ox778 Q779 h780 hq781 hp782 hk783
        have h784 := h780.learn (d := 21) rfl
        clear h780
        have f785 := hp782 2 21 _ rfl rfl rfl
        generalize a775.tmps.getD 21 undef = v786 at h784 f785
        have h787 := h784.addD (d := DF.at rApiPost x727 (v786)) f785
        clear h784
        refine step_field tabOk h787 0 rfl rfl rfl rfl tb38 rfl rfl rfl fun p788 a789 (h790 : Sb β774 _ _ (DF.at rStr x727.Account (p788) :: _) _ _ a789 w776) => ?_
        clear h787
        exact wpl_end (hk783 _ _ _ _ (h790.sel [0, 3, 5, 6, 7] [2, 3] [3]) (h790.getA rfl (h790.d 0 rfl)) rfl)
      · skip
        intro β791 a792 w793 dX794 Ox795 Q796 h797 hq798 hp799 hk800
        have h801 := h797.learn (d := 22) rfl
        clear h797
        have f802 := hp799 3 22 _ rfl rfl rfl
        generalize a792.tmps.getD 22 undef = v803 at h801 f802
        have h804 := h801.addD (d := DF.at rStr x727.Account (v803)) f802
        clear h801
        refine step_load tabOk h804 0 rfl rfl rfl rfl tb9 rfl rfl fun v805 a807 hv806 h808 => ?_
        clear h804
        obtain rfl := isV_str.1 hv806
        exact wpl_end (hk800 _ _ _ _ (h808.sel [0, 3, 5, 6, 7] [2, 3] [3]) (h808.getD rfl) rfl)
      · skip
        intro β809 a810 w811 dX812 Ox813 Q814 h815 hq816 hp817 hk818
        refine evalS_ok tabOk h815 1 [0, 3, 5, 6, 7, 24] [3] [(0, .v (.slice A1 (List.length x0) c2)), (3, .o 3 0), (5, .v (.int .i64 i705)), (6, .v (.int .i64 i706)), (7, .v (.int .i64 (IntKind.wrap .i64 (Int.tdiv (IntKind.wrap .i64 (i705 + i706)) 2)))), (24, .o 3 0)] [(3, ⟨[strV x1.Account, .int .i64 x1.Amount], 38⟩)] (by kernel_rfl) fun β819 a820 w821 h822 => ?_
        exact wpl_end (hk818 _ _ _ _ (h822.sel [0, 3, 5, 6, 7] [0, 1] [3]) (h822.getO rfl rfl rfl) rfl)
      · skip
        intro β823 a824 w825 dX826 Ox827 Q828 h829 hq830 hp831 hk832
        have h833 := h829.learnO (d := 24) (id := 3) (off := 0) rfl rfl rfl (hp831 5 24 _ rfl rfl rfl)
        clear h829
        refine evalS_ok tabOk h833 1 [0, 3, 5, 6, 7, 25] [3] [(0, .v (.slice A1 (List.length x0) c2)), (3, .o 3 0), (5, .v (.int .i64 i705)), (6, .v (.int .i64 i706)), (7, .v (.int .i64 (IntKind.wrap .i64 (Int.tdiv (IntKind.wrap .i64 (i705 + i706)) 2)))), (25, .v (strV x1.Account))] [(3, ⟨[strV x1.Account, .int .i64 x1.Amount], 38⟩)] (by kernel_rfl) fun β834 a835 w836 h837 => ?_
        exact wpl_end (hk832 _ _ _ _ (h837.sel [0, 3, 5, 6, 7] [0, 1] [3]) (h837.getD rfl) rfl)
      · skip
        intro β838 a839 w840 dX841 Ox842 Q843 h844 hq845 hp846 hk847
        have h848 := h844.learnE (d := 23) rfl (hp846 4 23 _ rfl rfl rfl)
        clear h844
        have h849 := h848.learnE (d := 25) rfl (hp846 6 25 _ rfl rfl rfl)
        clear h848
        refine evalS_ok tabOk h849 1 [0, 3, 5, 6, 7, 26] [3] [(0, .v (.slice A1 (List.length x0) c2)), (3, .o 3 0), (5, .v (.int .i64 i705)), (6, .v (.int .i64 i706)), (7, .v (.int .i64 (IntKind.wrap .i64 (Int.tdiv (IntKind.wrap .i64 (i705 + i706)) 2)))), (26, .v (.bool (Op.bytesLess x727.Account x1.Account)))] [(3, ⟨[strV x1.Account, .int .i64 x1.Amount], 38⟩)] (by kernel_rfl) fun β850 a851 w852 h853 => ?_
        exact wpl_end (hk847 _ _ _ _ (h853.sel [0, 3, 5, 6, 7] [0, 1] [3]) (h853.getD rfl) rfl)
    · skip
      intro β854 a855 w856 h857 ha858
      have h859 := h857.learnE (d := 26) rfl (ha858 7 26 _ rfl rfl)
      clear h857
      have h860 := h859.unpin rfl
      clear h859
      have h861 : Sb β854 (cx 66 ok w) [(0, .v (.slice A1 (List.length x0) c2)), (3, .o 3 0), (5, .v (.int .i64 i705)), (6, .v (.int .i64 i706)), (7, .v (.int .i64 (IntKind.wrap .i64 (Int.tdiv (IntKind.wrap .i64 (i705 + i706)) 2)))), (26, .v (.bool (Op.bytesLess x727.Account x1.Account)))] [DF.v (rSl rApiPost) x0 (.slice A1 (List.length x0) c2)] [(3, ⟨[strV x1.Account, .int .i64 x1.Amount], 38⟩)] [] a855 w856 := h860.sel [0, 3, 5, 6, 7, 26] [0] [3]
      clear h860
      refine wpl_end (hq726 _ _ ?_)
      refine wp_if h861 rfl (fun hb862 => ?_) (fun hb862 => ?_)
      · skip
        have hF863 := ifT hb862 hF728
        clear hF728
        refine evalR_ok tabOk h861 [0, 3, 5, 6] [3] [(0, .v (.slice A1 (List.length x0) c2)), (3, .o 3 0), (5, .v (.int .i64 (IntKind.wrap .i64 ((IntKind.wrap .i64 (Int.tdiv (IntKind.wrap .i64 (i705 + i706)) 2)) + 1)))), (6, .v (.int .i64 i706))] [(3, ⟨[strV x1.Account, .int .i64 x1.Amount], 38⟩)] (by kernel_rfl) fun β864 a865 w866 h867 => ?_
        clear h861
        refine hn721 _ _ ?_
        have h868 : Sb β864 (cx 66 ok w) [(0, .v (.slice A1 (List.length x0) c2)), (3, .o 3 0), (5, .v (.int .i64 (IntKind.wrap .i64 ((IntKind.wrap .i64 (Int.tdiv (IntKind.wrap .i64 (i705 + i706)) 2)) + 1)))), (6, .v (.int .i64 i706))] [DF.v (rSl rApiPost) x0 (.slice A1 (List.length x0) c2)] [(3, ⟨[strV x1.Account, .int .i64 x1.Amount], 38⟩)] [] a865 w866 := (h867).sel [0, 3, 5, 6] [0] [3]
        exact hn12 _ _ _ (Nat.lt_succ_self _) ⟨(IntKind.wrap .i64 ((IntKind.wrap .i64 (Int.tdiv (IntKind.wrap .i64 (i705 + i706)) 2)) + 1)), i706, ⟨_, h868⟩, hF863⟩
      · skip
        have hF869 := ifF hb862 hF728
        clear hF728
        refine evalR_ok tabOk h861 [0, 3, 5, 6] [3] [(0, .v (.slice A1 (List.length x0) c2)), (3, .o 3 0), (5, .v (.int .i64 i705)), (6, .v (.int .i64 (IntKind.wrap .i64 (Int.tdiv (IntKind.wrap .i64 (i705 + i706)) 2))))] [(3, ⟨[strV x1.Account, .int .i64 x1.Amount], 38⟩)] (by kernel_rfl) fun β870 a871 w872 h873 => ?_
        clear h861
        refine hn721 _ _ ?_
        have h874 : Sb β870 (cx 66 ok w) [(0, .v (.slice A1 (List.length x0) c2)), (3, .o 3 0), (5, .v (.int .i64 i705)), (6, .v (.int .i64 (IntKind.wrap .i64 (Int.tdiv (IntKind.wrap .i64 (i705 + i706)) 2))))] [DF.v (rSl rApiPost) x0 (.slice A1 (List.length x0) c2)] [(3, ⟨[strV x1.Account, .int .i64 x1.Amount], 38⟩)] [] a871 w872 := (h873).sel [0, 3, 5, 6] [0] [3]
        exact hn12 _ _ _ (Nat.lt_succ_self _) ⟨i705, (IntKind.wrap .i64 (Int.tdiv (IntKind.wrap .i64 (i705 + i706)) 2)), ⟨_, h874⟩, hF869⟩
  · skip
    have hF875 := ifF hb719 hF713
    clear hF713
    refine wp_exit ?_
    refine hx714 0 _ _ ?_
    refine hx12 0 _ _ ?_
    refine hbb12 _ _ ?_
    obtain rfl := Option.some.inj hF875
    have h876 : Sb β715 (cx 66 ok w) [(0, .v (.slice A1 (List.length x0) c2)), (3, .o 3 0), (5, .v (.int .i64 i705))] [DF.v (rSl rApiPost) x0 (.slice A1 (List.length x0) c2)] [(3, ⟨[strV x1.Account, .int .i64 x1.Amount], 38⟩)] [] a716 w717 := (h718).sel [0, 3, 5] [0] [3]
    exact j14 _ _ ⟨i705, ⟨_, h876⟩, hC12⟩
theorem c_ledger_place {ok : Ok} {w : World} (hok : ∀ b o, ok b o → b < w.heap.size) (N : Nat) {x0 : (List ApiPost)} {x1 : ApiPost} {A1 : Option Addr} {c2 : Nat} (d0 : isV (rSl rApiPost) ok w x0 (.slice A1 (List.length x0) c2)) {r : (List ApiPost)} (hF : ledger_place N x0 x1 = some r) :
    Calls Try.prog 33 ⟨[.slice A1 (List.length x0) c2, .agg ⟨[strV x1.Account, .int .i64 x1.Amount]⟩]⟩ w (Ret w (R1 (rSl rApiPost) ok w r)) :=
  Calls.own1 (co_ledger_place hok N d0 hF)

theorem c_ledger_Invoice {ok : Ok} {w : World} (hok : ∀ b o, ok b o → b < w.heap.size) (N : Nat) {x0 : ApiInvoice} {A1 : Option Addr} {c2 : Nat} {A3 : Option Addr} {c4 : Nat} (d0 : isV (rSl rApiLine) ok w x0.Lines (.slice A1 (List.length x0.Lines) c2)) (d1 : isV (rSl rApiTaxLine) ok w x0.Taxes (.slice A3 (List.length x0.Taxes) c4)) {r : ApiEntry} (hF : ledger_Invoice N x0 = some r) :
    Calls Try.prog 23 ⟨[.agg ⟨[.int .i64 x0.Account, .int .i64 x0.Period.From, .int .i64 x0.Period.To, .slice A1 (List.length x0.Lines) c2, .slice A3 (List.length x0.Taxes) c4, .int .i64 x0.Net, .int .i64 x0.Tax, .int .i64 x0.Total]⟩]⟩ w (Ret w (R1 rApiEntry ok w r)) := by
  rw [ledger_Invoice] at hF
  refine enter_ok (n := 43) hok Try.func23 rfl rfl rfl (D := [DF.v (rSl rApiLine) x0.Lines (.slice A1 (List.length x0.Lines) c2), DF.v (rSl rApiTaxLine) x0.Taxes (.slice A3 (List.length x0.Taxes) c4)]) ⟨d0, d1, trivial⟩ (fun a h => ?_)
  simp only [zipG, Nat.zero_add, Nat.reduceAdd] at h
  refine start_ctx fun Q hn hr => ?_
  refine seq_region tabOk h [1, 2] [1, 2] [(1, .o 1 0), (2, .o 2 0)] [(1, ⟨[.int .i64 x0.Account, .int .i64 x0.Period.From, .int .i64 x0.Period.To, .slice A1 (List.length x0.Lines) c2, .slice A3 (List.length x0.Taxes) c4, .int .i64 x0.Net, .int .i64 x0.Tax, .int .i64 x0.Total], 52⟩), (2, ⟨[.int .i64 0, strV ([] : Str), .slice none 0 0], 24⟩)] (by kernel_rfl) fun β5 a6 w7 h8 => ?_
  clear h
  refine seq_draw fun Q9 hq9 => ?_
  obtain ⟨y10, hy10, hF11⟩ := bindE hF
  clear hF
  obtain ⟨y12, hy12, hF13⟩ := bindE hF11
  clear hF11
  have h17 : Sb β5 (cx 43 ok w) [(1, .o 1 0), (2, .o 2 0)] [DF.v (rSl rApiLine) x0.Lines (.slice A1 (List.length x0.Lines) c2), DF.v (rSl rApiTaxLine) x0.Taxes (.slice A3 (List.length x0.Taxes) c4)] [(1, ⟨[.int .i64 x0.Account, .int .i64 x0.Period.From, .int .i64 x0.Period.To, .slice A1 (List.length x0.Lines) c2, .slice A3 (List.length x0.Taxes) c4, .int .i64 x0.Net, .int .i64 x0.Tax, .int .i64 x0.Total], 52⟩), (2, ⟨[.int .i64 0, strV ([] : Str), .slice none 0 0], 24⟩)] [] a6 w7 := h8.sel [1, 2] [0, 1] [1, 2]
  refine draw_rule h17 rfl (by kernel_rfl) 7 [6, 7, 8, 9, 10, 11, 12] [FV.eq (.pointer (some ⟨β5 1, 0, none⟩)), FV.eq (.int .i64 x0.Account), FV.eq (strV y10), FV.eq (.pointer (some ⟨β5 1, 7, none⟩)), FV.eq (.int .i64 x0.Total), FV.eq (.agg ⟨[strV y10, .int .i64 x0.Total]⟩), FV.rep (rSl rApiPost) y12] rfl rfl rfl (by kernel_rfl) (by kernel_rfl) (by kernel_rfl) (by kernel_rfl) (by kernel_rfl) ?_ ?_
  · skip
    refine ⟨⟨⟨⟨⟨⟨⟨trivial, ?_⟩, ?_⟩, ?_⟩, ?_⟩, ?_⟩, ?_⟩, ?_⟩
    · skip
      intro β18 a19 w20 dX21 Ox22 Q23 h24 hq25 hp26 hk27
      refine evalS_ok tabOk h24 1 [1, 2, 6] [1, 2] [(1, .o 1 0), (2, .o 2 0), (6, .o 1 0)] [(1, ⟨[.int .i64 x0.Account, .int .i64 x0.Period.From, .int .i64 x0.Period.To, .slice A1 (List.length x0.Lines) c2, .slice A3 (List.length x0.Taxes) c4, .int .i64 x0.Net, .int .i64 x0.Tax, .int .i64 x0.Total], 52⟩), (2, ⟨[.int .i64 0, strV ([] : Str), .slice none 0 0], 24⟩)] (by kernel_rfl) fun β28 a29 w30 h31 => ?_
      exact wpl_end (hk27 _ _ _ _ (h31.sel [1, 2] [0, 1, 2] [1, 2]) (h31.getO rfl rfl rfl) rfl)
    · skip
      intro β32 a33 w34 dX35 Ox36 Q37 h38 hq39 hp40 hk41
      have h42 := h38.learnO (d := 6) (id := 1) (off := 0) rfl rfl rfl (hp40 0 6 _ rfl rfl rfl)
      clear h38
      refine evalS_ok tabOk h42 1 [1, 2, 7] [1, 2] [(1, .o 1 0), (2, .o 2 0), (7, .v (.int .i64 x0.Account))] [(1, ⟨[.int .i64 x0.Account, .int .i64 x0.Period.From, .int .i64 x0.Period.To, .slice A1 (List.length x0.Lines) c2, .slice A3 (List.length x0.Taxes) c4, .int .i64 x0.Net, .int .i64 x0.Tax, .int .i64 x0.Total], 52⟩), (2, ⟨[.int .i64 0, strV ([] : Str), .slice none 0 0], 24⟩)] (by kernel_rfl) fun β43 a44 w45 h46 => ?_
      exact wpl_end (hk41 _ _ _ _ (h46.sel [1, 2] [0, 1, 2] [1, 2]) (h46.getD rfl) rfl)
    · skip
      intro β47 a48 w49 dX50 Ox51 Q52 h53 hq54 hp55 hk56
      have h57 := h53.learnE (d := 7) rfl (hp55 1 7 _ rfl rfl rfl)
      clear h53
      refine step_call h57 rfl rfl runs39 (vs := [(.int .i64 x0.Account)]) (by kernel_rfl) (c_ledger_receivable (x0 := x0.Account) h57.okLt N hy10) fun v58 a61 w62 hR59 hk60 h63 => ?_
      clear h57
      have hv64 := isV.weak hR59 hk60
      obtain rfl := isV_str.1 hv64
      exact wpl_end (hk56 _ _ _ _ (h63.sel [1, 2] [0, 1, 2] [1, 2]) (h63.getD rfl) rfl)
    · skip
      intro β65 a66 w67 dX68 Ox69 Q70 h71 hq72 hp73 hk74
      refine evalS_ok tabOk h71 1 [1, 2, 9] [1, 2] [(1, .o 1 0), (2, .o 2 0), (9, .o 1 7)] [(1, ⟨[.int .i64 x0.Account, .int .i64 x0.Period.From, .int .i64 x0.Period.To, .slice A1 (List.length x0.Lines) c2, .slice A3 (List.length x0.Taxes) c4, .int .i64 x0.Net, .int .i64 x0.Tax, .int .i64 x0.Total], 52⟩), (2, ⟨[.int .i64 0, strV ([] : Str), .slice none 0 0], 24⟩)] (by kernel_rfl) fun β75 a76 w77 h78 => ?_
      exact wpl_end (hk74 _ _ _ _ (h78.sel [1, 2] [0, 1, 2] [1, 2]) (h78.getO rfl rfl rfl) rfl)
    · skip
      intro β79 a80 w81 dX82 Ox83 Q84 h85 hq86 hp87 hk88
      have h89 := h85.learnO (d := 9) (id := 1) (off := 7) rfl rfl rfl (hp87 3 9 _ rfl rfl rfl)
      clear h85
      refine evalS_ok tabOk h89 1 [1, 2, 10] [1, 2] [(1, .o 1 0), (2, .o 2 0), (10, .v (.int .i64 x0.Total))] [(1, ⟨[.int .i64 x0.Account, .int .i64 x0.Period.From, .int .i64 x0.Period.To, .slice A1 (List.length x0.Lines) c2, .slice A3 (List.length x0.Taxes) c4, .int .i64 x0.Net, .int .i64 x0.Tax, .int .i64 x0.Total], 52⟩), (2, ⟨[.int .i64 0, strV ([] : Str), .slice none 0 0], 24⟩)] (by kernel_rfl) fun β90 a91 w92 h93 => ?_
      exact wpl_end (hk88 _ _ _ _ (h93.sel [1, 2] [0, 1, 2] [1, 2]) (h93.getD rfl) rfl)
    · skip
      intro β94 a95 w96 dX97 Ox98 Q99 h100 hq101 hp102 hk103
      have h104 := h100.learnE (d := 8) rfl (hp102 2 8 _ rfl rfl rfl)
      clear h100
      have h105 := h104.learnE (d := 10) rfl (hp102 4 10 _ rfl rfl rfl)
      clear h104
      refine evalS_ok tabOk h105 1 [1, 2, 11] [1, 2] [(1, .o 1 0), (2, .o 2 0), (11, .v (.agg ⟨[strV y10, .int .i64 x0.Total]⟩))] [(1, ⟨[.int .i64 x0.Account, .int .i64 x0.Period.From, .int .i64 x0.Period.To, .slice A1 (List.length x0.Lines) c2, .slice A3 (List.length x0.Taxes) c4, .int .i64 x0.Net, .int .i64 x0.Tax, .int .i64 x0.Total], 52⟩), (2, ⟨[.int .i64 0, strV ([] : Str), .slice none 0 0], 24⟩)] (by kernel_rfl) fun β106 a107 w108 h109 => ?_
      exact wpl_end (hk103 _ _ _ _ (h109.sel [1, 2] [0, 1, 2] [1, 2]) (h109.getD rfl) rfl)
    · skip
      intro β110 a111 w112 dX113 Ox114 Q115 h116 hq117 hp118 hk119
      have h120 := h116.learnE (d := 11) rfl (hp118 5 11 _ rfl rfl rfl)
      clear h116
      refine step_call h120 rfl rfl runs33 (vs := [(.slice none 0 0), (.agg ⟨[strV y10, .int .i64 x0.Total]⟩)]) (by kernel_rfl) (c_ledger_place (x0 := []) (x1 := (⟨y10, x0.Total⟩ : ApiPost)) h120.okLt N slNil hy12) fun v121 a124 w125 hR122 hk123 h126 => ?_
      clear h120
      have hv127 := isV.weak hR122 hk123
      obtain ⟨A128, c129, rfl, hs130⟩ := slForm hv127
      have h131 := h126.addD (d := DF.v (rSl rApiPost) y12 (.slice A128 (List.length y12) c129)) hs130
      clear h126
      exact wpl_end (hk119 _ _ _ _ (h131.sel [1, 2] [1, 2, 3] [1, 2]) (h131.getR rfl (h131.d 0 rfl)) rfl)
  · skip
    intro β132 a133 w134 h135 ha136
    have h137 := h135.learn (d := 12) rfl
    clear h135
    have f138 := ha136 6 12 _ rfl rfl
    generalize a133.tmps.getD 12 undef = v139 at h137 f138
    obtain ⟨A140, c141, rfl, hs142⟩ := slForm f138
    have h143 := h137.addD (d := DF.v (rSl rApiPost) y12 (.slice A140 (List.length y12) c141)) hs142
    clear h137
    have h144 := h143.unpin rfl
    clear h143
    refine evalS_ok tabOk h144 1 [1, 2, 3] [1, 2] [(1, .o 1 0), (2, .o 2 0), (3, .v (.slice A140 (List.length y12) c141))] [(1, ⟨[.int .i64 x0.Account, .int .i64 x0.Period.From, .int .i64 x0.Period.To, .slice A1 (List.length x0.Lines) c2, .slice A3 (List.length x0.Taxes) c4, .int .i64 x0.Net, .int .i64 x0.Tax, .int .i64 x0.Total], 52⟩), (2, ⟨[.int .i64 0, strV ([] : Str), .slice none 0 0], 24⟩)] (by kernel_rfl) fun β145 a146 w147 h148 => ?_
    clear h144
    have h149 : Sb β145 (cx 43 ok w) [(1, .o 1 0), (2, .o 2 0), (3, .v (.slice A140 (List.length y12) c141))] [DF.v (rSl rApiPost) y12 (.slice A140 (List.length y12) c141), DF.v (rSl rApiLine) x0.Lines (.slice A1 (List.length x0.Lines) c2), DF.v (rSl rApiTaxLine) x0.Taxes (.slice A3 (List.length x0.Taxes) c4)] [(1, ⟨[.int .i64 x0.Account, .int .i64 x0.Period.From, .int .i64 x0.Period.To, .slice A1 (List.length x0.Lines) c2, .slice A3 (List.length x0.Taxes) c4, .int .i64 x0.Net, .int .i64 x0.Tax, .int .i64 x0.Total], 52⟩), (2, ⟨[.int .i64 0, strV ([] : Str), .slice none 0 0], 24⟩)] [] a146 w147 := h148.sel [1, 2, 3] [0, 1, 2] [1, 2]
    clear h148
    refine wpl_end (hq9 _ _ ?_)
    refine seq_list fun Q150 hq150 => ?_
    refine evalS_ok tabOk h149 5 [1, 2, 3, 13, 17] [1, 2] [(1, .o 1 0), (2, .o 2 0), (3, .v (.slice A140 (List.length y12) c141)), (13, .v (.slice A140 (List.length y12) c141)), (17, .v (.agg ⟨[strV ([114, 101, 118, 101, 110, 117, 101] : Str), .int .i64 (IntKind.wrap .i64 (0 - x0.Net))]⟩))] [(1, ⟨[.int .i64 x0.Account, .int .i64 x0.Period.From, .int .i64 x0.Period.To, .slice A1 (List.length x0.Lines) c2, .slice A3 (List.length x0.Taxes) c4, .int .i64 x0.Net, .int .i64 x0.Tax, .int .i64 x0.Total], 52⟩), (2, ⟨[.int .i64 0, strV ([] : Str), .slice none 0 0], 24⟩)] (by kernel_rfl) fun β151 a152 w153 h154 => ?_
    clear h149
    obtain ⟨y155, hy155, hF156⟩ := bindE hF13
    clear hF13
    refine step_call h154 rfl rfl runs33 (vs := [(.slice A140 (List.length y12) c141), (.agg ⟨[strV ([114, 101, 118, 101, 110, 117, 101] : Str), .int .i64 (IntKind.wrap .i64 (0 - x0.Net))]⟩)]) (by kernel_rfl) (c_ledger_place (x0 := y12) (x1 := (⟨([114, 101, 118, 101, 110, 117, 101] : Str), (IntKind.wrap .i64 (0 - x0.Net))⟩ : ApiPost)) h154.okLt N (h154.d 0 rfl) hy155) fun v157 a160 w161 hR158 hk159 h162 => ?_
    clear h154
    have hv163 := isV.weak hR158 hk159
    obtain ⟨A164, c165, rfl, hs166⟩ := slForm hv163
    have h167 := h162.addD (d := DF.v (rSl rApiPost) y155 (.slice A164 (List.length y155) c165)) hs166
    clear h162
    refine evalS_ok tabOk h167 1 [1, 2, 3] [1, 2] [(1, .o 1 0), (2, .o 2 0), (3, .v (.slice A164 (List.length y155) c165))] [(1, ⟨[.int .i64 x0.Account, .int .i64 x0.Period.From, .int .i64 x0.Period.To, .slice A1 (List.length x0.Lines) c2, .slice A3 (List.length x0.Taxes) c4, .int .i64 x0.Net, .int .i64 x0.Tax, .int .i64 x0.Total], 52⟩), (2, ⟨[.int .i64 0, strV ([] : Str), .slice none 0 0], 24⟩)] (by kernel_rfl) fun β168 a169 w170 h171 => ?_
    clear h167
    have h172 : Sb β168 (cx 43 ok w) [(1, .o 1 0), (2, .o 2 0), (3, .v (.slice A164 (List.length y155) c165))] [DF.v (rSl rApiPost) y155 (.slice A164 (List.length y155) c165), DF.v (rSl rApiLine) x0.Lines (.slice A1 (List.length x0.Lines) c2), DF.v (rSl rApiTaxLine) x0.Taxes (.slice A3 (List.length x0.Taxes) c4)] [(1, ⟨[.int .i64 x0.Account, .int .i64 x0.Period.From, .int .i64 x0.Period.To, .slice A1 (List.length x0.Lines) c2, .slice A3 (List.length x0.Taxes) c4, .int .i64 x0.Net, .int .i64 x0.Tax, .int .i64 x0.Total], 52⟩), (2, ⟨[.int .i64 0, strV ([] : Str), .slice none 0 0], 24⟩)] [] a169 w170 := h171.sel [1, 2, 3] [0, 2, 3] [1, 2]
    clear h171
    refine wpl_end (hq150 _ _ ?_)
    refine seq_ctx fun Q173 hn173 hr173 hx173 => ?_
    refine seq_region tabOk h172 [1, 2, 3, 20, 21, 22] [1, 2] [(1, .o 1 0), (2, .o 2 0), (3, .v (.slice A164 (List.length y155) c165)), (20, .v (.slice A3 (List.length x0.Taxes) c4)), (21, .v (.int .i64 (List.length x0.Taxes : Int))), (22, .v (.int .i64 0))] [(1, ⟨[.int .i64 x0.Account, .int .i64 x0.Period.From, .int .i64 x0.Period.To, .slice A1 (List.length x0.Lines) c2, .slice A3 (List.length x0.Taxes) c4, .int .i64 x0.Net, .int .i64 x0.Tax, .int .i64 x0.Total], 52⟩), (2, ⟨[.int .i64 0, strV ([] : Str), .slice none 0 0], 24⟩)] (by kernel_rfl) fun β174 a175 w176 h177 => ?_
    clear h172
    obtain ⟨out178, hL178, hC178⟩ := bindE hF156
    clear hF156
    have j182 : ∀ a w', (∃ (l179 : List ApiPost) (A180 : Option Addr) (c181 : Nat), (∃ β, Sb β (cx 43 ok w) [(1, .o 1 0), (2, .o 2 0), (3, .v (.slice A180 (List.length l179) c181))] [DF.v (rSl rApiPost) l179 (.slice A180 (List.length l179) c181), DF.v (rSl rApiLine) x0.Lines (.slice A1 (List.length x0.Lines) c2), DF.v (rSl rApiTaxLine) x0.Taxes (.slice A3 (List.length x0.Taxes) c4)] [(1, ⟨[.int .i64 x0.Account, .int .i64 x0.Period.From, .int .i64 x0.Period.To, .slice A1 (List.length x0.Lines) c2, .slice A3 (List.length x0.Taxes) c4, .int .i64 x0.Net, .int .i64 x0.Tax, .int .i64 x0.Total], 52⟩), (2, ⟨[.int .i64 0, strV ([] : Str), .slice none 0 0], 24⟩)] [] a w') ∧ ledger_Invoice_j182 N x0 l179 = some r) → Q173 .normal a w' := by
      rintro a183 w184 ⟨l179, A180, c181, ⟨β185, h186⟩, hF187⟩
      rw [ledger_Invoice_j182] at hF187
      refine hn173 _ _ ?_
      refine seq_draw fun Q188 hq188 => ?_
      obtain ⟨y189, hy189, hF190⟩ := bindE hF187
      clear hF187
      have h194 : Sb β185 (cx 43 ok w) [(1, .o 1 0), (2, .o 2 0), (3, .v (.slice A180 (List.length l179) c181))] [DF.v (rSl rApiPost) l179 (.slice A180 (List.length l179) c181), DF.v (rSl rApiLine) x0.Lines (.slice A1 (List.length x0.Lines) c2), DF.v (rSl rApiTaxLine) x0.Taxes (.slice A3 (List.length x0.Taxes) c4)] [(1, ⟨[.int .i64 x0.Account, .int .i64 x0.Period.From, .int .i64 x0.Period.To, .slice A1 (List.length x0.Lines) c2, .slice A3 (List.length x0.Taxes) c4, .int .i64 x0.Net, .int .i64 x0.Tax, .int .i64 x0.Total], 52⟩), (2, ⟨[.int .i64 0, strV ([] : Str), .slice none 0 0], 24⟩)] [] a183 w184 := h186.sel [1, 2, 3] [0, 1, 2] [1, 2]
      refine draw_rule h194 rfl (by kernel_rfl) 7 [36, 37, 38, 39, 40, 41, 42] [FV.eq (.pointer (some ⟨β185 1, 1, none⟩)), FV.eq (.pointer (some ⟨β185 1, 2, none⟩)), FV.eq (.int .i64 x0.Period.To), FV.eq (.int .i64 (IntKind.wrap .i64 (x0.Period.To - 1))), FV.eq (.slice A180 (List.length l179) c181), FV.rep (rSl rApiPost) y189, FV.rep rApiEntry (⟨(IntKind.wrap .i64 (x0.Period.To - 1)), ([105, 110, 118, 111, 105, 99, 101] : Str), y189⟩ : ApiEntry)] rfl rfl rfl (by kernel_rfl) (by kernel_rfl) (by kernel_rfl) (by kernel_rfl) (by kernel_rfl) ?_ ?_
      · skip
        refine ⟨⟨⟨⟨⟨⟨⟨trivial, ?_⟩, ?_⟩, ?_⟩, ?_⟩, ?_⟩, ?_⟩, ?_⟩
        · skip
          intro β195 a196 w197 dX198 Ox199 Q200 h201 hq202 hp203 hk204
          refine evalS_ok tabOk h201 1 [1, 2, 3, 36] [1, 2] [(1, .o 1 0), (2, .o 2 0), (3, .v (.slice A180 (List.length l179) c181)), (36, .o 1 1)] [(1, ⟨[.int .i64 x0.Account, .int .i64 x0.Period.From, .int .i64 x0.Period.To, .slice A1 (List.length x0.Lines) c2, .slice A3 (List.length x0.Taxes) c4, .int .i64 x0.Net, .int .i64 x0.Tax, .int .i64 x0.Total], 52⟩), (2, ⟨[.int .i64 0, strV ([] : Str), .slice none 0 0], 24⟩)] (by kernel_rfl) fun β205 a206 w207 h208 => ?_
          exact wpl_end (hk204 _ _ _ _ (h208.sel [1, 2, 3] [0, 1, 2, 3] [1, 2]) (h208.getO rfl rfl rfl) rfl)
        · skip
          intro β209 a210 w211 dX212 Ox213 Q214 h215 hq216 hp217 hk218
          have h219 := h215.learnO (d := 36) (id := 1) (off := 1) rfl rfl rfl (hp217 0 36 _ rfl rfl rfl)
          clear h215
          refine evalS_ok tabOk h219 1 [1, 2, 3, 37] [1, 2] [(1, .o 1 0), (2, .o 2 0), (3, .v (.slice A180 (List.length l179) c181)), (37, .o 1 2)] [(1, ⟨[.int .i64 x0.Account, .int .i64 x0.Period.From, .int .i64 x0.Period.To, .slice A1 (List.length x0.Lines) c2, .slice A3 (List.length x0.Taxes) c4, .int .i64 x0.Net, .int .i64 x0.Tax, .int .i64 x0.Total], 52⟩), (2, ⟨[.int .i64 0, strV ([] : Str), .slice none 0 0], 24⟩)] (by kernel_rfl) fun β220 a221 w222 h223 => ?_
          exact wpl_end (hk218 _ _ _ _ (h223.sel [1, 2, 3] [0, 1, 2, 3] [1, 2]) (h223.getO rfl rfl rfl) rfl)
        · skip
          intro β224 a225 w226 dX227 Ox228 Q229 h230 hq231 hp232 hk233
          have h234 := h230.learnO (d := 37) (id := 1) (off := 2) rfl rfl rfl (hp232 1 37 _ rfl rfl rfl)
          clear h230
          refine evalS_ok tabOk h234 1 [1, 2, 3, 38] [1, 2] [(1, .o 1 0), (2, .o 2 0), (3, .v (.slice A180 (List.length l179) c181)), (38, .v (.int .i64 x0.Period.To))] [(1, ⟨[.int .i64 x0.Account, .int .i64 x0.Period.From, .int .i64 x0.Period.To, .slice A1 (List.length x0.Lines) c2, .slice A3 (List.length x0.Taxes) c4, .int .i64 x0.Net, .int .i64 x0.Tax, .int .i64 x0.Total], 52⟩), (2, ⟨[.int .i64 0, strV ([] : Str), .slice none 0 0], 24⟩)] (by kernel_rfl) fun β235 a236 w237 h238 => ?_
          exact wpl_end (hk233 _ _ _ _ (h238.sel [1, 2, 3] [0, 1, 2, 3] [1, 2]) (h238.getD rfl) rfl)
        · skip
          intro β239 a240 w241 dX242 Ox243 Q244 h245 hq246 hp247 hk248
          have h249 := h245.learnE (d := 38) rfl (hp247 2 38 _ rfl rfl rfl)
          clear h245
          refine evalS_ok tabOk h249 1 [1, 2, 3, 39] [1, 2] [(1, .o 1 0), (2, .o 2 0), (3, .v (.slice A180 (List.length l179) c181)), (39, .v (.int .i64 (IntKind.wrap .i64 (x0.Period.To - 1))))] [(1, ⟨[.int .i64 x0.Account, .int .i64 x0.Period.From, .int .i64 x0.Period.To, .slice A1 (List.length x0.Lines) c2, .slice A3 (List.length x0.Taxes) c4, .int .i64 x0.Net, .int .i64 x0.Tax, .int .i64 x0.Total], 52⟩), (2, ⟨[.int .i64 0, strV ([] : Str), .slice none 0 0], 24⟩)] (by kernel_rfl) fun β250 a251 w252 h253 => ?_
          exact wpl_end (hk248 _ _ _ _ (h253.sel [1, 2, 3] [0, 1, 2, 3] [1, 2]) (h253.getD rfl) rfl)
        · skip
          intro β254 a255 w256 dX257 Ox258 Q259 h260 hq261 hp262 hk263
          refine evalS_ok tabOk h260 1 [1, 2, 3, 40] [1, 2] [(1, .o 1 0), (2, .o 2 0), (3, .v (.slice A180 (List.length l179) c181)), (40, .v (.slice A180 (List.length l179) c181))] [(1, ⟨[.int .i64 x0.Account, .int .i64 x0.Period.From, .int .i64 x0.Period.To, .slice A1 (List.length x0.Lines) c2, .slice A3 (List.length x0.Taxes) c4, .int .i64 x0.Net, .int .i64 x0.Tax, .int .i64 x0.Total], 52⟩), (2, ⟨[.int .i64 0, strV ([] : Str), .slice none 0 0], 24⟩)] (by kernel_rfl) fun β264 a265 w266 h267 => ?_
          exact wpl_end (hk263 _ _ _ _ (h267.sel [1, 2, 3] [0, 1, 2, 3] [1, 2]) (h267.getD rfl) rfl)
        · skip
          intro β268 a269 w270 dX271 Ox272 Q273 h274 hq275 hp276 hk277
          have h278 := h274.learnE (d := 40) rfl (hp276 4 40 _ rfl rfl rfl)
          clear h274
          refine step_call h278 rfl rfl runs34 (vs := [(.slice A180 (List.length l179) c181)]) (by kernel_rfl) (c_ledger_nonzero (x0 := l179) h278.okLt N (h278.d 1 rfl) hy189) fun v279 a282 w283 hR280 hk281 h284 => ?_
          clear h278
          have hv285 := isV.weak hR280 hk281
          obtain ⟨A286, c287, rfl, hs288⟩ := slForm hv285
          have h289 := h284.addD (d := DF.v (rSl rApiPost) y189 (.slice A286 (List.length y189) c287)) hs288
          clear h284
          exact wpl_end (hk277 _ _ _ _ (h289.sel [1, 2, 3] [1, 2, 3, 4] [1, 2]) (h289.getR rfl (h289.d 0 rfl)) rfl)
        · skip
          intro β290 a291 w292 dX293 Ox294 Q295 h296 hq297 hp298 hk299
          have h300 := h296.learnE (d := 39) rfl (hp298 3 39 _ rfl rfl rfl)
          clear h296
          have h301 := h300.learn (d := 41) rfl
          clear h300
          have f302 := hp298 5 41 _ rfl rfl rfl
          generalize a291.tmps.getD 41 undef = v303 at h301 f302
          obtain ⟨A304, c305, rfl, hs306⟩ := slForm f302
          have h307 := h301.addD (d := DF.v (rSl rApiPost) y189 (.slice A304 (List.length y189) c305)) hs306
          clear h301
          refine evalS_ok tabOk h307 1 [1, 2, 3, 42] [1, 2] [(1, .o 1 0), (2, .o 2 0), (3, .v (.slice A180 (List.length l179) c181)), (42, .v (.agg ⟨[.int .i64 (IntKind.wrap .i64 (x0.Period.To - 1)), strV ([105, 110, 118, 111, 105, 99, 101] : Str), .slice A304 (List.length y189) c305]⟩))] [(1, ⟨[.int .i64 x0.Account, .int .i64 x0.Period.From, .int .i64 x0.Period.To, .slice A1 (List.length x0.Lines) c2, .slice A3 (List.length x0.Taxes) c4, .int .i64 x0.Net, .int .i64 x0.Tax, .int .i64 x0.Total], 52⟩), (2, ⟨[.int .i64 0, strV ([] : Str), .slice none 0 0], 24⟩)] (by kernel_rfl) fun β308 a309 w310 h311 => ?_
          exact wpl_end (hk299 _ _ _ _ (h311.sel [1, 2, 3] [1, 2, 3, 4] [1, 2]) (h311.getR rfl (im_ApiEntry (x := (⟨(IntKind.wrap .i64 (x0.Period.To - 1)), ([105, 110, 118, 111, 105, 99, 101] : Str), y189⟩ : ApiEntry)) (h311.d 0 rfl))) rfl)
      · skip
        intro β312 a313 w314 h315 ha316
        have h317 := h315.learn (d := 42) rfl
        clear h315
        have f318 := ha316 6 42 _ rfl rfl
        generalize a313.tmps.getD 42 undef = v319 at h317 f318
        obtain ⟨v322, hs323, rfl⟩ := ex_ApiEntry f318
        obtain ⟨A320, c321, rfl, hs324⟩ := slForm hs323
        have h325 := h317.addD (d := DF.v (rSl rApiPost) ((⟨(IntKind.wrap .i64 (x0.Period.To - 1)), ([105, 110, 118, 111, 105, 99, 101] : Str), y189⟩ : ApiEntry).Posts) (.slice A320 (List.length ((⟨(IntKind.wrap .i64 (x0.Period.To - 1)), ([105, 110, 118, 111, 105, 99, 101] : Str), y189⟩ : ApiEntry).Posts)) c321)) hs324
        clear h317
        have h326 := h325.unpin rfl
        clear h325
        refine evalS_ok tabOk h326 1 [2] [2] [(2, .o 2 0)] [(2, ⟨[.int .i64 ((⟨(IntKind.wrap .i64 (x0.Period.To - 1)), ([105, 110, 118, 111, 105, 99, 101] : Str), y189⟩ : ApiEntry).At), strV ((⟨(IntKind.wrap .i64 (x0.Period.To - 1)), ([105, 110, 118, 111, 105, 99, 101] : Str), y189⟩ : ApiEntry).Text), .slice A320 (List.length ((⟨(IntKind.wrap .i64 (x0.Period.To - 1)), ([105, 110, 118, 111, 105, 99, 101] : Str), y189⟩ : ApiEntry).Posts)) c321], 24⟩)] (by kernel_rfl) fun β327 a328 w329 h330 => ?_
        clear h326
        have h331 : Sb β327 (cx 43 ok w) [(2, .o 2 0)] [DF.v (rSl rApiPost) ((⟨(IntKind.wrap .i64 (x0.Period.To - 1)), ([105, 110, 118, 111, 105, 99, 101] : Str), y189⟩ : ApiEntry).Posts) (.slice A320 (List.length ((⟨(IntKind.wrap .i64 (x0.Period.To - 1)), ([105, 110, 118, 111, 105, 99, 101] : Str), y189⟩ : ApiEntry).Posts)) c321)] [(2, ⟨[.int .i64 ((⟨(IntKind.wrap .i64 (x0.Period.To - 1)), ([105, 110, 118, 111, 105, 99, 101] : Str), y189⟩ : ApiEntry).At), strV ((⟨(IntKind.wrap .i64 (x0.Period.To - 1)), ([105, 110, 118, 111, 105, 99, 101] : Str), y189⟩ : ApiEntry).Text), .slice A320 (List.length ((⟨(IntKind.wrap .i64 (x0.Period.To - 1)), ([105, 110, 118, 111, 105, 99, 101] : Str), y189⟩ : ApiEntry).Posts)) c321], 24⟩)] [] a328 w329 := h330.sel [2] [0] [2]
        clear h330
        refine wpl_end (hq188 _ _ ?_)
        refine wp_ret ?_
        refine hr _ _ ?_
        obtain rfl := Option.some.inj hF190
        exact ret1c_ok tabOk h331 rfl rfl rfl (v := .agg ⟨[.int .i64 ((⟨(IntKind.wrap .i64 (x0.Period.To - 1)), ([105, 110, 118, 111, 105, 99, 101] : Str), y189⟩ : ApiEntry).At), strV ((⟨(IntKind.wrap .i64 (x0.Period.To - 1)), ([105, 110, 118, 111, 105, 99, 101] : Str), y189⟩ : ApiEntry).Text), .slice A320 (List.length ((⟨(IntKind.wrap .i64 (x0.Period.To - 1)), ([105, 110, 118, 111, 105, 99, 101] : Str), y189⟩ : ApiEntry).Posts)) c321]⟩) (by kernel_rfl) (im_ApiEntry (x := (⟨(IntKind.wrap .i64 (x0.Period.To - 1)), ([105, 110, 118, 111, 105, 99, 101] : Str), y189⟩ : ApiEntry)) (isV.weak (h331.d 0 rfl) (okOf_out h331 hok)))
    refine block_ctx fun Qb178 hnb178 hrb178 hbb178 hxb178 => ?_
    have h336 : Sb β174 (cx 43 ok w) [(1, .o 1 0), (2, .o 2 0), (3, .v (.slice A164 (List.length y155) c165)), (20, .v (.slice A3 (List.length x0.Taxes) c4)), (21, .v (.int .i64 (List.length x0.Taxes : Int))), (22, .v (.int .i64 0))] [DF.v (rSl rApiPost) y155 (.slice A164 (List.length y155) c165), DF.v (rSl rApiTaxLine) x0.Taxes (.slice A3 (List.length x0.Taxes) c4), DF.v (rSl rApiLine) x0.Lines (.slice A1 (List.length x0.Lines) c2)] [(1, ⟨[.int .i64 x0.Account, .int .i64 x0.Period.From, .int .i64 x0.Period.To, .slice A1 (List.length x0.Lines) c2, .slice A3 (List.length x0.Taxes) c4, .int .i64 x0.Net, .int .i64 x0.Tax, .int .i64 x0.Total], 52⟩), (2, ⟨[.int .i64 0, strV ([] : Str), .slice none 0 0], 24⟩)] [] a175 w176 := (h177).sel [1, 2, 3, 20, 21, 22] [0, 2, 1] [1, 2]
    refine loop_ctx (fun m a w' => ∃ (l332 : List ApiPost) (i335 : Int) (A333 : Option Addr) (c334 : Nat), (∃ β, Sb β (cx 43 ok w) [(1, .o 1 0), (2, .o 2 0), (3, .v (.slice A333 (List.length l332) c334)), (20, .v (.slice A3 (List.length x0.Taxes) c4)), (21, .v (.int .i64 (List.length x0.Taxes : Int))), (22, .v (.int .i64 i335))] [DF.v (rSl rApiPost) l332 (.slice A333 (List.length l332) c334), DF.v (rSl rApiTaxLine) x0.Taxes (.slice A3 (List.length x0.Taxes) c4), DF.v (rSl rApiLine) x0.Lines (.slice A1 (List.length x0.Lines) c2)] [(1, ⟨[.int .i64 x0.Account, .int .i64 x0.Period.From, .int .i64 x0.Period.To, .slice A1 (List.length x0.Lines) c2, .slice A3 (List.length x0.Taxes) c4, .int .i64 x0.Net, .int .i64 x0.Tax, .int .i64 x0.Total], 52⟩), (2, ⟨[.int .i64 0, strV ([] : Str), .slice none 0 0], 24⟩)] [] a w') ∧ ledger_Invoice_l178 N x0 m l332 i335 = some out178) N ⟨y155, 0, A164, c165, ⟨_, h336⟩, hL178⟩ ?_
    rintro Q178 m337 a338 w339 ⟨l332, i335, A333, c334, ⟨β340, h341⟩, hF342⟩ hn178 hr178 hx178
    obtain _ | m337 := m337
    · exact absurd hF342 (by simp [ledger_Invoice_l178])
    rw [ledger_Invoice_l178] at hF342
    refine seq_region tabOk h341 [1, 2, 3, 20, 21, 22, 23] [1, 2] [(1, .o 1 0), (2, .o 2 0), (3, .v (.slice A333 (List.length l332) c334)), (20, .v (.slice A3 (List.length x0.Taxes) c4)), (21, .v (.int .i64 (List.length x0.Taxes : Int))), (22, .v (.int .i64 i335)), (23, .v (.bool (decide (i335 < (List.length x0.Taxes : Int)))))] [(1, ⟨[.int .i64 x0.Account, .int .i64 x0.Period.From, .int .i64 x0.Period.To, .slice A1 (List.length x0.Lines) c2, .slice A3 (List.length x0.Taxes) c4, .int .i64 x0.Net, .int .i64 x0.Tax, .int .i64 x0.Total], 52⟩), (2, ⟨[.int .i64 0, strV ([] : Str), .slice none 0 0], 24⟩)] (by kernel_rfl) fun β343 a344 w345 h346 => ?_
    clear h341
    refine seq_ctx fun Q347 hn347 hr347 hx347 => ?_
    refine wp_if h346 rfl (fun hb348 => ?_) (fun hb348 => ?_)
    · skip
      have hF349 := ifT hb348 hF342
      clear hF342
      refine wp_skip ?_
      refine hn347 _ _ ?_
      refine seq_ctx fun Q350 hn350 hr350 hx350 => ?_
      refine block_ctx fun Q351 hn351 hr351 hb351 hx351 => ?_
      refine seq_list fun Q352 hq352 => ?_
      obtain ⟨x353, hx353, hF354⟩ := bindE hF349
      clear hF349
      refine step_idx tabOk h346 1 rfl rfl rfl rfl rfl hx353 tb49 rfl tb48 rfl fun p355 a356 h357 => ?_
      clear h346
      refine step_load tabOk h357 0 rfl rfl rfl rfl tb48 rfl rfl fun v358 a360 hv359 h361 => ?_
      clear h357
      obtain rfl := ex_ApiTaxLine hv359
      refine evalS_ok tabOk h361 2 [1, 2, 3, 5, 20, 21, 22] [1, 2, 5] [(1, .o 1 0), (2, .o 2 0), (3, .v (.slice A333 (List.length l332) c334)), (5, .o 5 0), (20, .v (.slice A3 (List.length x0.Taxes) c4)), (21, .v (.int .i64 (List.length x0.Taxes : Int))), (22, .v (.int .i64 i335))] [(1, ⟨[.int .i64 x0.Account, .int .i64 x0.Period.From, .int .i64 x0.Period.To, .slice A1 (List.length x0.Lines) c2, .slice A3 (List.length x0.Taxes) c4, .int .i64 x0.Net, .int .i64 x0.Tax, .int .i64 x0.Total], 52⟩), (2, ⟨[.int .i64 0, strV ([] : Str), .slice none 0 0], 24⟩), (5, ⟨[strV x353.Category, .int .i64 x353.Points, .int .i64 x353.Base, .int .i64 x353.Rounded], 48⟩)] (by kernel_rfl) fun β362 a363 w364 h365 => ?_
      clear h361
      have h366 : Sb β362 (cx 43 ok w) [(1, .o 1 0), (2, .o 2 0), (3, .v (.slice A333 (List.length l332) c334)), (5, .o 5 0), (20, .v (.slice A3 (List.length x0.Taxes) c4)), (21, .v (.int .i64 (List.length x0.Taxes : Int))), (22, .v (.int .i64 i335))] [DF.v (rSl rApiPost) l332 (.slice A333 (List.length l332) c334), DF.v (rSl rApiTaxLine) x0.Taxes (.slice A3 (List.length x0.Taxes) c4), DF.v (rSl rApiLine) x0.Lines (.slice A1 (List.length x0.Lines) c2)] [(1, ⟨[.int .i64 x0.Account, .int .i64 x0.Period.From, .int .i64 x0.Period.To, .slice A1 (List.length x0.Lines) c2, .slice A3 (List.length x0.Taxes) c4, .int .i64 x0.Net, .int .i64 x0.Tax, .int .i64 x0.Total], 52⟩), (2, ⟨[.int .i64 0, strV ([] : Str), .slice none 0 0], 24⟩), (5, ⟨[strV x353.Category, .int .i64 x353.Points, .int .i64 x353.Base, .int .i64 x353.Rounded], 48⟩)] [] a363 w364 := h365.sel [1, 2, 3, 5, 20, 21, 22] [2, 3, 4] [1, 2, 5]
      clear h365
      refine wpl_end (hq352 _ _ ?_)
      refine region_ok ?_
      refine evalS_ok tabOk h366 3 [1, 2, 3, 5, 20, 21, 22, 26, 28] [1, 2, 5] [(1, .o 1 0), (2, .o 2 0), (3, .v (.slice A333 (List.length l332) c334)), (5, .o 5 0), (20, .v (.slice A3 (List.length x0.Taxes) c4)), (21, .v (.int .i64 (List.length x0.Taxes : Int))), (22, .v (.int .i64 i335)), (26, .v (.slice A333 (List.length l332) c334)), (28, .v (strV x353.Category))] [(1, ⟨[.int .i64 x0.Account, .int .i64 x0.Period.From, .int .i64 x0.Period.To, .slice A1 (List.length x0.Lines) c2, .slice A3 (List.length x0.Taxes) c4, .int .i64 x0.Net, .int .i64 x0.Tax, .int .i64 x0.Total], 52⟩), (2, ⟨[.int .i64 0, strV ([] : Str), .slice none 0 0], 24⟩), (5, ⟨[strV x353.Category, .int .i64 x353.Points, .int .i64 x353.Base, .int .i64 x353.Rounded], 48⟩)] (by kernel_rfl) fun β368 a369 w370 h371 => ?_
      clear h366
      obtain ⟨s372, hs372, hF373⟩ := bindE hF354
      clear hF354
      refine step_scat h371 rfl rfl rfl rfl hs372 fun a374 h375 => ?_
      clear h371
      refine evalS_ok tabOk h375 4 [1, 2, 3, 20, 21, 22, 26, 33] [1, 2] [(1, .o 1 0), (2, .o 2 0), (3, .v (.slice A333 (List.length l332) c334)), (20, .v (.slice A3 (List.length x0.Taxes) c4)), (21, .v (.int .i64 (List.length x0.Taxes : Int))), (22, .v (.int .i64 i335)), (26, .v (.slice A333 (List.length l332) c334)), (33, .v (.agg ⟨[strV s372, .int .i64 (IntKind.wrap .i64 (0 - x353.Rounded))]⟩))] [(1, ⟨[.int .i64 x0.Account, .int .i64 x0.Period.From, .int .i64 x0.Period.To, .slice A1 (List.length x0.Lines) c2, .slice A3 (List.length x0.Taxes) c4, .int .i64 x0.Net, .int .i64 x0.Tax, .int .i64 x0.Total], 52⟩), (2, ⟨[.int .i64 0, strV ([] : Str), .slice none 0 0], 24⟩)] (by kernel_rfl) fun β376 a377 w378 h379 => ?_
      clear h375
      obtain ⟨y380, hy380, hF381⟩ := bindE hF373
      clear hF373
      refine step_call h379 rfl rfl runs33 (vs := [(.slice A333 (List.length l332) c334), (.agg ⟨[strV s372, .int .i64 (IntKind.wrap .i64 (0 - x353.Rounded))]⟩)]) (by kernel_rfl) (c_ledger_place (x0 := l332) (x1 := (⟨s372, (IntKind.wrap .i64 (0 - x353.Rounded))⟩ : ApiPost)) h379.okLt N (h379.d 0 rfl) hy380) fun v382 a385 w386 hR383 hk384 h387 => ?_
      clear h379
      have hv388 := isV.weak hR383 hk384
      obtain ⟨A389, c390, rfl, hs391⟩ := slForm hv388
      have h392 := h387.addD (d := DF.v (rSl rApiPost) y380 (.slice A389 (List.length y380) c390)) hs391
      clear h387
      refine evalS_ok tabOk h392 1 [1, 2, 3, 20, 21, 22] [1, 2] [(1, .o 1 0), (2, .o 2 0), (3, .v (.slice A389 (List.length y380) c390)), (20, .v (.slice A3 (List.length x0.Taxes) c4)), (21, .v (.int .i64 (List.length x0.Taxes : Int))), (22, .v (.int .i64 i335))] [(1, ⟨[.int .i64 x0.Account, .int .i64 x0.Period.From, .int .i64 x0.Period.To, .slice A1 (List.length x0.Lines) c2, .slice A3 (List.length x0.Taxes) c4, .int .i64 x0.Net, .int .i64 x0.Tax, .int .i64 x0.Total], 52⟩), (2, ⟨[.int .i64 0, strV ([] : Str), .slice none 0 0], 24⟩)] (by kernel_rfl) fun β393 a394 w395 h396 => ?_
      clear h392
      have h397 : Sb β393 (cx 43 ok w) [(1, .o 1 0), (2, .o 2 0), (3, .v (.slice A389 (List.length y380) c390)), (20, .v (.slice A3 (List.length x0.Taxes) c4)), (21, .v (.int .i64 (List.length x0.Taxes : Int))), (22, .v (.int .i64 i335))] [DF.v (rSl rApiPost) y380 (.slice A389 (List.length y380) c390), DF.v (rSl rApiTaxLine) x0.Taxes (.slice A3 (List.length x0.Taxes) c4), DF.v (rSl rApiLine) x0.Lines (.slice A1 (List.length x0.Lines) c2)] [(1, ⟨[.int .i64 x0.Account, .int .i64 x0.Period.From, .int .i64 x0.Period.To, .slice A1 (List.length x0.Lines) c2, .slice A3 (List.length x0.Taxes) c4, .int .i64 x0.Net, .int .i64 x0.Tax, .int .i64 x0.Total], 52⟩), (2, ⟨[.int .i64 0, strV ([] : Str), .slice none 0 0], 24⟩)] [] a394 w395 := h396.sel [1, 2, 3, 20, 21, 22] [0, 2, 3] [1, 2]
      clear h396
      refine wpl_end ?_
      refine hn351 _ _ ?_
      refine hn350 _ _ ?_
      refine evalR_ok tabOk h397 [1, 2, 3, 20, 21, 22] [1, 2] [(1, .o 1 0), (2, .o 2 0), (3, .v (.slice A389 (List.length y380) c390)), (20, .v (.slice A3 (List.length x0.Taxes) c4)), (21, .v (.int .i64 (List.length x0.Taxes : Int))), (22, .v (.int .i64 (IntKind.wrap .i64 (i335 + 1))))] [(1, ⟨[.int .i64 x0.Account, .int .i64 x0.Period.From, .int .i64 x0.Period.To, .slice A1 (List.length x0.Lines) c2, .slice A3 (List.length x0.Taxes) c4, .int .i64 x0.Net, .int .i64 x0.Tax, .int .i64 x0.Total], 52⟩), (2, ⟨[.int .i64 0, strV ([] : Str), .slice none 0 0], 24⟩)] (by kernel_rfl) fun β398 a399 w400 h401 => ?_
      clear h397
      have h402 : Sb β398 (cx 43 ok w) [(1, .o 1 0), (2, .o 2 0), (3, .v (.slice A389 (List.length y380) c390)), (20, .v (.slice A3 (List.length x0.Taxes) c4)), (21, .v (.int .i64 (List.length x0.Taxes : Int))), (22, .v (.int .i64 (IntKind.wrap .i64 (i335 + 1))))] [DF.v (rSl rApiPost) y380 (.slice A389 (List.length y380) c390), DF.v (rSl rApiTaxLine) x0.Taxes (.slice A3 (List.length x0.Taxes) c4), DF.v (rSl rApiLine) x0.Lines (.slice A1 (List.length x0.Lines) c2)] [(1, ⟨[.int .i64 x0.Account, .int .i64 x0.Period.From, .int .i64 x0.Period.To, .slice A1 (List.length x0.Lines) c2, .slice A3 (List.length x0.Taxes) c4, .int .i64 x0.Net, .int .i64 x0.Tax, .int .i64 x0.Total], 52⟩), (2, ⟨[.int .i64 0, strV ([] : Str), .slice none 0 0], 24⟩)] [] a399 w400 := (h401).sel [1, 2, 3, 20, 21, 22] [0, 1, 2] [1, 2]
      exact hn178 _ _ _ (Nat.lt_succ_self _) ⟨y380, (IntKind.wrap .i64 (i335 + 1)), A389, c390, ⟨_, h402⟩, hF381⟩
    · skip
      have hF403 := ifF hb348 hF342
      clear hF342
      refine wp_exit ?_
      refine hx347 0 _ _ ?_
      refine hx178 0 _ _ ?_
      refine hbb178 _ _ ?_
      obtain rfl := Option.some.inj hF403
      have h404 : Sb β343 (cx 43 ok w) [(1, .o 1 0), (2, .o 2 0), (3, .v (.slice A333 (List.length l332) c334))] [DF.v (rSl rApiPost) l332 (.slice A333 (List.length l332) c334), DF.v (rSl rApiLine) x0.Lines (.slice A1 (List.length x0.Lines) c2), DF.v (rSl rApiTaxLine) x0.Taxes (.slice A3 (List.length x0.Taxes) c4)] [(1, ⟨[.int .i64 x0.Account, .int .i64 x0.Period.From, .int .i64 x0.Period.To, .slice A1 (List.length x0.Lines) c2, .slice A3 (List.length x0.Taxes) c4, .int .i64 x0.Net, .int .i64 x0.Tax, .int .i64 x0.Total], 52⟩), (2, ⟨[.int .i64 0, strV ([] : Str), .slice none 0 0], 24⟩)] [] a344 w345 := (h346).sel [1, 2, 3] [0, 2, 1] [1, 2]
      exact j182 _ _ ⟨l332, A333, c334, ⟨_, h404⟩, hC178⟩

theorem c_ledger_Trial {ok : Ok} {w : World} (hok : ∀ b o, ok b o → b < w.heap.size) (N : Nat) {x0 : (List ApiEntry)} {A1 : Option Addr} {c2 : Nat} (d0 : isV (rSl rApiEntry) ok w x0 (.slice A1 (List.length x0) c2)) {r : (List ApiPost)} (hF : ledger_Trial N x0 = some r) :
    Calls Try.prog 17 ⟨[.slice A1 (List.length x0) c2]⟩ w (Ret w (R1 (rSl rApiPost) ok w r)) := by
  rw [ledger_Trial] at hF
  refine enter_ok (n := 28) hok Try.func17 rfl rfl rfl (D := [DF.v (rSl rApiEntry) x0 (.slice A1 (List.length x0) c2)]) ⟨d0, trivial⟩ (fun a h => ?_)
  simp only [zipG, Nat.zero_add, Nat.reduceAdd] at h
  refine start_ctx fun Q hn hr => ?_
  refine seq_region tabOk h [0] [] [(0, .v (.slice A1 (List.length x0) c2))] [] (by kernel_rfl) fun β3 a4 w5 h6 => ?_
  clear h
  refine seq_region tabOk h6 [0, 3] [] [(0, .v (.slice A1 (List.length x0) c2)), (3, .v (.slice none 0 0))] [] (by kernel_rfl) fun β7 a8 w9 h10 => ?_
  clear h6
  refine seq_ctx fun Q11 hn11 hr11 hx11 => ?_
  refine seq_region tabOk h10 [3, 8, 9, 10] [] [(3, .v (.slice none 0 0)), (8, .v (.slice A1 (List.length x0) c2)), (9, .v (.int .i64 (List.length x0 : Int))), (10, .v (.int .i64 0))] [] (by kernel_rfl) fun β12 a13 w14 h15 => ?_
  clear h10
  obtain ⟨out16, hL16, hC16⟩ := bindE hF
  clear hF
  have j20 : ∀ a w', (∃ (l17 : List ApiPost) (A18 : Option Addr) (c19 : Nat), (∃ β, Sb β (cx 28 ok w) [(3, .v (.slice A18 (List.length l17) c19))] [DF.v (rSl rApiPost) l17 (.slice A18 (List.length l17) c19)] [] [] a w') ∧ ledger_Trial_j20 N l17 = some r) → Q11 .normal a w' := by
    rintro a21 w22 ⟨l17, A18, c19, ⟨β23, h24⟩, hF25⟩
    rw [ledger_Trial_j20] at hF25
    refine hn11 _ _ ?_
    refine seq_list fun Q26 hq26 => ?_
    refine evalS_ok tabOk h24 1 [26] [] [(26, .v (.slice A18 (List.length l17) c19))] [] (by kernel_rfl) fun β27 a28 w29 h30 => ?_
    clear h24
    obtain ⟨y31, hy31, hF32⟩ := bindE hF25
    clear hF25
    refine step_call h30 rfl rfl runs34 (vs := [(.slice A18 (List.length l17) c19)]) (by kernel_rfl) (c_ledger_nonzero (x0 := l17) h30.okLt N (h30.d 0 rfl) hy31) fun v33 a36 w37 hR34 hk35 h38 => ?_
    clear h30
    have hv39 := isV.weak hR34 hk35
    obtain ⟨A40, c41, rfl, hs42⟩ := slForm hv39
    have h43 := h38.addD (d := DF.v (rSl rApiPost) y31 (.slice A40 (List.length y31) c41)) hs42
    clear h38
    refine evalS_ok tabOk h43 1 [2] [] [(2, .v (.slice A40 (List.length y31) c41))] [] (by kernel_rfl) fun β44 a45 w46 h47 => ?_
    clear h43
    have h48 : Sb β44 (cx 28 ok w) [(2, .v (.slice A40 (List.length y31) c41))] [DF.v (rSl rApiPost) y31 (.slice A40 (List.length y31) c41)] [] [] a45 w46 := h47.sel [2] [0] []
    clear h47
    refine wpl_end (hq26 _ _ ?_)
    refine wp_ret ?_
    refine hr _ _ ?_
    obtain rfl := Option.some.inj hF32
    exact ret1_ok h48 rfl rfl (isV.weak (h48.d 0 rfl) (okOf_out h48 hok))
  refine block_ctx fun Qb16 hnb16 hrb16 hbb16 hxb16 => ?_
  have h53 : Sb β12 (cx 28 ok w) [(3, .v (.slice none 0 0)), (8, .v (.slice A1 (List.length x0) c2)), (9, .v (.int .i64 (List.length x0 : Int))), (10, .v (.int .i64 0))] [DF.v (rSl rApiPost) [] (.slice none 0 0), DF.v (rSl rApiEntry) x0 (.slice A1 (List.length x0) c2)] [] [] a13 w14 := (h15.addD (d := DF.v (rSl rApiPost) [] (.slice none 0 0)) slNil).sel [3, 8, 9, 10] [0, 1] []
  refine loop_ctx (fun m a w' => ∃ (l49 : List ApiPost) (i52 : Int) (A50 : Option Addr) (c51 : Nat), (∃ β, Sb β (cx 28 ok w) [(3, .v (.slice A50 (List.length l49) c51)), (8, .v (.slice A1 (List.length x0) c2)), (9, .v (.int .i64 (List.length x0 : Int))), (10, .v (.int .i64 i52))] [DF.v (rSl rApiPost) l49 (.slice A50 (List.length l49) c51), DF.v (rSl rApiEntry) x0 (.slice A1 (List.length x0) c2)] [] [] a w') ∧ ledger_Trial_l16 N x0 m l49 i52 = some out16) N ⟨[], 0, none, 0, ⟨_, h53⟩, hL16⟩ ?_
  rintro Q16 m54 a55 w56 ⟨l49, i52, A50, c51, ⟨β57, h58⟩, hF59⟩ hn16 hr16 hx16
  obtain _ | m54 := m54
  · exact absurd hF59 (by simp [ledger_Trial_l16])
  rw [ledger_Trial_l16] at hF59
  refine seq_region tabOk h58 [3, 8, 9, 10, 11] [] [(3, .v (.slice A50 (List.length l49) c51)), (8, .v (.slice A1 (List.length x0) c2)), (9, .v (.int .i64 (List.length x0 : Int))), (10, .v (.int .i64 i52)), (11, .v (.bool (decide (i52 < (List.length x0 : Int)))))] [] (by kernel_rfl) fun β60 a61 w62 h63 => ?_
  clear h58
  refine seq_ctx fun Q64 hn64 hr64 hx64 => ?_
  refine wp_if h63 rfl (fun hb65 => ?_) (fun hb65 => ?_)
  · skip
    have hF66 := ifT hb65 hF59
    clear hF59
    refine wp_skip ?_
    refine hn64 _ _ ?_
    refine seq_ctx fun Q67 hn67 hr67 hx67 => ?_
    refine block_ctx fun Q68 hn68 hr68 hb68 hx68 => ?_
    refine seq_list fun Q69 hq69 => ?_
    obtain ⟨x70, hx70, hF71⟩ := bindE hF66
    clear hF66
    refine step_idx tabOk h63 1 rfl rfl rfl rfl rfl hx70 tb30 rfl tb24 rfl fun p72 a73 h74 => ?_
    clear h63
    refine step_load tabOk h74 0 rfl rfl rfl rfl tb24 rfl rfl fun v75 a77 hv76 h78 => ?_
    clear h74
    obtain ⟨v81, hs82, rfl⟩ := ex_ApiEntry hv76
    obtain ⟨A79, c80, rfl, hs83⟩ := slForm hs82
    have h84 := h78.addD (d := DF.v (rSl rApiPost) x70.Posts (.slice A79 (List.length x70.Posts) c80)) hs83
    clear h78
    refine evalS_ok tabOk h84 2 [3, 5, 8, 9, 10] [5] [(3, .v (.slice A50 (List.length l49) c51)), (5, .o 5 0), (8, .v (.slice A1 (List.length x0) c2)), (9, .v (.int .i64 (List.length x0 : Int))), (10, .v (.int .i64 i52))] [(5, ⟨[.int .i64 x70.At, strV x70.Text, .slice A79 (List.length x70.Posts) c80], 24⟩)] (by kernel_rfl) fun β85 a86 w87 h88 => ?_
    clear h84
    have h89 : Sb β85 (cx 28 ok w) [(3, .v (.slice A50 (List.length l49) c51)), (5, .o 5 0), (8, .v (.slice A1 (List.length x0) c2)), (9, .v (.int .i64 (List.length x0 : Int))), (10, .v (.int .i64 i52))] [DF.v (rSl rApiPost) l49 (.slice A50 (List.length l49) c51), DF.v (rSl rApiEntry) x0 (.slice A1 (List.length x0) c2), DF.v (rSl rApiPost) x70.Posts (.slice A79 (List.length x70.Posts) c80)] [(5, ⟨[.int .i64 x70.At, strV x70.Text, .slice A79 (List.length x70.Posts) c80], 24⟩)] [] a86 w87 := h88.sel [3, 5, 8, 9, 10] [3, 4, 0] [5]
    clear h88
    refine wpl_end (hq69 _ _ ?_)
    refine seq_region tabOk h89 [3, 8, 9, 10, 15, 16, 17] [] [(3, .v (.slice A50 (List.length l49) c51)), (8, .v (.slice A1 (List.length x0) c2)), (9, .v (.int .i64 (List.length x0 : Int))), (10, .v (.int .i64 i52)), (15, .v (.slice A79 (List.length x70.Posts) c80)), (16, .v (.int .i64 (List.length x70.Posts : Int))), (17, .v (.int .i64 0))] [] (by kernel_rfl) fun β90 a91 w92 h93 => ?_
    clear h89
    obtain ⟨out94, hL94, hC94⟩ := bindE hF71
    clear hF71
    have j98 : ∀ a w', (∃ (l95 : List ApiPost) (A96 : Option Addr) (c97 : Nat), (∃ β, Sb β (cx 28 ok w) [(3, .v (.slice A96 (List.length l95) c97)), (8, .v (.slice A1 (List.length x0) c2)), (9, .v (.int .i64 (List.length x0 : Int))), (10, .v (.int .i64 i52))] [DF.v (rSl rApiPost) l95 (.slice A96 (List.length l95) c97), DF.v (rSl rApiEntry) x0 (.slice A1 (List.length x0) c2)] [] [] a w') ∧ ledger_Trial_j98 N (ledger_Trial_l16 N x0 m54) i52 l95 = some out16) → Q68 .normal a w' := by
      rintro a99 w100 ⟨l95, A96, c97, ⟨β101, h102⟩, hF103⟩
      rw [ledger_Trial_j98] at hF103
      refine hn68 _ _ ?_
      refine hn67 _ _ ?_
      refine evalR_ok tabOk h102 [3, 8, 9, 10] [] [(3, .v (.slice A96 (List.length l95) c97)), (8, .v (.slice A1 (List.length x0) c2)), (9, .v (.int .i64 (List.length x0 : Int))), (10, .v (.int .i64 (IntKind.wrap .i64 (i52 + 1))))] [] (by kernel_rfl) fun β104 a105 w106 h107 => ?_
      clear h102
      have h108 : Sb β104 (cx 28 ok w) [(3, .v (.slice A96 (List.length l95) c97)), (8, .v (.slice A1 (List.length x0) c2)), (9, .v (.int .i64 (List.length x0 : Int))), (10, .v (.int .i64 (IntKind.wrap .i64 (i52 + 1))))] [DF.v (rSl rApiPost) l95 (.slice A96 (List.length l95) c97), DF.v (rSl rApiEntry) x0 (.slice A1 (List.length x0) c2)] [] [] a105 w106 := (h107).sel [3, 8, 9, 10] [0, 1] []
      exact hn16 _ _ _ (Nat.lt_succ_self _) ⟨l95, (IntKind.wrap .i64 (i52 + 1)), A96, c97, ⟨_, h108⟩, hF103⟩
    refine block_ctx fun Qb94 hnb94 hrb94 hbb94 hxb94 => ?_
    have h113 : Sb β90 (cx 28 ok w) [(3, .v (.slice A50 (List.length l49) c51)), (8, .v (.slice A1 (List.length x0) c2)), (9, .v (.int .i64 (List.length x0 : Int))), (10, .v (.int .i64 i52)), (15, .v (.slice A79 (List.length x70.Posts) c80)), (16, .v (.int .i64 (List.length x70.Posts : Int))), (17, .v (.int .i64 0))] [DF.v (rSl rApiPost) l49 (.slice A50 (List.length l49) c51), DF.v (rSl rApiEntry) x0 (.slice A1 (List.length x0) c2), DF.v (rSl rApiPost) x70.Posts (.slice A79 (List.length x70.Posts) c80)] [] [] a91 w92 := (h93).sel [3, 8, 9, 10, 15, 16, 17] [0, 1, 2] []
    refine loop_ctx (fun m a w' => ∃ (l109 : List ApiPost) (i112 : Int) (A110 : Option Addr) (c111 : Nat), (∃ β, Sb β (cx 28 ok w) [(3, .v (.slice A110 (List.length l109) c111)), (8, .v (.slice A1 (List.length x0) c2)), (9, .v (.int .i64 (List.length x0 : Int))), (10, .v (.int .i64 i52)), (15, .v (.slice A79 (List.length x70.Posts) c80)), (16, .v (.int .i64 (List.length x70.Posts : Int))), (17, .v (.int .i64 i112))] [DF.v (rSl rApiPost) l109 (.slice A110 (List.length l109) c111), DF.v (rSl rApiEntry) x0 (.slice A1 (List.length x0) c2), DF.v (rSl rApiPost) x70.Posts (.slice A79 (List.length x70.Posts) c80)] [] [] a w') ∧ ledger_Trial_l94 N x70 m l109 i112 = some out94) N ⟨l49, 0, A50, c51, ⟨_, h113⟩, hL94⟩ ?_
    rintro Q94 m114 a115 w116 ⟨l109, i112, A110, c111, ⟨β117, h118⟩, hF119⟩ hn94 hr94 hx94
    obtain _ | m114 := m114
    · exact absurd hF119 (by simp [ledger_Trial_l94])
    rw [ledger_Trial_l94] at hF119
    refine seq_region tabOk h118 [3, 8, 9, 10, 15, 16, 17, 18] [] [(3, .v (.slice A110 (List.length l109) c111)), (8, .v (.slice A1 (List.length x0) c2)), (9, .v (.int .i64 (List.length x0 : Int))), (10, .v (.int .i64 i52)), (15, .v (.slice A79 (List.length x70.Posts) c80)), (16, .v (.int .i64 (List.length x70.Posts : Int))), (17, .v (.int .i64 i112)), (18, .v (.bool (decide (i112 < (List.length x70.Posts : Int)))))] [] (by kernel_rfl) fun β120 a121 w122 h123 => ?_
    clear h118
    refine seq_ctx fun Q124 hn124 hr124 hx124 => ?_
    refine wp_if h123 rfl (fun hb125 => ?_) (fun hb125 => ?_)
    · skip
      have hF126 := ifT hb125 hF119
      clear hF119
      refine wp_skip ?_
      refine hn124 _ _ ?_
      refine seq_ctx fun Q127 hn127 hr127 hx127 => ?_
      refine block_ctx fun Q128 hn128 hr128 hb128 hx128 => ?_
      refine seq_list fun Q129 hq129 => ?_
      obtain ⟨x130, hx130, hF131⟩ := bindE hF126
      clear hF126
      refine step_idx tabOk h123 2 rfl rfl rfl rfl rfl hx130 tb22 rfl tb38 rfl fun p132 a133 h134 => ?_
      clear h123
      refine step_load tabOk h134 0 rfl rfl rfl rfl tb38 rfl rfl fun v135 a137 hv136 h138 => ?_
      clear h134
      obtain rfl := ex_ApiPost hv136
      refine evalS_ok tabOk h138 2 [3, 7, 8, 9, 10, 15, 16, 17] [7] [(3, .v (.slice A110 (List.length l109) c111)), (7, .o 7 0), (8, .v (.slice A1 (List.length x0) c2)), (9, .v (.int .i64 (List.length x0 : Int))), (10, .v (.int .i64 i52)), (15, .v (.slice A79 (List.length x70.Posts) c80)), (16, .v (.int .i64 (List.length x70.Posts : Int))), (17, .v (.int .i64 i112))] [(7, ⟨[strV x130.Account, .int .i64 x130.Amount], 38⟩)] (by kernel_rfl) fun β139 a140 w141 h142 => ?_
      clear h138
      have h143 : Sb β139 (cx 28 ok w) [(3, .v (.slice A110 (List.length l109) c111)), (7, .o 7 0), (8, .v (.slice A1 (List.length x0) c2)), (9, .v (.int .i64 (List.length x0 : Int))), (10, .v (.int .i64 i52)), (15, .v (.slice A79 (List.length x70.Posts) c80)), (16, .v (.int .i64 (List.length x70.Posts : Int))), (17, .v (.int .i64 i112))] [DF.v (rSl rApiPost) l109 (.slice A110 (List.length l109) c111), DF.v (rSl rApiEntry) x0 (.slice A1 (List.length x0) c2), DF.v (rSl rApiPost) x70.Posts (.slice A79 (List.length x70.Posts) c80)] [(7, ⟨[strV x130.Account, .int .i64 x130.Amount], 38⟩)] [] a140 w141 := h142.sel [3, 7, 8, 9, 10, 15, 16, 17] [2, 3, 4] [7]
      clear h142
      refine wpl_end (hq129 _ _ ?_)
      refine region_ok ?_
      refine evalS_ok tabOk h143 2 [3, 8, 9, 10, 15, 16, 17, 21, 22] [] [(3, .v (.slice A110 (List.length l109) c111)), (8, .v (.slice A1 (List.length x0) c2)), (9, .v (.int .i64 (List.length x0 : Int))), (10, .v (.int .i64 i52)), (15, .v (.slice A79 (List.length x70.Posts) c80)), (16, .v (.int .i64 (List.length x70.Posts : Int))), (17, .v (.int .i64 i112)), (21, .v (.slice A110 (List.length l109) c111)), (22, .v (.agg ⟨[strV x130.Account, .int .i64 x130.Amount]⟩))] [] (by kernel_rfl) fun β145 a146 w147 h148 => ?_
      clear h143
      obtain ⟨y149, hy149, hF150⟩ := bindE hF131
      clear hF131
      refine step_call h148 rfl rfl runs33 (vs := [(.slice A110 (List.length l109) c111), (.agg ⟨[strV x130.Account, .int .i64 x130.Amount]⟩)]) (by kernel_rfl) (c_ledger_place (x0 := l109) (x1 := x130) h148.okLt N (h148.d 0 rfl) hy149) fun v151 a154 w155 hR152 hk153 h156 => ?_
      clear h148
      have hv157 := isV.weak hR152 hk153
      obtain ⟨A158, c159, rfl, hs160⟩ := slForm hv157
      have h161 := h156.addD (d := DF.v (rSl rApiPost) y149 (.slice A158 (List.length y149) c159)) hs160
      clear h156
      refine evalS_ok tabOk h161 1 [3, 8, 9, 10, 15, 16, 17] [] [(3, .v (.slice A158 (List.length y149) c159)), (8, .v (.slice A1 (List.length x0) c2)), (9, .v (.int .i64 (List.length x0 : Int))), (10, .v (.int .i64 i52)), (15, .v (.slice A79 (List.length x70.Posts) c80)), (16, .v (.int .i64 (List.length x70.Posts : Int))), (17, .v (.int .i64 i112))] [] (by kernel_rfl) fun β162 a163 w164 h165 => ?_
      clear h161
      have h166 : Sb β162 (cx 28 ok w) [(3, .v (.slice A158 (List.length y149) c159)), (8, .v (.slice A1 (List.length x0) c2)), (9, .v (.int .i64 (List.length x0 : Int))), (10, .v (.int .i64 i52)), (15, .v (.slice A79 (List.length x70.Posts) c80)), (16, .v (.int .i64 (List.length x70.Posts : Int))), (17, .v (.int .i64 i112))] [DF.v (rSl rApiPost) y149 (.slice A158 (List.length y149) c159), DF.v (rSl rApiEntry) x0 (.slice A1 (List.length x0) c2), DF.v (rSl rApiPost) x70.Posts (.slice A79 (List.length x70.Posts) c80)] [] [] a163 w164 := h165.sel [3, 8, 9, 10, 15, 16, 17] [0, 2, 3] []
      clear h165
      refine wpl_end ?_
      refine hn128 _ _ ?_
      refine hn127 _ _ ?_
      refine evalR_ok tabOk h166 [3, 8, 9, 10, 15, 16, 17] [] [(3, .v (.slice A158 (List.length y149) c159)), (8, .v (.slice A1 (List.length x0) c2)), (9, .v (.int .i64 (List.length x0 : Int))), (10, .v (.int .i64 i52)), (15, .v (.slice A79 (List.length x70.Posts) c80)), (16, .v (.int .i64 (List.length x70.Posts : Int))), (17, .v (.int .i64 (IntKind.wrap .i64 (i112 + 1))))] [] (by kernel_rfl) fun β167 a168 w169 h170 => ?_
      clear h166
      have h171 : Sb β167 (cx 28 ok w) [(3, .v (.slice A158 (List.length y149) c159)), (8, .v (.slice A1 (List.length x0) c2)), (9, .v (.int .i64 (List.length x0 : Int))), (10, .v (.int .i64 i52)), (15, .v (.slice A79 (List.length x70.Posts) c80)), (16, .v (.int .i64 (List.length x70.Posts : Int))), (17, .v (.int .i64 (IntKind.wrap .i64 (i112 + 1))))] [DF.v (rSl rApiPost) y149 (.slice A158 (List.length y149) c159), DF.v (rSl rApiEntry) x0 (.slice A1 (List.length x0) c2), DF.v (rSl rApiPost) x70.Posts (.slice A79 (List.length x70.Posts) c80)] [] [] a168 w169 := (h170).sel [3, 8, 9, 10, 15, 16, 17] [0, 1, 2] []
      exact hn94 _ _ _ (Nat.lt_succ_self _) ⟨y149, (IntKind.wrap .i64 (i112 + 1)), A158, c159, ⟨_, h171⟩, hF150⟩
    · skip
      have hF172 := ifF hb125 hF119
      clear hF119
      refine wp_exit ?_
      refine hx124 2 _ _ ?_
      refine hx94 2 _ _ ?_
      refine hbb94 _ _ ?_
      obtain rfl := Option.some.inj hF172
      have h173 : Sb β120 (cx 28 ok w) [(3, .v (.slice A110 (List.length l109) c111)), (8, .v (.slice A1 (List.length x0) c2)), (9, .v (.int .i64 (List.length x0 : Int))), (10, .v (.int .i64 i52))] [DF.v (rSl rApiPost) l109 (.slice A110 (List.length l109) c111), DF.v (rSl rApiEntry) x0 (.slice A1 (List.length x0) c2)] [] [] a121 w122 := (h123).sel [3, 8, 9, 10] [0, 1] []
      exact j98 _ _ ⟨l109, A110, c111, ⟨_, h173⟩, hC94⟩
  · skip
    have hF175 := ifF hb65 hF59
    clear hF59
    refine wp_exit ?_
    refine hx64 0 _ _ ?_
    refine hx16 0 _ _ ?_
    refine hbb16 _ _ ?_
    obtain rfl := Option.some.inj hF175
    have h176 : Sb β60 (cx 28 ok w) [(3, .v (.slice A50 (List.length l49) c51))] [DF.v (rSl rApiPost) l49 (.slice A50 (List.length l49) c51)] [] [] a61 w62 := (h63).sel [3] [0] []
    exact j20 _ _ ⟨l49, A50, c51, ⟨_, h176⟩, hC16⟩

theorem c_billingref47_SamePosts {ok : Ok} {w : World} (hok : ∀ b o, ok b o → b < w.heap.size) (N : Nat) {x0 : (List ApiPost)} {x1 : (List ApiPost)} {A1 : Option Addr} {c2 : Nat} {A3 : Option Addr} {c4 : Nat} (d0 : isV (rSl rApiPost) ok w x0 (.slice A1 (List.length x0) c2)) (d1 : isV (rSl rApiPost) ok w x1 (.slice A3 (List.length x1) c4)) {r : Bool} (hF : billingref47_SamePosts N x0 x1 = some r) :
    Calls Try.prog 16 ⟨[.slice A1 (List.length x0) c2, .slice A3 (List.length x1) c4]⟩ w (Ret w (R1 rBool ok w r)) := by
  rw [billingref47_SamePosts] at hF
  refine enter_ok (n := 26) hok Try.func16 rfl rfl rfl (D := [DF.v (rSl rApiPost) x0 (.slice A1 (List.length x0) c2), DF.v (rSl rApiPost) x1 (.slice A3 (List.length x1) c4)]) ⟨d0, d1, trivial⟩ (fun a h => ?_)
  simp only [zipG, Nat.zero_add, Nat.reduceAdd] at h
  refine start_ctx fun Q hn hr => ?_
  refine seq_region tabOk h [0, 1] [] [(0, .v (.slice A1 (List.length x0) c2)), (1, .v (.slice A3 (List.length x1) c4))] [] (by kernel_rfl) fun β5 a6 w7 h8 => ?_
  clear h
  refine seq_ctx fun Q9 hn9 hr9 hx9 => ?_
  refine seq_region tabOk h8 [0, 1, 10] [] [(0, .v (.slice A1 (List.length x0) c2)), (1, .v (.slice A3 (List.length x1) c4)), (10, .v (.bool ((List.length x0 : Int) != (List.length x1 : Int))))] [] (by kernel_rfl) fun β10 a11 w12 h13 => ?_
  clear h8
  refine wp_if h13 rfl (fun hb14 => ?_) (fun hb14 => ?_)
  · skip
    have hF15 := ifT hb14 hF
    clear hF
    refine seq_region tabOk h13 [4] [] [(4, .v (.bool false))] [] (by kernel_rfl) fun β16 a17 w18 h19 => ?_
    clear h13
    refine wp_ret ?_
    refine hr9 _ _ ?_
    refine hr _ _ ?_
    obtain rfl := Option.some.inj hF15
    exact ret1_ok h19 rfl rfl (isV_bool.2 rfl)
  · skip
    have hF20 := ifF hb14 hF
    clear hF
    refine wp_skip ?_
    refine hn9 _ _ ?_
    refine seq_ctx fun Q21 hn21 hr21 hx21 => ?_
    refine seq_region tabOk h13 [0, 1, 5] [] [(0, .v (.slice A1 (List.length x0) c2)), (1, .v (.slice A3 (List.length x1) c4)), (5, .v (.int .i64 0))] [] (by kernel_rfl) fun β22 a23 w24 h25 => ?_
    clear h13
    obtain ⟨out26, hL26, hC26⟩ := bindE hF20
    clear hF20
    have j27 : ∀ a w', ((∃ β, Sb β (cx 26 ok w) [] [] [] [] a w') ∧ billingref47_SamePosts_j27 N = some r) → Q21 .normal a w' := by
      rintro a28 w29 ⟨⟨β30, h31⟩, hF32⟩
      rw [billingref47_SamePosts_j27] at hF32
      refine hn21 _ _ ?_
      refine seq_region tabOk h31 [4] [] [(4, .v (.bool true))] [] (by kernel_rfl) fun β33 a34 w35 h36 => ?_
      clear h31
      refine wp_ret ?_
      refine hr _ _ ?_
      obtain rfl := Option.some.inj hF32
      exact ret1_ok h36 rfl rfl (isV_bool.2 rfl)
    refine block_ctx fun Qb26 hnb26 hrb26 hbb26 hxb26 => ?_
    have h38 : Sb β22 (cx 26 ok w) [(0, .v (.slice A1 (List.length x0) c2)), (1, .v (.slice A3 (List.length x1) c4)), (5, .v (.int .i64 0))] [DF.v (rSl rApiPost) x0 (.slice A1 (List.length x0) c2), DF.v (rSl rApiPost) x1 (.slice A3 (List.length x1) c4)] [] [] a23 w24 := (h25).sel [0, 1, 5] [0, 1] []
    refine loop_ctx (fun m a w' => ∃ (i37 : Int), (∃ β, Sb β (cx 26 ok w) [(0, .v (.slice A1 (List.length x0) c2)), (1, .v (.slice A3 (List.length x1) c4)), (5, .v (.int .i64 i37))] [DF.v (rSl rApiPost) x0 (.slice A1 (List.length x0) c2), DF.v (rSl rApiPost) x1 (.slice A3 (List.length x1) c4)] [] [] a w') ∧ billingref47_SamePosts_l26 N x0 x1 m i37 = some out26) N ⟨0, ⟨_, h38⟩, hL26⟩ ?_
    rintro Q26 m39 a40 w41 ⟨i37, ⟨β42, h43⟩, hF44⟩ hn26 hr26 hx26
    obtain _ | m39 := m39
    · exact absurd hF44 (by simp [billingref47_SamePosts_l26])
    rw [billingref47_SamePosts_l26] at hF44
    refine seq_ctx fun Q45 hn45 hr45 hx45 => ?_
    refine seq_region tabOk h43 [0, 1, 5, 14] [] [(0, .v (.slice A1 (List.length x0) c2)), (1, .v (.slice A3 (List.length x1) c4)), (5, .v (.int .i64 i37)), (14, .v (.bool (decide (i37 < (List.length x0 : Int)))))] [] (by kernel_rfl) fun β46 a47 w48 h49 => ?_
    clear h43
    refine wp_if h49 rfl (fun hb50 => ?_) (fun hb50 => ?_)
    · skip
      have hF51 := ifT hb50 hF44
      clear hF44
      refine wp_skip ?_
      refine hn45 _ _ ?_
      refine seq_ctx fun Q52 hn52 hr52 hx52 => ?_
      refine block_ctx fun Q53 hn53 hr53 hb53 hx53 => ?_
      refine seq_draw fun Q54 hq54 => ?_
      obtain ⟨x55, hx55, hF56⟩ := bindE hF51
      clear hF51
      obtain ⟨x57, hx57, hF58⟩ := bindE hF56
      clear hF56
      have h60 : Sb β46 (cx 26 ok w) [(0, .v (.slice A1 (List.length x0) c2)), (1, .v (.slice A3 (List.length x1) c4)), (5, .v (.int .i64 i37))] [DF.v (rSl rApiPost) x0 (.slice A1 (List.length x0) c2), DF.v (rSl rApiPost) x1 (.slice A3 (List.length x1) c4)] [] [] a47 w48 := h49.sel [0, 1, 5] [0, 1] []
      refine draw_rule h60 rfl (by kernel_rfl) 9 [17, 18, 19, 20, 21, 22, 23, 24, 25] [FV.eq (.slice A1 (List.length x0) c2), FV.eq (.int .i64 i37), FV.at rApiPost x55, FV.eq (.agg ⟨[strV x55.Account, .int .i64 x55.Amount]⟩), FV.eq (.slice A3 (List.length x1) c4), FV.eq (.int .i64 i37), FV.at rApiPost x57, FV.eq (.agg ⟨[strV x57.Account, .int .i64 x57.Amount]⟩), FV.eq (.bool (!((x55.Account == x57.Account) && ((x55.Amount == x57.Amount) && true))))] rfl rfl rfl (by kernel_rfl) (by kernel_rfl) (by kernel_rfl) (by kernel_rfl) (by kernel_rfl) ?_ ?_
      · skip
        refine ⟨⟨⟨⟨⟨⟨⟨⟨⟨trivial, ?_⟩, ?_⟩, ?_⟩, ?_⟩, ?_⟩, ?_⟩, ?_⟩, ?_⟩, ?_⟩
        · skip
          intro β61 a62 w63 dX64 Ox65 Q66 h67 hq68 hp69 hk70
          refine evalS_ok tabOk h67 1 [0, 1, 5, 17] [] [(0, .v (.slice A1 (List.length x0) c2)), (1, .v (.slice A3 (List.length x1) c4)), (5, .v (.int .i64 i37)), (17, .v (.slice A1 (List.length x0) c2))] [] (by kernel_rfl) fun β71 a72 w73 h74 => ?_
          exact wpl_end (hk70 _ _ _ _ (h74.sel [0, 1, 5] [0, 1, 2] []) (h74.getD rfl) rfl)
        · skip
          intro β75 a76 w77 dX78 Ox79 Q80 h81 hq82 hp83 hk84
          refine evalS_ok tabOk h81 1 [0, 1, 5, 18] [] [(0, .v (.slice A1 (List.length x0) c2)), (1, .v (.slice A3 (List.length x1) c4)), (5, .v (.int .i64 i37)), (18, .v (.int .i64 i37))] [] (by kernel_rfl) fun β85 a86 w87 h88 => ?_
          exact wpl_end (hk84 _ _ _ _ (h88.sel [0, 1, 5] [0, 1, 2] []) (h88.getD rfl) rfl)
        · skip
          intro β89 a90 w91 dX92 Ox93 Q94 h95 hq96 hp97 hk98
          have h99 := h95.learnE (d := 17) rfl (hp97 0 17 _ rfl rfl rfl)
          clear h95
          have h100 := h99.learnE (d := 18) rfl (hp97 1 18 _ rfl rfl rfl)
          clear h99
          refine step_idx tabOk h100 1 rfl rfl rfl rfl rfl hx55 tb22 rfl tb38 rfl fun p101 a102 h103 => ?_
          clear h100
          exact wpl_end (hk98 _ _ _ _ (h103.sel [0, 1, 5] [1, 2, 3] []) (h103.getA rfl (h103.d 0 rfl)) rfl)
        · skip
          intro β104 a105 w106 dX107 Ox108 Q109 h110 hq111 hp112 hk113
          have h114 := h110.learn (d := 19) rfl
          clear h110
          have f115 := hp112 2 19 _ rfl rfl rfl
          generalize a105.tmps.getD 19 undef = v116 at h114 f115
          have h117 := h114.addD (d := DF.at rApiPost x55 (v116)) f115
          clear h114
          refine step_load tabOk h117 0 rfl rfl rfl rfl tb38 rfl rfl fun v118 a120 hv119 h121 => ?_
          clear h117
          obtain rfl := ex_ApiPost hv119
          exact wpl_end (hk113 _ _ _ _ (h121.sel [0, 1, 5] [2, 3, 4] []) (h121.getD rfl) rfl)
        · skip
          intro β122 a123 w124 dX125 Ox126 Q127 h128 hq129 hp130 hk131
          refine evalS_ok tabOk h128 1 [0, 1, 5, 21] [] [(0, .v (.slice A1 (List.length x0) c2)), (1, .v (.slice A3 (List.length x1) c4)), (5, .v (.int .i64 i37)), (21, .v (.slice A3 (List.length x1) c4))] [] (by kernel_rfl) fun β132 a133 w134 h135 => ?_
          exact wpl_end (hk131 _ _ _ _ (h135.sel [0, 1, 5] [0, 1, 2] []) (h135.getD rfl) rfl)
        · skip
          intro β136 a137 w138 dX139 Ox140 Q141 h142 hq143 hp144 hk145
          refine evalS_ok tabOk h142 1 [0, 1, 5, 22] [] [(0, .v (.slice A1 (List.length x0) c2)), (1, .v (.slice A3 (List.length x1) c4)), (5, .v (.int .i64 i37)), (22, .v (.int .i64 i37))] [] (by kernel_rfl) fun β146 a147 w148 h149 => ?_
          exact wpl_end (hk145 _ _ _ _ (h149.sel [0, 1, 5] [0, 1, 2] []) (h149.getD rfl) rfl)
        · skip
          intro β150 a151 w152 dX153 Ox154 Q155 h156 hq157 hp158 hk159
          have h160 := h156.learnE (d := 21) rfl (hp158 4 21 _ rfl rfl rfl)
          clear h156
          have h161 := h160.learnE (d := 22) rfl (hp158 5 22 _ rfl rfl rfl)
          clear h160
          refine step_idx tabOk h161 2 rfl rfl rfl rfl rfl hx57 tb22 rfl tb38 rfl fun p162 a163 h164 => ?_
          clear h161
          exact wpl_end (hk159 _ _ _ _ (h164.sel [0, 1, 5] [1, 2, 3] []) (h164.getA rfl (h164.d 0 rfl)) rfl)
        · skip
          intro β165 a166 w167 dX168 Ox169 Q170 h171 hq172 hp173 hk174
          have h175 := h171.learn (d := 23) rfl
          clear h171
          have f176 := hp173 6 23 _ rfl rfl rfl
          generalize a166.tmps.getD 23 undef = v177 at h175 f176
          have h178 := h175.addD (d := DF.at rApiPost x57 (v177)) f176
          clear h175
          refine step_load tabOk h178 0 rfl rfl rfl rfl tb38 rfl rfl fun v179 a181 hv180 h182 => ?_
          clear h178
          obtain rfl := ex_ApiPost hv180
          exact wpl_end (hk174 _ _ _ _ (h182.sel [0, 1, 5] [2, 3, 4] []) (h182.getD rfl) rfl)
        · skip
          intro β183 a184 w185 dX186 Ox187 Q188 h189 hq190 hp191 hk192
          have h193 := h189.learnE (d := 20) rfl (hp191 3 20 _ rfl rfl rfl)
          clear h189
          have h194 := h193.learnE (d := 24) rfl (hp191 7 24 _ rfl rfl rfl)
          clear h193
          refine step_eqAgg tabOk h194 true rfl rfl tb38 rfl (by kernel_rfl) (by kernel_rfl) (by kernel_rfl) rfl rfl (r := ((x55.Account == x57.Account) && ((x55.Amount == x57.Amount) && true))) (by kernel_rfl) fun a195 h196 => ?_
          clear h194
          exact wpl_end (hk192 _ _ _ _ (h196.sel [0, 1, 5] [0, 1, 2] []) (h196.getD rfl) rfl)
      · skip
        intro β197 a198 w199 h200 ha201
        have h202 := h200.learnE (d := 25) rfl (ha201 8 25 _ rfl rfl)
        clear h200
        have h203 := h202.unpin rfl
        clear h202
        have h204 : Sb β197 (cx 26 ok w) [(0, .v (.slice A1 (List.length x0) c2)), (1, .v (.slice A3 (List.length x1) c4)), (5, .v (.int .i64 i37)), (25, .v (.bool (!((x55.Account == x57.Account) && ((x55.Amount == x57.Amount) && true)))))] [DF.v (rSl rApiPost) x0 (.slice A1 (List.length x0) c2), DF.v (rSl rApiPost) x1 (.slice A3 (List.length x1) c4)] [] [] a198 w199 := h203.sel [0, 1, 5, 25] [0, 1] []
        clear h203
        refine wpl_end (hq54 _ _ ?_)
        refine wp_if h204 rfl (fun hb205 => ?_) (fun hb205 => ?_)
        · skip
          have hF206 := ifT hb205 hF58
          clear hF58
          refine seq_region tabOk h204 [4] [] [(4, .v (.bool false))] [] (by kernel_rfl) fun β207 a208 w209 h210 => ?_
          clear h204
          refine wp_ret ?_
          refine hr53 _ _ ?_
          refine hr52 _ _ ?_
          refine hr26 _ _ ?_
          refine hrb26 _ _ ?_
          refine hr21 _ _ ?_
          refine hr _ _ ?_
          obtain rfl := Option.some.inj hF206
          obtain rfl := Option.some.inj hC26
          exact ret1_ok h210 rfl rfl (isV_bool.2 rfl)
        · skip
          have hF211 := ifF hb205 hF58
          clear hF58
          refine wp_skip ?_
          refine hn53 _ _ ?_
          refine hn52 _ _ ?_
          refine evalR_ok tabOk h204 [0, 1, 5] [] [(0, .v (.slice A1 (List.length x0) c2)), (1, .v (.slice A3 (List.length x1) c4)), (5, .v (.int .i64 (IntKind.wrap .i64 (i37 + 1))))] [] (by kernel_rfl) fun β212 a213 w214 h215 => ?_
          clear h204
          have h216 : Sb β212 (cx 26 ok w) [(0, .v (.slice A1 (List.length x0) c2)), (1, .v (.slice A3 (List.length x1) c4)), (5, .v (.int .i64 (IntKind.wrap .i64 (i37 + 1))))] [DF.v (rSl rApiPost) x0 (.slice A1 (List.length x0) c2), DF.v (rSl rApiPost) x1 (.slice A3 (List.length x1) c4)] [] [] a213 w214 := (h215).sel [0, 1, 5] [0, 1] []
          exact hn26 _ _ _ (Nat.lt_succ_self _) ⟨(IntKind.wrap .i64 (i37 + 1)), ⟨_, h216⟩, hF211⟩
    · skip
      have hF217 := ifF hb50 hF44
      clear hF44
      refine wp_exit ?_
      refine hx45 0 _ _ ?_
      refine hx26 0 _ _ ?_
      refine hbb26 _ _ ?_
      obtain rfl := Option.some.inj hF217
      have h218 : Sb β46 (cx 26 ok w) [] [] [] [] a47 w48 := (h49).sel [] [] []
      exact j27 _ _ ⟨⟨_, h218⟩, hC26⟩

theorem c_ledger_printed {ok : Ok} {w : World} (hok : ∀ b o, ok b o → b < w.heap.size) (N : Nat) {x0 : Str} {x1 : Int} {r : Bool} (hF : ledger_printed N x0 x1 = some r) :
    Calls Try.prog 24 ⟨[strV x0, .int .u8 x1]⟩ w (Ret w (R1 rBool ok w r)) := by
  rw [ledger_printed] at hF
  refine enter_ok (n := 23) hok Try.func24 rfl rfl rfl (D := []) trivial (fun a h => ?_)
  simp only [zipG, Nat.zero_add, Nat.reduceAdd] at h
  refine start_ctx fun Q hn hr => ?_
  refine seq_region tabOk h [0, 1] [] [(0, .v (strV x0)), (1, .v (.int .u8 x1))] [] (by kernel_rfl) fun β1 a2 w3 h4 => ?_
  clear h
  refine seq_ctx fun Q5 hn5 hr5 hx5 => ?_
  refine seq_region tabOk h4 [0, 1, 5] [] [(0, .v (strV x0)), (1, .v (.int .u8 x1)), (5, .v (.int .i64 0))] [] (by kernel_rfl) fun β6 a7 w8 h9 => ?_
  clear h4
  obtain ⟨out10, hL10, hC10⟩ := bindE hF
  clear hF
  have j11 : ∀ a w', ((∃ β, Sb β (cx 23 ok w) [] [] [] [] a w') ∧ ledger_printed_j11 N = some r) → Q5 .normal a w' := by
    rintro a12 w13 ⟨⟨β14, h15⟩, hF16⟩
    rw [ledger_printed_j11] at hF16
    refine hn5 _ _ ?_
    refine seq_region tabOk h15 [4] [] [(4, .v (.bool true))] [] (by kernel_rfl) fun β17 a18 w19 h20 => ?_
    clear h15
    refine wp_ret ?_
    refine hr _ _ ?_
    obtain rfl := Option.some.inj hF16
    exact ret1_ok h20 rfl rfl (isV_bool.2 rfl)
  refine block_ctx fun Qb10 hnb10 hrb10 hbb10 hxb10 => ?_
  have h22 : Sb β6 (cx 23 ok w) [(0, .v (strV x0)), (1, .v (.int .u8 x1)), (5, .v (.int .i64 0))] [] [] [] a7 w8 := (h9).sel [0, 1, 5] [] []
  refine loop_ctx (fun m a w' => ∃ (i21 : Int), (∃ β, Sb β (cx 23 ok w) [(0, .v (strV x0)), (1, .v (.int .u8 x1)), (5, .v (.int .i64 i21))] [] [] [] a w') ∧ ledger_printed_l10 N x0 x1 m i21 = some out10) N ⟨0, ⟨_, h22⟩, hL10⟩ ?_
  rintro Q10 m23 a24 w25 ⟨i21, ⟨β26, h27⟩, hF28⟩ hn10 hr10 hx10
  obtain _ | m23 := m23
  · exact absurd hF28 (by simp [ledger_printed_l10])
  rw [ledger_printed_l10] at hF28
  refine seq_ctx fun Q29 hn29 hr29 hx29 => ?_
  refine seq_region tabOk h27 [0, 1, 5, 9] [] [(0, .v (strV x0)), (1, .v (.int .u8 x1)), (5, .v (.int .i64 i21)), (9, .v (.bool (decide (i21 < (List.length x0 : Int)))))] [] (by kernel_rfl) fun β30 a31 w32 h33 => ?_
  clear h27
  refine wp_if h33 rfl (fun hb34 => ?_) (fun hb34 => ?_)
  · skip
    have hF35 := ifT hb34 hF28
    clear hF28
    refine wp_skip ?_
    refine hn29 _ _ ?_
    refine seq_ctx fun Q36 hn36 hr36 hx36 => ?_
    refine block_ctx fun Q37 hn37 hr37 hb37 hx37 => ?_
    obtain ⟨g39, hv40, hF41⟩ := bindE hF35
    clear hF35
    refine seq_join (J := fun a w' => ∃ β, Sb β (cx 23 ok w) [(0, .v (strV x0)), (1, .v (.int .u8 x1)), (5, .v (.int .i64 i21)), (22, .v (.bool g39))] [] [] [] a w') ?_ ?_
    · skip
      rintro a42 w43 ⟨β44, h45⟩
      refine wp_if h45 rfl (fun hb46 => ?_) (fun hb46 => ?_)
      · skip
        have hF47 := ifT hb46 hF41
        clear hF41
        refine seq_region tabOk h45 [4] [] [(4, .v (.bool false))] [] (by kernel_rfl) fun β48 a49 w50 h51 => ?_
        clear h45
        refine wp_ret ?_
        refine hr37 _ _ ?_
        refine hr36 _ _ ?_
        refine hr10 _ _ ?_
        refine hrb10 _ _ ?_
        refine hr5 _ _ ?_
        refine hr _ _ ?_
        obtain rfl := Option.some.inj hF47
        obtain rfl := Option.some.inj hC10
        exact ret1_ok h51 rfl rfl (isV_bool.2 rfl)
      · skip
        have hF52 := ifF hb46 hF41
        clear hF41
        refine wp_skip ?_
        refine hn37 _ _ ?_
        refine hn36 _ _ ?_
        refine evalR_ok tabOk h45 [0, 1, 5] [] [(0, .v (strV x0)), (1, .v (.int .u8 x1)), (5, .v (.int .i64 (IntKind.wrap .i64 (i21 + 1))))] [] (by kernel_rfl) fun β53 a54 w55 h56 => ?_
        clear h45
        have h57 : Sb β53 (cx 23 ok w) [(0, .v (strV x0)), (1, .v (.int .u8 x1)), (5, .v (.int .i64 (IntKind.wrap .i64 (i21 + 1))))] [] [] [] a54 w55 := (h56).sel [0, 1, 5] [] []
        exact hn10 _ _ _ (Nat.lt_succ_self _) ⟨(IntKind.wrap .i64 (i21 + 1)), ⟨_, h57⟩, hF52⟩
    · skip
      refine region_ok ?_
      refine evalS_ok tabOk h33 2 [0, 1, 5, 12, 13] [] [(0, .v (strV x0)), (1, .v (.int .u8 x1)), (5, .v (.int .i64 i21)), (12, .v (strV x0)), (13, .v (.int .i64 i21))] [] (by kernel_rfl) fun β58 a59 w60 h61 => ?_
      clear h33
      obtain ⟨x62, hx62, hv63⟩ := bindE hv40
      clear hv40
      refine step_sidx tabOk h61 rfl rfl rfl rfl hx62 tb9 rfl fun a64 h65 => ?_
      clear h61
      refine evalS_ok tabOk h65 3 [0, 1, 5, 17] [] [(0, .v (strV x0)), (1, .v (.int .u8 x1)), (5, .v (.int .i64 i21)), (17, .v (.bool (decide (x62 < x1))))] [] (by kernel_rfl) fun β66 a67 w68 h69 => ?_
      clear h65
      refine bcases (b := (decide (x62 < x1))) (fun hb70 => ?_) (fun hb70 => ?_)
      · skip
        have hv71 := ifT hb70 hv63
        clear hv63
        have h72 := h69.reb (t := 17) rfl hb70
        clear h69
        refine evalS_ok tabOk h72 5 [0, 1, 5, 22] [] [(0, .v (strV x0)), (1, .v (.int .u8 x1)), (5, .v (.int .i64 i21)), (22, .v (.bool true))] [] (by kernel_rfl) fun β73 a74 w75 h76 => ?_
        clear h72
        obtain rfl := Option.some.inj hv71
        have h77 : Sb β73 (cx 23 ok w) [(0, .v (strV x0)), (1, .v (.int .u8 x1)), (5, .v (.int .i64 i21)), (22, .v (.bool true))] [] [] [] a74 w75 := h76.sel [0, 1, 5, 22] [] []
        clear h76
        exact wpl_end (then_n ⟨_, h77⟩)
      · skip
        have hv78 := ifF hb70 hv63
        clear hv63
        have h79 := h69.reb (t := 17) rfl hb70
        clear h69
        refine evalS_ok tabOk h79 2 [0, 1, 5, 17, 18, 19] [] [(0, .v (strV x0)), (1, .v (.int .u8 x1)), (5, .v (.int .i64 i21)), (17, .v (.bool false)), (18, .v (strV x0)), (19, .v (.int .i64 i21))] [] (by kernel_rfl) fun β80 a81 w82 h83 => ?_
        clear h79
        obtain ⟨x84, hx84, hv85⟩ := bindE hv78
        clear hv78
        refine step_sidx tabOk h83 rfl rfl rfl rfl hx84 tb9 rfl fun a86 h87 => ?_
        clear h83
        refine evalS_ok tabOk h87 2 [0, 1, 5, 22] [] [(0, .v (strV x0)), (1, .v (.int .u8 x1)), (5, .v (.int .i64 i21)), (22, .v (.bool (decide (x84 > 126))))] [] (by kernel_rfl) fun β88 a89 w90 h91 => ?_
        clear h87
        obtain rfl := Option.some.inj hv85
        have h92 : Sb β88 (cx 23 ok w) [(0, .v (strV x0)), (1, .v (.int .u8 x1)), (5, .v (.int .i64 i21)), (22, .v (.bool (decide (x84 > 126))))] [] [] [] a89 w90 := h91.sel [0, 1, 5, 22] [] []
        clear h91
        exact wpl_end (then_n ⟨_, h92⟩)
  · skip
    have hF93 := ifF hb34 hF28
    clear hF28
    refine wp_exit ?_
    refine hx29 0 _ _ ?_
    refine hx10 0 _ _ ?_
    refine hbb10 _ _ ?_
    obtain rfl := Option.some.inj hF93
    have h94 : Sb β30 (cx 23 ok w) [] [] [] [] a31 w32 := (h33).sel [] [] []
    exact j11 _ _ ⟨⟨_, h94⟩, hC10⟩

theorem c_amount_Valid {ok : Ok} {w : World} (hok : ∀ b o, ok b o → b < w.heap.size) (N : Nat) {x0 : Int} {r : Bool} (hF : amount_Valid N x0 = some r) :
    Calls Try.prog 25 ⟨[.int .i64 x0]⟩ w (Ret w (R1 rBool ok w r)) := by
  rw [amount_Valid] at hF
  refine enter_ok (n := 9) hok Try.func25 rfl rfl rfl (D := []) trivial (fun a h => ?_)
  simp only [zipG, Nat.zero_add, Nat.reduceAdd] at h
  refine start_ctx fun Q hn hr => ?_
  refine seq_region tabOk h [0] [] [(0, .v (.int .i64 x0))] [] (by kernel_rfl) fun β1 a2 w3 h4 => ?_
  clear h
  obtain ⟨g6, hg6⟩ : ∃ z, z = ((decide (x0 ≥ (-1125899906842624))) && (decide (x0 ≤ 1125899906842624))) := ⟨_, rfl⟩
  skip
  refine seq_join (J := fun a w' => ∃ β, Sb β (cx 9 ok w) [(2, .v (.bool g6))] [] [] [] a w') ?_ ?_
  · skip
    rintro a7 w8 ⟨β9, h10⟩
    subst hg6
    refine wp_ret ?_
    refine hr _ _ ?_
    obtain rfl := Option.some.inj hF
    exact ret1_ok h10 rfl rfl (isV_bool.2 rfl)
  · skip
    refine region_ok ?_
    refine evalS_ok tabOk h4 3 [0, 5] [] [(0, .v (.int .i64 x0)), (5, .v (.bool (decide (x0 ≥ (-1125899906842624)))))] [] (by kernel_rfl) fun β11 a12 w13 h14 => ?_
    clear h4
    refine bcases (b := (decide (x0 ≥ (-1125899906842624)))) (fun hb15 => ?_) (fun hb15 => ?_)
    · skip
      have h16 := h14.reb (t := 5) rfl hb15
      clear h14
      refine evalS_ok tabOk h16 4 [2] [] [(2, .v (.bool (decide (x0 ≤ 1125899906842624))))] [] (by kernel_rfl) fun β17 a18 w19 h20 => ?_
      clear h16
      obtain rfl : g6 = (decide (x0 ≤ 1125899906842624)) := by rw [hg6]; simp only [*, Bool.and_true, Bool.true_and, Bool.or_true, Bool.true_or, Bool.or_false, Bool.false_or, Bool.and_false, Bool.false_and, cond_true, cond_false]
      have h21 : Sb β17 (cx 9 ok w) [(2, .v (.bool (decide (x0 ≤ 1125899906842624))))] [] [] [] a18 w19 := h20.sel [2] [] []
      clear h20
      exact wpl_end (then_n ⟨_, h21⟩)
    · skip
      have h22 := h14.reb (t := 5) rfl hb15
      clear h14
      refine evalS_ok tabOk h22 4 [2] [] [(2, .v (.bool false))] [] (by kernel_rfl) fun β23 a24 w25 h26 => ?_
      clear h22
      obtain rfl : g6 = false := by rw [hg6]; simp only [*, Bool.and_true, Bool.true_and, Bool.or_true, Bool.true_or, Bool.or_false, Bool.false_or, Bool.and_false, Bool.false_and, cond_true, cond_false]
      have h27 : Sb β23 (cx 9 ok w) [(2, .v (.bool false))] [] [] [] a24 w25 := h26.sel [2] [] []
      clear h26
      exact wpl_end (then_n ⟨_, h27⟩)

end Gd

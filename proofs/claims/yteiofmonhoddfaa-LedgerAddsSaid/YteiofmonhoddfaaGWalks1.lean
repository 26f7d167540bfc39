/- The walks, part 2. -/
import Derived.Test.YteiofmonhoddfaaGWalks0
namespace Gd
open Go Go.Proofs
set_option linter.unusedVariables false
set_option linter.unusedSimpArgs false
theorem c_ledger_printed {ok : Ok} {w : World} (hok : ∀ b o, ok b o → b < w.heap.size) (N : Nat) {x0 : Str} {x1 : Int} {r : Bool} (hF : ledger_printed N x0 x1 = some r) :
    Calls Try.prog 24 ⟨[strV x0, .int .u8 x1]⟩ w (Ret w (R1 rBool ok w r)) := by
  rw [ledger_printed] at hF
  refine enter_ok (n := 23) hok Try.func24 rfl rfl rfl (D := []) trivial (fun a h => ?_)
  simp only [zipG, Nat.zero_add, Nat.reduceAdd] at h
  refine start_ctx fun Q hn hr => ?_
  refine seq_region tabOk h [0, 1] [] [(0, .v (strV x0)), (1, .v (.int .u8 x1))] [] (by kernel_rfl) fun β1 a2 w3 h4 => ?_
  clear h
  refine seq_ctx fun Q5 hn5 hr5 hx5 => ?_
  refine seq_region tabOk h4 [0, 1, 5] [] [(0, .v (strV x0)), (1, .v (.int .u8 x1)), (5, .v (.int .i64 0))] [] (by kernel_rfl) fun β6 a7 w8 h9 => ?_
  clear h4
  obtain ⟨out10, hL10, hC10⟩ := bindE hF
  clear hF
  have j11 : ∀ a w', ((∃ β, Sb β (cx 23 ok w) [] [] [] [] a w') ∧ ledger_printed_j11 N = some r) → Q5 .normal a w' := by
    rintro a12 w13 ⟨⟨β14, h15⟩, hF16⟩
    rw [ledger_printed_j11] at hF16
    refine hn5 _ _ ?_
    refine seq_region tabOk h15 [4] [] [(4, .v (.bool true))] [] (by kernel_rfl) fun β17 a18 w19 h20 => ?_
    clear h15
    refine wp_ret ?_
    refine hr _ _ ?_
    obtain rfl := Option.some.inj hF16
    exact ret1_ok h20 rfl rfl (isV_bool.2 rfl)
  refine block_ctx fun Qb10 hnb10 hrb10 hbb10 hxb10 => ?_
  have h22 : Sb β6 (cx 23 ok w) [(0, .v (strV x0)), (1, .v (.int .u8 x1)), (5, .v (.int .i64 0))] [] [] [] a7 w8 := (h9).sel [0, 1, 5] [] []
  refine loop_ctx (fun m a w' => ∃ (i21 : Int), (∃ β, Sb β (cx 23 ok w) [(0, .v (strV x0)), (1, .v (.int .u8 x1)), (5, .v (.int .i64 i21))] [] [] [] a w') ∧ ledger_printed_l10 N x0 x1 m i21 = some out10) N ⟨0, ⟨_, h22⟩, hL10⟩ ?_
  rintro Q10 m23 a24 w25 ⟨i21, ⟨β26, h27⟩, hF28⟩ hn10 hr10 hx10
  obtain _ | m23 := m23
  · exact absurd hF28 (by simp [ledger_printed_l10])
  rw [ledger_printed_l10] at hF28
  refine seq_ctx fun Q29 hn29 hr29 hx29 => ?_
  refine seq_region tabOk h27 [0, 1, 5, 9] [] [(0, .v (strV x0)), (1, .v (.int .u8 x1)), (5, .v (.int .i64 i21)), (9, .v (.bool (decide (i21 < (List.length x0 : Int)))))] [] (by kernel_rfl) fun β30 a31 w32 h33 => ?_
  clear h27
  refine wp_if h33 rfl (fun hb34 => ?_) (fun hb34 => ?_)
  · skip
    have hF35 := ifT hb34 hF28
    clear hF28
    refine wp_skip ?_
    refine hn29 _ _ ?_
    refine seq_ctx fun Q36 hn36 hr36 hx36 => ?_
    refine block_ctx fun Q37 hn37 hr37 hb37 hx37 => ?_
    obtain ⟨g39, hv40, hF41⟩ := bindE hF35
    clear hF35
    refine seq_join (J := fun a w' => ∃ β, Sb β (cx 23 ok w) [(0, .v (strV x0)), (1, .v (.int .u8 x1)), (5, .v (.int .i64 i21)), (22, .v (.bool g39))] [] [] [] a w') ?_ ?_
    · skip
      rintro a42 w43 ⟨β44, h45⟩
      refine wp_if h45 rfl (fun hb46 => ?_) (fun hb46 => ?_)
      · skip
        have hF47 := ifT hb46 hF41
        clear hF41
        refine seq_region tabOk h45 [4] [] [(4, .v (.bool false))] [] (by kernel_rfl) fun β48 a49 w50 h51 => ?_
        clear h45
        refine wp_ret ?_
        refine hr37 _ _ ?_
        refine hr36 _ _ ?_
        refine hr10 _ _ ?_
        refine hrb10 _ _ ?_
        refine hr5 _ _ ?_
        refine hr _ _ ?_
        obtain rfl := Option.some.inj hF47
        obtain rfl := Option.some.inj hC10
        exact ret1_ok h51 rfl rfl (isV_bool.2 rfl)
      · skip
        have hF52 := ifF hb46 hF41
        clear hF41
        refine wp_skip ?_
        refine hn37 _ _ ?_
        refine hn36 _ _ ?_
        refine evalR_ok tabOk h45 [0, 1, 5] [] [(0, .v (strV x0)), (1, .v (.int .u8 x1)), (5, .v (.int .i64 (IntKind.wrap .i64 (i21 + 1))))] [] (by kernel_rfl) fun β53 a54 w55 h56 => ?_
        clear h45
        have h57 : Sb β53 (cx 23 ok w) [(0, .v (strV x0)), (1, .v (.int .u8 x1)), (5, .v (.int .i64 (IntKind.wrap .i64 (i21 + 1))))] [] [] [] a54 w55 := (h56).sel [0, 1, 5] [] []
        exact hn10 _ _ _ (Nat.lt_succ_self _) ⟨(IntKind.wrap .i64 (i21 + 1)), ⟨_, h57⟩, hF52⟩
    · skip
      refine region_ok ?_
      refine evalS_ok tabOk h33 2 [0, 1, 5, 12, 13] [] [(0, .v (strV x0)), (1, .v (.int .u8 x1)), (5, .v (.int .i64 i21)), (12, .v (strV x0)), (13, .v (.int .i64 i21))] [] (by kernel_rfl) fun β58 a59 w60 h61 => ?_
      clear h33
      obtain ⟨x62, hx62, hv63⟩ := bindE hv40
      clear hv40
      refine step_sidx tabOk h61 rfl rfl rfl rfl hx62 tb9 rfl fun a64 h65 => ?_
      clear h61
      refine evalS_ok tabOk h65 3 [0, 1, 5, 17] [] [(0, .v (strV x0)), (1, .v (.int .u8 x1)), (5, .v (.int .i64 i21)), (17, .v (.bool (decide (x62 < x1))))] [] (by kernel_rfl) fun β66 a67 w68 h69 => ?_
      clear h65
      refine bcases (b := (decide (x62 < x1))) (fun hb70 => ?_) (fun hb70 => ?_)
      · skip
        have hv71 := ifT hb70 hv63
        clear hv63
        have h72 := h69.reb (t := 17) rfl hb70
        clear h69
        refine evalS_ok tabOk h72 5 [0, 1, 5, 22] [] [(0, .v (strV x0)), (1, .v (.int .u8 x1)), (5, .v (.int .i64 i21)), (22, .v (.bool true))] [] (by kernel_rfl) fun β73 a74 w75 h76 => ?_
        clear h72
        obtain rfl := Option.some.inj hv71
        have h77 : Sb β73 (cx 23 ok w) [(0, .v (strV x0)), (1, .v (.int .u8 x1)), (5, .v (.int .i64 i21)), (22, .v (.bool true))] [] [] [] a74 w75 := h76.sel [0, 1, 5, 22] [] []
        clear h76
        exact wpl_end (then_n ⟨_, h77⟩)
      · skip
        have hv78 := ifF hb70 hv63
        clear hv63
        have h79 := h69.reb (t := 17) rfl hb70
        clear h69
        refine evalS_ok tabOk h79 2 [0, 1, 5, 17, 18, 19] [] [(0, .v (strV x0)), (1, .v (.int .u8 x1)), (5, .v (.int .i64 i21)), (17, .v (.bool false)), (18, .v (strV x0)), (19, .v (.int .i64 i21))] [] (by kernel_rfl) fun β80 a81 w82 h83 => ?_
        clear h79
        obtain ⟨x84, hx84, hv85⟩ := bindE hv78
        clear hv78
        refine step_sidx tabOk h83 rfl rfl rfl rfl hx84 tb9 rfl fun a86 h87 => ?_
        clear h83
        refine evalS_ok tabOk h87 2 [0, 1, 5, 22] [] [(0, .v (strV x0)), (1, .v (.int .u8 x1)), (5, .v (.int .i64 i21)), (22, .v (.bool (decide (x84 > 126))))] [] (by kernel_rfl) fun β88 a89 w90 h91 => ?_
        clear h87
        obtain rfl := Option.some.inj hv85
        have h92 : Sb β88 (cx 23 ok w) [(0, .v (strV x0)), (1, .v (.int .u8 x1)), (5, .v (.int .i64 i21)), (22, .v (.bool (decide (x84 > 126))))] [] [] [] a89 w90 := h91.sel [0, 1, 5, 22] [] []
        clear h91
        exact wpl_end (then_n ⟨_, h92⟩)
  · skip
    have hF93 := ifF hb34 hF28
    clear hF28
    refine wp_exit ?_
    refine hx29 0 _ _ ?_
    refine hx10 0 _ _ ?_
    refine hbb10 _ _ ?_
    obtain rfl := Option.some.inj hF93
    have h94 : Sb β30 (cx 23 ok w) [] [] [] [] a31 w32 := (h33).sel [] [] []
    exact j11 _ _ ⟨⟨_, h94⟩, hC10⟩

theorem c_amount_Valid {ok : Ok} {w : World} (hok : ∀ b o, ok b o → b < w.heap.size) (N : Nat) {x0 : Int} {r : Bool} (hF : amount_Valid N x0 = some r) :
    Calls Try.prog 25 ⟨[.int .i64 x0]⟩ w (Ret w (R1 rBool ok w r)) := by
  rw [amount_Valid] at hF
  refine enter_ok (n := 9) hok Try.func25 rfl rfl rfl (D := []) trivial (fun a h => ?_)
  simp only [zipG, Nat.zero_add, Nat.reduceAdd] at h
  refine start_ctx fun Q hn hr => ?_
  refine seq_region tabOk h [0] [] [(0, .v (.int .i64 x0))] [] (by kernel_rfl) fun β1 a2 w3 h4 => ?_
  clear h
  obtain ⟨g6, hg6⟩ : ∃ z, z = ((decide (x0 ≥ (-1125899906842624))) && (decide (x0 ≤ 1125899906842624))) := ⟨_, rfl⟩
  skip
  refine seq_join (J := fun a w' => ∃ β, Sb β (cx 9 ok w) [(2, .v (.bool g6))] [] [] [] a w') ?_ ?_
  · skip
    rintro a7 w8 ⟨β9, h10⟩
    subst hg6
    refine wp_ret ?_
    refine hr _ _ ?_
    obtain rfl := Option.some.inj hF
    exact ret1_ok h10 rfl rfl (isV_bool.2 rfl)
  · skip
    refine region_ok ?_
    refine evalS_ok tabOk h4 3 [0, 5] [] [(0, .v (.int .i64 x0)), (5, .v (.bool (decide (x0 ≥ (-1125899906842624)))))] [] (by kernel_rfl) fun β11 a12 w13 h14 => ?_
    clear h4
    refine bcases (b := (decide (x0 ≥ (-1125899906842624)))) (fun hb15 => ?_) (fun hb15 => ?_)
    · skip
      have h16 := h14.reb (t := 5) rfl hb15
      clear h14
      refine evalS_ok tabOk h16 4 [2] [] [(2, .v (.bool (decide (x0 ≤ 1125899906842624))))] [] (by kernel_rfl) fun β17 a18 w19 h20 => ?_
      clear h16
      obtain rfl : g6 = (decide (x0 ≤ 1125899906842624)) := by rw [hg6]; simp only [*, Bool.and_true, Bool.true_and, Bool.or_true, Bool.true_or, Bool.or_false, Bool.false_or, Bool.and_false, Bool.false_and, cond_true, cond_false]
      have h21 : Sb β17 (cx 9 ok w) [(2, .v (.bool (decide (x0 ≤ 1125899906842624))))] [] [] [] a18 w19 := h20.sel [2] [] []
      clear h20
      exact wpl_end (then_n ⟨_, h21⟩)
    · skip
      have h22 := h14.reb (t := 5) rfl hb15
      clear h14
      refine evalS_ok tabOk h22 4 [2] [] [(2, .v (.bool false))] [] (by kernel_rfl) fun β23 a24 w25 h26 => ?_
      clear h22
      obtain rfl : g6 = false := by rw [hg6]; simp only [*, Bool.and_true, Bool.true_and, Bool.or_true, Bool.true_or, Bool.or_false, Bool.false_or, Bool.and_false, Bool.false_and, cond_true, cond_false]
      have h27 : Sb β23 (cx 9 ok w) [(2, .v (.bool false))] [] [] [] a24 w25 := h26.sel [2] [] []
      clear h26
      exact wpl_end (then_n ⟨_, h27⟩)

theorem c_api_Post_ {ok : Ok} {w : World} (hok : ∀ b o, ok b o → b < w.heap.size) (N : Nat) {x0 : (List ApiPost)} {x1 : (ApiPost → Option Int)} {A1 : Option Addr} {c2 : Nat} {g3 : Value} (d0 : isV (rSl rApiPost) ok w x0 (.slice A1 (List.length x0) c2)) (d1 : isV (rFn Try.prog rApiPost (rInt .i64)) ok w x1 (g3)) {r : Int} (hF : api_Post_ N x0 x1 = some r) :
    Calls Try.prog 26 ⟨[.slice A1 (List.length x0) c2, g3]⟩ w (Ret w (R1 (rInt .i64) ok w r)) := by
  rw [api_Post_] at hF
  refine enter_ok (n := 21) hok Try.func26 rfl rfl rfl (D := [DF.v (rSl rApiPost) x0 (.slice A1 (List.length x0) c2), DF.v (rFn Try.prog rApiPost (rInt .i64)) x1 (g3)]) ⟨d0, d1, trivial⟩ (fun a h => ?_)
  simp only [zipG, Nat.zero_add, Nat.reduceAdd] at h
  refine start_ctx fun Q hn hr => ?_
  refine seq_region tabOk h [0, 1] [] [(0, .v (.slice A1 (List.length x0) c2)), (1, .v (g3))] [] (by kernel_rfl) fun β4 a5 w6 h7 => ?_
  clear h
  refine seq_region tabOk h7 [0, 1, 5] [] [(0, .v (.slice A1 (List.length x0) c2)), (1, .v (g3)), (5, .v (.int .i64 0))] [] (by kernel_rfl) fun β8 a9 w10 h11 => ?_
  clear h7
  refine seq_ctx fun Q12 hn12 hr12 hx12 => ?_
  refine seq_region tabOk h11 [1, 5, 8, 9, 10] [] [(1, .v (g3)), (5, .v (.int .i64 0)), (8, .v (.slice A1 (List.length x0) c2)), (9, .v (.int .i64 (List.length x0 : Int))), (10, .v (.int .i64 0))] [] (by kernel_rfl) fun β13 a14 w15 h16 => ?_
  clear h11
  obtain ⟨out17, hL17, hC17⟩ := bindE hF
  clear hF
  have j19 : ∀ a w', (∃ (i18 : Int), (∃ β, Sb β (cx 21 ok w) [(5, .v (.int .i64 i18))] [] [] [] a w') ∧ api_Post__j19 N i18 = some r) → Q12 .normal a w' := by
    rintro a20 w21 ⟨i18, ⟨β22, h23⟩, hF24⟩
    rw [api_Post__j19] at hF24
    refine hn12 _ _ ?_
    refine seq_region tabOk h23 [4] [] [(4, .v (.int .i64 i18))] [] (by kernel_rfl) fun β25 a26 w27 h28 => ?_
    clear h23
    refine wp_ret ?_
    refine hr _ _ ?_
    obtain rfl := Option.some.inj hF24
    exact ret1_ok h28 rfl rfl (isV_int.2 rfl)
  refine block_ctx fun Qb17 hnb17 hrb17 hbb17 hxb17 => ?_
  have h31 : Sb β13 (cx 21 ok w) [(1, .v (g3)), (5, .v (.int .i64 0)), (8, .v (.slice A1 (List.length x0) c2)), (9, .v (.int .i64 (List.length x0 : Int))), (10, .v (.int .i64 0))] [DF.v (rFn Try.prog rApiPost (rInt .i64)) x1 (g3), DF.v (rSl rApiPost) x0 (.slice A1 (List.length x0) c2)] [] [] a14 w15 := (h16).sel [1, 5, 8, 9, 10] [1, 0] []
  refine loop_ctx (fun m a w' => ∃ (i29 : Int) (i30 : Int), (∃ β, Sb β (cx 21 ok w) [(1, .v (g3)), (5, .v (.int .i64 i29)), (8, .v (.slice A1 (List.length x0) c2)), (9, .v (.int .i64 (List.length x0 : Int))), (10, .v (.int .i64 i30))] [DF.v (rFn Try.prog rApiPost (rInt .i64)) x1 (g3), DF.v (rSl rApiPost) x0 (.slice A1 (List.length x0) c2)] [] [] a w') ∧ api_Post__l17 N x0 x1 m i29 i30 = some out17) N ⟨0, 0, ⟨_, h31⟩, hL17⟩ ?_
  rintro Q17 m32 a33 w34 ⟨i29, i30, ⟨β35, h36⟩, hF37⟩ hn17 hr17 hx17
  obtain _ | m32 := m32
  · exact absurd hF37 (by simp [api_Post__l17])
  rw [api_Post__l17] at hF37
  refine seq_region tabOk h36 [1, 5, 8, 9, 10, 11] [] [(1, .v (g3)), (5, .v (.int .i64 i29)), (8, .v (.slice A1 (List.length x0) c2)), (9, .v (.int .i64 (List.length x0 : Int))), (10, .v (.int .i64 i30)), (11, .v (.bool (decide (i30 < (List.length x0 : Int)))))] [] (by kernel_rfl) fun β38 a39 w40 h41 => ?_
  clear h36
  refine seq_ctx fun Q42 hn42 hr42 hx42 => ?_
  refine wp_if h41 rfl (fun hb43 => ?_) (fun hb43 => ?_)
  · skip
    have hF44 := ifT hb43 hF37
    clear hF37
    refine wp_skip ?_
    refine hn42 _ _ ?_
    refine seq_ctx fun Q45 hn45 hr45 hx45 => ?_
    refine block_ctx fun Q46 hn46 hr46 hb46 hx46 => ?_
    refine seq_list fun Q47 hq47 => ?_
    obtain ⟨x48, hx48, hF49⟩ := bindE hF44
    clear hF44
    refine step_idx tabOk h41 1 rfl rfl rfl rfl rfl hx48 tb22 rfl tb38 rfl fun p50 a51 h52 => ?_
    clear h41
    refine step_load tabOk h52 0 rfl rfl rfl rfl tb38 rfl rfl fun v53 a55 hv54 h56 => ?_
    clear h52
    obtain rfl := ex_ApiPost hv54
    refine evalS_ok tabOk h56 2 [1, 5, 7, 8, 9, 10] [7] [(1, .v (g3)), (5, .v (.int .i64 i29)), (7, .o 7 0), (8, .v (.slice A1 (List.length x0) c2)), (9, .v (.int .i64 (List.length x0 : Int))), (10, .v (.int .i64 i30))] [(7, ⟨[strV x48.Account, .int .i64 x48.Amount], 38⟩)] (by kernel_rfl) fun β57 a58 w59 h60 => ?_
    clear h56
    have h61 : Sb β57 (cx 21 ok w) [(1, .v (g3)), (5, .v (.int .i64 i29)), (7, .o 7 0), (8, .v (.slice A1 (List.length x0) c2)), (9, .v (.int .i64 (List.length x0 : Int))), (10, .v (.int .i64 i30))] [DF.v (rFn Try.prog rApiPost (rInt .i64)) x1 (g3), DF.v (rSl rApiPost) x0 (.slice A1 (List.length x0) c2)] [(7, ⟨[strV x48.Account, .int .i64 x48.Amount], 38⟩)] [] a58 w59 := h60.sel [1, 5, 7, 8, 9, 10] [2, 3] [7]
    clear h60
    refine wpl_end (hq47 _ _ ?_)
    refine region_ok ?_
    refine evalS_ok tabOk h61 3 [1, 5, 8, 9, 10, 14, 15, 16] [] [(1, .v (g3)), (5, .v (.int .i64 i29)), (8, .v (.slice A1 (List.length x0) c2)), (9, .v (.int .i64 (List.length x0 : Int))), (10, .v (.int .i64 i30)), (14, .v (.int .i64 i29)), (15, .v (g3)), (16, .v (.agg ⟨[strV x48.Account, .int .i64 x48.Amount]⟩))] [] (by kernel_rfl) fun β63 a64 w65 h66 => ?_
    clear h61
    obtain ⟨y67, hy67, hF68⟩ := bindE hF49
    clear hF49
    refine step_callFn h66 rfl rfl rfl rfl (h66.d 0 rfl) (im_ApiPost (x := x48)) hy67 fun v69 a72 w73 hR70 hk71 h74 => ?_
    clear h66
    have hv75 := isV.weak hR70 hk71
    obtain rfl := isV_int.1 hv75
    refine evalS_ok tabOk h74 2 [1, 5, 8, 9, 10] [] [(1, .v (g3)), (5, .v (.int .i64 (IntKind.wrap .i64 (i29 + y67)))), (8, .v (.slice A1 (List.length x0) c2)), (9, .v (.int .i64 (List.length x0 : Int))), (10, .v (.int .i64 i30))] [] (by kernel_rfl) fun β76 a77 w78 h79 => ?_
    clear h74
    have h80 : Sb β76 (cx 21 ok w) [(1, .v (g3)), (5, .v (.int .i64 (IntKind.wrap .i64 (i29 + y67)))), (8, .v (.slice A1 (List.length x0) c2)), (9, .v (.int .i64 (List.length x0 : Int))), (10, .v (.int .i64 i30))] [DF.v (rFn Try.prog rApiPost (rInt .i64)) x1 (g3), DF.v (rSl rApiPost) x0 (.slice A1 (List.length x0) c2)] [] [] a77 w78 := h79.sel [1, 5, 8, 9, 10] [0, 1] []
    clear h79
    refine wpl_end ?_
    refine hn46 _ _ ?_
    refine hn45 _ _ ?_
    refine evalR_ok tabOk h80 [1, 5, 8, 9, 10] [] [(1, .v (g3)), (5, .v (.int .i64 (IntKind.wrap .i64 (i29 + y67)))), (8, .v (.slice A1 (List.length x0) c2)), (9, .v (.int .i64 (List.length x0 : Int))), (10, .v (.int .i64 (IntKind.wrap .i64 (i30 + 1))))] [] (by kernel_rfl) fun β81 a82 w83 h84 => ?_
    clear h80
    have h85 : Sb β81 (cx 21 ok w) [(1, .v (g3)), (5, .v (.int .i64 (IntKind.wrap .i64 (i29 + y67)))), (8, .v (.slice A1 (List.length x0) c2)), (9, .v (.int .i64 (List.length x0 : Int))), (10, .v (.int .i64 (IntKind.wrap .i64 (i30 + 1))))] [DF.v (rFn Try.prog rApiPost (rInt .i64)) x1 (g3), DF.v (rSl rApiPost) x0 (.slice A1 (List.length x0) c2)] [] [] a82 w83 := (h84).sel [1, 5, 8, 9, 10] [0, 1] []
    exact hn17 _ _ _ (Nat.lt_succ_self _) ⟨(IntKind.wrap .i64 (i29 + y67)), (IntKind.wrap .i64 (i30 + 1)), ⟨_, h85⟩, hF68⟩
  · skip
    have hF86 := ifF hb43 hF37
    clear hF37
    refine wp_exit ?_
    refine hx42 0 _ _ ?_
    refine hx17 0 _ _ ?_
    refine hbb17 _ _ ?_
    obtain rfl := Option.some.inj hF86
    have h87 : Sb β38 (cx 21 ok w) [(5, .v (.int .i64 i29))] [] [] [] a39 w40 := (h41).sel [5] [] []
    exact j19 _ _ ⟨i29, ⟨_, h87⟩, hC17⟩

theorem c_ledger_value {ok : Ok} {w : World} (hok : ∀ b o, ok b o → b < w.heap.size) (N : Nat) {x0 : ApiPost} {r : Int} (hF : ledger_value N x0 = some r) :
    Calls Try.prog 27 ⟨[.agg ⟨[strV x0.Account, .int .i64 x0.Amount]⟩]⟩ w (Ret w (R1 (rInt .i64) ok w r)) := by
  rw [ledger_value] at hF
  refine enter_ok (n := 5) hok Try.func27 rfl rfl rfl (D := []) trivial (fun a h => ?_)
  simp only [zipG, Nat.zero_add, Nat.reduceAdd] at h
  refine start_ctx fun Q hn hr => ?_
  refine seq_region tabOk h [1] [1] [(1, .o 1 0)] [(1, ⟨[strV x0.Account, .int .i64 x0.Amount], 38⟩)] (by kernel_rfl) fun β1 a2 w3 h4 => ?_
  clear h
  refine seq_region tabOk h4 [2] [] [(2, .v (.int .i64 x0.Amount))] [] (by kernel_rfl) fun β5 a6 w7 h8 => ?_
  clear h4
  refine wp_ret ?_
  refine hr _ _ ?_
  obtain rfl := Option.some.inj hF
  exact ret1_ok h8 rfl rfl (isV_int.2 rfl)
theorem fv_ledger_value (N : Nat) {ok : Ok} {w : World} : fnRep Try.prog rApiPost (rInt .i64) ok w (ledger_value N) (.func (.func 27) ⟨[]⟩ ⟨[]⟩) := by
  refine ⟨27, _, rfl, runs27, fun ok2 w2 hk he hlt x v y hx hy => ?_⟩
  obtain rfl := ex_ApiPost hx
  exact c_ledger_value hlt N hy

theorem c_ledger_Check {ok : Ok} {w : World} (hok : ∀ b o, ok b o → b < w.heap.size) (N : Nat) {x0 : ApiEntry} {A1 : Option Addr} {c2 : Nat} (d0 : isV (rSl rApiPost) ok w x0.Posts (.slice A1 (List.length x0.Posts) c2)) {r : Int} (hF : ledger_Check N x0 = some r) :
    Calls Try.prog 9 ⟨[.agg ⟨[.int .i64 x0.At, strV x0.Text, .slice A1 (List.length x0.Posts) c2]⟩]⟩ w (Ret w (R1 (rInt .i64) ok w r)) := by
  rw [ledger_Check] at hF
  refine enter_ok (n := 90) hok Try.func9 rfl rfl rfl (D := [DF.v (rSl rApiPost) x0.Posts (.slice A1 (List.length x0.Posts) c2)]) ⟨d0, trivial⟩ (fun a h => ?_)
  simp only [zipG, Nat.zero_add, Nat.reduceAdd] at h
  refine start_ctx fun Q hn hr => ?_
  refine seq_region tabOk h [1] [1] [(1, .o 1 0)] [(1, ⟨[.int .i64 x0.At, strV x0.Text, .slice A1 (List.length x0.Posts) c2], 24⟩)] (by kernel_rfl) fun β3 a4 w5 h6 => ?_
  clear h
  refine seq_ctx fun Q7 hn7 hr7 hx7 => ?_
  refine block_ctx fun Q8 hn8 hr8 hb8 hx8 => ?_
  obtain ⟨g10, hg10⟩ : ∃ z, z = ((decide (x0.At < 0)) || (decide (x0.At ≥ 12622780800))) := ⟨_, rfl⟩
  skip
  refine seq_join (J := fun a w' => ∃ β, Sb β (cx 90 ok w) [(1, .o 1 0), (5, .v (.bool g10))] [DF.v (rSl rApiPost) x0.Posts (.slice A1 (List.length x0.Posts) c2)] [(1, ⟨[.int .i64 x0.At, strV x0.Text, .slice A1 (List.length x0.Posts) c2], 24⟩)] [] a w') ?_ ?_
  · skip
    rintro a11 w12 ⟨β13, h14⟩
    subst hg10
    refine wp_if h14 rfl (fun hb15 => ?_) (fun hb15 => ?_)
    · skip
      have hF16 := ifT hb15 hF
      clear hF
      refine seq_region tabOk h14 [2] [] [(2, .v (.int .i64 15))] [] (by kernel_rfl) fun β17 a18 w19 h20 => ?_
      clear h14
      refine wp_ret ?_
      refine hr8 _ _ ?_
      refine hr7 _ _ ?_
      refine hr _ _ ?_
      obtain rfl := Option.some.inj hF16
      exact ret1_ok h20 rfl rfl (isV_int.2 rfl)
    · skip
      have hF21 := ifF hb15 hF
      clear hF
      obtain ⟨g23, hg23⟩ : ∃ z, z = ((decide ((List.length x0.Text : Int) > 200)) || (decide ((List.length x0.Posts : Int) > 64))) := ⟨_, rfl⟩
      skip
      refine seq_join (J := fun a w' => ∃ β, Sb β (cx 90 ok w) [(1, .o 1 0), (14, .v (.bool g23))] [DF.v (rSl rApiPost) x0.Posts (.slice A1 (List.length x0.Posts) c2)] [(1, ⟨[.int .i64 x0.At, strV x0.Text, .slice A1 (List.length x0.Posts) c2], 24⟩)] [] a w') ?_ ?_
      · skip
        rintro a24 w25 ⟨β26, h27⟩
        subst hg23
        refine wp_if h27 rfl (fun hb28 => ?_) (fun hb28 => ?_)
        · skip
          have hF29 := ifT hb28 hF21
          clear hF21
          refine seq_region tabOk h27 [2] [] [(2, .v (.int .i64 5))] [] (by kernel_rfl) fun β30 a31 w32 h33 => ?_
          clear h27
          refine wp_ret ?_
          refine hr8 _ _ ?_
          refine hr7 _ _ ?_
          refine hr _ _ ?_
          obtain rfl := Option.some.inj hF29
          exact ret1_ok h33 rfl rfl (isV_int.2 rfl)
        · skip
          have hF34 := ifF hb28 hF21
          clear hF21
          obtain ⟨g36, hv37, hF38⟩ := bindE hF34
          clear hF34
          refine seq_join (J := fun a w' => ∃ β, Sb β (cx 90 ok w) [(1, .o 1 0), (25, .v (.bool g36))] [DF.v (rSl rApiPost) x0.Posts (.slice A1 (List.length x0.Posts) c2)] [(1, ⟨[.int .i64 x0.At, strV x0.Text, .slice A1 (List.length x0.Posts) c2], 24⟩)] [] a w') ?_ ?_
          · skip
            rintro a39 w40 ⟨β41, h42⟩
            refine wp_if h42 rfl (fun hb43 => ?_) (fun hb43 => ?_)
            · skip
              have hF44 := ifT hb43 hF38
              clear hF38
              refine seq_region tabOk h42 [2] [] [(2, .v (.int .i64 8))] [] (by kernel_rfl) fun β45 a46 w47 h48 => ?_
              clear h42
              refine wp_ret ?_
              refine hr8 _ _ ?_
              refine hr7 _ _ ?_
              refine hr _ _ ?_
              obtain rfl := Option.some.inj hF44
              exact ret1_ok h48 rfl rfl (isV_int.2 rfl)
            · skip
              have hF49 := ifF hb43 hF38
              clear hF38
              refine wp_skip ?_
              refine hn8 _ _ ?_
              refine hn7 _ _ ?_
              refine seq_ctx fun Q50 hn50 hr50 hx50 => ?_
              refine seq_region tabOk h42 [1, 37, 38, 39] [1] [(1, .o 1 0), (37, .v (.slice A1 (List.length x0.Posts) c2)), (38, .v (.int .i64 (List.length x0.Posts : Int))), (39, .v (.int .i64 0))] [(1, ⟨[.int .i64 x0.At, strV x0.Text, .slice A1 (List.length x0.Posts) c2], 24⟩)] (by kernel_rfl) fun β51 a52 w53 h54 => ?_
              clear h42
              obtain ⟨out55, hL55, hC55⟩ := bindE hF49
              clear hF49
              have j56 : ∀ a w', ((∃ β, Sb β (cx 90 ok w) [(1, .o 1 0)] [DF.v (rSl rApiPost) x0.Posts (.slice A1 (List.length x0.Posts) c2)] [(1, ⟨[.int .i64 x0.At, strV x0.Text, .slice A1 (List.length x0.Posts) c2], 24⟩)] [] a w') ∧ ledger_Check_j56 N x0 = some r) → Q50 .normal a w' := by
                rintro a57 w58 ⟨⟨β59, h60⟩, hF61⟩
                rw [ledger_Check_j56] at hF61
                refine hn50 _ _ ?_
                refine seq_ctx fun Q62 hn62 hr62 hx62 => ?_
                refine seq_list fun Q63 hq63 => ?_
                refine evalS_ok tabOk h60 2 [87] [] [(87, .v (.slice A1 (List.length x0.Posts) c2))] [] (by kernel_rfl) fun β64 a65 w66 h67 => ?_
                clear h60
                obtain ⟨y68, hy68, hF69⟩ := bindE hF61
                clear hF61
                refine step_call h67 rfl rfl runs26 (vs := [(.slice A1 (List.length x0.Posts) c2), (.func (.func 27) ⟨[]⟩ ⟨[]⟩)]) (by kernel_rfl) (c_api_Post_ (x0 := x0.Posts) (x1 := (ledger_value N)) h67.okLt N (h67.d 0 rfl) (isV_fn.2 (fv_ledger_value N)) hy68) fun v70 a73 w74 hR71 hk72 h75 => ?_
                clear h67
                have hv76 := isV.weak hR71 hk72
                obtain rfl := isV_int.1 hv76
                refine evalS_ok tabOk h75 1 [89] [] [(89, .v (.bool (y68 != 0)))] [] (by kernel_rfl) fun β77 a78 w79 h80 => ?_
                clear h75
                have h81 : Sb β77 (cx 90 ok w) [(89, .v (.bool (y68 != 0)))] [] [] [] a78 w79 := h80.sel [89] [] []
                clear h80
                refine wpl_end (hq63 _ _ ?_)
                refine wp_if h81 rfl (fun hb82 => ?_) (fun hb82 => ?_)
                · skip
                  have hF83 := ifT hb82 hF69
                  clear hF69
                  refine seq_region tabOk h81 [2] [] [(2, .v (.int .i64 21))] [] (by kernel_rfl) fun β84 a85 w86 h87 => ?_
                  clear h81
                  refine wp_ret ?_
                  refine hr62 _ _ ?_
                  refine hr _ _ ?_
                  obtain rfl := Option.some.inj hF83
                  exact ret1_ok h87 rfl rfl (isV_int.2 rfl)
                · skip
                  have hF88 := ifF hb82 hF69
                  clear hF69
                  refine wp_skip ?_
                  refine hn62 _ _ ?_
                  refine seq_region tabOk h81 [2] [] [(2, .v (.int .i64 0))] [] (by kernel_rfl) fun β89 a90 w91 h92 => ?_
                  clear h81
                  refine wp_ret ?_
                  refine hr _ _ ?_
                  obtain rfl := Option.some.inj hF88
                  exact ret1_ok h92 rfl rfl (isV_int.2 rfl)
              refine block_ctx fun Qb55 hnb55 hrb55 hbb55 hxb55 => ?_
              have h94 : Sb β51 (cx 90 ok w) [(1, .o 1 0), (37, .v (.slice A1 (List.length x0.Posts) c2)), (38, .v (.int .i64 (List.length x0.Posts : Int))), (39, .v (.int .i64 0))] [DF.v (rSl rApiPost) x0.Posts (.slice A1 (List.length x0.Posts) c2)] [(1, ⟨[.int .i64 x0.At, strV x0.Text, .slice A1 (List.length x0.Posts) c2], 24⟩)] [] a52 w53 := (h54).sel [1, 37, 38, 39] [0] [1]
              refine loop_ctx (fun m a w' => ∃ (i93 : Int), (∃ β, Sb β (cx 90 ok w) [(1, .o 1 0), (37, .v (.slice A1 (List.length x0.Posts) c2)), (38, .v (.int .i64 (List.length x0.Posts : Int))), (39, .v (.int .i64 i93))] [DF.v (rSl rApiPost) x0.Posts (.slice A1 (List.length x0.Posts) c2)] [(1, ⟨[.int .i64 x0.At, strV x0.Text, .slice A1 (List.length x0.Posts) c2], 24⟩)] [] a w') ∧ ledger_Check_l55 N x0 m i93 = some out55) N ⟨0, ⟨_, h94⟩, hL55⟩ ?_
              rintro Q55 m95 a96 w97 ⟨i93, ⟨β98, h99⟩, hF100⟩ hn55 hr55 hx55
              obtain _ | m95 := m95
              · exact absurd hF100 (by simp [ledger_Check_l55])
              rw [ledger_Check_l55] at hF100
              refine seq_region tabOk h99 [1, 37, 38, 39, 40] [1] [(1, .o 1 0), (37, .v (.slice A1 (List.length x0.Posts) c2)), (38, .v (.int .i64 (List.length x0.Posts : Int))), (39, .v (.int .i64 i93)), (40, .v (.bool (decide (i93 < (List.length x0.Posts : Int)))))] [(1, ⟨[.int .i64 x0.At, strV x0.Text, .slice A1 (List.length x0.Posts) c2], 24⟩)] (by kernel_rfl) fun β101 a102 w103 h104 => ?_
              clear h99
              refine seq_ctx fun Q105 hn105 hr105 hx105 => ?_
              refine wp_if h104 rfl (fun hb106 => ?_) (fun hb106 => ?_)
              · skip
                have hF107 := ifT hb106 hF100
                clear hF100
                refine wp_skip ?_
                refine hn105 _ _ ?_
                refine seq_ctx fun Q108 hn108 hr108 hx108 => ?_
                refine block_ctx fun Q109 hn109 hr109 hb109 hx109 => ?_
                refine seq_list fun Q110 hq110 => ?_
                refine evalS_ok tabOk h104 1 [1, 37, 38, 39, 41] [1] [(1, .o 1 0), (37, .v (.slice A1 (List.length x0.Posts) c2)), (38, .v (.int .i64 (List.length x0.Posts : Int))), (39, .v (.int .i64 i93)), (41, .v (.int .i64 i93))] [(1, ⟨[.int .i64 x0.At, strV x0.Text, .slice A1 (List.length x0.Posts) c2], 24⟩)] (by kernel_rfl) fun β111 a112 w113 h114 => ?_
                clear h104
                obtain ⟨x115, hx115, hF116⟩ := bindE hF107
                clear hF107
                refine step_idx tabOk h114 0 rfl rfl rfl rfl rfl hx115 tb22 rfl tb38 rfl fun p117 a118 h119 => ?_
                clear h114
                refine step_load tabOk h119 0 rfl rfl rfl rfl tb38 rfl rfl fun v120 a122 hv121 h123 => ?_
                clear h119
                obtain rfl := ex_ApiPost hv121
                refine evalS_ok tabOk h123 3 [1, 3, 4, 37, 38, 39] [1, 4] [(1, .o 1 0), (3, .v (.int .i64 i93)), (4, .o 4 0), (37, .v (.slice A1 (List.length x0.Posts) c2)), (38, .v (.int .i64 (List.length x0.Posts : Int))), (39, .v (.int .i64 i93))] [(1, ⟨[.int .i64 x0.At, strV x0.Text, .slice A1 (List.length x0.Posts) c2], 24⟩), (4, ⟨[strV x115.Account, .int .i64 x115.Amount], 38⟩)] (by kernel_rfl) fun β124 a125 w126 h127 => ?_
                clear h123
                have h128 : Sb β124 (cx 90 ok w) [(1, .o 1 0), (3, .v (.int .i64 i93)), (4, .o 4 0), (37, .v (.slice A1 (List.length x0.Posts) c2)), (38, .v (.int .i64 (List.length x0.Posts : Int))), (39, .v (.int .i64 i93))] [DF.v (rSl rApiPost) x0.Posts (.slice A1 (List.length x0.Posts) c2)] [(1, ⟨[.int .i64 x0.At, strV x0.Text, .slice A1 (List.length x0.Posts) c2], 24⟩), (4, ⟨[strV x115.Account, .int .i64 x115.Amount], 38⟩)] [] a125 w126 := h127.sel [1, 3, 4, 37, 38, 39] [2] [1, 4]
                clear h127
                refine wpl_end (hq110 _ _ ?_)
                refine block_ctx fun Q129 hn129 hr129 hb129 hx129 => ?_
                obtain ⟨g131, hv132, hF133⟩ := bindE hF116
                clear hF116
                refine seq_join (J := fun a w' => ∃ β, Sb β (cx 90 ok w) [(1, .o 1 0), (3, .v (.int .i64 i93)), (4, .o 4 0), (37, .v (.slice A1 (List.length x0.Posts) c2)), (38, .v (.int .i64 (List.length x0.Posts : Int))), (39, .v (.int .i64 i93)), (44, .v (.bool g131))] [DF.v (rSl rApiPost) x0.Posts (.slice A1 (List.length x0.Posts) c2)] [(1, ⟨[.int .i64 x0.At, strV x0.Text, .slice A1 (List.length x0.Posts) c2], 24⟩), (4, ⟨[strV x115.Account, .int .i64 x115.Amount], 38⟩)] [] a w') ?_ ?_
                · skip
                  rintro a134 w135 ⟨β136, h137⟩
                  refine wp_if h137 rfl (fun hb138 => ?_) (fun hb138 => ?_)
                  · skip
                    have hF139 := ifT hb138 hF133
                    clear hF133
                    refine seq_region tabOk h137 [2] [] [(2, .v (.int .i64 8))] [] (by kernel_rfl) fun β140 a141 w142 h143 => ?_
                    clear h137
                    refine wp_ret ?_
                    refine hr129 _ _ ?_
                    refine hr109 _ _ ?_
                    refine hr108 _ _ ?_
                    refine hr55 _ _ ?_
                    refine hrb55 _ _ ?_
                    refine hr50 _ _ ?_
                    refine hr _ _ ?_
                    obtain rfl := Option.some.inj hF139
                    obtain rfl := Option.some.inj hC55
                    exact ret1_ok h143 rfl rfl (isV_int.2 rfl)
                  · skip
                    have hF144 := ifF hb138 hF133
                    clear hF133
                    obtain ⟨g146, hv147, hF148⟩ := bindE hF144
                    clear hF144
                    refine seq_join (J := fun a w' => ∃ β, Sb β (cx 90 ok w) [(1, .o 1 0), (4, .o 4 0), (37, .v (.slice A1 (List.length x0.Posts) c2)), (38, .v (.int .i64 (List.length x0.Posts : Int))), (39, .v (.int .i64 i93)), (60, .v (.bool g146))] [DF.v (rSl rApiPost) x0.Posts (.slice A1 (List.length x0.Posts) c2)] [(1, ⟨[.int .i64 x0.At, strV x0.Text, .slice A1 (List.length x0.Posts) c2], 24⟩), (4, ⟨[strV x115.Account, .int .i64 x115.Amount], 38⟩)] [] a w') ?_ ?_
                    · skip
                      rintro a149 w150 ⟨β151, h152⟩
                      refine wp_if h152 rfl (fun hb153 => ?_) (fun hb153 => ?_)
                      · skip
                        have hF154 := ifT hb153 hF148
                        clear hF148
                        refine seq_region tabOk h152 [2] [] [(2, .v (.int .i64 9))] [] (by kernel_rfl) fun β155 a156 w157 h158 => ?_
                        clear h152
                        refine wp_ret ?_
                        refine hr129 _ _ ?_
                        refine hr109 _ _ ?_
                        refine hr108 _ _ ?_
                        refine hr55 _ _ ?_
                        refine hrb55 _ _ ?_
                        refine hr50 _ _ ?_
                        refine hr _ _ ?_
                        obtain rfl := Option.some.inj hF154
                        obtain rfl := Option.some.inj hC55
                        exact ret1_ok h158 rfl rfl (isV_int.2 rfl)
                      · skip
                        have hF159 := ifF hb153 hF148
                        clear hF148
                        obtain ⟨g161, hv162, hF163⟩ := bindE hF159
                        clear hF159
                        refine seq_join (J := fun a w' => ∃ β, Sb β (cx 90 ok w) [(1, .o 1 0), (37, .v (.slice A1 (List.length x0.Posts) c2)), (38, .v (.int .i64 (List.length x0.Posts : Int))), (39, .v (.int .i64 i93)), (75, .v (.bool g161))] [DF.v (rSl rApiPost) x0.Posts (.slice A1 (List.length x0.Posts) c2)] [(1, ⟨[.int .i64 x0.At, strV x0.Text, .slice A1 (List.length x0.Posts) c2], 24⟩)] [] a w') ?_ ?_
                        · skip
                          rintro a164 w165 ⟨β166, h167⟩
                          refine wp_if h167 rfl (fun hb168 => ?_) (fun hb168 => ?_)
                          · skip
                            have hF169 := ifT hb168 hF163
                            clear hF163
                            refine seq_region tabOk h167 [2] [] [(2, .v (.int .i64 6))] [] (by kernel_rfl) fun β170 a171 w172 h173 => ?_
                            clear h167
                            refine wp_ret ?_
                            refine hr129 _ _ ?_
                            refine hr109 _ _ ?_
                            refine hr108 _ _ ?_
                            refine hr55 _ _ ?_
                            refine hrb55 _ _ ?_
                            refine hr50 _ _ ?_
                            refine hr _ _ ?_
                            obtain rfl := Option.some.inj hF169
                            obtain rfl := Option.some.inj hC55
                            exact ret1_ok h173 rfl rfl (isV_int.2 rfl)
                          · skip
                            have hF174 := ifF hb168 hF163
                            clear hF163
                            refine wp_skip ?_
                            refine hn129 _ _ ?_
                            refine hn109 _ _ ?_
                            refine hn108 _ _ ?_
                            refine evalR_ok tabOk h167 [1, 37, 38, 39] [1] [(1, .o 1 0), (37, .v (.slice A1 (List.length x0.Posts) c2)), (38, .v (.int .i64 (List.length x0.Posts : Int))), (39, .v (.int .i64 (IntKind.wrap .i64 (i93 + 1))))] [(1, ⟨[.int .i64 x0.At, strV x0.Text, .slice A1 (List.length x0.Posts) c2], 24⟩)] (by kernel_rfl) fun β175 a176 w177 h178 => ?_
                            clear h167
                            have h179 : Sb β175 (cx 90 ok w) [(1, .o 1 0), (37, .v (.slice A1 (List.length x0.Posts) c2)), (38, .v (.int .i64 (List.length x0.Posts : Int))), (39, .v (.int .i64 (IntKind.wrap .i64 (i93 + 1))))] [DF.v (rSl rApiPost) x0.Posts (.slice A1 (List.length x0.Posts) c2)] [(1, ⟨[.int .i64 x0.At, strV x0.Text, .slice A1 (List.length x0.Posts) c2], 24⟩)] [] a176 w177 := (h178).sel [1, 37, 38, 39] [0] [1]
                            exact hn55 _ _ _ (Nat.lt_succ_self _) ⟨(IntKind.wrap .i64 (i93 + 1)), ⟨_, h179⟩, hF174⟩
                        · skip
                          refine region_ok ?_
                          refine evalS_ok tabOk h152 4 [1, 4, 37, 38, 39, 79] [1, 4] [(1, .o 1 0), (4, .o 4 0), (37, .v (.slice A1 (List.length x0.Posts) c2)), (38, .v (.int .i64 (List.length x0.Posts : Int))), (39, .v (.int .i64 i93)), (79, .v (.bool (x115.Amount == 0)))] [(1, ⟨[.int .i64 x0.At, strV x0.Text, .slice A1 (List.length x0.Posts) c2], 24⟩), (4, ⟨[strV x115.Account, .int .i64 x115.Amount], 38⟩)] (by kernel_rfl) fun β180 a181 w182 h183 => ?_
                          clear h152
                          refine bcases (b := (x115.Amount == 0)) (fun hb184 => ?_) (fun hb184 => ?_)
                          · skip
                            have hv185 := ifT hb184 hv162
                            clear hv162
                            have h186 := h183.reb (t := 79) rfl hb184
                            clear h183
                            refine evalS_ok tabOk h186 6 [1, 37, 38, 39, 75] [1] [(1, .o 1 0), (37, .v (.slice A1 (List.length x0.Posts) c2)), (38, .v (.int .i64 (List.length x0.Posts : Int))), (39, .v (.int .i64 i93)), (75, .v (.bool true))] [(1, ⟨[.int .i64 x0.At, strV x0.Text, .slice A1 (List.length x0.Posts) c2], 24⟩)] (by kernel_rfl) fun β187 a188 w189 h190 => ?_
                            clear h186
                            obtain rfl := Option.some.inj hv185
                            have h191 : Sb β187 (cx 90 ok w) [(1, .o 1 0), (37, .v (.slice A1 (List.length x0.Posts) c2)), (38, .v (.int .i64 (List.length x0.Posts : Int))), (39, .v (.int .i64 i93)), (75, .v (.bool true))] [DF.v (rSl rApiPost) x0.Posts (.slice A1 (List.length x0.Posts) c2)] [(1, ⟨[.int .i64 x0.At, strV x0.Text, .slice A1 (List.length x0.Posts) c2], 24⟩)] [] a188 w189 := h190.sel [1, 37, 38, 39, 75] [0] [1]
                            clear h190
                            exact wpl_end (then_n ⟨_, h191⟩)
                          · skip
                            have hv192 := ifF hb184 hv162
                            clear hv162
                            have h193 := h183.reb (t := 79) rfl hb184
                            clear h183
                            refine evalS_ok tabOk h193 2 [1, 37, 38, 39, 79, 81] [1] [(1, .o 1 0), (37, .v (.slice A1 (List.length x0.Posts) c2)), (38, .v (.int .i64 (List.length x0.Posts : Int))), (39, .v (.int .i64 i93)), (79, .v (.bool false)), (81, .v (.int .i64 x115.Amount))] [(1, ⟨[.int .i64 x0.At, strV x0.Text, .slice A1 (List.length x0.Posts) c2], 24⟩)] (by kernel_rfl) fun β194 a195 w196 h197 => ?_
                            clear h193
                            obtain ⟨y198, hy198, hv199⟩ := bindE hv192
                            clear hv192
                            refine step_call h197 rfl rfl runs25 (vs := [(.int .i64 x115.Amount)]) (by kernel_rfl) (c_amount_Valid (x0 := x115.Amount) h197.okLt N hy198) fun v200 a203 w204 hR201 hk202 h205 => ?_
                            clear h197
                            have hv206 := isV.weak hR201 hk202
                            obtain rfl := isV_bool.1 hv206
                            refine evalS_ok tabOk h205 3 [1, 37, 38, 39, 75] [1] [(1, .o 1 0), (37, .v (.slice A1 (List.length x0.Posts) c2)), (38, .v (.int .i64 (List.length x0.Posts : Int))), (39, .v (.int .i64 i93)), (75, .v (.bool (!y198)))] [(1, ⟨[.int .i64 x0.At, strV x0.Text, .slice A1 (List.length x0.Posts) c2], 24⟩)] (by kernel_rfl) fun β207 a208 w209 h210 => ?_
                            clear h205
                            obtain rfl := Option.some.inj hv199
                            have h211 : Sb β207 (cx 90 ok w) [(1, .o 1 0), (37, .v (.slice A1 (List.length x0.Posts) c2)), (38, .v (.int .i64 (List.length x0.Posts : Int))), (39, .v (.int .i64 i93)), (75, .v (.bool (!y198)))] [DF.v (rSl rApiPost) x0.Posts (.slice A1 (List.length x0.Posts) c2)] [(1, ⟨[.int .i64 x0.At, strV x0.Text, .slice A1 (List.length x0.Posts) c2], 24⟩)] [] a208 w209 := h210.sel [1, 37, 38, 39, 75] [0] [1]
                            clear h210
                            exact wpl_end (then_n ⟨_, h211⟩)
                    · skip
                      refine bcases (b := (decide (i93 > 0))) (fun hb212 => ?_) (fun hb212 => ?_)
                      · skip
                        have hv213 := ifT hb212 hv147
                        clear hv147
                        obtain ⟨x214, hx214, hv215⟩ := bindE hv213
                        clear hv213
                        have h217 : Sb β136 (cx 90 ok w) [(1, .o 1 0), (3, .v (.int .i64 i93)), (4, .o 4 0), (37, .v (.slice A1 (List.length x0.Posts) c2)), (38, .v (.int .i64 (List.length x0.Posts : Int))), (39, .v (.int .i64 i93))] [DF.v (rSl rApiPost) x0.Posts (.slice A1 (List.length x0.Posts) c2)] [(1, ⟨[.int .i64 x0.At, strV x0.Text, .slice A1 (List.length x0.Posts) c2], 24⟩), (4, ⟨[strV x115.Account, .int .i64 x115.Amount], 38⟩)] [] a134 w135 := h137.sel [1, 3, 4, 37, 38, 39] [0] [1, 4]
                        refine draw_rule h217 rfl (by kernel_rfl) 14 [61, 62, 63, 64, 65, 66, 67, 68, 69, 70, 71, 72, 73, 74] [FV.eq (.int .i64 i93), FV.eq (.bool (decide (i93 > 0))), FV.eq (.bool (decide (i93 > 0))), FV.eq (.pointer (some ⟨β136 1, 2, none⟩)), FV.eq (.slice A1 (List.length x0.Posts) c2), FV.eq (.int .i64 i93), FV.eq (.int .i64 (IntKind.wrap .i64 (i93 - 1))), FV.at rApiPost x214, FV.at rStr x214.Account, FV.eq (strV x214.Account), FV.eq (.pointer (some ⟨β136 4, 0, none⟩)), FV.eq (strV x115.Account), FV.eq (.bool (!(Op.bytesLess x214.Account x115.Account))), FV.eq (.bool (!(Op.bytesLess x214.Account x115.Account)))] rfl rfl rfl (by kernel_rfl) (by kernel_rfl) (by kernel_rfl) (by kernel_rfl) (by kernel_rfl) ?_ ?_
                        · skip
                          refine ⟨⟨⟨⟨⟨⟨⟨⟨⟨⟨⟨⟨⟨⟨trivial, ?_⟩, ?_⟩, ?_⟩, ?_⟩, ?_⟩, ?_⟩, ?_⟩, ?_⟩, ?_⟩, ?_⟩, ?_⟩, ?_⟩, ?_⟩, ?_⟩
                          · skip
                            intro β218 a219 w220 dX221 Ox222 Q223 h224 hq225 hp226 hk227
                            refine evalS_ok tabOk h224 1 [1, 3, 4, 37, 38, 39, 61] [1, 4] [(1, .o 1 0), (3, .v (.int .i64 i93)), (4, .o 4 0), (37, .v (.slice A1 (List.length x0.Posts) c2)), (38, .v (.int .i64 (List.length x0.Posts : Int))), (39, .v (.int .i64 i93)), (61, .v (.int .i64 i93))] [(1, ⟨[.int .i64 x0.At, strV x0.Text, .slice A1 (List.length x0.Posts) c2], 24⟩), (4, ⟨[strV x115.Account, .int .i64 x115.Amount], 38⟩)] (by kernel_rfl) fun β228 a229 w230 h231 => ?_
                            exact wpl_end (hk227 _ _ _ _ (h231.sel [1, 3, 4, 37, 38, 39] [0, 1] [1, 4]) (h231.getD rfl) rfl)
                          · skip
                            intro β232 a233 w234 dX235 Ox236 Q237 h238 hq239 hp240 hk241
                            have h242 := h238.learnE (d := 61) rfl (hp240 0 61 _ rfl rfl rfl)
                            clear h238
                            refine evalS_ok tabOk h242 1 [1, 3, 4, 37, 38, 39, 62] [1, 4] [(1, .o 1 0), (3, .v (.int .i64 i93)), (4, .o 4 0), (37, .v (.slice A1 (List.length x0.Posts) c2)), (38, .v (.int .i64 (List.length x0.Posts : Int))), (39, .v (.int .i64 i93)), (62, .v (.bool (decide (i93 > 0))))] [(1, ⟨[.int .i64 x0.At, strV x0.Text, .slice A1 (List.length x0.Posts) c2], 24⟩), (4, ⟨[strV x115.Account, .int .i64 x115.Amount], 38⟩)] (by kernel_rfl) fun β243 a244 w245 h246 => ?_
                            exact wpl_end (hk241 _ _ _ _ (h246.sel [1, 3, 4, 37, 38, 39] [0, 1] [1, 4]) (h246.getD rfl) rfl)
                          · skip
                            intro β247 a248 w249 dX250 Ox251 Q252 h253 hq254 hp255 hk256
                            have h257 := h253.learnE (d := 62) rfl (hp255 1 62 _ rfl rfl rfl)
                            clear h253
                            refine evalS_ok tabOk h257 1 [1, 3, 4, 37, 38, 39, 63] [1, 4] [(1, .o 1 0), (3, .v (.int .i64 i93)), (4, .o 4 0), (37, .v (.slice A1 (List.length x0.Posts) c2)), (38, .v (.int .i64 (List.length x0.Posts : Int))), (39, .v (.int .i64 i93)), (63, .v (.bool (decide (i93 > 0))))] [(1, ⟨[.int .i64 x0.At, strV x0.Text, .slice A1 (List.length x0.Posts) c2], 24⟩), (4, ⟨[strV x115.Account, .int .i64 x115.Amount], 38⟩)] (by kernel_rfl) fun β258 a259 w260 h261 => ?_
                            exact wpl_end (hk256 _ _ _ _ (h261.sel [1, 3, 4, 37, 38, 39] [0, 1] [1, 4]) (h261.getD rfl) rfl)
                          · skip
                            intro β262 a263 w264 dX265 Ox266 Q267 h268 hq269 hp270 hk271
                            have h272 := h268.learnE (d := 63) rfl (hp270 2 63 _ rfl rfl rfl)
                            clear h268
                            have h273 := h272.reb (t := 63) rfl hb212
                            clear h272
                            refine evalS_ok tabOk h273 1 [1, 3, 4, 37, 38, 39, 64] [1, 4] [(1, .o 1 0), (3, .v (.int .i64 i93)), (4, .o 4 0), (37, .v (.slice A1 (List.length x0.Posts) c2)), (38, .v (.int .i64 (List.length x0.Posts : Int))), (39, .v (.int .i64 i93)), (64, .o 1 2)] [(1, ⟨[.int .i64 x0.At, strV x0.Text, .slice A1 (List.length x0.Posts) c2], 24⟩), (4, ⟨[strV x115.Account, .int .i64 x115.Amount], 38⟩)] (by kernel_rfl) fun β274 a275 w276 h277 => ?_
                            exact wpl_end (hk271 _ _ _ _ (h277.sel [1, 3, 4, 37, 38, 39] [0, 1] [1, 4]) (h277.getO rfl rfl rfl) rfl)
                          · skip
                            intro β278 a279 w280 dX281 Ox282 Q283 h284 hq285 hp286 hk287
                            have h288 := h284.learnE (d := 63) rfl (hp286 2 63 _ rfl rfl rfl)
                            clear h284
                            have h289 := h288.reb (t := 63) rfl hb212
                            clear h288
                            have h290 := h289.learnO (d := 64) (id := 1) (off := 2) rfl rfl rfl (hp286 3 64 _ rfl rfl rfl)
                            clear h289
                            refine evalS_ok tabOk h290 1 [1, 3, 4, 37, 38, 39, 65] [1, 4] [(1, .o 1 0), (3, .v (.int .i64 i93)), (4, .o 4 0), (37, .v (.slice A1 (List.length x0.Posts) c2)), (38, .v (.int .i64 (List.length x0.Posts : Int))), (39, .v (.int .i64 i93)), (65, .v (.slice A1 (List.length x0.Posts) c2))] [(1, ⟨[.int .i64 x0.At, strV x0.Text, .slice A1 (List.length x0.Posts) c2], 24⟩), (4, ⟨[strV x115.Account, .int .i64 x115.Amount], 38⟩)] (by kernel_rfl) fun β291 a292 w293 h294 => ?_
                            exact wpl_end (hk287 _ _ _ _ (h294.sel [1, 3, 4, 37, 38, 39] [0, 1] [1, 4]) (h294.getD rfl) rfl)
                          · skip
                            intro β295 a296 w297 dX298 Ox299 Q300 h301 hq302 hp303 hk304
                            have h305 := h301.learnE (d := 63) rfl (hp303 2 63 _ rfl rfl rfl)
                            clear h301
                            have h306 := h305.reb (t := 63) rfl hb212
                            clear h305
                            refine evalS_ok tabOk h306 1 [1, 3, 4, 37, 38, 39, 66] [1, 4] [(1, .o 1 0), (3, .v (.int .i64 i93)), (4, .o 4 0), (37, .v (.slice A1 (List.length x0.Posts) c2)), (38, .v (.int .i64 (List.length x0.Posts : Int))), (39, .v (.int .i64 i93)), (66, .v (.int .i64 i93))] [(1, ⟨[.int .i64 x0.At, strV x0.Text, .slice A1 (List.length x0.Posts) c2], 24⟩), (4, ⟨[strV x115.Account, .int .i64 x115.Amount], 38⟩)] (by kernel_rfl) fun β307 a308 w309 h310 => ?_
                            exact wpl_end (hk304 _ _ _ _ (h310.sel [1, 3, 4, 37, 38, 39] [0, 1] [1, 4]) (h310.getD rfl) rfl)
                          · skip
                            intro β311 a312 w313 dX314 Ox315 Q316 h317 hq318 hp319 hk320
                            have h321 := h317.learnE (d := 63) rfl (hp319 2 63 _ rfl rfl rfl)
                            clear h317
                            have h322 := h321.reb (t := 63) rfl hb212
                            clear h321
                            have h323 := h322.learnE (d := 66) rfl (hp319 5 66 _ rfl rfl rfl)
                            clear h322
                            refine evalS_ok tabOk h323 1 [1, 3, 4, 37, 38, 39, 67] [1, 4] [(1, .o 1 0), (3, .v (.int .i64 i93)), (4, .o 4 0), (37, .v (.slice A1 (List.length x0.Posts) c2)), (38, .v (.int .i64 (List.length x0.Posts : Int))), (39, .v (.int .i64 i93)), (67, .v (.int .i64 (IntKind.wrap .i64 (i93 - 1))))] [(1, ⟨[.int .i64 x0.At, strV x0.Text, .slice A1 (List.length x0.Posts) c2], 24⟩), (4, ⟨[strV x115.Account, .int .i64 x115.Amount], 38⟩)] (by kernel_rfl) fun β324 a325 w326 h327 => ?_
                            exact wpl_end (hk320 _ _ _ _ (h327.sel [1, 3, 4, 37, 38, 39] [0, 1] [1, 4]) (h327.getD rfl) rfl)
                          · skip
                            intro β328 a329 w330 dX331 Ox332 Q333 h334 hq335 hp336 hk337
                            have h338 := h334.learnE (d := 63) rfl (hp336 2 63 _ rfl rfl rfl)
                            clear h334
                            have h339 := h338.reb (t := 63) rfl hb212
                            clear h338
                            have h340 := h339.learnE (d := 65) rfl (hp336 4 65 _ rfl rfl rfl)
                            clear h339
                            have h341 := h340.learnE (d := 67) rfl (hp336 6 67 _ rfl rfl rfl)
                            clear h340
                            refine step_idx tabOk h341 1 rfl rfl rfl rfl rfl hx214 tb22 rfl tb38 rfl fun p342 a343 h344 => ?_
                            clear h341
                            exact wpl_end (hk337 _ _ _ _ (h344.sel [1, 3, 4, 37, 38, 39] [1, 2] [1, 4]) (h344.getA rfl (h344.d 0 rfl)) rfl)
                          · skip
                            intro β345 a346 w347 dX348 Ox349 Q350 h351 hq352 hp353 hk354
                            have h355 := h351.learnE (d := 63) rfl (hp353 2 63 _ rfl rfl rfl)
                            clear h351
                            have h356 := h355.reb (t := 63) rfl hb212
                            clear h355
                            have h357 := h356.learn (d := 68) rfl
                            clear h356
                            have f358 := hp353 7 68 _ rfl rfl rfl
                            generalize a346.tmps.getD 68 undef = v359 at h357 f358
                            have h360 := h357.addD (d := DF.at rApiPost x214 (v359)) f358
                            clear h357
                            refine step_field tabOk h360 0 rfl rfl rfl rfl tb38 rfl rfl rfl fun p361 a362 (h363 : Sb β345 _ _ (DF.at rStr x214.Account (p361) :: _) _ _ a362 w347) => ?_
                            clear h360
                            exact wpl_end (hk354 _ _ _ _ (h363.sel [1, 3, 4, 37, 38, 39] [2, 3] [1, 4]) (h363.getA rfl (h363.d 0 rfl)) rfl)
                          · skip
                            intro β364 a365 w366 dX367 Ox368 Q369 h370 hq371 hp372 hk373
                            have h374 := h370.learnE (d := 63) rfl (hp372 2 63 _ rfl rfl rfl)
                            clear h370
                            have h375 := h374.reb (t := 63) rfl hb212
                            clear h374
                            have h376 := h375.learn (d := 69) rfl
                            clear h375
                            have f377 := hp372 8 69 _ rfl rfl rfl
                            generalize a365.tmps.getD 69 undef = v378 at h376 f377
                            have h379 := h376.addD (d := DF.at rStr x214.Account (v378)) f377
                            clear h376
                            refine step_load tabOk h379 0 rfl rfl rfl rfl tb9 rfl rfl fun v380 a382 hv381 h383 => ?_
                            clear h379
                            obtain rfl := isV_str.1 hv381
                            exact wpl_end (hk373 _ _ _ _ (h383.sel [1, 3, 4, 37, 38, 39] [2, 3] [1, 4]) (h383.getD rfl) rfl)
                          · skip
                            intro β384 a385 w386 dX387 Ox388 Q389 h390 hq391 hp392 hk393
                            have h394 := h390.learnE (d := 63) rfl (hp392 2 63 _ rfl rfl rfl)
                            clear h390
                            have h395 := h394.reb (t := 63) rfl hb212
                            clear h394
                            refine evalS_ok tabOk h395 1 [1, 3, 4, 37, 38, 39, 71] [1, 4] [(1, .o 1 0), (3, .v (.int .i64 i93)), (4, .o 4 0), (37, .v (.slice A1 (List.length x0.Posts) c2)), (38, .v (.int .i64 (List.length x0.Posts : Int))), (39, .v (.int .i64 i93)), (71, .o 4 0)] [(1, ⟨[.int .i64 x0.At, strV x0.Text, .slice A1 (List.length x0.Posts) c2], 24⟩), (4, ⟨[strV x115.Account, .int .i64 x115.Amount], 38⟩)] (by kernel_rfl) fun β396 a397 w398 h399 => ?_
                            exact wpl_end (hk393 _ _ _ _ (h399.sel [1, 3, 4, 37, 38, 39] [0, 1] [1, 4]) (h399.getO rfl rfl rfl) rfl)
                          · skip
                            intro β400 a401 w402 dX403 Ox404 Q405 h406 hq407 hp408 hk409
                            have h410 := h406.learnE (d := 63) rfl (hp408 2 63 _ rfl rfl rfl)
                            clear h406
                            have h411 := h410.reb (t := 63) rfl hb212
                            clear h410
                            have h412 := h411.learnO (d := 71) (id := 4) (off := 0) rfl rfl rfl (hp408 10 71 _ rfl rfl rfl)
                            clear h411
                            refine evalS_ok tabOk h412 1 [1, 3, 4, 37, 38, 39, 72] [1, 4] [(1, .o 1 0), (3, .v (.int .i64 i93)), (4, .o 4 0), (37, .v (.slice A1 (List.length x0.Posts) c2)), (38, .v (.int .i64 (List.length x0.Posts : Int))), (39, .v (.int .i64 i93)), (72, .v (strV x115.Account))] [(1, ⟨[.int .i64 x0.At, strV x0.Text, .slice A1 (List.length x0.Posts) c2], 24⟩), (4, ⟨[strV x115.Account, .int .i64 x115.Amount], 38⟩)] (by kernel_rfl) fun β413 a414 w415 h416 => ?_
                            exact wpl_end (hk409 _ _ _ _ (h416.sel [1, 3, 4, 37, 38, 39] [0, 1] [1, 4]) (h416.getD rfl) rfl)
                          · skip
                            intro β417 a418 w419 dX420 Ox421 Q422 h423 hq424 hp425 hk426
                            have h427 := h423.learnE (d := 63) rfl (hp425 2 63 _ rfl rfl rfl)
                            clear h423
                            have h428 := h427.reb (t := 63) rfl hb212
                            clear h427
                            have h429 := h428.learnE (d := 70) rfl (hp425 9 70 _ rfl rfl rfl)
                            clear h428
                            have h430 := h429.learnE (d := 72) rfl (hp425 11 72 _ rfl rfl rfl)
                            clear h429
                            refine evalS_ok tabOk h430 1 [1, 3, 4, 37, 38, 39, 73] [1, 4] [(1, .o 1 0), (3, .v (.int .i64 i93)), (4, .o 4 0), (37, .v (.slice A1 (List.length x0.Posts) c2)), (38, .v (.int .i64 (List.length x0.Posts : Int))), (39, .v (.int .i64 i93)), (73, .v (.bool (!(Op.bytesLess x214.Account x115.Account))))] [(1, ⟨[.int .i64 x0.At, strV x0.Text, .slice A1 (List.length x0.Posts) c2], 24⟩), (4, ⟨[strV x115.Account, .int .i64 x115.Amount], 38⟩)] (by kernel_rfl) fun β431 a432 w433 h434 => ?_
                            exact wpl_end (hk426 _ _ _ _ (h434.sel [1, 3, 4, 37, 38, 39] [0, 1] [1, 4]) (h434.getD rfl) rfl)
                          · skip
                            intro β435 a436 w437 dX438 Ox439 Q440 h441 hq442 hp443 hk444
                            have h445 := h441.learnE (d := 63) rfl (hp443 2 63 _ rfl rfl rfl)
                            clear h441
                            have h446 := h445.reb (t := 63) rfl hb212
                            clear h445
                            have h447 := h446.learnE (d := 73) rfl (hp443 12 73 _ rfl rfl rfl)
                            clear h446
                            refine evalS_ok tabOk h447 1 [1, 3, 4, 37, 38, 39, 74] [1, 4] [(1, .o 1 0), (3, .v (.int .i64 i93)), (4, .o 4 0), (37, .v (.slice A1 (List.length x0.Posts) c2)), (38, .v (.int .i64 (List.length x0.Posts : Int))), (39, .v (.int .i64 i93)), (74, .v (.bool (!(Op.bytesLess x214.Account x115.Account))))] [(1, ⟨[.int .i64 x0.At, strV x0.Text, .slice A1 (List.length x0.Posts) c2], 24⟩), (4, ⟨[strV x115.Account, .int .i64 x115.Amount], 38⟩)] (by kernel_rfl) fun β448 a449 w450 h451 => ?_
                            exact wpl_end (hk444 _ _ _ _ (h451.sel [1, 3, 4, 37, 38, 39] [0, 1] [1, 4]) (h451.getD rfl) rfl)
                        · skip
                          intro β452 a453 w454 h455 ha456
                          have h457 := h455.learnE (d := 74) rfl (ha456 13 74 _ rfl rfl)
                          clear h455
                          have h458 := h457.unpin rfl
                          clear h457
                          refine evalS_ok tabOk h458 1 [1, 4, 37, 38, 39, 60] [1, 4] [(1, .o 1 0), (4, .o 4 0), (37, .v (.slice A1 (List.length x0.Posts) c2)), (38, .v (.int .i64 (List.length x0.Posts : Int))), (39, .v (.int .i64 i93)), (60, .v (.bool (!(Op.bytesLess x214.Account x115.Account))))] [(1, ⟨[.int .i64 x0.At, strV x0.Text, .slice A1 (List.length x0.Posts) c2], 24⟩), (4, ⟨[strV x115.Account, .int .i64 x115.Amount], 38⟩)] (by kernel_rfl) fun β459 a460 w461 h462 => ?_
                          clear h458
                          obtain rfl := Option.some.inj hv215
                          have h463 : Sb β459 (cx 90 ok w) [(1, .o 1 0), (4, .o 4 0), (37, .v (.slice A1 (List.length x0.Posts) c2)), (38, .v (.int .i64 (List.length x0.Posts : Int))), (39, .v (.int .i64 i93)), (60, .v (.bool (!(Op.bytesLess x214.Account x115.Account))))] [DF.v (rSl rApiPost) x0.Posts (.slice A1 (List.length x0.Posts) c2)] [(1, ⟨[.int .i64 x0.At, strV x0.Text, .slice A1 (List.length x0.Posts) c2], 24⟩), (4, ⟨[strV x115.Account, .int .i64 x115.Amount], 38⟩)] [] a460 w461 := h462.sel [1, 4, 37, 38, 39, 60] [0] [1, 4]
                          clear h462
                          exact wpl_end (then_n ⟨_, h463⟩)
                      · skip
                        have hv464 := ifF hb212 hv147
                        clear hv147
                        have h466 : Sb β136 (cx 90 ok w) [(1, .o 1 0), (3, .v (.int .i64 i93)), (4, .o 4 0), (37, .v (.slice A1 (List.length x0.Posts) c2)), (38, .v (.int .i64 (List.length x0.Posts : Int))), (39, .v (.int .i64 i93))] [DF.v (rSl rApiPost) x0.Posts (.slice A1 (List.length x0.Posts) c2)] [(1, ⟨[.int .i64 x0.At, strV x0.Text, .slice A1 (List.length x0.Posts) c2], 24⟩), (4, ⟨[strV x115.Account, .int .i64 x115.Amount], 38⟩)] [] a134 w135 := h137.sel [1, 3, 4, 37, 38, 39] [0] [1, 4]
                        refine draw_rule h466 rfl (by kernel_rfl) 14 [61, 62, 63, 64, 65, 66, 67, 68, 69, 70, 71, 72, 73, 74] [FV.eq (.int .i64 i93), FV.eq (.bool (decide (i93 > 0))), FV.eq (.bool (decide (i93 > 0))), FV.any, FV.any, FV.any, FV.any, FV.any, FV.any, FV.any, FV.any, FV.any, FV.any, FV.eq (.bool false)] rfl rfl rfl (by kernel_rfl) (by kernel_rfl) (by kernel_rfl) (by kernel_rfl) (by kernel_rfl) ?_ ?_
                        · skip
                          refine ⟨⟨⟨⟨⟨⟨⟨⟨⟨⟨⟨⟨⟨⟨trivial, ?_⟩, ?_⟩, ?_⟩, ?_⟩, ?_⟩, ?_⟩, ?_⟩, ?_⟩, ?_⟩, ?_⟩, ?_⟩, ?_⟩, ?_⟩, ?_⟩
                          · skip
                            intro β467 a468 w469 dX470 Ox471 Q472 h473 hq474 hp475 hk476
                            refine evalS_ok tabOk h473 1 [1, 3, 4, 37, 38, 39, 61] [1, 4] [(1, .o 1 0), (3, .v (.int .i64 i93)), (4, .o 4 0), (37, .v (.slice A1 (List.length x0.Posts) c2)), (38, .v (.int .i64 (List.length x0.Posts : Int))), (39, .v (.int .i64 i93)), (61, .v (.int .i64 i93))] [(1, ⟨[.int .i64 x0.At, strV x0.Text, .slice A1 (List.length x0.Posts) c2], 24⟩), (4, ⟨[strV x115.Account, .int .i64 x115.Amount], 38⟩)] (by kernel_rfl) fun β477 a478 w479 h480 => ?_
                            exact wpl_end (hk476 _ _ _ _ (h480.sel [1, 3, 4, 37, 38, 39] [0, 1] [1, 4]) (h480.getD rfl) rfl)
                          · skip
                            intro β481 a482 w483 dX484 Ox485 Q486 h487 hq488 hp489 hk490
                            have h491 := h487.learnE (d := 61) rfl (hp489 0 61 _ rfl rfl rfl)
                            clear h487
                            refine evalS_ok tabOk h491 1 [1, 3, 4, 37, 38, 39, 62] [1, 4] [(1, .o 1 0), (3, .v (.int .i64 i93)), (4, .o 4 0), (37, .v (.slice A1 (List.length x0.Posts) c2)), (38, .v (.int .i64 (List.length x0.Posts : Int))), (39, .v (.int .i64 i93)), (62, .v (.bool (decide (i93 > 0))))] [(1, ⟨[.int .i64 x0.At, strV x0.Text, .slice A1 (List.length x0.Posts) c2], 24⟩), (4, ⟨[strV x115.Account, .int .i64 x115.Amount], 38⟩)] (by kernel_rfl) fun β492 a493 w494 h495 => ?_
                            exact wpl_end (hk490 _ _ _ _ (h495.sel [1, 3, 4, 37, 38, 39] [0, 1] [1, 4]) (h495.getD rfl) rfl)
                          · skip
                            intro β496 a497 w498 dX499 Ox500 Q501 h502 hq503 hp504 hk505
                            have h506 := h502.learnE (d := 62) rfl (hp504 1 62 _ rfl rfl rfl)
                            clear h502
                            refine evalS_ok tabOk h506 1 [1, 3, 4, 37, 38, 39, 63] [1, 4] [(1, .o 1 0), (3, .v (.int .i64 i93)), (4, .o 4 0), (37, .v (.slice A1 (List.length x0.Posts) c2)), (38, .v (.int .i64 (List.length x0.Posts : Int))), (39, .v (.int .i64 i93)), (63, .v (.bool (decide (i93 > 0))))] [(1, ⟨[.int .i64 x0.At, strV x0.Text, .slice A1 (List.length x0.Posts) c2], 24⟩), (4, ⟨[strV x115.Account, .int .i64 x115.Amount], 38⟩)] (by kernel_rfl) fun β507 a508 w509 h510 => ?_
                            exact wpl_end (hk505 _ _ _ _ (h510.sel [1, 3, 4, 37, 38, 39] [0, 1] [1, 4]) (h510.getD rfl) rfl)
                          · skip
                            intro β511 a512 w513 dX514 Ox515 Q516 h517 hq518 hp519 hk520
                            have h521 := h517.learnE (d := 63) rfl (hp519 2 63 _ rfl rfl rfl)
                            clear h517
                            have h522 := h521.reb (t := 63) rfl hb212
                            clear h521
                            refine evalS_ok tabOk h522 1 [1, 3, 4, 37, 38, 39] [1, 4] [(1, .o 1 0), (3, .v (.int .i64 i93)), (4, .o 4 0), (37, .v (.slice A1 (List.length x0.Posts) c2)), (38, .v (.int .i64 (List.length x0.Posts : Int))), (39, .v (.int .i64 i93))] [(1, ⟨[.int .i64 x0.At, strV x0.Text, .slice A1 (List.length x0.Posts) c2], 24⟩), (4, ⟨[strV x115.Account, .int .i64 x115.Amount], 38⟩)] (by kernel_rfl) fun β523 a524 w525 h526 => ?_
                            exact wpl_end (hk520 _ _ _ _ (h526.sel [1, 3, 4, 37, 38, 39] [0, 1] [1, 4]) trivial rfl)
                          · skip
                            intro β527 a528 w529 dX530 Ox531 Q532 h533 hq534 hp535 hk536
                            have h537 := h533.learnE (d := 63) rfl (hp535 2 63 _ rfl rfl rfl)
                            clear h533
                            have h538 := h537.reb (t := 63) rfl hb212
                            clear h537
                            refine evalS_ok tabOk h538 1 [1, 3, 4, 37, 38, 39] [1, 4] [(1, .o 1 0), (3, .v (.int .i64 i93)), (4, .o 4 0), (37, .v (.slice A1 (List.length x0.Posts) c2)), (38, .v (.int .i64 (List.length x0.Posts : Int))), (39, .v (.int .i64 i93))] [(1, ⟨[.int .i64 x0.At, strV x0.Text, .slice A1 (List.length x0.Posts) c2], 24⟩), (4, ⟨[strV x115.Account, .int .i64 x115.Amount], 38⟩)] (by kernel_rfl) fun β539 a540 w541 h542 => ?_
                            exact wpl_end (hk536 _ _ _ _ (h542.sel [1, 3, 4, 37, 38, 39] [0, 1] [1, 4]) trivial rfl)
                          · skip
                            intro β543 a544 w545 dX546 Ox547 Q548 h549 hq550 hp551 hk552
                            have h553 := h549.learnE (d := 63) rfl (hp551 2 63 _ rfl rfl rfl)
                            clear h549
                            have h554 := h553.reb (t := 63) rfl hb212
                            clear h553
                            refine evalS_ok tabOk h554 1 [1, 3, 4, 37, 38, 39] [1, 4] [(1, .o 1 0), (3, .v (.int .i64 i93)), (4, .o 4 0), (37, .v (.slice A1 (List.length x0.Posts) c2)), (38, .v (.int .i64 (List.length x0.Posts : Int))), (39, .v (.int .i64 i93))] [(1, ⟨[.int .i64 x0.At, strV x0.Text, .slice A1 (List.length x0.Posts) c2], 24⟩), (4, ⟨[strV x115.Account, .int .i64 x115.Amount], 38⟩)] (by kernel_rfl) fun β555 a556 w557 h558 => ?_
                            exact wpl_end (hk552 _ _ _ _ (h558.sel [1, 3, 4, 37, 38, 39] [0, 1] [1, 4]) trivial rfl)
                          · skip
                            intro β559 a560 w561 dX562 Ox563 Q564 h565 hq566 hp567 hk568
                            have h569 := h565.learnE (d := 63) rfl (hp567 2 63 _ rfl rfl rfl)
                            clear h565
                            have h570 := h569.reb (t := 63) rfl hb212
                            clear h569
                            refine evalS_ok tabOk h570 1 [1, 3, 4, 37, 38, 39] [1, 4] [(1, .o 1 0), (3, .v (.int .i64 i93)), (4, .o 4 0), (37, .v (.slice A1 (List.length x0.Posts) c2)), (38, .v (.int .i64 (List.length x0.Posts : Int))), (39, .v (.int .i64 i93))] [(1, ⟨[.int .i64 x0.At, strV x0.Text, .slice A1 (List.length x0.Posts) c2], 24⟩), (4, ⟨[strV x115.Account, .int .i64 x115.Amount], 38⟩)] (by kernel_rfl) fun β571 a572 w573 h574 => ?_
                            exact wpl_end (hk568 _ _ _ _ (h574.sel [1, 3, 4, 37, 38, 39] [0, 1] [1, 4]) trivial rfl)
                          · skip
                            intro β575 a576 w577 dX578 Ox579 Q580 h581 hq582 hp583 hk584
                            have h585 := h581.learnE (d := 63) rfl (hp583 2 63 _ rfl rfl rfl)
                            clear h581
                            have h586 := h585.reb (t := 63) rfl hb212
                            clear h585
                            refine evalS_ok tabOk h586 1 [1, 3, 4, 37, 38, 39] [1, 4] [(1, .o 1 0), (3, .v (.int .i64 i93)), (4, .o 4 0), (37, .v (.slice A1 (List.length x0.Posts) c2)), (38, .v (.int .i64 (List.length x0.Posts : Int))), (39, .v (.int .i64 i93))] [(1, ⟨[.int .i64 x0.At, strV x0.Text, .slice A1 (List.length x0.Posts) c2], 24⟩), (4, ⟨[strV x115.Account, .int .i64 x115.Amount], 38⟩)] (by kernel_rfl) fun β587 a588 w589 h590 => ?_
                            exact wpl_end (hk584 _ _ _ _ (h590.sel [1, 3, 4, 37, 38, 39] [0, 1] [1, 4]) trivial rfl)
                          · skip
                            intro β591 a592 w593 dX594 Ox595 Q596 h597 hq598 hp599 hk600
                            have h601 := h597.learnE (d := 63) rfl (hp599 2 63 _ rfl rfl rfl)
                            clear h597
                            have h602 := h601.reb (t := 63) rfl hb212
                            clear h601
                            refine evalS_ok tabOk h602 1 [1, 3, 4, 37, 38, 39] [1, 4] [(1, .o 1 0), (3, .v (.int .i64 i93)), (4, .o 4 0), (37, .v (.slice A1 (List.length x0.Posts) c2)), (38, .v (.int .i64 (List.length x0.Posts : Int))), (39, .v (.int .i64 i93))] [(1, ⟨[.int .i64 x0.At, strV x0.Text, .slice A1 (List.length x0.Posts) c2], 24⟩), (4, ⟨[strV x115.Account, .int .i64 x115.Amount], 38⟩)] (by kernel_rfl) fun β603 a604 w605 h606 => ?_
                            exact wpl_end (hk600 _ _ _ _ (h606.sel [1, 3, 4, 37, 38, 39] [0, 1] [1, 4]) trivial rfl)
                          · skip
                            intro β607 a608 w609 dX610 Ox611 Q612 h613 hq614 hp615 hk616
                            have h617 := h613.learnE (d := 63) rfl (hp615 2 63 _ rfl rfl rfl)
                            clear h613
                            have h618 := h617.reb (t := 63) rfl hb212
                            clear h617
                            refine evalS_ok tabOk h618 1 [1, 3, 4, 37, 38, 39] [1, 4] [(1, .o 1 0), (3, .v (.int .i64 i93)), (4, .o 4 0), (37, .v (.slice A1 (List.length x0.Posts) c2)), (38, .v (.int .i64 (List.length x0.Posts : Int))), (39, .v (.int .i64 i93))] [(1, ⟨[.int .i64 x0.At, strV x0.Text, .slice A1 (List.length x0.Posts) c2], 24⟩), (4, ⟨[strV x115.Account, .int .i64 x115.Amount], 38⟩)] (by kernel_rfl) fun β619 a620 w621 h622 => ?_
                            exact wpl_end (hk616 _ _ _ _ (h622.sel [1, 3, 4, 37, 38, 39] [0, 1] [1, 4]) trivial rfl)
                          · skip
                            intro β623 a624 w625 dX626 Ox627 Q628 h629 hq630 hp631 hk632
                            have h633 := h629.learnE (d := 63) rfl (hp631 2 63 _ rfl rfl rfl)
                            clear h629
                            have h634 := h633.reb (t := 63) rfl hb212
                            clear h633
                            refine evalS_ok tabOk h634 1 [1, 3, 4, 37, 38, 39] [1, 4] [(1, .o 1 0), (3, .v (.int .i64 i93)), (4, .o 4 0), (37, .v (.slice A1 (List.length x0.Posts) c2)), (38, .v (.int .i64 (List.length x0.Posts : Int))), (39, .v (.int .i64 i93))] [(1, ⟨[.int .i64 x0.At, strV x0.Text, .slice A1 (List.length x0.Posts) c2], 24⟩), (4, ⟨[strV x115.Account, .int .i64 x115.Amount], 38⟩)] (by kernel_rfl) fun β635 a636 w637 h638 => ?_
                            exact wpl_end (hk632 _ _ _ _ (h638.sel [1, 3, 4, 37, 38, 39] [0, 1] [1, 4]) trivial rfl)
                          · skip
                            intro β639 a640 w641 dX642 Ox643 Q644 h645 hq646 hp647 hk648
                            have h649 := h645.learnE (d := 63) rfl (hp647 2 63 _ rfl rfl rfl)
                            clear h645
                            have h650 := h649.reb (t := 63) rfl hb212
                            clear h649
                            refine evalS_ok tabOk h650 1 [1, 3, 4, 37, 38, 39] [1, 4] [(1, .o 1 0), (3, .v (.int .i64 i93)), (4, .o 4 0), (37, .v (.slice A1 (List.length x0.Posts) c2)), (38, .v (.int .i64 (List.length x0.Posts : Int))), (39, .v (.int .i64 i93))] [(1, ⟨[.int .i64 x0.At, strV x0.Text, .slice A1 (List.length x0.Posts) c2], 24⟩), (4, ⟨[strV x115.Account, .int .i64 x115.Amount], 38⟩)] (by kernel_rfl) fun β651 a652 w653 h654 => ?_
                            exact wpl_end (hk648 _ _ _ _ (h654.sel [1, 3, 4, 37, 38, 39] [0, 1] [1, 4]) trivial rfl)
                          · skip
                            intro β655 a656 w657 dX658 Ox659 Q660 h661 hq662 hp663 hk664
                            have h665 := h661.learnE (d := 63) rfl (hp663 2 63 _ rfl rfl rfl)
                            clear h661
                            have h666 := h665.reb (t := 63) rfl hb212
                            clear h665
                            refine evalS_ok tabOk h666 1 [1, 3, 4, 37, 38, 39] [1, 4] [(1, .o 1 0), (3, .v (.int .i64 i93)), (4, .o 4 0), (37, .v (.slice A1 (List.length x0.Posts) c2)), (38, .v (.int .i64 (List.length x0.Posts : Int))), (39, .v (.int .i64 i93))] [(1, ⟨[.int .i64 x0.At, strV x0.Text, .slice A1 (List.length x0.Posts) c2], 24⟩), (4, ⟨[strV x115.Account, .int .i64 x115.Amount], 38⟩)] (by kernel_rfl) fun β667 a668 w669 h670 => ?_
                            exact wpl_end (hk664 _ _ _ _ (h670.sel [1, 3, 4, 37, 38, 39] [0, 1] [1, 4]) trivial rfl)
                          · skip
                            intro β671 a672 w673 dX674 Ox675 Q676 h677 hq678 hp679 hk680
                            have h681 := h677.learnE (d := 63) rfl (hp679 2 63 _ rfl rfl rfl)
                            clear h677
                            have h682 := h681.reb (t := 63) rfl hb212
                            clear h681
                            refine evalS_ok tabOk h682 1 [1, 3, 4, 37, 38, 39, 74] [1, 4] [(1, .o 1 0), (3, .v (.int .i64 i93)), (4, .o 4 0), (37, .v (.slice A1 (List.length x0.Posts) c2)), (38, .v (.int .i64 (List.length x0.Posts : Int))), (39, .v (.int .i64 i93)), (74, .v (.bool false))] [(1, ⟨[.int .i64 x0.At, strV x0.Text, .slice A1 (List.length x0.Posts) c2], 24⟩), (4, ⟨[strV x115.Account, .int .i64 x115.Amount], 38⟩)] (by kernel_rfl) fun β683 a684 w685 h686 => ?_
                            exact wpl_end (hk680 _ _ _ _ (h686.sel [1, 3, 4, 37, 38, 39] [0, 1] [1, 4]) (h686.getD rfl) rfl)
                        · skip
                          intro β687 a688 w689 h690 ha691
                          have h692 := h690.learnE (d := 74) rfl (ha691 13 74 _ rfl rfl)
                          clear h690
                          have h693 := h692.unpin rfl
                          clear h692
                          refine evalS_ok tabOk h693 1 [1, 4, 37, 38, 39, 60] [1, 4] [(1, .o 1 0), (4, .o 4 0), (37, .v (.slice A1 (List.length x0.Posts) c2)), (38, .v (.int .i64 (List.length x0.Posts : Int))), (39, .v (.int .i64 i93)), (60, .v (.bool false))] [(1, ⟨[.int .i64 x0.At, strV x0.Text, .slice A1 (List.length x0.Posts) c2], 24⟩), (4, ⟨[strV x115.Account, .int .i64 x115.Amount], 38⟩)] (by kernel_rfl) fun β694 a695 w696 h697 => ?_
                          clear h693
                          obtain rfl := Option.some.inj hv464
                          have h698 : Sb β694 (cx 90 ok w) [(1, .o 1 0), (4, .o 4 0), (37, .v (.slice A1 (List.length x0.Posts) c2)), (38, .v (.int .i64 (List.length x0.Posts : Int))), (39, .v (.int .i64 i93)), (60, .v (.bool false))] [DF.v (rSl rApiPost) x0.Posts (.slice A1 (List.length x0.Posts) c2)] [(1, ⟨[.int .i64 x0.At, strV x0.Text, .slice A1 (List.length x0.Posts) c2], 24⟩), (4, ⟨[strV x115.Account, .int .i64 x115.Amount], 38⟩)] [] a695 w696 := h697.sel [1, 4, 37, 38, 39, 60] [0] [1, 4]
                          clear h697
                          exact wpl_end (then_n ⟨_, h698⟩)
                · skip
                  refine region_ok ?_
                  refine evalS_ok tabOk h128 4 [1, 3, 4, 37, 38, 39, 48] [1, 4] [(1, .o 1 0), (3, .v (.int .i64 i93)), (4, .o 4 0), (37, .v (.slice A1 (List.length x0.Posts) c2)), (38, .v (.int .i64 (List.length x0.Posts : Int))), (39, .v (.int .i64 i93)), (48, .v (.bool (x115.Account == ([] : Str))))] [(1, ⟨[.int .i64 x0.At, strV x0.Text, .slice A1 (List.length x0.Posts) c2], 24⟩), (4, ⟨[strV x115.Account, .int .i64 x115.Amount], 38⟩)] (by kernel_rfl) fun β699 a700 w701 h702 => ?_
                  clear h128
                  refine bcases (b := (x115.Account == ([] : Str))) (fun hb703 => ?_) (fun hb703 => ?_)
                  · skip
                    have hv704 := ifT hb703 hv132
                    clear hv132
                    have h705 := h702.reb (t := 48) rfl hb703
                    clear h702
                    refine evalS_ok tabOk h705 12 [1, 3, 4, 37, 38, 39, 44] [1, 4] [(1, .o 1 0), (3, .v (.int .i64 i93)), (4, .o 4 0), (37, .v (.slice A1 (List.length x0.Posts) c2)), (38, .v (.int .i64 (List.length x0.Posts : Int))), (39, .v (.int .i64 i93)), (44, .v (.bool true))] [(1, ⟨[.int .i64 x0.At, strV x0.Text, .slice A1 (List.length x0.Posts) c2], 24⟩), (4, ⟨[strV x115.Account, .int .i64 x115.Amount], 38⟩)] (by kernel_rfl) fun β706 a707 w708 h709 => ?_
                    clear h705
                    obtain rfl := Option.some.inj hv704
                    have h710 : Sb β706 (cx 90 ok w) [(1, .o 1 0), (3, .v (.int .i64 i93)), (4, .o 4 0), (37, .v (.slice A1 (List.length x0.Posts) c2)), (38, .v (.int .i64 (List.length x0.Posts : Int))), (39, .v (.int .i64 i93)), (44, .v (.bool true))] [DF.v (rSl rApiPost) x0.Posts (.slice A1 (List.length x0.Posts) c2)] [(1, ⟨[.int .i64 x0.At, strV x0.Text, .slice A1 (List.length x0.Posts) c2], 24⟩), (4, ⟨[strV x115.Account, .int .i64 x115.Amount], 38⟩)] [] a707 w708 := h709.sel [1, 3, 4, 37, 38, 39, 44] [0] [1, 4]
                    clear h709
                    exact wpl_end (then_n ⟨_, h710⟩)
                  · skip
                    have hv711 := ifF hb703 hv132
                    clear hv132
                    have h712 := h702.reb (t := 48) rfl hb703
                    clear h702
                    refine evalS_ok tabOk h712 6 [1, 3, 4, 37, 38, 39, 54] [1, 4] [(1, .o 1 0), (3, .v (.int .i64 i93)), (4, .o 4 0), (37, .v (.slice A1 (List.length x0.Posts) c2)), (38, .v (.int .i64 (List.length x0.Posts : Int))), (39, .v (.int .i64 i93)), (54, .v (.bool (decide ((List.length x115.Account : Int) > 200))))] [(1, ⟨[.int .i64 x0.At, strV x0.Text, .slice A1 (List.length x0.Posts) c2], 24⟩), (4, ⟨[strV x115.Account, .int .i64 x115.Amount], 38⟩)] (by kernel_rfl) fun β713 a714 w715 h716 => ?_
                    clear h712
                    refine bcases (b := (decide ((List.length x115.Account : Int) > 200))) (fun hb717 => ?_) (fun hb717 => ?_)
                    · skip
                      have hv718 := ifT hb717 hv711
                      clear hv711
                      have h719 := h716.reb (t := 54) rfl hb717
                      clear h716
                      refine evalS_ok tabOk h719 6 [1, 3, 4, 37, 38, 39, 44] [1, 4] [(1, .o 1 0), (3, .v (.int .i64 i93)), (4, .o 4 0), (37, .v (.slice A1 (List.length x0.Posts) c2)), (38, .v (.int .i64 (List.length x0.Posts : Int))), (39, .v (.int .i64 i93)), (44, .v (.bool true))] [(1, ⟨[.int .i64 x0.At, strV x0.Text, .slice A1 (List.length x0.Posts) c2], 24⟩), (4, ⟨[strV x115.Account, .int .i64 x115.Amount], 38⟩)] (by kernel_rfl) fun β720 a721 w722 h723 => ?_
                      clear h719
                      obtain rfl := Option.some.inj hv718
                      have h724 : Sb β720 (cx 90 ok w) [(1, .o 1 0), (3, .v (.int .i64 i93)), (4, .o 4 0), (37, .v (.slice A1 (List.length x0.Posts) c2)), (38, .v (.int .i64 (List.length x0.Posts : Int))), (39, .v (.int .i64 i93)), (44, .v (.bool true))] [DF.v (rSl rApiPost) x0.Posts (.slice A1 (List.length x0.Posts) c2)] [(1, ⟨[.int .i64 x0.At, strV x0.Text, .slice A1 (List.length x0.Posts) c2], 24⟩), (4, ⟨[strV x115.Account, .int .i64 x115.Amount], 38⟩)] [] a721 w722 := h723.sel [1, 3, 4, 37, 38, 39, 44] [0] [1, 4]
                      clear h723
                      exact wpl_end (then_n ⟨_, h724⟩)
                    · skip
                      have hv725 := ifF hb717 hv711
                      clear hv711
                      have h726 := h716.reb (t := 54) rfl hb717
                      clear h716
                      refine evalS_ok tabOk h726 2 [1, 3, 4, 37, 38, 39, 54, 56] [1, 4] [(1, .o 1 0), (3, .v (.int .i64 i93)), (4, .o 4 0), (37, .v (.slice A1 (List.length x0.Posts) c2)), (38, .v (.int .i64 (List.length x0.Posts : Int))), (39, .v (.int .i64 i93)), (54, .v (.bool false)), (56, .v (strV x115.Account))] [(1, ⟨[.int .i64 x0.At, strV x0.Text, .slice A1 (List.length x0.Posts) c2], 24⟩), (4, ⟨[strV x115.Account, .int .i64 x115.Amount], 38⟩)] (by kernel_rfl) fun β727 a728 w729 h730 => ?_
                      clear h726
                      obtain ⟨y731, hy731, hv732⟩ := bindE hv725
                      clear hv725
                      refine step_call h730 rfl rfl runs24 (vs := [(strV x115.Account), (.int .u8 33)]) (by kernel_rfl) (c_ledger_printed (x0 := x115.Account) (x1 := 33) h730.okLt N hy731) fun v733 a736 w737 hR734 hk735 h738 => ?_
                      clear h730
                      have hv739 := isV.weak hR734 hk735
                      obtain rfl := isV_bool.1 hv739
                      refine evalS_ok tabOk h738 3 [1, 3, 4, 37, 38, 39, 44] [1, 4] [(1, .o 1 0), (3, .v (.int .i64 i93)), (4, .o 4 0), (37, .v (.slice A1 (List.length x0.Posts) c2)), (38, .v (.int .i64 (List.length x0.Posts : Int))), (39, .v (.int .i64 i93)), (44, .v (.bool (!y731)))] [(1, ⟨[.int .i64 x0.At, strV x0.Text, .slice A1 (List.length x0.Posts) c2], 24⟩), (4, ⟨[strV x115.Account, .int .i64 x115.Amount], 38⟩)] (by kernel_rfl) fun β740 a741 w742 h743 => ?_
                      clear h738
                      obtain rfl := Option.some.inj hv732
                      have h744 : Sb β740 (cx 90 ok w) [(1, .o 1 0), (3, .v (.int .i64 i93)), (4, .o 4 0), (37, .v (.slice A1 (List.length x0.Posts) c2)), (38, .v (.int .i64 (List.length x0.Posts : Int))), (39, .v (.int .i64 i93)), (44, .v (.bool (!y731)))] [DF.v (rSl rApiPost) x0.Posts (.slice A1 (List.length x0.Posts) c2)] [(1, ⟨[.int .i64 x0.At, strV x0.Text, .slice A1 (List.length x0.Posts) c2], 24⟩), (4, ⟨[strV x115.Account, .int .i64 x115.Amount], 38⟩)] [] a741 w742 := h743.sel [1, 3, 4, 37, 38, 39, 44] [0] [1, 4]
                      clear h743
                      exact wpl_end (then_n ⟨_, h744⟩)
              · skip
                have hF745 := ifF hb106 hF100
                clear hF100
                refine wp_exit ?_
                refine hx105 1 _ _ ?_
                refine hx55 1 _ _ ?_
                refine hbb55 _ _ ?_
                obtain rfl := Option.some.inj hF745
                have h746 : Sb β101 (cx 90 ok w) [(1, .o 1 0)] [DF.v (rSl rApiPost) x0.Posts (.slice A1 (List.length x0.Posts) c2)] [(1, ⟨[.int .i64 x0.At, strV x0.Text, .slice A1 (List.length x0.Posts) c2], 24⟩)] [] a102 w103 := (h104).sel [1] [0] [1]
                exact j56 _ _ ⟨⟨_, h746⟩, hC55⟩
          · skip
            refine region_ok ?_
            refine evalS_ok tabOk h27 2 [1, 27] [1] [(1, .o 1 0), (27, .v (strV x0.Text))] [(1, ⟨[.int .i64 x0.At, strV x0.Text, .slice A1 (List.length x0.Posts) c2], 24⟩)] (by kernel_rfl) fun β748 a749 w750 h751 => ?_
            clear h27
            obtain ⟨y752, hy752, hv753⟩ := bindE hv37
            clear hv37
            refine step_call h751 rfl rfl runs24 (vs := [(strV x0.Text), (.int .u8 32)]) (by kernel_rfl) (c_ledger_printed (x0 := x0.Text) (x1 := 32) h751.okLt N hy752) fun v754 a757 w758 hR755 hk756 h759 => ?_
            clear h751
            have hv760 := isV.weak hR755 hk756
            obtain rfl := isV_bool.1 hv760
            refine evalS_ok tabOk h759 2 [1, 30] [1] [(1, .o 1 0), (30, .v (.bool (!y752)))] [(1, ⟨[.int .i64 x0.At, strV x0.Text, .slice A1 (List.length x0.Posts) c2], 24⟩)] (by kernel_rfl) fun β761 a762 w763 h764 => ?_
            clear h759
            refine bcases (b := (!y752)) (fun hb765 => ?_) (fun hb765 => ?_)
            · skip
              have hv766 := ifT hb765 hv753
              clear hv753
              have h767 := h764.reb (t := 30) rfl hb765
              clear h764
              refine evalS_ok tabOk h767 6 [1, 25] [1] [(1, .o 1 0), (25, .v (.bool true))] [(1, ⟨[.int .i64 x0.At, strV x0.Text, .slice A1 (List.length x0.Posts) c2], 24⟩)] (by kernel_rfl) fun β768 a769 w770 h771 => ?_
              clear h767
              obtain rfl := Option.some.inj hv766
              have h772 : Sb β768 (cx 90 ok w) [(1, .o 1 0), (25, .v (.bool true))] [DF.v (rSl rApiPost) x0.Posts (.slice A1 (List.length x0.Posts) c2)] [(1, ⟨[.int .i64 x0.At, strV x0.Text, .slice A1 (List.length x0.Posts) c2], 24⟩)] [] a769 w770 := h771.sel [1, 25] [0] [1]
              clear h771
              exact wpl_end (then_n ⟨_, h772⟩)
            · skip
              have hv773 := ifF hb765 hv753
              clear hv753
              have h774 := h764.reb (t := 30) rfl hb765
              clear h764
              refine evalS_ok tabOk h774 6 [1, 25] [1] [(1, .o 1 0), (25, .v (.bool (decide ((List.length x0.Posts : Int) < 2))))] [(1, ⟨[.int .i64 x0.At, strV x0.Text, .slice A1 (List.length x0.Posts) c2], 24⟩)] (by kernel_rfl) fun β775 a776 w777 h778 => ?_
              clear h774
              obtain rfl := Option.some.inj hv773
              have h779 : Sb β775 (cx 90 ok w) [(1, .o 1 0), (25, .v (.bool (decide ((List.length x0.Posts : Int) < 2))))] [DF.v (rSl rApiPost) x0.Posts (.slice A1 (List.length x0.Posts) c2)] [(1, ⟨[.int .i64 x0.At, strV x0.Text, .slice A1 (List.length x0.Posts) c2], 24⟩)] [] a776 w777 := h778.sel [1, 25] [0] [1]
              clear h778
              exact wpl_end (then_n ⟨_, h779⟩)
      · skip
        refine region_ok ?_
        refine evalS_ok tabOk h14 5 [1, 19] [1] [(1, .o 1 0), (19, .v (.bool (decide ((List.length x0.Text : Int) > 200))))] [(1, ⟨[.int .i64 x0.At, strV x0.Text, .slice A1 (List.length x0.Posts) c2], 24⟩)] (by kernel_rfl) fun β780 a781 w782 h783 => ?_
        clear h14
        refine bcases (b := (decide ((List.length x0.Text : Int) > 200))) (fun hb784 => ?_) (fun hb784 => ?_)
        · skip
          have h785 := h783.reb (t := 19) rfl hb784
          clear h783
          refine evalS_ok tabOk h785 6 [1, 14] [1] [(1, .o 1 0), (14, .v (.bool true))] [(1, ⟨[.int .i64 x0.At, strV x0.Text, .slice A1 (List.length x0.Posts) c2], 24⟩)] (by kernel_rfl) fun β786 a787 w788 h789 => ?_
          clear h785
          obtain rfl : g23 = true := by rw [hg23]; simp only [*, Bool.and_true, Bool.true_and, Bool.or_true, Bool.true_or, Bool.or_false, Bool.false_or, Bool.and_false, Bool.false_and, cond_true, cond_false]
          have h790 : Sb β786 (cx 90 ok w) [(1, .o 1 0), (14, .v (.bool true))] [DF.v (rSl rApiPost) x0.Posts (.slice A1 (List.length x0.Posts) c2)] [(1, ⟨[.int .i64 x0.At, strV x0.Text, .slice A1 (List.length x0.Posts) c2], 24⟩)] [] a787 w788 := h789.sel [1, 14] [0] [1]
          clear h789
          exact wpl_end (then_n ⟨_, h790⟩)
        · skip
          have h791 := h783.reb (t := 19) rfl hb784
          clear h783
          refine evalS_ok tabOk h791 6 [1, 14] [1] [(1, .o 1 0), (14, .v (.bool (decide ((List.length x0.Posts : Int) > 64))))] [(1, ⟨[.int .i64 x0.At, strV x0.Text, .slice A1 (List.length x0.Posts) c2], 24⟩)] (by kernel_rfl) fun β792 a793 w794 h795 => ?_
          clear h791
          obtain rfl : g23 = (decide ((List.length x0.Posts : Int) > 64)) := by rw [hg23]; simp only [*, Bool.and_true, Bool.true_and, Bool.or_true, Bool.true_or, Bool.or_false, Bool.false_or, Bool.and_false, Bool.false_and, cond_true, cond_false]
          have h796 : Sb β792 (cx 90 ok w) [(1, .o 1 0), (14, .v (.bool (decide ((List.length x0.Posts : Int) > 64))))] [DF.v (rSl rApiPost) x0.Posts (.slice A1 (List.length x0.Posts) c2)] [(1, ⟨[.int .i64 x0.At, strV x0.Text, .slice A1 (List.length x0.Posts) c2], 24⟩)] [] a793 w794 := h795.sel [1, 14] [0] [1]
          clear h795
          exact wpl_end (then_n ⟨_, h796⟩)
  · skip
    refine region_ok ?_
    refine evalS_ok tabOk h6 4 [1, 9] [1] [(1, .o 1 0), (9, .v (.bool (decide (x0.At < 0))))] [(1, ⟨[.int .i64 x0.At, strV x0.Text, .slice A1 (List.length x0.Posts) c2], 24⟩)] (by kernel_rfl) fun β797 a798 w799 h800 => ?_
    clear h6
    refine bcases (b := (decide (x0.At < 0))) (fun hb801 => ?_) (fun hb801 => ?_)
    · skip
      have h802 := h800.reb (t := 9) rfl hb801
      clear h800
      refine evalS_ok tabOk h802 5 [1, 5] [1] [(1, .o 1 0), (5, .v (.bool true))] [(1, ⟨[.int .i64 x0.At, strV x0.Text, .slice A1 (List.length x0.Posts) c2], 24⟩)] (by kernel_rfl) fun β803 a804 w805 h806 => ?_
      clear h802
      obtain rfl : g10 = true := by rw [hg10]; simp only [*, Bool.and_true, Bool.true_and, Bool.or_true, Bool.true_or, Bool.or_false, Bool.false_or, Bool.and_false, Bool.false_and, cond_true, cond_false]
      have h807 : Sb β803 (cx 90 ok w) [(1, .o 1 0), (5, .v (.bool true))] [DF.v (rSl rApiPost) x0.Posts (.slice A1 (List.length x0.Posts) c2)] [(1, ⟨[.int .i64 x0.At, strV x0.Text, .slice A1 (List.length x0.Posts) c2], 24⟩)] [] a804 w805 := h806.sel [1, 5] [0] [1]
      clear h806
      exact wpl_end (then_n ⟨_, h807⟩)
    · skip
      have h808 := h800.reb (t := 9) rfl hb801
      clear h800
      refine evalS_ok tabOk h808 5 [1, 5] [1] [(1, .o 1 0), (5, .v (.bool (decide (x0.At ≥ 12622780800))))] [(1, ⟨[.int .i64 x0.At, strV x0.Text, .slice A1 (List.length x0.Posts) c2], 24⟩)] (by kernel_rfl) fun β809 a810 w811 h812 => ?_
      clear h808
      obtain rfl : g10 = (decide (x0.At ≥ 12622780800)) := by rw [hg10]; simp only [*, Bool.and_true, Bool.true_and, Bool.or_true, Bool.true_or, Bool.or_false, Bool.false_or, Bool.and_false, Bool.false_and, cond_true, cond_false]
      have h813 : Sb β809 (cx 90 ok w) [(1, .o 1 0), (5, .v (.bool (decide (x0.At ≥ 12622780800))))] [DF.v (rSl rApiPost) x0.Posts (.slice A1 (List.length x0.Posts) c2)] [(1, ⟨[.int .i64 x0.At, strV x0.Text, .slice A1 (List.length x0.Posts) c2], 24⟩)] [] a810 w811 := h812.sel [1, 5] [0] [1]
      clear h812
      exact wpl_end (then_n ⟨_, h813⟩)

theorem c_billinglaw47_awake {ok : Ok} {w : World} (hok : ∀ b o, ok b o → b < w.heap.size) (N : Nat) {r : Bool} (hF : billinglaw47_awake N = some r) :
    Calls Try.prog 8 ⟨[]⟩ w (Ret w (R1 rBool ok w r)) := by
  rw [billinglaw47_awake] at hF
  refine enter_ok (n := 54) hok Try.func8 rfl rfl rfl (D := []) trivial (fun a h => ?_)
  simp only [zipG, Nat.zero_add, Nat.reduceAdd] at h
  refine start_ctx fun Q hn hr => ?_
  refine seq_region tabOk h [] [] [] [] (by kernel_rfl) fun β1 a2 w3 h4 => ?_
  clear h
  refine seq_list fun Q5 hq5 => ?_
  obtain ⟨y6, hy6, hF7⟩ := bindE hF
  clear hF
  refine step_call h4 rfl rfl runs22 (vs := [(.int .i64 17), (.int .i64 100), (.int .i64 595)]) (by kernel_rfl) (c_ledger_Payment (x0 := 17) (x1 := 100) (x2 := 595) h4.okLt N hy6) fun v8 a11 w12 hR9 hk10 h13 => ?_
  clear h4
  have hv14 := isV.weak hR9 hk10
  obtain ⟨v17, hs18, rfl⟩ := ex_ApiEntry hv14
  obtain ⟨A15, c16, rfl, hs19⟩ := slForm hs18
  have h20 := h13.addD (d := DF.v (rSl rApiPost) y6.Posts (.slice A15 (List.length y6.Posts) c16)) hs19
  clear h13
  refine evalS_ok tabOk h20 2 [1] [1] [(1, .o 1 0)] [(1, ⟨[.int .i64 y6.At, strV y6.Text, .slice A15 (List.length y6.Posts) c16], 24⟩)] (by kernel_rfl) fun β21 a22 w23 h24 => ?_
  clear h20
  have h25 : Sb β21 (cx 54 ok w) [(1, .o 1 0)] [DF.v (rSl rApiPost) y6.Posts (.slice A15 (List.length y6.Posts) c16)] [(1, ⟨[.int .i64 y6.At, strV y6.Text, .slice A15 (List.length y6.Posts) c16], 24⟩)] [] a22 w23 := h24.sel [1] [0] [1]
  clear h24
  refine wpl_end (hq5 _ _ ?_)
  refine seq_list fun Q26 hq26 => ?_
  refine evalS_ok tabOk h25 2 [1, 6, 7] [1] [(1, .o 1 0), (6, .v (.agg ⟨[.int .i64 0, .int .i64 50]⟩)), (7, .v (.agg ⟨[strV ([118, 111, 105, 99, 101] : Str), .int .i64 0, .int .i64 0, .int .i64 95]⟩))] [(1, ⟨[.int .i64 y6.At, strV y6.Text, .slice A15 (List.length y6.Posts) c16], 24⟩)] (by kernel_rfl) fun β27 a28 w29 h30 => ?_
  clear h25
  refine step_buildSlice tabOk h30 rfl rfl (r := rApiTaxLine) (xs := ([(⟨([118, 111, 105, 99, 101] : Str), 0, 0, 95⟩ : ApiTaxLine)] : List ApiTaxLine)) (vs := [.agg ⟨[strV ([118, 111, 105, 99, 101] : Str), .int .i64 0, .int .i64 0, .int .i64 95]⟩]) (pvs := [(0, .agg ⟨[strV ([118, 111, 105, 99, 101] : Str), .int .i64 0, .int .i64 0, .int .i64 95]⟩)]) (by kernel_rfl) tb49 rfl tb48 rfl rfl rfl rfl rfl (by kernel_rfl) ⟨(im_ApiTaxLine (x := (⟨([118, 111, 105, 99, 101] : Str), 0, 0, 95⟩ : ApiTaxLine))), trivial⟩ fun A31 c32 a34 w35 hv33 h36 => ?_
  clear h30
  have h37 := h36.addD (d := DF.v (rSl rApiTaxLine) ([(⟨([118, 111, 105, 99, 101] : Str), 0, 0, 95⟩ : ApiTaxLine)] : List ApiTaxLine) (.slice A31 (List.length ([(⟨([118, 111, 105, 99, 101] : Str), 0, 0, 95⟩ : ApiTaxLine)] : List ApiTaxLine)) c32)) hv33
  clear h36
  refine evalS_ok tabOk h37 1 [1, 9] [1] [(1, .o 1 0), (9, .v (.agg ⟨[.int .i64 17, .int .i64 0, .int .i64 50, .slice none 0 0, .slice A31 (List.length ([(⟨([118, 111, 105, 99, 101] : Str), 0, 0, 95⟩ : ApiTaxLine)] : List ApiTaxLine)) c32, .int .i64 500, .int .i64 95, .int .i64 595]⟩))] [(1, ⟨[.int .i64 y6.At, strV y6.Text, .slice A15 (List.length y6.Posts) c16], 24⟩)] (by kernel_rfl) fun β38 a39 w40 h41 => ?_
  clear h37
  obtain ⟨y42, hy42, hF43⟩ := bindE hF7
  clear hF7
  refine step_call h41 rfl rfl runs23 (vs := [(.agg ⟨[.int .i64 17, .int .i64 0, .int .i64 50, .slice none 0 0, .slice A31 (List.length ([(⟨([118, 111, 105, 99, 101] : Str), 0, 0, 95⟩ : ApiTaxLine)] : List ApiTaxLine)) c32, .int .i64 500, .int .i64 95, .int .i64 595]⟩)]) (by kernel_rfl) (c_ledger_Invoice (x0 := (⟨17, (⟨0, 50⟩ : ApiPeriod), [], ([(⟨([118, 111, 105, 99, 101] : Str), 0, 0, 95⟩ : ApiTaxLine)] : List ApiTaxLine), 500, 95, 595⟩ : ApiInvoice)) h41.okLt N slNil (h41.d 0 rfl) hy42) fun v44 a47 w48 hR45 hk46 h49 => ?_
  clear h41
  have hv50 := isV.weak hR45 hk46
  obtain ⟨v53, hs54, rfl⟩ := ex_ApiEntry hv50
  obtain ⟨A51, c52, rfl, hs55⟩ := slForm hs54
  have h56 := h49.addD (d := DF.v (rSl rApiPost) y42.Posts (.slice A51 (List.length y42.Posts) c52)) hs55
  clear h49
  refine evalS_ok tabOk h56 2 [1, 2] [1, 2] [(1, .o 1 0), (2, .o 2 0)] [(1, ⟨[.int .i64 y6.At, strV y6.Text, .slice A15 (List.length y6.Posts) c16], 24⟩), (2, ⟨[.int .i64 y42.At, strV y42.Text, .slice A51 (List.length y42.Posts) c52], 24⟩)] (by kernel_rfl) fun β57 a58 w59 h60 => ?_
  clear h56
  have h61 : Sb β57 (cx 54 ok w) [(1, .o 1 0), (2, .o 2 0)] [DF.v (rSl rApiPost) y6.Posts (.slice A15 (List.length y6.Posts) c16), DF.v (rSl rApiPost) y42.Posts (.slice A51 (List.length y42.Posts) c52)] [(1, ⟨[.int .i64 y6.At, strV y6.Text, .slice A15 (List.length y6.Posts) c16], 24⟩), (2, ⟨[.int .i64 y42.At, strV y42.Text, .slice A51 (List.length y42.Posts) c52], 24⟩)] [] a58 w59 := h60.sel [1, 2] [2, 0] [1, 2]
  clear h60
  refine wpl_end (hq26 _ _ ?_)
  refine seq_list fun Q62 hq62 => ?_
  refine evalS_ok tabOk h61 3 [1, 2, 11, 12, 13] [1, 2] [(1, .o 1 0), (2, .o 2 0), (11, .v (.agg ⟨[strV ([114, 101, 99, 101, 105, 118, 97, 98, 108, 101, 58, 49, 55] : Str), .int .i64 595]⟩)), (12, .v (.agg ⟨[strV ([114, 101, 118, 101, 110, 117, 101] : Str), .int .i64 (-500)]⟩)), (13, .v (.agg ⟨[strV ([116, 97, 120, 58, 118, 111, 105, 99, 101] : Str), .int .i64 (-95)]⟩))] [(1, ⟨[.int .i64 y6.At, strV y6.Text, .slice A15 (List.length y6.Posts) c16], 24⟩), (2, ⟨[.int .i64 y42.At, strV y42.Text, .slice A51 (List.length y42.Posts) c52], 24⟩)] (by kernel_rfl) fun β63 a64 w65 h66 => ?_
  clear h61
  refine step_buildSlice tabOk h66 rfl rfl (r := rApiPost) (xs := ([(⟨([114, 101, 99, 101, 105, 118, 97, 98, 108, 101, 58, 49, 55] : Str), 595⟩ : ApiPost), (⟨([114, 101, 118, 101, 110, 117, 101] : Str), (-500)⟩ : ApiPost), (⟨([116, 97, 120, 58, 118, 111, 105, 99, 101] : Str), (-95)⟩ : ApiPost)] : List ApiPost)) (vs := [.agg ⟨[strV ([114, 101, 99, 101, 105, 118, 97, 98, 108, 101, 58, 49, 55] : Str), .int .i64 595]⟩, .agg ⟨[strV ([114, 101, 118, 101, 110, 117, 101] : Str), .int .i64 (-500)]⟩, .agg ⟨[strV ([116, 97, 120, 58, 118, 111, 105, 99, 101] : Str), .int .i64 (-95)]⟩]) (pvs := [(0, .agg ⟨[strV ([114, 101, 99, 101, 105, 118, 97, 98, 108, 101, 58, 49, 55] : Str), .int .i64 595]⟩), (1, .agg ⟨[strV ([114, 101, 118, 101, 110, 117, 101] : Str), .int .i64 (-500)]⟩), (2, .agg ⟨[strV ([116, 97, 120, 58, 118, 111, 105, 99, 101] : Str), .int .i64 (-95)]⟩)]) (by kernel_rfl) tb22 rfl tb38 rfl rfl rfl rfl rfl (by kernel_rfl) ⟨(im_ApiPost (x := (⟨([114, 101, 99, 101, 105, 118, 97, 98, 108, 101, 58, 49, 55] : Str), 595⟩ : ApiPost))), (im_ApiPost (x := (⟨([114, 101, 118, 101, 110, 117, 101] : Str), (-500)⟩ : ApiPost))), (im_ApiPost (x := (⟨([116, 97, 120, 58, 118, 111, 105, 99, 101] : Str), (-95)⟩ : ApiPost))), trivial⟩ fun A67 c68 a70 w71 hv69 h72 => ?_
  clear h66
  have h73 := h72.addD (d := DF.v (rSl rApiPost) ([(⟨([114, 101, 99, 101, 105, 118, 97, 98, 108, 101, 58, 49, 55] : Str), 595⟩ : ApiPost), (⟨([114, 101, 118, 101, 110, 117, 101] : Str), (-500)⟩ : ApiPost), (⟨([116, 97, 120, 58, 118, 111, 105, 99, 101] : Str), (-95)⟩ : ApiPost)] : List ApiPost) (.slice A67 (List.length ([(⟨([114, 101, 99, 101, 105, 118, 97, 98, 108, 101, 58, 49, 55] : Str), 595⟩ : ApiPost), (⟨([114, 101, 118, 101, 110, 117, 101] : Str), (-500)⟩ : ApiPost), (⟨([116, 97, 120, 58, 118, 111, 105, 99, 101] : Str), (-95)⟩ : ApiPost)] : List ApiPost)) c68)) hv69
  clear h72
  refine evalS_ok tabOk h73 1 [1, 2, 3] [1, 2] [(1, .o 1 0), (2, .o 2 0), (3, .v (.slice A67 (List.length ([(⟨([114, 101, 99, 101, 105, 118, 97, 98, 108, 101, 58, 49, 55] : Str), 595⟩ : ApiPost), (⟨([114, 101, 118, 101, 110, 117, 101] : Str), (-500)⟩ : ApiPost), (⟨([116, 97, 120, 58, 118, 111, 105, 99, 101] : Str), (-95)⟩ : ApiPost)] : List ApiPost)) c68))] [(1, ⟨[.int .i64 y6.At, strV y6.Text, .slice A15 (List.length y6.Posts) c16], 24⟩), (2, ⟨[.int .i64 y42.At, strV y42.Text, .slice A51 (List.length y42.Posts) c52], 24⟩)] (by kernel_rfl) fun β74 a75 w76 h77 => ?_
  clear h73
  have h78 : Sb β74 (cx 54 ok w) [(1, .o 1 0), (2, .o 2 0), (3, .v (.slice A67 (List.length ([(⟨([114, 101, 99, 101, 105, 118, 97, 98, 108, 101, 58, 49, 55] : Str), 595⟩ : ApiPost), (⟨([114, 101, 118, 101, 110, 117, 101] : Str), (-500)⟩ : ApiPost), (⟨([116, 97, 120, 58, 118, 111, 105, 99, 101] : Str), (-95)⟩ : ApiPost)] : List ApiPost)) c68))] [DF.v (rSl rApiPost) ([(⟨([114, 101, 99, 101, 105, 118, 97, 98, 108, 101, 58, 49, 55] : Str), 595⟩ : ApiPost), (⟨([114, 101, 118, 101, 110, 117, 101] : Str), (-500)⟩ : ApiPost), (⟨([116, 97, 120, 58, 118, 111, 105, 99, 101] : Str), (-95)⟩ : ApiPost)] : List ApiPost) (.slice A67 (List.length ([(⟨([114, 101, 99, 101, 105, 118, 97, 98, 108, 101, 58, 49, 55] : Str), 595⟩ : ApiPost), (⟨([114, 101, 118, 101, 110, 117, 101] : Str), (-500)⟩ : ApiPost), (⟨([116, 97, 120, 58, 118, 111, 105, 99, 101] : Str), (-95)⟩ : ApiPost)] : List ApiPost)) c68), DF.v (rSl rApiPost) y6.Posts (.slice A15 (List.length y6.Posts) c16), DF.v (rSl rApiPost) y42.Posts (.slice A51 (List.length y42.Posts) c52)] [(1, ⟨[.int .i64 y6.At, strV y6.Text, .slice A15 (List.length y6.Posts) c16], 24⟩), (2, ⟨[.int .i64 y42.At, strV y42.Text, .slice A51 (List.length y42.Posts) c52], 24⟩)] [] a75 w76 := h77.sel [1, 2, 3] [0, 1, 2] [1, 2]
  clear h77
  refine wpl_end (hq62 _ _ ?_)
  refine seq_list fun Q79 hq79 => ?_
  refine evalS_ok tabOk h78 2 [1, 2, 3, 15, 16] [1, 2] [(1, .o 1 0), (2, .o 2 0), (3, .v (.slice A67 (List.length ([(⟨([114, 101, 99, 101, 105, 118, 97, 98, 108, 101, 58, 49, 55] : Str), 595⟩ : ApiPost), (⟨([114, 101, 118, 101, 110, 117, 101] : Str), (-500)⟩ : ApiPost), (⟨([116, 97, 120, 58, 118, 111, 105, 99, 101] : Str), (-95)⟩ : ApiPost)] : List ApiPost)) c68)), (15, .v (.agg ⟨[.int .i64 y42.At, strV y42.Text, .slice A51 (List.length y42.Posts) c52]⟩)), (16, .v (.agg ⟨[.int .i64 y6.At, strV y6.Text, .slice A15 (List.length y6.Posts) c16]⟩))] [(1, ⟨[.int .i64 y6.At, strV y6.Text, .slice A15 (List.length y6.Posts) c16], 24⟩), (2, ⟨[.int .i64 y42.At, strV y42.Text, .slice A51 (List.length y42.Posts) c52], 24⟩)] (by kernel_rfl) fun β80 a81 w82 h83 => ?_
  clear h78
  refine step_buildSlice tabOk h83 rfl rfl (r := rApiEntry) (xs := ([y42, y6] : List ApiEntry)) (vs := [.agg ⟨[.int .i64 y42.At, strV y42.Text, .slice A51 (List.length y42.Posts) c52]⟩, .agg ⟨[.int .i64 y6.At, strV y6.Text, .slice A15 (List.length y6.Posts) c16]⟩]) (pvs := [(0, .agg ⟨[.int .i64 y42.At, strV y42.Text, .slice A51 (List.length y42.Posts) c52]⟩), (1, .agg ⟨[.int .i64 y6.At, strV y6.Text, .slice A15 (List.length y6.Posts) c16]⟩)]) (by kernel_rfl) tb30 rfl tb24 rfl rfl rfl rfl rfl (by kernel_rfl) ⟨(im_ApiEntry (x := y42) (h83.d 2 rfl)), (im_ApiEntry (x := y6) (h83.d 1 rfl)), trivial⟩ fun A84 c85 a87 w88 hv86 h89 => ?_
  clear h83
  have h90 := h89.addD (d := DF.v (rSl rApiEntry) ([y42, y6] : List ApiEntry) (.slice A84 (List.length ([y42, y6] : List ApiEntry)) c85)) hv86
  clear h89
  obtain ⟨y91, hy91, hF92⟩ := bindE hF43
  clear hF43
  refine step_call h90 rfl rfl runs17 (vs := [(.slice A84 (List.length ([y42, y6] : List ApiEntry)) c85)]) (by kernel_rfl) (c_ledger_Trial (x0 := ([y42, y6] : List ApiEntry)) h90.okLt N (h90.d 0 rfl) hy91) fun v93 a96 w97 hR94 hk95 h98 => ?_
  clear h90
  have hv99 := isV.weak hR94 hk95
  obtain ⟨A100, c101, rfl, hs102⟩ := slForm hv99
  have h103 := h98.addD (d := DF.v (rSl rApiPost) y91 (.slice A100 (List.length y91) c101)) hs102
  clear h98
  refine evalS_ok tabOk h103 1 [1, 2, 3, 4] [1, 2] [(1, .o 1 0), (2, .o 2 0), (3, .v (.slice A67 (List.length ([(⟨([114, 101, 99, 101, 105, 118, 97, 98, 108, 101, 58, 49, 55] : Str), 595⟩ : ApiPost), (⟨([114, 101, 118, 101, 110, 117, 101] : Str), (-500)⟩ : ApiPost), (⟨([116, 97, 120, 58, 118, 111, 105, 99, 101] : Str), (-95)⟩ : ApiPost)] : List ApiPost)) c68)), (4, .v (.slice A100 (List.length y91) c101))] [(1, ⟨[.int .i64 y6.At, strV y6.Text, .slice A15 (List.length y6.Posts) c16], 24⟩), (2, ⟨[.int .i64 y42.At, strV y42.Text, .slice A51 (List.length y42.Posts) c52], 24⟩)] (by kernel_rfl) fun β104 a105 w106 h107 => ?_
  clear h103
  have h108 : Sb β104 (cx 54 ok w) [(1, .o 1 0), (2, .o 2 0), (3, .v (.slice A67 (List.length ([(⟨([114, 101, 99, 101, 105, 118, 97, 98, 108, 101, 58, 49, 55] : Str), 595⟩ : ApiPost), (⟨([114, 101, 118, 101, 110, 117, 101] : Str), (-500)⟩ : ApiPost), (⟨([116, 97, 120, 58, 118, 111, 105, 99, 101] : Str), (-95)⟩ : ApiPost)] : List ApiPost)) c68)), (4, .v (.slice A100 (List.length y91) c101))] [DF.v (rSl rApiPost) ([(⟨([114, 101, 99, 101, 105, 118, 97, 98, 108, 101, 58, 49, 55] : Str), 595⟩ : ApiPost), (⟨([114, 101, 118, 101, 110, 117, 101] : Str), (-500)⟩ : ApiPost), (⟨([116, 97, 120, 58, 118, 111, 105, 99, 101] : Str), (-95)⟩ : ApiPost)] : List ApiPost) (.slice A67 (List.length ([(⟨([114, 101, 99, 101, 105, 118, 97, 98, 108, 101, 58, 49, 55] : Str), 595⟩ : ApiPost), (⟨([114, 101, 118, 101, 110, 117, 101] : Str), (-500)⟩ : ApiPost), (⟨([116, 97, 120, 58, 118, 111, 105, 99, 101] : Str), (-95)⟩ : ApiPost)] : List ApiPost)) c68), DF.v (rSl rApiPost) y91 (.slice A100 (List.length y91) c101), DF.v (rSl rApiPost) y6.Posts (.slice A15 (List.length y6.Posts) c16), DF.v (rSl rApiPost) y42.Posts (.slice A51 (List.length y42.Posts) c52)] [(1, ⟨[.int .i64 y6.At, strV y6.Text, .slice A15 (List.length y6.Posts) c16], 24⟩), (2, ⟨[.int .i64 y42.At, strV y42.Text, .slice A51 (List.length y42.Posts) c52], 24⟩)] [] a105 w106 := h107.sel [1, 2, 3, 4] [2, 0, 3, 4] [1, 2]
  clear h107
  refine wpl_end (hq79 _ _ ?_)
  obtain ⟨g110, hv111, hF112⟩ := bindE hF92
  clear hF92
  refine seq_join (J := fun a w' => ∃ β, Sb β (cx 54 ok w) [(0, .v (.bool g110))] [] [] [] a w') ?_ ?_
  · skip
    rintro a113 w114 ⟨β115, h116⟩
    refine wp_ret ?_
    refine hr _ _ ?_
    obtain rfl := Option.some.inj hF112
    exact ret1_ok h116 rfl rfl (isV_bool.2 rfl)
  · skip
    refine region_ok ?_
    refine evalS_ok tabOk h108 4 [1, 2, 3, 4, 20, 21, 22] [1, 2] [(1, .o 1 0), (2, .o 2 0), (3, .v (.slice A67 (List.length ([(⟨([114, 101, 99, 101, 105, 118, 97, 98, 108, 101, 58, 49, 55] : Str), 595⟩ : ApiPost), (⟨([114, 101, 118, 101, 110, 117, 101] : Str), (-500)⟩ : ApiPost), (⟨([116, 97, 120, 58, 118, 111, 105, 99, 101] : Str), (-95)⟩ : ApiPost)] : List ApiPost)) c68)), (4, .v (.slice A100 (List.length y91) c101)), (20, .v (.slice A15 (List.length y6.Posts) c16)), (21, .v (.agg ⟨[strV ([99, 97, 115, 104] : Str), .int .i64 595]⟩)), (22, .v (.agg ⟨[strV ([114, 101, 99, 101, 105, 118, 97, 98, 108, 101, 58, 49, 55] : Str), .int .i64 (-595)]⟩))] [(1, ⟨[.int .i64 y6.At, strV y6.Text, .slice A15 (List.length y6.Posts) c16], 24⟩), (2, ⟨[.int .i64 y42.At, strV y42.Text, .slice A51 (List.length y42.Posts) c52], 24⟩)] (by kernel_rfl) fun β117 a118 w119 h120 => ?_
    clear h108
    refine step_buildSlice tabOk h120 rfl rfl (r := rApiPost) (xs := ([(⟨([99, 97, 115, 104] : Str), 595⟩ : ApiPost), (⟨([114, 101, 99, 101, 105, 118, 97, 98, 108, 101, 58, 49, 55] : Str), (-595)⟩ : ApiPost)] : List ApiPost)) (vs := [.agg ⟨[strV ([99, 97, 115, 104] : Str), .int .i64 595]⟩, .agg ⟨[strV ([114, 101, 99, 101, 105, 118, 97, 98, 108, 101, 58, 49, 55] : Str), .int .i64 (-595)]⟩]) (pvs := [(0, .agg ⟨[strV ([99, 97, 115, 104] : Str), .int .i64 595]⟩), (1, .agg ⟨[strV ([114, 101, 99, 101, 105, 118, 97, 98, 108, 101, 58, 49, 55] : Str), .int .i64 (-595)]⟩)]) (by kernel_rfl) tb22 rfl tb38 rfl rfl rfl rfl rfl (by kernel_rfl) ⟨(im_ApiPost (x := (⟨([99, 97, 115, 104] : Str), 595⟩ : ApiPost))), (im_ApiPost (x := (⟨([114, 101, 99, 101, 105, 118, 97, 98, 108, 101, 58, 49, 55] : Str), (-595)⟩ : ApiPost))), trivial⟩ fun A121 c122 a124 w125 hv123 h126 => ?_
    clear h120
    have h127 := h126.addD (d := DF.v (rSl rApiPost) ([(⟨([99, 97, 115, 104] : Str), 595⟩ : ApiPost), (⟨([114, 101, 99, 101, 105, 118, 97, 98, 108, 101, 58, 49, 55] : Str), (-595)⟩ : ApiPost)] : List ApiPost) (.slice A121 (List.length ([(⟨([99, 97, 115, 104] : Str), 595⟩ : ApiPost), (⟨([114, 101, 99, 101, 105, 118, 97, 98, 108, 101, 58, 49, 55] : Str), (-595)⟩ : ApiPost)] : List ApiPost)) c122)) hv123
    clear h126
    obtain ⟨y128, hy128, hv129⟩ := bindE hv111
    clear hv111
    refine step_call h127 rfl rfl runs16 (vs := [(.slice A15 (List.length y6.Posts) c16), (.slice A121 (List.length ([(⟨([99, 97, 115, 104] : Str), 595⟩ : ApiPost), (⟨([114, 101, 99, 101, 105, 118, 97, 98, 108, 101, 58, 49, 55] : Str), (-595)⟩ : ApiPost)] : List ApiPost)) c122)]) (by kernel_rfl) (c_billingref47_SamePosts (x0 := y6.Posts) (x1 := ([(⟨([99, 97, 115, 104] : Str), 595⟩ : ApiPost), (⟨([114, 101, 99, 101, 105, 118, 97, 98, 108, 101, 58, 49, 55] : Str), (-595)⟩ : ApiPost)] : List ApiPost)) h127.okLt N (h127.d 3 rfl) (h127.d 0 rfl) hy128) fun v130 a133 w134 hR131 hk132 h135 => ?_
    clear h127
    have hv136 := isV.weak hR131 hk132
    obtain rfl := isV_bool.1 hv136
    refine evalS_ok tabOk h135 1 [1, 2, 3, 4, 25] [1, 2] [(1, .o 1 0), (2, .o 2 0), (3, .v (.slice A67 (List.length ([(⟨([114, 101, 99, 101, 105, 118, 97, 98, 108, 101, 58, 49, 55] : Str), 595⟩ : ApiPost), (⟨([114, 101, 118, 101, 110, 117, 101] : Str), (-500)⟩ : ApiPost), (⟨([116, 97, 120, 58, 118, 111, 105, 99, 101] : Str), (-95)⟩ : ApiPost)] : List ApiPost)) c68)), (4, .v (.slice A100 (List.length y91) c101)), (25, .v (.bool y128))] [(1, ⟨[.int .i64 y6.At, strV y6.Text, .slice A15 (List.length y6.Posts) c16], 24⟩), (2, ⟨[.int .i64 y42.At, strV y42.Text, .slice A51 (List.length y42.Posts) c52], 24⟩)] (by kernel_rfl) fun β137 a138 w139 h140 => ?_
    clear h135
    refine bcases (b := y128) (fun hb141 => ?_) (fun hb141 => ?_)
    · skip
      have hv142 := ifT hb141 hv129
      clear hv129
      have h143 := h140.reb (t := 25) rfl hb141
      clear h140
      refine evalS_ok tabOk h143 5 [1, 2, 3, 4, 30] [1, 2] [(1, .o 1 0), (2, .o 2 0), (3, .v (.slice A67 (List.length ([(⟨([114, 101, 99, 101, 105, 118, 97, 98, 108, 101, 58, 49, 55] : Str), 595⟩ : ApiPost), (⟨([114, 101, 118, 101, 110, 117, 101] : Str), (-500)⟩ : ApiPost), (⟨([116, 97, 120, 58, 118, 111, 105, 99, 101] : Str), (-95)⟩ : ApiPost)] : List ApiPost)) c68)), (4, .v (.slice A100 (List.length y91) c101)), (30, .v (.bool (y6.At == 100)))] [(1, ⟨[.int .i64 y6.At, strV y6.Text, .slice A15 (List.length y6.Posts) c16], 24⟩), (2, ⟨[.int .i64 y42.At, strV y42.Text, .slice A51 (List.length y42.Posts) c52], 24⟩)] (by kernel_rfl) fun β144 a145 w146 h147 => ?_
      clear h143
      refine bcases (b := (y6.At == 100)) (fun hb148 => ?_) (fun hb148 => ?_)
      · skip
        have hv149 := ifT hb148 hv142
        clear hv142
        have h150 := h147.reb (t := 30) rfl hb148
        clear h147
        refine evalS_ok tabOk h150 5 [1, 2, 3, 4, 35] [1, 2] [(1, .o 1 0), (2, .o 2 0), (3, .v (.slice A67 (List.length ([(⟨([114, 101, 99, 101, 105, 118, 97, 98, 108, 101, 58, 49, 55] : Str), 595⟩ : ApiPost), (⟨([114, 101, 118, 101, 110, 117, 101] : Str), (-500)⟩ : ApiPost), (⟨([116, 97, 120, 58, 118, 111, 105, 99, 101] : Str), (-95)⟩ : ApiPost)] : List ApiPost)) c68)), (4, .v (.slice A100 (List.length y91) c101)), (35, .v (.bool (y42.At == 49)))] [(1, ⟨[.int .i64 y6.At, strV y6.Text, .slice A15 (List.length y6.Posts) c16], 24⟩), (2, ⟨[.int .i64 y42.At, strV y42.Text, .slice A51 (List.length y42.Posts) c52], 24⟩)] (by kernel_rfl) fun β151 a152 w153 h154 => ?_
        clear h150
        refine bcases (b := (y42.At == 49)) (fun hb155 => ?_) (fun hb155 => ?_)
        · skip
          have hv156 := ifT hb155 hv149
          clear hv149
          have h157 := h154.reb (t := 35) rfl hb155
          clear h154
          refine evalS_ok tabOk h157 3 [1, 4, 35, 37, 38] [1] [(1, .o 1 0), (4, .v (.slice A100 (List.length y91) c101)), (35, .v (.bool true)), (37, .v (.slice A51 (List.length y42.Posts) c52)), (38, .v (.slice A67 (List.length ([(⟨([114, 101, 99, 101, 105, 118, 97, 98, 108, 101, 58, 49, 55] : Str), 595⟩ : ApiPost), (⟨([114, 101, 118, 101, 110, 117, 101] : Str), (-500)⟩ : ApiPost), (⟨([116, 97, 120, 58, 118, 111, 105, 99, 101] : Str), (-95)⟩ : ApiPost)] : List ApiPost)) c68))] [(1, ⟨[.int .i64 y6.At, strV y6.Text, .slice A15 (List.length y6.Posts) c16], 24⟩)] (by kernel_rfl) fun β158 a159 w160 h161 => ?_
          clear h157
          obtain ⟨y162, hy162, hv163⟩ := bindE hv156
          clear hv156
          refine step_call h161 rfl rfl runs16 (vs := [(.slice A51 (List.length y42.Posts) c52), (.slice A67 (List.length ([(⟨([114, 101, 99, 101, 105, 118, 97, 98, 108, 101, 58, 49, 55] : Str), 595⟩ : ApiPost), (⟨([114, 101, 118, 101, 110, 117, 101] : Str), (-500)⟩ : ApiPost), (⟨([116, 97, 120, 58, 118, 111, 105, 99, 101] : Str), (-95)⟩ : ApiPost)] : List ApiPost)) c68)]) (by kernel_rfl) (c_billingref47_SamePosts (x0 := y42.Posts) (x1 := ([(⟨([114, 101, 99, 101, 105, 118, 97, 98, 108, 101, 58, 49, 55] : Str), 595⟩ : ApiPost), (⟨([114, 101, 118, 101, 110, 117, 101] : Str), (-500)⟩ : ApiPost), (⟨([116, 97, 120, 58, 118, 111, 105, 99, 101] : Str), (-95)⟩ : ApiPost)] : List ApiPost)) h161.okLt N (h161.d 4 rfl) (h161.d 1 rfl) hy162) fun v164 a167 w168 hR165 hk166 h169 => ?_
          clear h161
          have hv170 := isV.weak hR165 hk166
          obtain rfl := isV_bool.1 hv170
          refine evalS_ok tabOk h169 2 [1, 4, 41] [1] [(1, .o 1 0), (4, .v (.slice A100 (List.length y91) c101)), (41, .v (.bool y162))] [(1, ⟨[.int .i64 y6.At, strV y6.Text, .slice A15 (List.length y6.Posts) c16], 24⟩)] (by kernel_rfl) fun β171 a172 w173 h174 => ?_
          clear h169
          refine bcases (b := y162) (fun hb175 => ?_) (fun hb175 => ?_)
          · skip
            have hv176 := ifT hb175 hv163
            clear hv163
            have h177 := h174.reb (t := 41) rfl hb175
            clear h174
            refine evalS_ok tabOk h177 4 [1, 41, 42, 43, 44, 45] [1] [(1, .o 1 0), (41, .v (.bool true)), (42, .v (.slice A100 (List.length y91) c101)), (43, .v (.agg ⟨[strV ([99, 97, 115, 104] : Str), .int .i64 595]⟩)), (44, .v (.agg ⟨[strV ([114, 101, 118, 101, 110, 117, 101] : Str), .int .i64 (-500)]⟩)), (45, .v (.agg ⟨[strV ([116, 97, 120, 58, 118, 111, 105, 99, 101] : Str), .int .i64 (-95)]⟩))] [(1, ⟨[.int .i64 y6.At, strV y6.Text, .slice A15 (List.length y6.Posts) c16], 24⟩)] (by kernel_rfl) fun β178 a179 w180 h181 => ?_
            clear h177
            refine step_buildSlice tabOk h181 rfl rfl (r := rApiPost) (xs := ([(⟨([99, 97, 115, 104] : Str), 595⟩ : ApiPost), (⟨([114, 101, 118, 101, 110, 117, 101] : Str), (-500)⟩ : ApiPost), (⟨([116, 97, 120, 58, 118, 111, 105, 99, 101] : Str), (-95)⟩ : ApiPost)] : List ApiPost)) (vs := [.agg ⟨[strV ([99, 97, 115, 104] : Str), .int .i64 595]⟩, .agg ⟨[strV ([114, 101, 118, 101, 110, 117, 101] : Str), .int .i64 (-500)]⟩, .agg ⟨[strV ([116, 97, 120, 58, 118, 111, 105, 99, 101] : Str), .int .i64 (-95)]⟩]) (pvs := [(0, .agg ⟨[strV ([99, 97, 115, 104] : Str), .int .i64 595]⟩), (1, .agg ⟨[strV ([114, 101, 118, 101, 110, 117, 101] : Str), .int .i64 (-500)]⟩), (2, .agg ⟨[strV ([116, 97, 120, 58, 118, 111, 105, 99, 101] : Str), .int .i64 (-95)]⟩)]) (by kernel_rfl) tb22 rfl tb38 rfl rfl rfl rfl rfl (by kernel_rfl) ⟨(im_ApiPost (x := (⟨([99, 97, 115, 104] : Str), 595⟩ : ApiPost))), (im_ApiPost (x := (⟨([114, 101, 118, 101, 110, 117, 101] : Str), (-500)⟩ : ApiPost))), (im_ApiPost (x := (⟨([116, 97, 120, 58, 118, 111, 105, 99, 101] : Str), (-95)⟩ : ApiPost))), trivial⟩ fun A182 c183 a185 w186 hv184 h187 => ?_
            clear h181
            have h188 := h187.addD (d := DF.v (rSl rApiPost) ([(⟨([99, 97, 115, 104] : Str), 595⟩ : ApiPost), (⟨([114, 101, 118, 101, 110, 117, 101] : Str), (-500)⟩ : ApiPost), (⟨([116, 97, 120, 58, 118, 111, 105, 99, 101] : Str), (-95)⟩ : ApiPost)] : List ApiPost) (.slice A182 (List.length ([(⟨([99, 97, 115, 104] : Str), 595⟩ : ApiPost), (⟨([114, 101, 118, 101, 110, 117, 101] : Str), (-500)⟩ : ApiPost), (⟨([116, 97, 120, 58, 118, 111, 105, 99, 101] : Str), (-95)⟩ : ApiPost)] : List ApiPost)) c183)) hv184
            clear h187
            obtain ⟨y189, hy189, hv190⟩ := bindE hv176
            clear hv176
            refine step_call h188 rfl rfl runs16 (vs := [(.slice A100 (List.length y91) c101), (.slice A182 (List.length ([(⟨([99, 97, 115, 104] : Str), 595⟩ : ApiPost), (⟨([114, 101, 118, 101, 110, 117, 101] : Str), (-500)⟩ : ApiPost), (⟨([116, 97, 120, 58, 118, 111, 105, 99, 101] : Str), (-95)⟩ : ApiPost)] : List ApiPost)) c183)]) (by kernel_rfl) (c_billingref47_SamePosts (x0 := y91) (x1 := ([(⟨([99, 97, 115, 104] : Str), 595⟩ : ApiPost), (⟨([114, 101, 118, 101, 110, 117, 101] : Str), (-500)⟩ : ApiPost), (⟨([116, 97, 120, 58, 118, 111, 105, 99, 101] : Str), (-95)⟩ : ApiPost)] : List ApiPost)) h188.okLt N (h188.d 3 rfl) (h188.d 0 rfl) hy189) fun v191 a194 w195 hR192 hk193 h196 => ?_
            clear h188
            have hv197 := isV.weak hR192 hk193
            obtain rfl := isV_bool.1 hv197
            refine evalS_ok tabOk h196 2 [1, 49] [1] [(1, .o 1 0), (49, .v (.bool y189))] [(1, ⟨[.int .i64 y6.At, strV y6.Text, .slice A15 (List.length y6.Posts) c16], 24⟩)] (by kernel_rfl) fun β198 a199 w200 h201 => ?_
            clear h196
            refine bcases (b := y189) (fun hb202 => ?_) (fun hb202 => ?_)
            · skip
              have hv203 := ifT hb202 hv190
              clear hv190
              have h204 := h201.reb (t := 49) rfl hb202
              clear h201
              refine evalS_ok tabOk h204 1 [49, 50] [] [(49, .v (.bool true)), (50, .v (.agg ⟨[.int .i64 y6.At, strV y6.Text, .slice A15 (List.length y6.Posts) c16]⟩))] [] (by kernel_rfl) fun β205 a206 w207 h208 => ?_
              clear h204
              obtain ⟨y209, hy209, hv210⟩ := bindE hv203
              clear hv203
              refine step_call h208 rfl rfl runs9 (vs := [(.agg ⟨[.int .i64 y6.At, strV y6.Text, .slice A15 (List.length y6.Posts) c16]⟩)]) (by kernel_rfl) (c_ledger_Check (x0 := y6) h208.okLt N (h208.d 4 rfl) hy209) fun v211 a214 w215 hR212 hk213 h216 => ?_
              clear h208
              have hv217 := isV.weak hR212 hk213
              obtain rfl := isV_int.1 hv217
              refine evalS_ok tabOk h216 3 [0] [] [(0, .v (.bool (y209 == 0)))] [] (by kernel_rfl) fun β218 a219 w220 h221 => ?_
              clear h216
              obtain rfl := Option.some.inj hv210
              have h222 : Sb β218 (cx 54 ok w) [(0, .v (.bool (y209 == 0)))] [] [] [] a219 w220 := h221.sel [0] [] []
              clear h221
              exact wpl_end (then_n ⟨_, h222⟩)
            · skip
              have hv223 := ifF hb202 hv190
              clear hv190
              have h224 := h201.reb (t := 49) rfl hb202
              clear h201
              refine evalS_ok tabOk h224 5 [0] [] [(0, .v (.bool false))] [] (by kernel_rfl) fun β225 a226 w227 h228 => ?_
              clear h224
              obtain rfl := Option.some.inj hv223
              have h229 : Sb β225 (cx 54 ok w) [(0, .v (.bool false))] [] [] [] a226 w227 := h228.sel [0] [] []
              clear h228
              exact wpl_end (then_n ⟨_, h229⟩)
          · skip
            have hv230 := ifF hb175 hv163
            clear hv163
            have h231 := h174.reb (t := 41) rfl hb175
            clear h174
            refine evalS_ok tabOk h231 13 [0] [] [(0, .v (.bool false))] [] (by kernel_rfl) fun β232 a233 w234 h235 => ?_
            clear h231
            obtain rfl := Option.some.inj hv230
            have h236 : Sb β232 (cx 54 ok w) [(0, .v (.bool false))] [] [] [] a233 w234 := h235.sel [0] [] []
            clear h235
            exact wpl_end (then_n ⟨_, h236⟩)
        · skip
          have hv237 := ifF hb155 hv149
          clear hv149
          have h238 := h154.reb (t := 35) rfl hb155
          clear h154
          refine evalS_ok tabOk h238 19 [0] [] [(0, .v (.bool false))] [] (by kernel_rfl) fun β239 a240 w241 h242 => ?_
          clear h238
          obtain rfl := Option.some.inj hv237
          have h243 : Sb β239 (cx 54 ok w) [(0, .v (.bool false))] [] [] [] a240 w241 := h242.sel [0] [] []
          clear h242
          exact wpl_end (then_n ⟨_, h243⟩)
      · skip
        have hv244 := ifF hb148 hv142
        clear hv142
        have h245 := h147.reb (t := 30) rfl hb148
        clear h147
        refine evalS_ok tabOk h245 24 [0] [] [(0, .v (.bool false))] [] (by kernel_rfl) fun β246 a247 w248 h249 => ?_
        clear h245
        obtain rfl := Option.some.inj hv244
        have h250 : Sb β246 (cx 54 ok w) [(0, .v (.bool false))] [] [] [] a247 w248 := h249.sel [0] [] []
        clear h249
        exact wpl_end (then_n ⟨_, h250⟩)
    · skip
      have hv251 := ifF hb141 hv129
      clear hv129
      have h252 := h140.reb (t := 25) rfl hb141
      clear h140
      refine evalS_ok tabOk h252 29 [0] [] [(0, .v (.bool false))] [] (by kernel_rfl) fun β253 a254 w255 h256 => ?_
      clear h252
      obtain rfl := Option.some.inj hv251
      have h257 : Sb β253 (cx 54 ok w) [(0, .v (.bool false))] [] [] [] a254 w255 := h256.sel [0] [] []
      clear h256
      exact wpl_end (then_n ⟨_, h257⟩)

theorem c_billingref47_Clone {ok : Ok} {w : World} (hok : ∀ b o, ok b o → b < w.heap.size) (N : Nat) {x0 : ApiEntry} {A1 : Option Addr} {c2 : Nat} (d0 : isV (rSl rApiPost) ok w x0.Posts (.slice A1 (List.length x0.Posts) c2)) {r : ApiEntry} (hF : billingref47_Clone N x0 = some r) :
    Calls Try.prog 10 ⟨[.agg ⟨[.int .i64 x0.At, strV x0.Text, .slice A1 (List.length x0.Posts) c2]⟩]⟩ w (Ret w (R1 rApiEntry ok w r)) := by
  rw [billingref47_Clone] at hF
  refine enter_ok (n := 12) hok Try.func10 rfl rfl rfl (D := [DF.v (rSl rApiPost) x0.Posts (.slice A1 (List.length x0.Posts) c2)]) ⟨d0, trivial⟩ (fun a h => ?_)
  simp only [zipG, Nat.zero_add, Nat.reduceAdd] at h
  refine start_ctx fun Q hn hr => ?_
  refine seq_region tabOk h [1, 2] [1, 2] [(1, .o 1 0), (2, .o 2 0)] [(1, ⟨[.int .i64 x0.At, strV x0.Text, .slice A1 (List.length x0.Posts) c2], 24⟩), (2, ⟨[.int .i64 0, strV ([] : Str), .slice none 0 0], 24⟩)] (by kernel_rfl) fun β3 a4 w5 h6 => ?_
  clear h
  refine seq_draw fun Q7 hq7 => ?_
  obtain ⟨z8, hz8, hF9⟩ := bindE hF
  clear hF
  have h11 : Sb β3 (cx 12 ok w) [(1, .o 1 0), (2, .o 2 0)] [DF.v (rSl rApiPost) x0.Posts (.slice A1 (List.length x0.Posts) c2)] [(1, ⟨[.int .i64 x0.At, strV x0.Text, .slice A1 (List.length x0.Posts) c2], 24⟩), (2, ⟨[.int .i64 0, strV ([] : Str), .slice none 0 0], 24⟩)] [] a4 w5 := h6.sel [1, 2] [0] [1, 2]
  refine draw_rule h11 rfl (by kernel_rfl) 9 [3, 4, 5, 6, 7, 8, 9, 10, 11] [FV.eq (.pointer (some ⟨β3 1, 0, none⟩)), FV.eq (.int .i64 x0.At), FV.eq (.pointer (some ⟨β3 1, 1, none⟩)), FV.eq (strV x0.Text), FV.emp (rSl rApiPost) ([] : List ApiPost), FV.eq (.pointer (some ⟨β3 1, 2, none⟩)), FV.eq (.slice A1 (List.length x0.Posts) c2), FV.rep (rSl rApiPost) z8, FV.rep rApiEntry (⟨x0.At, x0.Text, z8⟩ : ApiEntry)] rfl rfl rfl (by kernel_rfl) (by kernel_rfl) (by kernel_rfl) (by kernel_rfl) (by kernel_rfl) ?_ ?_
  · skip
    refine ⟨⟨⟨⟨⟨⟨⟨⟨⟨trivial, ?_⟩, ?_⟩, ?_⟩, ?_⟩, ?_⟩, ?_⟩, ?_⟩, ?_⟩, ?_⟩
    · skip
      intro β12 a13 w14 dX15 Ox16 Q17 h18 hq19 hp20 hk21
      refine evalS_ok tabOk h18 1 [1, 2, 3] [1, 2] [(1, .o 1 0), (2, .o 2 0), (3, .o 1 0)] [(1, ⟨[.int .i64 x0.At, strV x0.Text, .slice A1 (List.length x0.Posts) c2], 24⟩), (2, ⟨[.int .i64 0, strV ([] : Str), .slice none 0 0], 24⟩)] (by kernel_rfl) fun β22 a23 w24 h25 => ?_
      exact wpl_end (hk21 _ _ _ _ (h25.sel [1, 2] [0, 1] [1, 2]) (h25.getO rfl rfl rfl) rfl)
    · skip
      intro β26 a27 w28 dX29 Ox30 Q31 h32 hq33 hp34 hk35
      have h36 := h32.learnO (d := 3) (id := 1) (off := 0) rfl rfl rfl (hp34 0 3 _ rfl rfl rfl)
      clear h32
      refine evalS_ok tabOk h36 1 [1, 2, 4] [1, 2] [(1, .o 1 0), (2, .o 2 0), (4, .v (.int .i64 x0.At))] [(1, ⟨[.int .i64 x0.At, strV x0.Text, .slice A1 (List.length x0.Posts) c2], 24⟩), (2, ⟨[.int .i64 0, strV ([] : Str), .slice none 0 0], 24⟩)] (by kernel_rfl) fun β37 a38 w39 h40 => ?_
      exact wpl_end (hk35 _ _ _ _ (h40.sel [1, 2] [0, 1] [1, 2]) (h40.getD rfl) rfl)
    · skip
      intro β41 a42 w43 dX44 Ox45 Q46 h47 hq48 hp49 hk50
      refine evalS_ok tabOk h47 1 [1, 2, 5] [1, 2] [(1, .o 1 0), (2, .o 2 0), (5, .o 1 1)] [(1, ⟨[.int .i64 x0.At, strV x0.Text, .slice A1 (List.length x0.Posts) c2], 24⟩), (2, ⟨[.int .i64 0, strV ([] : Str), .slice none 0 0], 24⟩)] (by kernel_rfl) fun β51 a52 w53 h54 => ?_
      exact wpl_end (hk50 _ _ _ _ (h54.sel [1, 2] [0, 1] [1, 2]) (h54.getO rfl rfl rfl) rfl)
    · skip
      intro β55 a56 w57 dX58 Ox59 Q60 h61 hq62 hp63 hk64
      have h65 := h61.learnO (d := 5) (id := 1) (off := 1) rfl rfl rfl (hp63 2 5 _ rfl rfl rfl)
      clear h61
      refine evalS_ok tabOk h65 1 [1, 2, 6] [1, 2] [(1, .o 1 0), (2, .o 2 0), (6, .v (strV x0.Text))] [(1, ⟨[.int .i64 x0.At, strV x0.Text, .slice A1 (List.length x0.Posts) c2], 24⟩), (2, ⟨[.int .i64 0, strV ([] : Str), .slice none 0 0], 24⟩)] (by kernel_rfl) fun β66 a67 w68 h69 => ?_
      exact wpl_end (hk64 _ _ _ _ (h69.sel [1, 2] [0, 1] [1, 2]) (h69.getD rfl) rfl)
    · skip
      intro β70 a71 w72 dX73 Ox74 Q75 h76 hq77 hp78 hk79
      refine step_buildOwn0 tabOk h76 rfl rfl (r := rApiPost) tb22 rfl tb38 fun b86 a83 w84 hv82 h85 => ?_
      clear h76
      have h87 := h85.addD (d := DF.v (rSl rApiPost) ([] : List ApiPost) (.slice (some ⟨b86, 0, none⟩) (List.length ([] : List ApiPost)) 0)) hv82
      clear h85
      have h88 := h87.dropO 0
      clear h87
      exact wpl_end (hk79 _ _ _ _ (h88.sel [1, 2] [1, 2] [1, 2]) (by have e := h88.getD (d := 7) rfl; show _ ∧ _; rw [e]; exact ⟨⟨_, rfl⟩, (h88.d 0 rfl)⟩) rfl)
    · skip
      intro β89 a90 w91 dX92 Ox93 Q94 h95 hq96 hp97 hk98
      refine evalS_ok tabOk h95 1 [1, 2, 8] [1, 2] [(1, .o 1 0), (2, .o 2 0), (8, .o 1 2)] [(1, ⟨[.int .i64 x0.At, strV x0.Text, .slice A1 (List.length x0.Posts) c2], 24⟩), (2, ⟨[.int .i64 0, strV ([] : Str), .slice none 0 0], 24⟩)] (by kernel_rfl) fun β99 a100 w101 h102 => ?_
      exact wpl_end (hk98 _ _ _ _ (h102.sel [1, 2] [0, 1] [1, 2]) (h102.getO rfl rfl rfl) rfl)
    · skip
      intro β103 a104 w105 dX106 Ox107 Q108 h109 hq110 hp111 hk112
      have h113 := h109.learnO (d := 8) (id := 1) (off := 2) rfl rfl rfl (hp111 5 8 _ rfl rfl rfl)
      clear h109
      refine evalS_ok tabOk h113 1 [1, 2, 9] [1, 2] [(1, .o 1 0), (2, .o 2 0), (9, .v (.slice A1 (List.length x0.Posts) c2))] [(1, ⟨[.int .i64 x0.At, strV x0.Text, .slice A1 (List.length x0.Posts) c2], 24⟩), (2, ⟨[.int .i64 0, strV ([] : Str), .slice none 0 0], 24⟩)] (by kernel_rfl) fun β114 a115 w116 h117 => ?_
      exact wpl_end (hk112 _ _ _ _ (h117.sel [1, 2] [0, 1] [1, 2]) (h117.getD rfl) rfl)
    · skip
      intro β118 a119 w120 dX121 Ox122 Q123 h124 hq125 hp126 hk127
      have h128 := h124.learn (d := 7) rfl
      clear h124
      have f129 := hp126 4 7 _ rfl rfl rfl
      generalize a119.tmps.getD 7 undef = v130 at h128 f129
      obtain ⟨⟨A131, rfl⟩, hs133⟩ := f129
      have h134 := h128.addD (d := DF.v (rSl rApiPost) ([] : List ApiPost) (.slice (some ⟨A131, 0, none⟩) (List.length ([] : List ApiPost)) 0)) hs133
      clear h128
      have h135 := h134.learnE (d := 9) rfl (hp126 6 9 _ rfl rfl rfl)
      clear h134
      refine step_append0 tabOk h135 rfl rfl (r := rApiPost) tb22 rfl tb38 rfl rfl rfl rfl rfl rfl (h135.d 2 rfl) hz8 fun A136 c137 a139 w140 hv138 h141 => ?_
      clear h135
      have h142 := h141.addD (d := DF.v (rSl rApiPost) z8 (.slice A136 (List.length z8) c137)) hv138
      clear h141
      exact wpl_end (hk127 _ _ _ _ (h142.sel [1, 2] [2, 3] [1, 2]) (h142.getR rfl (h142.d 0 rfl)) rfl)
    · skip
      intro β143 a144 w145 dX146 Ox147 Q148 h149 hq150 hp151 hk152
      have h153 := h149.learnE (d := 4) rfl (hp151 1 4 _ rfl rfl rfl)
      clear h149
      have h154 := h153.learnE (d := 6) rfl (hp151 3 6 _ rfl rfl rfl)
      clear h153
      have h155 := h154.learn (d := 10) rfl
      clear h154
      have f156 := hp151 7 10 _ rfl rfl rfl
      generalize a144.tmps.getD 10 undef = v157 at h155 f156
      obtain ⟨A158, c159, rfl, hs160⟩ := slForm f156
      have h161 := h155.addD (d := DF.v (rSl rApiPost) z8 (.slice A158 (List.length z8) c159)) hs160
      clear h155
      refine evalS_ok tabOk h161 1 [1, 2, 11] [1, 2] [(1, .o 1 0), (2, .o 2 0), (11, .v (.agg ⟨[.int .i64 x0.At, strV x0.Text, .slice A158 (List.length z8) c159]⟩))] [(1, ⟨[.int .i64 x0.At, strV x0.Text, .slice A1 (List.length x0.Posts) c2], 24⟩), (2, ⟨[.int .i64 0, strV ([] : Str), .slice none 0 0], 24⟩)] (by kernel_rfl) fun β162 a163 w164 h165 => ?_
      exact wpl_end (hk152 _ _ _ _ (h165.sel [1, 2] [1, 2] [1, 2]) (h165.getR rfl (im_ApiEntry (x := (⟨x0.At, x0.Text, z8⟩ : ApiEntry)) (h165.d 0 rfl))) rfl)
  · skip
    intro β166 a167 w168 h169 ha170
    have h171 := h169.learn (d := 11) rfl
    clear h169
    have f172 := ha170 8 11 _ rfl rfl
    generalize a167.tmps.getD 11 undef = v173 at h171 f172
    obtain ⟨v176, hs177, rfl⟩ := ex_ApiEntry f172
    obtain ⟨A174, c175, rfl, hs178⟩ := slForm hs177
    have h179 := h171.addD (d := DF.v (rSl rApiPost) ((⟨x0.At, x0.Text, z8⟩ : ApiEntry).Posts) (.slice A174 (List.length ((⟨x0.At, x0.Text, z8⟩ : ApiEntry).Posts)) c175)) hs178
    clear h171
    have h180 := h179.unpin rfl
    clear h179
    refine evalS_ok tabOk h180 1 [2] [2] [(2, .o 2 0)] [(2, ⟨[.int .i64 ((⟨x0.At, x0.Text, z8⟩ : ApiEntry).At), strV ((⟨x0.At, x0.Text, z8⟩ : ApiEntry).Text), .slice A174 (List.length ((⟨x0.At, x0.Text, z8⟩ : ApiEntry).Posts)) c175], 24⟩)] (by kernel_rfl) fun β181 a182 w183 h184 => ?_
    clear h180
    have h185 : Sb β181 (cx 12 ok w) [(2, .o 2 0)] [DF.v (rSl rApiPost) ((⟨x0.At, x0.Text, z8⟩ : ApiEntry).Posts) (.slice A174 (List.length ((⟨x0.At, x0.Text, z8⟩ : ApiEntry).Posts)) c175)] [(2, ⟨[.int .i64 ((⟨x0.At, x0.Text, z8⟩ : ApiEntry).At), strV ((⟨x0.At, x0.Text, z8⟩ : ApiEntry).Text), .slice A174 (List.length ((⟨x0.At, x0.Text, z8⟩ : ApiEntry).Posts)) c175], 24⟩)] [] a182 w183 := h184.sel [2] [0] [2]
    clear h184
    refine wpl_end (hq7 _ _ ?_)
    refine wp_ret ?_
    refine hr _ _ ?_
    obtain rfl := Option.some.inj hF9
    exact ret1c_ok tabOk h185 rfl rfl rfl (v := .agg ⟨[.int .i64 ((⟨x0.At, x0.Text, z8⟩ : ApiEntry).At), strV ((⟨x0.At, x0.Text, z8⟩ : ApiEntry).Text), .slice A174 (List.length ((⟨x0.At, x0.Text, z8⟩ : ApiEntry).Posts)) c175]⟩) (by kernel_rfl) (im_ApiEntry (x := (⟨x0.At, x0.Text, z8⟩ : ApiEntry)) (isV.weak (h185.d 0 rfl) (okOf_out h185 hok)))

theorem co_billingref47_CloneAll {ok : Ok} {w : World} (hok : ∀ b o, ok b o → b < w.heap.size) (N : Nat) {x0 : (List ApiEntry)} {A1 : Option Addr} {c2 : Nat} (d0 : isV (rSl rApiEntry) ok w x0 (.slice A1 (List.length x0) c2)) {r : (List ApiEntry)} (hF : billingref47_CloneAll N x0 = some r) :
    Calls Try.prog 14 ⟨[.slice A1 (List.length x0) c2]⟩ w (Ret w (R1o (rSl rApiEntry) 24 3 ok w r)) := by
  rw [billingref47_CloneAll] at hF
  refine enter_ok (n := 21) hok Try.func14 rfl rfl rfl (D := [DF.v (rSl rApiEntry) x0 (.slice A1 (List.length x0) c2)]) ⟨d0, trivial⟩ (fun a h => ?_)
  simp only [zipG, Nat.zero_add, Nat.reduceAdd] at h
  refine start_ctx fun Q hn hr => ?_
  refine seq_region tabOk h [0] [] [(0, .v (.slice A1 (List.length x0) c2))] [] (by kernel_rfl) fun β3 a4 w5 h6 => ?_
  clear h
  refine seq_list fun Q7 hq7 => ?_
  refine step_buildOwn0 tabOk h6 rfl rfl (r := rApiEntry) tb30 rfl tb24 fun b14 a11 w12 hv10 h13 => ?_
  clear h6
  have h15 := h13.addD (d := DF.v (rSl rApiEntry) ([] : List ApiEntry) (.slice (some ⟨b14, 0, none⟩) (List.length ([] : List ApiEntry)) 0)) hv10
  clear h13
  refine evalS_ok tabOk h15 1 [0, 3] [] [(0, .v (.slice A1 (List.length x0) c2)), (3, .v (.slice (some ⟨b14, 0, none⟩) (List.length ([] : List ApiEntry)) 0))] [] (by kernel_rfl) fun β16 a17 w18 h19 => ?_
  clear h15
  have h20 : Sb β16 (cx 21 ok w) [(0, .v (.slice A1 (List.length x0) c2)), (3, .v (.slice (some ⟨b14, 0, none⟩) (List.length ([] : List ApiEntry)) 0))] [DF.v (rSl rApiEntry) x0 (.slice A1 (List.length x0) c2), DF.v (rSl rApiEntry) ([] : List ApiEntry) (.slice (some ⟨b14, 0, none⟩) (List.length ([] : List ApiEntry)) 0)] [] [⟨.slice (some ⟨b14, 0, none⟩) (List.length ([] : List ApiEntry)) 0, 24, 3⟩] a17 w18 := h19.sel [0, 3] [1, 0] []
  clear h19
  refine wpl_end (hq7 _ _ ?_)
  refine seq_ctx fun Q21 hn21 hr21 hx21 => ?_
  refine seq_region tabOk h20 [0, 3, 4] [] [(0, .v (.slice A1 (List.length x0) c2)), (3, .v (.slice (some ⟨b14, 0, none⟩) (List.length ([] : List ApiEntry)) 0)), (4, .v (.int .i64 0))] [] (by kernel_rfl) fun β22 a23 w24 h25 => ?_
  clear h20
  obtain ⟨out26, hL26, hC26⟩ := bindE hF
  clear hF
  have j30 : ∀ a w', (∃ (l27 : List ApiEntry) (A28 : Option Addr) (c29 : Nat), (∃ β, Sb β (cx 21 ok w) [(3, .v (.slice A28 (List.length l27) c29))] [DF.v (rSl rApiEntry) l27 (.slice A28 (List.length l27) c29)] [] [⟨.slice A28 (List.length l27) c29, 24, 3⟩] a w') ∧ billingref47_CloneAll_j30 N l27 = some r) → Q21 .normal a w' := by
    rintro a31 w32 ⟨l27, A28, c29, ⟨β33, h34⟩, hF35⟩
    rw [billingref47_CloneAll_j30] at hF35
    refine hn21 _ _ ?_
    refine seq_region tabOk h34 [2] [] [(2, .v (.slice A28 (List.length l27) c29))] [] (by kernel_rfl) fun β36 a37 w38 h39 => ?_
    clear h34
    refine wp_ret ?_
    refine hr _ _ ?_
    obtain rfl := Option.some.inj hF35
    exact ret1_ok h39 rfl rfl (own_out h39 hok (.head _) (h39.d 0 rfl))
  refine block_ctx fun Qb26 hnb26 hrb26 hbb26 hxb26 => ?_
  have h44 : Sb β22 (cx 21 ok w) [(0, .v (.slice A1 (List.length x0) c2)), (3, .v (.slice (some ⟨b14, 0, none⟩) (List.length ([] : List ApiEntry)) 0)), (4, .v (.int .i64 0))] [DF.v (rSl rApiEntry) x0 (.slice A1 (List.length x0) c2), DF.v (rSl rApiEntry) ([] : List ApiEntry) (.slice (some ⟨b14, 0, none⟩) (List.length ([] : List ApiEntry)) 0)] [] [⟨.slice (some ⟨b14, 0, none⟩) (List.length ([] : List ApiEntry)) 0, 24, 3⟩] a23 w24 := (h25).sel [0, 3, 4] [0, 1] []
  refine loop_ctx (fun m a w' => ∃ (l40 : List ApiEntry) (i43 : Int) (A41 : Option Addr) (c42 : Nat), (∃ β, Sb β (cx 21 ok w) [(0, .v (.slice A1 (List.length x0) c2)), (3, .v (.slice A41 (List.length l40) c42)), (4, .v (.int .i64 i43))] [DF.v (rSl rApiEntry) x0 (.slice A1 (List.length x0) c2), DF.v (rSl rApiEntry) l40 (.slice A41 (List.length l40) c42)] [] [⟨.slice A41 (List.length l40) c42, 24, 3⟩] a w') ∧ billingref47_CloneAll_l26 N x0 m l40 i43 = some out26) N ⟨([] : List ApiEntry), 0, (some ⟨b14, 0, none⟩), 0, ⟨_, h44⟩, hL26⟩ ?_
  rintro Q26 m45 a46 w47 ⟨l40, i43, A41, c42, ⟨β48, h49⟩, hF50⟩ hn26 hr26 hx26
  obtain _ | m45 := m45
  · exact absurd hF50 (by simp [billingref47_CloneAll_l26])
  rw [billingref47_CloneAll_l26] at hF50
  refine seq_ctx fun Q51 hn51 hr51 hx51 => ?_
  refine seq_region tabOk h49 [0, 3, 4, 9] [] [(0, .v (.slice A1 (List.length x0) c2)), (3, .v (.slice A41 (List.length l40) c42)), (4, .v (.int .i64 i43)), (9, .v (.bool (decide (i43 < (List.length x0 : Int)))))] [] (by kernel_rfl) fun β52 a53 w54 h55 => ?_
  clear h49
  refine wp_if h55 rfl (fun hb56 => ?_) (fun hb56 => ?_)
  · skip
    have hF57 := ifT hb56 hF50
    clear hF50
    refine wp_skip ?_
    refine hn51 _ _ ?_
    refine seq_ctx fun Q58 hn58 hr58 hx58 => ?_
    refine block_ctx fun Q59 hn59 hr59 hb59 hx59 => ?_
    refine region_ok ?_
    refine evalS_ok tabOk h55 3 [0, 3, 4, 12, 13, 14] [] [(0, .v (.slice A1 (List.length x0) c2)), (3, .v (.slice A41 (List.length l40) c42)), (4, .v (.int .i64 i43)), (12, .v (.slice A41 (List.length l40) c42)), (13, .v (.slice A1 (List.length x0) c2)), (14, .v (.int .i64 i43))] [] (by kernel_rfl) fun β61 a62 w63 h64 => ?_
    clear h55
    obtain ⟨x65, hx65, hF66⟩ := bindE hF57
    clear hF57
    refine step_idx tabOk h64 0 rfl rfl rfl rfl rfl hx65 tb30 rfl tb24 rfl fun p67 a68 h69 => ?_
    clear h64
    refine step_load tabOk h69 0 rfl rfl rfl rfl tb24 rfl rfl fun v70 a72 hv71 h73 => ?_
    clear h69
    obtain ⟨v76, hs77, rfl⟩ := ex_ApiEntry hv71
    obtain ⟨A74, c75, rfl, hs78⟩ := slForm hs77
    have h79 := h73.addD (d := DF.v (rSl rApiPost) x65.Posts (.slice A74 (List.length x65.Posts) c75)) hs78
    clear h73
    obtain ⟨y80, hy80, hF81⟩ := bindE hF66
    clear hF66
    refine step_call h79 rfl rfl runs10 (vs := [(.agg ⟨[.int .i64 x65.At, strV x65.Text, .slice A74 (List.length x65.Posts) c75]⟩)]) (by kernel_rfl) (c_billingref47_Clone (x0 := x65) h79.okLt N (h79.d 0 rfl) hy80) fun v82 a85 w86 hR83 hk84 h87 => ?_
    clear h79
    have hv88 := isV.weak hR83 hk84
    obtain ⟨v91, hs92, rfl⟩ := ex_ApiEntry hv88
    obtain ⟨A89, c90, rfl, hs93⟩ := slForm hs92
    have h94 := h87.addD (d := DF.v (rSl rApiPost) y80.Posts (.slice A89 (List.length y80.Posts) c90)) hs93
    clear h87
    refine step_buildSlice tabOk h94 rfl rfl (r := rApiEntry) (xs := ([y80] : List ApiEntry)) (vs := [.agg ⟨[.int .i64 y80.At, strV y80.Text, .slice A89 (List.length y80.Posts) c90]⟩]) (pvs := [(0, .agg ⟨[.int .i64 y80.At, strV y80.Text, .slice A89 (List.length y80.Posts) c90]⟩)]) (by kernel_rfl) tb30 rfl tb24 rfl rfl rfl rfl rfl (by kernel_rfl) ⟨(im_ApiEntry (x := y80) (h94.d 0 rfl)), trivial⟩ fun A95 c96 a98 w99 hv97 h100 => ?_
    clear h94
    have h101 := h100.addD (d := DF.v (rSl rApiEntry) ([y80] : List ApiEntry) (.slice A95 (List.length ([y80] : List ApiEntry)) c96)) hv97
    clear h100
    obtain ⟨z102, hz102, hF103⟩ := bindE hF81
    clear hF81
    refine step_append tabOk h101 6 0 [] [] rfl rfl (r := rApiEntry) (xs := l40) tb30 rfl tb24 rfl rfl rfl rfl rfl rfl rfl rfl (h101.d 0 rfl) hz102 fun A104 c105 a107 w108 hv106 h109 => ?_
    clear h101
    have h110 := h109.addD (d := DF.v (rSl rApiEntry) z102 (.slice A104 (List.length z102) c105)) hv106
    clear h109
    refine evalS_ok tabOk h110 1 [0, 3, 4] [] [(0, .v (.slice A1 (List.length x0) c2)), (3, .v (.slice A104 (List.length z102) c105)), (4, .v (.int .i64 i43))] [] (by kernel_rfl) fun β111 a112 w113 h114 => ?_
    clear h110
    have h115 : Sb β111 (cx 21 ok w) [(0, .v (.slice A1 (List.length x0) c2)), (3, .v (.slice A104 (List.length z102) c105)), (4, .v (.int .i64 i43))] [DF.v (rSl rApiEntry) x0 (.slice A1 (List.length x0) c2), DF.v (rSl rApiEntry) z102 (.slice A104 (List.length z102) c105)] [] [⟨.slice A104 (List.length z102) c105, 24, 3⟩] a112 w113 := h114.sel [0, 3, 4] [6, 0] []
    clear h114
    refine wpl_end ?_
    refine hn59 _ _ ?_
    refine hn58 _ _ ?_
    refine evalR_ok tabOk h115 [0, 3, 4] [] [(0, .v (.slice A1 (List.length x0) c2)), (3, .v (.slice A104 (List.length z102) c105)), (4, .v (.int .i64 (IntKind.wrap .i64 (i43 + 1))))] [] (by kernel_rfl) fun β116 a117 w118 h119 => ?_
    clear h115
    have h120 : Sb β116 (cx 21 ok w) [(0, .v (.slice A1 (List.length x0) c2)), (3, .v (.slice A104 (List.length z102) c105)), (4, .v (.int .i64 (IntKind.wrap .i64 (i43 + 1))))] [DF.v (rSl rApiEntry) x0 (.slice A1 (List.length x0) c2), DF.v (rSl rApiEntry) z102 (.slice A104 (List.length z102) c105)] [] [⟨.slice A104 (List.length z102) c105, 24, 3⟩] a117 w118 := (h119).sel [0, 3, 4] [0, 1] []
    exact hn26 _ _ _ (Nat.lt_succ_self _) ⟨z102, (IntKind.wrap .i64 (i43 + 1)), A104, c105, ⟨_, h120⟩, hF103⟩
  · skip
    have hF121 := ifF hb56 hF50
    clear hF50
    refine wp_exit ?_
    refine hx51 0 _ _ ?_
    refine hx26 0 _ _ ?_
    refine hbb26 _ _ ?_
    obtain rfl := Option.some.inj hF121
    have h122 : Sb β52 (cx 21 ok w) [(3, .v (.slice A41 (List.length l40) c42))] [DF.v (rSl rApiEntry) l40 (.slice A41 (List.length l40) c42)] [] [⟨.slice A41 (List.length l40) c42, 24, 3⟩] a53 w54 := (h55).sel [3] [1] []
    exact j30 _ _ ⟨l40, A41, c42, ⟨_, h122⟩, hC26⟩
theorem c_billingref47_CloneAll {ok : Ok} {w : World} (hok : ∀ b o, ok b o → b < w.heap.size) (N : Nat) {x0 : (List ApiEntry)} {A1 : Option Addr} {c2 : Nat} (d0 : isV (rSl rApiEntry) ok w x0 (.slice A1 (List.length x0) c2)) {r : (List ApiEntry)} (hF : billingref47_CloneAll N x0 = some r) :
    Calls Try.prog 14 ⟨[.slice A1 (List.length x0) c2]⟩ w (Ret w (R1 (rSl rApiEntry) ok w r)) :=
  Calls.own1 (co_billingref47_CloneAll hok N d0 hF)

theorem c_ledger_clone {ok : Ok} {w : World} (hok : ∀ b o, ok b o → b < w.heap.size) (N : Nat) {x0 : ApiEntry} {A1 : Option Addr} {c2 : Nat} (d0 : isV (rSl rApiPost) ok w x0.Posts (.slice A1 (List.length x0.Posts) c2)) {r : ApiEntry} (hF : ledger_clone N x0 = some r) :
    Calls Try.prog 37 ⟨[.agg ⟨[.int .i64 x0.At, strV x0.Text, .slice A1 (List.length x0.Posts) c2]⟩]⟩ w (Ret w (R1 rApiEntry ok w r)) := by
  rw [ledger_clone] at hF
  refine enter_ok (n := 8) hok Try.func37 rfl rfl rfl (D := [DF.v (rSl rApiPost) x0.Posts (.slice A1 (List.length x0.Posts) c2)]) ⟨d0, trivial⟩ (fun a h => ?_)
  simp only [zipG, Nat.zero_add, Nat.reduceAdd] at h
  refine start_ctx fun Q hn hr => ?_
  refine seq_region tabOk h [1, 2] [1, 2] [(1, .o 1 0), (2, .o 2 0)] [(1, ⟨[.int .i64 x0.At, strV x0.Text, .slice A1 (List.length x0.Posts) c2], 24⟩), (2, ⟨[.int .i64 0, strV ([] : Str), .slice none 0 0], 24⟩)] (by kernel_rfl) fun β3 a4 w5 h6 => ?_
  clear h
  refine seq_list fun Q7 hq7 => ?_
  refine evalS_ok tabOk h6 2 [1, 2, 4] [1, 2] [(1, .o 1 0), (2, .o 2 0), (4, .v (.slice A1 (List.length x0.Posts) c2))] [(1, ⟨[.int .i64 x0.At, strV x0.Text, .slice A1 (List.length x0.Posts) c2], 24⟩), (2, ⟨[.int .i64 0, strV ([] : Str), .slice none 0 0], 24⟩)] (by kernel_rfl) fun β8 a9 w10 h11 => ?_
  clear h6
  obtain ⟨z12, hz12, hF13⟩ := bindE hF
  clear hF
  refine step_append0 tabOk h11 rfl rfl (r := rApiPost) tb22 rfl tb38 rfl rfl rfl rfl rfl rfl (h11.d 0 rfl) hz12 fun A14 c15 a17 w18 hv16 h19 => ?_
  clear h11
  have h20 := h19.addD (d := DF.v (rSl rApiPost) z12 (.slice A14 (List.length z12) c15)) hv16
  clear h19
  refine evalS_ok tabOk h20 2 [1, 2] [1, 2] [(1, .o 1 0), (2, .o 2 0)] [(1, ⟨[.int .i64 x0.At, strV x0.Text, .slice A14 (List.length z12) c15], 24⟩), (2, ⟨[.int .i64 0, strV ([] : Str), .slice none 0 0], 24⟩)] (by kernel_rfl) fun β21 a22 w23 h24 => ?_
  clear h20
  have h25 : Sb β21 (cx 8 ok w) [(1, .o 1 0), (2, .o 2 0)] [DF.v (rSl rApiPost) z12 (.slice A14 (List.length z12) c15)] [(1, ⟨[.int .i64 x0.At, strV x0.Text, .slice A14 (List.length z12) c15], 24⟩), (2, ⟨[.int .i64 0, strV ([] : Str), .slice none 0 0], 24⟩)] [] a22 w23 := h24.sel [1, 2] [0] [1, 2]
  clear h24
  refine wpl_end (hq7 _ _ ?_)
  refine seq_region tabOk h25 [2] [2] [(2, .o 2 0)] [(2, ⟨[.int .i64 x0.At, strV x0.Text, .slice A14 (List.length z12) c15], 24⟩)] (by kernel_rfl) fun β26 a27 w28 h29 => ?_
  clear h25
  refine wp_ret ?_
  refine hr _ _ ?_
  obtain rfl := Option.some.inj hF13
  exact ret1c_ok tabOk h29 rfl rfl rfl (v := .agg ⟨[.int .i64 x0.At, strV x0.Text, .slice A14 (List.length z12) c15]⟩) (by kernel_rfl) (im_ApiEntry (x := (⟨x0.At, x0.Text, z12⟩ : ApiEntry)) (isV.weak (h29.d 0 rfl) (okOf_out h29 hok)))

theorem c_ledger_Add {ok : Ok} {w : World} (hok : ∀ b o, ok b o → b < w.heap.size) (N : Nat) {x0 : (List ApiEntry)} {x1 : ApiEntry} {A1 : Option Addr} {c2 : Nat} {A3 : Option Addr} {c4 : Nat} (d0 : isV (rSl rApiEntry) ok w x0 (.slice A1 (List.length x0) c2)) (d1 : isV (rSl rApiPost) ok w x1.Posts (.slice A3 (List.length x1.Posts) c4)) {r : (List ApiEntry) × Int} (hF : ledger_Add N x0 x1 = some r) :
    Calls Try.prog 19 ⟨[.slice A1 (List.length x0) c2, .agg ⟨[.int .i64 x1.At, strV x1.Text, .slice A3 (List.length x1.Posts) c4]⟩]⟩ w (Ret w (R2 (rSl rApiEntry) (rInt .i64) ok w r)) := by
  rw [ledger_Add] at hF
  refine enter_ok (n := 35) hok Try.func19 rfl rfl rfl (D := [DF.v (rSl rApiEntry) x0 (.slice A1 (List.length x0) c2), DF.v (rSl rApiPost) x1.Posts (.slice A3 (List.length x1.Posts) c4)]) ⟨d0, d1, trivial⟩ (fun a h => ?_)
  simp only [zipG, Nat.zero_add, Nat.reduceAdd] at h
  refine start_ctx fun Q hn hr => ?_
  refine seq_region tabOk h [0, 3] [3] [(0, .v (.slice A1 (List.length x0) c2)), (3, .o 3 0)] [(3, ⟨[.int .i64 x1.At, strV x1.Text, .slice A3 (List.length x1.Posts) c4], 24⟩)] (by kernel_rfl) fun β5 a6 w7 h8 => ?_
  clear h
  refine seq_ctx fun Q9 hn9 hr9 hx9 => ?_
  refine seq_list fun Q10 hq10 => ?_
  refine evalS_ok tabOk h8 1 [0, 3, 10] [3] [(0, .v (.slice A1 (List.length x0) c2)), (3, .o 3 0), (10, .v (.agg ⟨[.int .i64 x1.At, strV x1.Text, .slice A3 (List.length x1.Posts) c4]⟩))] [(3, ⟨[.int .i64 x1.At, strV x1.Text, .slice A3 (List.length x1.Posts) c4], 24⟩)] (by kernel_rfl) fun β11 a12 w13 h14 => ?_
  clear h8
  obtain ⟨y15, hy15, hF16⟩ := bindE hF
  clear hF
  refine step_call h14 rfl rfl runs9 (vs := [(.agg ⟨[.int .i64 x1.At, strV x1.Text, .slice A3 (List.length x1.Posts) c4]⟩)]) (by kernel_rfl) (c_ledger_Check (x0 := x1) h14.okLt N (h14.d 1 rfl) hy15) fun v17 a20 w21 hR18 hk19 h22 => ?_
  clear h14
  have hv23 := isV.weak hR18 hk19
  obtain rfl := isV_int.1 hv23
  refine evalS_ok tabOk h22 1 [0, 3, 6] [3] [(0, .v (.slice A1 (List.length x0) c2)), (3, .o 3 0), (6, .v (.int .i64 y15))] [(3, ⟨[.int .i64 x1.At, strV x1.Text, .slice A3 (List.length x1.Posts) c4], 24⟩)] (by kernel_rfl) fun β24 a25 w26 h27 => ?_
  clear h22
  have h28 : Sb β24 (cx 35 ok w) [(0, .v (.slice A1 (List.length x0) c2)), (3, .o 3 0), (6, .v (.int .i64 y15))] [DF.v (rSl rApiEntry) x0 (.slice A1 (List.length x0) c2), DF.v (rSl rApiPost) x1.Posts (.slice A3 (List.length x1.Posts) c4)] [(3, ⟨[.int .i64 x1.At, strV x1.Text, .slice A3 (List.length x1.Posts) c4], 24⟩)] [] a25 w26 := h27.sel [0, 3, 6] [0, 1] [3]
  clear h27
  refine wpl_end (hq10 _ _ ?_)
  refine seq_region tabOk h28 [0, 3, 6, 13] [3] [(0, .v (.slice A1 (List.length x0) c2)), (3, .o 3 0), (6, .v (.int .i64 y15)), (13, .v (.bool (y15 != 0)))] [(3, ⟨[.int .i64 x1.At, strV x1.Text, .slice A3 (List.length x1.Posts) c4], 24⟩)] (by kernel_rfl) fun β29 a30 w31 h32 => ?_
  clear h28
  refine wp_if h32 rfl (fun hb33 => ?_) (fun hb33 => ?_)
  · skip
    have hF34 := ifT hb33 hF16
    clear hF16
    refine seq_region tabOk h32 [4, 5] [] [(4, .v (.slice none 0 0)), (5, .v (.int .i64 y15))] [] (by kernel_rfl) fun β35 a36 w37 h38 => ?_
    clear h32
    refine wp_ret ?_
    refine hr9 _ _ ?_
    refine hr _ _ ?_
    obtain rfl := Option.some.inj hF34
    exact ret2_ok h38 rfl rfl rfl ⟨_, _, rfl, slNil, (isV_int.2 rfl)⟩
  · skip
    have hF39 := ifF hb33 hF16
    clear hF16
    refine wp_skip ?_
    refine hn9 _ _ ?_
    refine seq_ctx fun Q40 hn40 hr40 hx40 => ?_
    refine seq_region tabOk h32 [0, 3, 17] [3] [(0, .v (.slice A1 (List.length x0) c2)), (3, .o 3 0), (17, .v (.bool (decide ((List.length x0 : Int) ≥ 4096))))] [(3, ⟨[.int .i64 x1.At, strV x1.Text, .slice A3 (List.length x1.Posts) c4], 24⟩)] (by kernel_rfl) fun β41 a42 w43 h44 => ?_
    clear h32
    refine wp_if h44 rfl (fun hb45 => ?_) (fun hb45 => ?_)
    · skip
      have hF46 := ifT hb45 hF39
      clear hF39
      refine seq_region tabOk h44 [4, 5] [] [(4, .v (.slice none 0 0)), (5, .v (.int .i64 5))] [] (by kernel_rfl) fun β47 a48 w49 h50 => ?_
      clear h44
      refine wp_ret ?_
      refine hr40 _ _ ?_
      refine hr _ _ ?_
      obtain rfl := Option.some.inj hF46
      exact ret2_ok h50 rfl rfl rfl ⟨_, _, rfl, slNil, (isV_int.2 rfl)⟩
    · skip
      have hF51 := ifF hb45 hF39
      clear hF39
      refine wp_skip ?_
      refine hn40 _ _ ?_
      refine seq_region tabOk h44 [0, 3, 7] [3] [(0, .v (.slice A1 (List.length x0) c2)), (3, .o 3 0), (7, .v (.slice none 0 0))] [(3, ⟨[.int .i64 x1.At, strV x1.Text, .slice A3 (List.length x1.Posts) c4], 24⟩)] (by kernel_rfl) fun β52 a53 w54 h55 => ?_
      clear h44
      have h56 := h55.addNil 24 3
      refine seq_ctx fun Q57 hn57 hr57 hx57 => ?_
      refine seq_region tabOk h56 [3, 7, 18, 19, 20] [3] [(3, .o 3 0), (7, .v (.slice none 0 0)), (18, .v (.slice A1 (List.length x0) c2)), (19, .v (.int .i64 (List.length x0 : Int))), (20, .v (.int .i64 0))] [(3, ⟨[.int .i64 x1.At, strV x1.Text, .slice A3 (List.length x1.Posts) c4], 24⟩)] (by kernel_rfl) fun β58 a59 w60 h61 => ?_
      clear h56
      obtain ⟨out62, hL62, hC62⟩ := bindE hF51
      clear hF51
      have j66 : ∀ a w', (∃ (l63 : List ApiEntry) (A64 : Option Addr) (c65 : Nat), (∃ β, Sb β (cx 35 ok w) [(3, .o 3 0), (7, .v (.slice A64 (List.length l63) c65))] [DF.v (rSl rApiEntry) l63 (.slice A64 (List.length l63) c65), DF.v (rSl rApiPost) x1.Posts (.slice A3 (List.length x1.Posts) c4)] [(3, ⟨[.int .i64 x1.At, strV x1.Text, .slice A3 (List.length x1.Posts) c4], 24⟩)] [⟨.slice A64 (List.length l63) c65, 24, 3⟩] a w') ∧ ledger_Add_j66 N x1 l63 = some r) → Q57 .normal a w' := by
        rintro a67 w68 ⟨l63, A64, c65, ⟨β69, h70⟩, hF71⟩
        rw [ledger_Add_j66] at hF71
        refine hn57 _ _ ?_
        refine seq_list fun Q72 hq72 => ?_
        refine evalS_ok tabOk h70 2 [30, 31] [] [(30, .v (.slice A64 (List.length l63) c65)), (31, .v (.agg ⟨[.int .i64 x1.At, strV x1.Text, .slice A3 (List.length x1.Posts) c4]⟩))] [] (by kernel_rfl) fun β73 a74 w75 h76 => ?_
        clear h70
        obtain ⟨y77, hy77, hF78⟩ := bindE hF71
        clear hF71
        refine step_call h76 rfl rfl runs37 (vs := [(.agg ⟨[.int .i64 x1.At, strV x1.Text, .slice A3 (List.length x1.Posts) c4]⟩)]) (by kernel_rfl) (c_ledger_clone (x0 := x1) h76.okLt N (h76.d 1 rfl) hy77) fun v79 a82 w83 hR80 hk81 h84 => ?_
        clear h76
        have hv85 := isV.weak hR80 hk81
        obtain ⟨v88, hs89, rfl⟩ := ex_ApiEntry hv85
        obtain ⟨A86, c87, rfl, hs90⟩ := slForm hs89
        have h91 := h84.addD (d := DF.v (rSl rApiPost) y77.Posts (.slice A86 (List.length y77.Posts) c87)) hs90
        clear h84
        refine step_buildSlice tabOk h91 rfl rfl (r := rApiEntry) (xs := ([y77] : List ApiEntry)) (vs := [.agg ⟨[.int .i64 y77.At, strV y77.Text, .slice A86 (List.length y77.Posts) c87]⟩]) (pvs := [(0, .agg ⟨[.int .i64 y77.At, strV y77.Text, .slice A86 (List.length y77.Posts) c87]⟩)]) (by kernel_rfl) tb30 rfl tb24 rfl rfl rfl rfl rfl (by kernel_rfl) ⟨(im_ApiEntry (x := y77) (h91.d 0 rfl)), trivial⟩ fun A92 c93 a95 w96 hv94 h97 => ?_
        clear h91
        have h98 := h97.addD (d := DF.v (rSl rApiEntry) ([y77] : List ApiEntry) (.slice A92 (List.length ([y77] : List ApiEntry)) c93)) hv94
        clear h97
        obtain ⟨z99, hz99, hF100⟩ := bindE hF78
        clear hF78
        refine step_append tabOk h98 2 0 [] [] rfl rfl (r := rApiEntry) (xs := l63) tb30 rfl tb24 rfl rfl rfl rfl rfl rfl rfl rfl (h98.d 0 rfl) hz99 fun A101 c102 a104 w105 hv103 h106 => ?_
        clear h98
        have h107 := h106.addD (d := DF.v (rSl rApiEntry) z99 (.slice A101 (List.length z99) c102)) hv103
        clear h106
        refine evalS_ok tabOk h107 2 [4, 5] [] [(4, .v (.slice A101 (List.length z99) c102)), (5, .v (.int .i64 0))] [] (by kernel_rfl) fun β108 a109 w110 h111 => ?_
        clear h107
        have h112 : Sb β108 (cx 35 ok w) [(4, .v (.slice A101 (List.length z99) c102)), (5, .v (.int .i64 0))] [DF.v (rSl rApiEntry) z99 (.slice A101 (List.length z99) c102)] [] [⟨.slice A101 (List.length z99) c102, 24, 3⟩] a109 w110 := h111.sel [4, 5] [0] []
        clear h111
        refine wpl_end (hq72 _ _ ?_)
        refine wp_ret ?_
        refine hr _ _ ?_
        obtain rfl := Option.some.inj hF100
        exact ret2_ok h112 rfl rfl rfl ⟨_, _, rfl, (isV.weak (h112.d 0 rfl) (okOf_out h112 hok)), (isV_int.2 rfl)⟩
      refine block_ctx fun Qb62 hnb62 hrb62 hbb62 hxb62 => ?_
      have h117 : Sb β58 (cx 35 ok w) [(3, .o 3 0), (7, .v (.slice none 0 0)), (18, .v (.slice A1 (List.length x0) c2)), (19, .v (.int .i64 (List.length x0 : Int))), (20, .v (.int .i64 0))] [DF.v (rSl rApiEntry) [] (.slice none 0 0), DF.v (rSl rApiEntry) x0 (.slice A1 (List.length x0) c2), DF.v (rSl rApiPost) x1.Posts (.slice A3 (List.length x1.Posts) c4)] [(3, ⟨[.int .i64 x1.At, strV x1.Text, .slice A3 (List.length x1.Posts) c4], 24⟩)] [⟨.slice none 0 0, 24, 3⟩] a59 w60 := (h61.addD (d := DF.v (rSl rApiEntry) [] (.slice none 0 0)) slNil).sel [3, 7, 18, 19, 20] [0, 1, 2] [3]
      refine loop_ctx (fun m a w' => ∃ (l113 : List ApiEntry) (i116 : Int) (A114 : Option Addr) (c115 : Nat), (∃ β, Sb β (cx 35 ok w) [(3, .o 3 0), (7, .v (.slice A114 (List.length l113) c115)), (18, .v (.slice A1 (List.length x0) c2)), (19, .v (.int .i64 (List.length x0 : Int))), (20, .v (.int .i64 i116))] [DF.v (rSl rApiEntry) l113 (.slice A114 (List.length l113) c115), DF.v (rSl rApiEntry) x0 (.slice A1 (List.length x0) c2), DF.v (rSl rApiPost) x1.Posts (.slice A3 (List.length x1.Posts) c4)] [(3, ⟨[.int .i64 x1.At, strV x1.Text, .slice A3 (List.length x1.Posts) c4], 24⟩)] [⟨.slice A114 (List.length l113) c115, 24, 3⟩] a w') ∧ ledger_Add_l62 N x0 m l113 i116 = some out62) N ⟨[], 0, none, 0, ⟨_, h117⟩, hL62⟩ ?_
      rintro Q62 m118 a119 w120 ⟨l113, i116, A114, c115, ⟨β121, h122⟩, hF123⟩ hn62 hr62 hx62
      obtain _ | m118 := m118
      · exact absurd hF123 (by simp [ledger_Add_l62])
      rw [ledger_Add_l62] at hF123
      refine seq_region tabOk h122 [3, 7, 18, 19, 20, 21] [3] [(3, .o 3 0), (7, .v (.slice A114 (List.length l113) c115)), (18, .v (.slice A1 (List.length x0) c2)), (19, .v (.int .i64 (List.length x0 : Int))), (20, .v (.int .i64 i116)), (21, .v (.bool (decide (i116 < (List.length x0 : Int)))))] [(3, ⟨[.int .i64 x1.At, strV x1.Text, .slice A3 (List.length x1.Posts) c4], 24⟩)] (by kernel_rfl) fun β124 a125 w126 h127 => ?_
      clear h122
      refine seq_ctx fun Q128 hn128 hr128 hx128 => ?_
      refine wp_if h127 rfl (fun hb129 => ?_) (fun hb129 => ?_)
      · skip
        have hF130 := ifT hb129 hF123
        clear hF123
        refine wp_skip ?_
        refine hn128 _ _ ?_
        refine seq_ctx fun Q131 hn131 hr131 hx131 => ?_
        refine block_ctx fun Q132 hn132 hr132 hb132 hx132 => ?_
        refine seq_list fun Q133 hq133 => ?_
        obtain ⟨x134, hx134, hF135⟩ := bindE hF130
        clear hF130
        refine step_idx tabOk h127 1 rfl rfl rfl rfl rfl hx134 tb30 rfl tb24 rfl fun p136 a137 h138 => ?_
        clear h127
        refine step_load tabOk h138 0 rfl rfl rfl rfl tb24 rfl rfl fun v139 a141 hv140 h142 => ?_
        clear h138
        obtain ⟨v145, hs146, rfl⟩ := ex_ApiEntry hv140
        obtain ⟨A143, c144, rfl, hs147⟩ := slForm hs146
        have h148 := h142.addD (d := DF.v (rSl rApiPost) x134.Posts (.slice A143 (List.length x134.Posts) c144)) hs147
        clear h142
        refine evalS_ok tabOk h148 2 [3, 7, 9, 18, 19, 20] [3, 9] [(3, .o 3 0), (7, .v (.slice A114 (List.length l113) c115)), (9, .o 9 0), (18, .v (.slice A1 (List.length x0) c2)), (19, .v (.int .i64 (List.length x0 : Int))), (20, .v (.int .i64 i116))] [(3, ⟨[.int .i64 x1.At, strV x1.Text, .slice A3 (List.length x1.Posts) c4], 24⟩), (9, ⟨[.int .i64 x134.At, strV x134.Text, .slice A143 (List.length x134.Posts) c144], 24⟩)] (by kernel_rfl) fun β149 a150 w151 h152 => ?_
        clear h148
        have h153 : Sb β149 (cx 35 ok w) [(3, .o 3 0), (7, .v (.slice A114 (List.length l113) c115)), (9, .o 9 0), (18, .v (.slice A1 (List.length x0) c2)), (19, .v (.int .i64 (List.length x0 : Int))), (20, .v (.int .i64 i116))] [DF.v (rSl rApiEntry) l113 (.slice A114 (List.length l113) c115), DF.v (rSl rApiEntry) x0 (.slice A1 (List.length x0) c2), DF.v (rSl rApiPost) x1.Posts (.slice A3 (List.length x1.Posts) c4), DF.v (rSl rApiPost) x134.Posts (.slice A143 (List.length x134.Posts) c144)] [(3, ⟨[.int .i64 x1.At, strV x1.Text, .slice A3 (List.length x1.Posts) c4], 24⟩), (9, ⟨[.int .i64 x134.At, strV x134.Text, .slice A143 (List.length x134.Posts) c144], 24⟩)] [⟨.slice A114 (List.length l113) c115, 24, 3⟩] a150 w151 := h152.sel [3, 7, 9, 18, 19, 20] [3, 4, 5, 0] [3, 9]
        clear h152
        refine wpl_end (hq133 _ _ ?_)
        refine region_ok ?_
        refine evalS_ok tabOk h153 2 [3, 7, 18, 19, 20, 24, 25] [3] [(3, .o 3 0), (7, .v (.slice A114 (List.length l113) c115)), (18, .v (.slice A1 (List.length x0) c2)), (19, .v (.int .i64 (List.length x0 : Int))), (20, .v (.int .i64 i116)), (24, .v (.slice A114 (List.length l113) c115)), (25, .v (.agg ⟨[.int .i64 x134.At, strV x134.Text, .slice A143 (List.length x134.Posts) c144]⟩))] [(3, ⟨[.int .i64 x1.At, strV x1.Text, .slice A3 (List.length x1.Posts) c4], 24⟩)] (by kernel_rfl) fun β155 a156 w157 h158 => ?_
        clear h153
        obtain ⟨y159, hy159, hF160⟩ := bindE hF135
        clear hF135
        refine step_call h158 rfl rfl runs37 (vs := [(.agg ⟨[.int .i64 x134.At, strV x134.Text, .slice A143 (List.length x134.Posts) c144]⟩)]) (by kernel_rfl) (c_ledger_clone (x0 := x134) h158.okLt N (h158.d 3 rfl) hy159) fun v161 a164 w165 hR162 hk163 h166 => ?_
        clear h158
        have hv167 := isV.weak hR162 hk163
        obtain ⟨v170, hs171, rfl⟩ := ex_ApiEntry hv167
        obtain ⟨A168, c169, rfl, hs172⟩ := slForm hs171
        have h173 := h166.addD (d := DF.v (rSl rApiPost) y159.Posts (.slice A168 (List.length y159.Posts) c169)) hs172
        clear h166
        refine step_buildSlice tabOk h173 rfl rfl (r := rApiEntry) (xs := ([y159] : List ApiEntry)) (vs := [.agg ⟨[.int .i64 y159.At, strV y159.Text, .slice A168 (List.length y159.Posts) c169]⟩]) (pvs := [(0, .agg ⟨[.int .i64 y159.At, strV y159.Text, .slice A168 (List.length y159.Posts) c169]⟩)]) (by kernel_rfl) tb30 rfl tb24 rfl rfl rfl rfl rfl (by kernel_rfl) ⟨(im_ApiEntry (x := y159) (h173.d 0 rfl)), trivial⟩ fun A174 c175 a177 w178 hv176 h179 => ?_
        clear h173
        have h180 := h179.addD (d := DF.v (rSl rApiEntry) ([y159] : List ApiEntry) (.slice A174 (List.length ([y159] : List ApiEntry)) c175)) hv176
        clear h179
        obtain ⟨z181, hz181, hF182⟩ := bindE hF160
        clear hF160
        refine step_append tabOk h180 2 0 [] [] rfl rfl (r := rApiEntry) (xs := l113) tb30 rfl tb24 rfl rfl rfl rfl rfl rfl rfl rfl (h180.d 0 rfl) hz181 fun A183 c184 a186 w187 hv185 h188 => ?_
        clear h180
        have h189 := h188.addD (d := DF.v (rSl rApiEntry) z181 (.slice A183 (List.length z181) c184)) hv185
        clear h188
        refine evalS_ok tabOk h189 1 [3, 7, 18, 19, 20] [3] [(3, .o 3 0), (7, .v (.slice A183 (List.length z181) c184)), (18, .v (.slice A1 (List.length x0) c2)), (19, .v (.int .i64 (List.length x0 : Int))), (20, .v (.int .i64 i116))] [(3, ⟨[.int .i64 x1.At, strV x1.Text, .slice A3 (List.length x1.Posts) c4], 24⟩)] (by kernel_rfl) fun β190 a191 w192 h193 => ?_
        clear h189
        have h194 : Sb β190 (cx 35 ok w) [(3, .o 3 0), (7, .v (.slice A183 (List.length z181) c184)), (18, .v (.slice A1 (List.length x0) c2)), (19, .v (.int .i64 (List.length x0 : Int))), (20, .v (.int .i64 i116))] [DF.v (rSl rApiEntry) z181 (.slice A183 (List.length z181) c184), DF.v (rSl rApiEntry) x0 (.slice A1 (List.length x0) c2), DF.v (rSl rApiPost) x1.Posts (.slice A3 (List.length x1.Posts) c4)] [(3, ⟨[.int .i64 x1.At, strV x1.Text, .slice A3 (List.length x1.Posts) c4], 24⟩)] [⟨.slice A183 (List.length z181) c184, 24, 3⟩] a191 w192 := h193.sel [3, 7, 18, 19, 20] [0, 4, 5] [3]
        clear h193
        refine wpl_end ?_
        refine hn132 _ _ ?_
        refine hn131 _ _ ?_
        refine evalR_ok tabOk h194 [3, 7, 18, 19, 20] [3] [(3, .o 3 0), (7, .v (.slice A183 (List.length z181) c184)), (18, .v (.slice A1 (List.length x0) c2)), (19, .v (.int .i64 (List.length x0 : Int))), (20, .v (.int .i64 (IntKind.wrap .i64 (i116 + 1))))] [(3, ⟨[.int .i64 x1.At, strV x1.Text, .slice A3 (List.length x1.Posts) c4], 24⟩)] (by kernel_rfl) fun β195 a196 w197 h198 => ?_
        clear h194
        have h199 : Sb β195 (cx 35 ok w) [(3, .o 3 0), (7, .v (.slice A183 (List.length z181) c184)), (18, .v (.slice A1 (List.length x0) c2)), (19, .v (.int .i64 (List.length x0 : Int))), (20, .v (.int .i64 (IntKind.wrap .i64 (i116 + 1))))] [DF.v (rSl rApiEntry) z181 (.slice A183 (List.length z181) c184), DF.v (rSl rApiEntry) x0 (.slice A1 (List.length x0) c2), DF.v (rSl rApiPost) x1.Posts (.slice A3 (List.length x1.Posts) c4)] [(3, ⟨[.int .i64 x1.At, strV x1.Text, .slice A3 (List.length x1.Posts) c4], 24⟩)] [⟨.slice A183 (List.length z181) c184, 24, 3⟩] a196 w197 := (h198).sel [3, 7, 18, 19, 20] [0, 1, 2] [3]
        exact hn62 _ _ _ (Nat.lt_succ_self _) ⟨z181, (IntKind.wrap .i64 (i116 + 1)), A183, c184, ⟨_, h199⟩, hF182⟩
      · skip
        have hF200 := ifF hb129 hF123
        clear hF123
        refine wp_exit ?_
        refine hx128 0 _ _ ?_
        refine hx62 0 _ _ ?_
        refine hbb62 _ _ ?_
        obtain rfl := Option.some.inj hF200
        have h201 : Sb β124 (cx 35 ok w) [(3, .o 3 0), (7, .v (.slice A114 (List.length l113) c115))] [DF.v (rSl rApiEntry) l113 (.slice A114 (List.length l113) c115), DF.v (rSl rApiPost) x1.Posts (.slice A3 (List.length x1.Posts) c4)] [(3, ⟨[.int .i64 x1.At, strV x1.Text, .slice A3 (List.length x1.Posts) c4], 24⟩)] [⟨.slice A114 (List.length l113) c115, 24, 3⟩] a125 w126 := (h127).sel [3, 7] [0, 2] [3]
        exact j66 _ _ ⟨l113, A114, c115, ⟨_, h201⟩, hC62⟩

theorem c_billingref47_Add {ok : Ok} {w : World} (hok : ∀ b o, ok b o → b < w.heap.size) (N : Nat) {x0 : (List ApiEntry)} {x1 : ApiEntry} {A1 : Option Addr} {c2 : Nat} {A3 : Option Addr} {c4 : Nat} (d0 : isV (rSl rApiEntry) ok w x0 (.slice A1 (List.length x0) c2)) (d1 : isV (rSl rApiPost) ok w x1.Posts (.slice A3 (List.length x1.Posts) c4)) {r : (List ApiEntry) × Int} (hF : billingref47_Add N x0 x1 = some r) :
    Calls Try.prog 20 ⟨[.slice A1 (List.length x0) c2, .agg ⟨[.int .i64 x1.At, strV x1.Text, .slice A3 (List.length x1.Posts) c4]⟩]⟩ w (Ret w (R2 (rSl rApiEntry) (rInt .i64) ok w r)) := by
  rw [billingref47_Add] at hF
  refine enter_ok (n := 21) hok Try.func20 rfl rfl rfl (D := [DF.v (rSl rApiEntry) x0 (.slice A1 (List.length x0) c2), DF.v (rSl rApiPost) x1.Posts (.slice A3 (List.length x1.Posts) c4)]) ⟨d0, d1, trivial⟩ (fun a h => ?_)
  simp only [zipG, Nat.zero_add, Nat.reduceAdd] at h
  refine start_ctx fun Q hn hr => ?_
  refine seq_region tabOk h [0, 3] [3] [(0, .v (.slice A1 (List.length x0) c2)), (3, .o 3 0)] [(3, ⟨[.int .i64 x1.At, strV x1.Text, .slice A3 (List.length x1.Posts) c4], 24⟩)] (by kernel_rfl) fun β5 a6 w7 h8 => ?_
  clear h
  refine seq_ctx fun Q9 hn9 hr9 hx9 => ?_
  refine seq_list fun Q10 hq10 => ?_
  refine evalS_ok tabOk h8 1 [0, 3, 7] [3] [(0, .v (.slice A1 (List.length x0) c2)), (3, .o 3 0), (7, .v (.agg ⟨[.int .i64 x1.At, strV x1.Text, .slice A3 (List.length x1.Posts) c4]⟩))] [(3, ⟨[.int .i64 x1.At, strV x1.Text, .slice A3 (List.length x1.Posts) c4], 24⟩)] (by kernel_rfl) fun β11 a12 w13 h14 => ?_
  clear h8
  obtain ⟨y15, hy15, hF16⟩ := bindE hF
  clear hF
  refine step_call h14 rfl rfl runs11 (vs := [(.agg ⟨[.int .i64 x1.At, strV x1.Text, .slice A3 (List.length x1.Posts) c4]⟩)]) (by kernel_rfl) (c_billingref47_Check (x0 := x1) h14.okLt N (h14.d 1 rfl) hy15) fun v17 a20 w21 hR18 hk19 h22 => ?_
  clear h14
  have hv23 := isV.weak hR18 hk19
  obtain rfl := isV_int.1 hv23
  refine evalS_ok tabOk h22 1 [0, 3, 6] [3] [(0, .v (.slice A1 (List.length x0) c2)), (3, .o 3 0), (6, .v (.int .i64 y15))] [(3, ⟨[.int .i64 x1.At, strV x1.Text, .slice A3 (List.length x1.Posts) c4], 24⟩)] (by kernel_rfl) fun β24 a25 w26 h27 => ?_
  clear h22
  have h28 : Sb β24 (cx 21 ok w) [(0, .v (.slice A1 (List.length x0) c2)), (3, .o 3 0), (6, .v (.int .i64 y15))] [DF.v (rSl rApiEntry) x0 (.slice A1 (List.length x0) c2), DF.v (rSl rApiPost) x1.Posts (.slice A3 (List.length x1.Posts) c4)] [(3, ⟨[.int .i64 x1.At, strV x1.Text, .slice A3 (List.length x1.Posts) c4], 24⟩)] [] a25 w26 := h27.sel [0, 3, 6] [0, 1] [3]
  clear h27
  refine wpl_end (hq10 _ _ ?_)
  refine seq_region tabOk h28 [0, 3, 6, 10] [3] [(0, .v (.slice A1 (List.length x0) c2)), (3, .o 3 0), (6, .v (.int .i64 y15)), (10, .v (.bool (y15 != 0)))] [(3, ⟨[.int .i64 x1.At, strV x1.Text, .slice A3 (List.length x1.Posts) c4], 24⟩)] (by kernel_rfl) fun β29 a30 w31 h32 => ?_
  clear h28
  refine wp_if h32 rfl (fun hb33 => ?_) (fun hb33 => ?_)
  · skip
    have hF34 := ifT hb33 hF16
    clear hF16
    refine seq_region tabOk h32 [4, 5] [] [(4, .v (.slice none 0 0)), (5, .v (.int .i64 y15))] [] (by kernel_rfl) fun β35 a36 w37 h38 => ?_
    clear h32
    refine wp_ret ?_
    refine hr9 _ _ ?_
    refine hr _ _ ?_
    obtain rfl := Option.some.inj hF34
    exact ret2_ok h38 rfl rfl rfl ⟨_, _, rfl, slNil, (isV_int.2 rfl)⟩
  · skip
    have hF39 := ifF hb33 hF16
    clear hF16
    refine wp_skip ?_
    refine hn9 _ _ ?_
    refine seq_ctx fun Q40 hn40 hr40 hx40 => ?_
    refine seq_region tabOk h32 [0, 3, 14] [3] [(0, .v (.slice A1 (List.length x0) c2)), (3, .o 3 0), (14, .v (.bool (decide ((List.length x0 : Int) ≥ 4096))))] [(3, ⟨[.int .i64 x1.At, strV x1.Text, .slice A3 (List.length x1.Posts) c4], 24⟩)] (by kernel_rfl) fun β41 a42 w43 h44 => ?_
    clear h32
    refine wp_if h44 rfl (fun hb45 => ?_) (fun hb45 => ?_)
    · skip
      have hF46 := ifT hb45 hF39
      clear hF39
      refine seq_region tabOk h44 [4, 5] [] [(4, .v (.slice none 0 0)), (5, .v (.int .i64 5))] [] (by kernel_rfl) fun β47 a48 w49 h50 => ?_
      clear h44
      refine wp_ret ?_
      refine hr40 _ _ ?_
      refine hr _ _ ?_
      obtain rfl := Option.some.inj hF46
      exact ret2_ok h50 rfl rfl rfl ⟨_, _, rfl, slNil, (isV_int.2 rfl)⟩
    · skip
      have hF51 := ifF hb45 hF39
      clear hF39
      refine wp_skip ?_
      refine hn40 _ _ ?_
      refine seq_draw fun Q52 hq52 => ?_
      obtain ⟨y53, hy53, hF54⟩ := bindE hF51
      clear hF51
      obtain ⟨y57, hy57, hF58⟩ := bindE hF54
      clear hF54
      have h62 : Sb β41 (cx 21 ok w) [(0, .v (.slice A1 (List.length x0) c2)), (3, .o 3 0)] [DF.v (rSl rApiEntry) x0 (.slice A1 (List.length x0) c2), DF.v (rSl rApiPost) x1.Posts (.slice A3 (List.length x1.Posts) c4)] [(3, ⟨[.int .i64 x1.At, strV x1.Text, .slice A3 (List.length x1.Posts) c4], 24⟩)] [] a42 w43 := h44.sel [0, 3] [0, 1] [3]
      refine draw_rule1 1 24 3 h62 rfl (by kernel_rfl) 5 [15, 16, 17, 18, 19] [FV.eq (.slice A1 (List.length x0) c2), FV.rep (rSl rApiEntry) y53, FV.eq (.agg ⟨[.int .i64 x1.At, strV x1.Text, .slice A3 (List.length x1.Posts) c4]⟩), FV.rep rApiEntry y57, FV.rep (rSl rApiEntry) ([y57] : List ApiEntry)] rfl rfl rfl (by kernel_rfl) (by kernel_rfl) (by kernel_rfl) (by kernel_rfl) (by kernel_rfl) rfl ?_ ?_
      · skip
        refine ⟨⟨⟨⟨⟨trivial, ?_⟩, ?_⟩, ?_⟩, ?_⟩, ?_⟩
        · skip
          intro β63 a64 w65 dX66 Ox67 Q68 h69 hq70 hp71 hk72
          refine evalS_ok tabOk h69 1 [0, 3, 15] [3] [(0, .v (.slice A1 (List.length x0) c2)), (3, .o 3 0), (15, .v (.slice A1 (List.length x0) c2))] [(3, ⟨[.int .i64 x1.At, strV x1.Text, .slice A3 (List.length x1.Posts) c4], 24⟩)] (by kernel_rfl) fun β73 a74 w75 h76 => ?_
          exact wpl_end (hk72 _ _ _ _ (h76.sel [0, 3] [0, 1, 2] [3]) (h76.getD rfl) rfl)
        · skip
          intro β77 a78 w79 dX80 Ox81 Q82 h83 hq84 hp85 hk86
          obtain rfl := hq84 _ rfl
          simp only [List.nil_append] at h83 hp85
          have h87 := h83.learnE (d := 15) rfl (hp85 0 15 _ rfl rfl rfl)
          clear h83
          refine step_callOwn h87 rfl rfl runs14 (vs := [(.slice A1 (List.length x0) c2)]) (by kernel_rfl) rfl (co_billingref47_CloneAll (x0 := x0) h87.okLt N (h87.d 1 rfl) hy53) fun A88 c89 a91 w92 hv90 h93 => ?_
          clear h87
          have h94 := h93.addD (d := DF.v (rSl rApiEntry) y53 (.slice A88 (List.length y53) c89)) hv90
          clear h93
          exact wpl_end (hk86 _ _ _ [_] (h94.sel [0, 3] [1, 2, 3] [3]) (h94.getR rfl (h94.d 0 rfl)) ⟨_, rfl, h94.getD rfl⟩)
        · skip
          intro β95 a96 w97 dX98 Ox99 Q100 h101 hq102 hp103 hk104
          refine evalS_ok tabOk h101 1 [0, 3, 17] [3] [(0, .v (.slice A1 (List.length x0) c2)), (3, .o 3 0), (17, .v (.agg ⟨[.int .i64 x1.At, strV x1.Text, .slice A3 (List.length x1.Posts) c4]⟩))] [(3, ⟨[.int .i64 x1.At, strV x1.Text, .slice A3 (List.length x1.Posts) c4], 24⟩)] (by kernel_rfl) fun β105 a106 w107 h108 => ?_
          exact wpl_end (hk104 _ _ _ _ (h108.sel [0, 3] [0, 1, 2] [3]) (h108.getD rfl) rfl)
        · skip
          intro β109 a110 w111 dX112 Ox113 Q114 h115 hq116 hp117 hk118
          have h119 := h115.learnE (d := 17) rfl (hp117 2 17 _ rfl rfl rfl)
          clear h115
          refine step_call h119 rfl rfl runs10 (vs := [(.agg ⟨[.int .i64 x1.At, strV x1.Text, .slice A3 (List.length x1.Posts) c4]⟩)]) (by kernel_rfl) (c_billingref47_Clone (x0 := x1) h119.okLt N (h119.d 2 rfl) hy57) fun v120 a123 w124 hR121 hk122 h125 => ?_
          clear h119
          have hv126 := isV.weak hR121 hk122
          obtain ⟨v129, hs130, rfl⟩ := ex_ApiEntry hv126
          obtain ⟨A127, c128, rfl, hs131⟩ := slForm hs130
          have h132 := h125.addD (d := DF.v (rSl rApiPost) y57.Posts (.slice A127 (List.length y57.Posts) c128)) hs131
          clear h125
          exact wpl_end (hk118 _ _ _ _ (h132.sel [0, 3] [1, 2, 3] [3]) (h132.getR rfl (im_ApiEntry (x := y57) (h132.d 0 rfl))) rfl)
        · skip
          intro β133 a134 w135 dX136 Ox137 Q138 h139 hq140 hp141 hk142
          have h143 := h139.learn (d := 18) rfl
          clear h139
          have f144 := hp141 3 18 _ rfl rfl rfl
          generalize a134.tmps.getD 18 undef = v145 at h143 f144
          obtain ⟨v148, hs149, rfl⟩ := ex_ApiEntry f144
          obtain ⟨A146, c147, rfl, hs150⟩ := slForm hs149
          have h151 := h143.addD (d := DF.v (rSl rApiPost) y57.Posts (.slice A146 (List.length y57.Posts) c147)) hs150
          clear h143
          refine step_buildSlice tabOk h151 rfl rfl (r := rApiEntry) (xs := ([y57] : List ApiEntry)) (vs := [.agg ⟨[.int .i64 y57.At, strV y57.Text, .slice A146 (List.length y57.Posts) c147]⟩]) (pvs := [(0, .agg ⟨[.int .i64 y57.At, strV y57.Text, .slice A146 (List.length y57.Posts) c147]⟩)]) (by kernel_rfl) tb30 rfl tb24 rfl rfl rfl rfl rfl (by kernel_rfl) ⟨(im_ApiEntry (x := y57) (h151.d 0 rfl)), trivial⟩ fun A152 c153 a155 w156 hv154 h157 => ?_
          clear h151
          have h158 := h157.addD (d := DF.v (rSl rApiEntry) ([y57] : List ApiEntry) (.slice A152 (List.length ([y57] : List ApiEntry)) c153)) hv154
          clear h157
          exact wpl_end (hk142 _ _ _ _ (h158.sel [0, 3] [2, 3, 4] [3]) (h158.getR rfl (h158.d 0 rfl)) rfl)
      · skip
        intro β159 a160 w161 v166 h162 ha163 hv167
        have hv167 : a160.tmps.getD 16 undef = v166 := hv167
        have h168 := h162.learn (d := 16) rfl
        clear h162
        have f169 := ha163 1 16 _ rfl rfl
        generalize a160.tmps.getD 16 undef = v170 at h168 f169 hv167
        subst hv167
        obtain ⟨A171, c172, rfl, hs173⟩ := slForm f169
        have h174 := h168.addD (d := DF.v (rSl rApiEntry) y53 (.slice A171 (List.length y53) c172)) hs173
        clear h168
        have h175 := h174.learn (d := 19) rfl
        clear h174
        have f176 := ha163 4 19 _ rfl rfl
        generalize a160.tmps.getD 19 undef = v177 at h175 f176
        obtain ⟨A178, c179, rfl, hs180⟩ := slForm f176
        have h181 := h175.addD (d := DF.v (rSl rApiEntry) ([y57] : List ApiEntry) (.slice A178 (List.length ([y57] : List ApiEntry)) c179)) hs180
        clear h175
        have h182 := h181.unpin rfl
        clear h181
        obtain ⟨z183, hz183, hF184⟩ := bindE hF58
        clear hF58
        refine step_append tabOk h182 1 0 [] [] rfl rfl (r := rApiEntry) (xs := y53) tb30 rfl tb24 rfl rfl rfl rfl rfl rfl rfl rfl (h182.d 0 rfl) hz183 fun A185 c186 a188 w189 hv187 h190 => ?_
        clear h182
        have h191 := h190.addD (d := DF.v (rSl rApiEntry) z183 (.slice A185 (List.length z183) c186)) hv187
        clear h190
        refine evalS_ok tabOk h191 2 [4, 5] [] [(4, .v (.slice A185 (List.length z183) c186)), (5, .v (.int .i64 0))] [] (by kernel_rfl) fun β192 a193 w194 h195 => ?_
        clear h191
        have h196 : Sb β192 (cx 21 ok w) [(4, .v (.slice A185 (List.length z183) c186)), (5, .v (.int .i64 0))] [DF.v (rSl rApiEntry) z183 (.slice A185 (List.length z183) c186)] [] [⟨.slice A185 (List.length z183) c186, 24, 3⟩] a193 w194 := h195.sel [4, 5] [0] []
        clear h195
        refine wpl_end (hq52 _ _ ?_)
        refine wp_ret ?_
        refine hr _ _ ?_
        obtain rfl := Option.some.inj hF184
        exact ret2_ok h196 rfl rfl rfl ⟨_, _, rfl, (isV.weak (h196.d 0 rfl) (okOf_out h196 hok)), (isV_int.2 rfl)⟩

theorem c_billingref47_Same {ok : Ok} {w : World} (hok : ∀ b o, ok b o → b < w.heap.size) (N : Nat) {x0 : ApiEntry} {x1 : ApiEntry} {A1 : Option Addr} {c2 : Nat} {A3 : Option Addr} {c4 : Nat} (d0 : isV (rSl rApiPost) ok w x0.Posts (.slice A1 (List.length x0.Posts) c2)) (d1 : isV (rSl rApiPost) ok w x1.Posts (.slice A3 (List.length x1.Posts) c4)) {r : Bool} (hF : billingref47_Same N x0 x1 = some r) :
    Calls Try.prog 38 ⟨[.agg ⟨[.int .i64 x0.At, strV x0.Text, .slice A1 (List.length x0.Posts) c2]⟩, .agg ⟨[.int .i64 x1.At, strV x1.Text, .slice A3 (List.length x1.Posts) c4]⟩]⟩ w (Ret w (R1 rBool ok w r)) := by
  rw [billingref47_Same] at hF
  refine enter_ok (n := 24) hok Try.func38 rfl rfl rfl (D := [DF.v (rSl rApiPost) x0.Posts (.slice A1 (List.length x0.Posts) c2), DF.v (rSl rApiPost) x1.Posts (.slice A3 (List.length x1.Posts) c4)]) ⟨d0, d1, trivial⟩ (fun a h => ?_)
  simp only [zipG, Nat.zero_add, Nat.reduceAdd] at h
  refine start_ctx fun Q hn hr => ?_
  refine seq_region tabOk h [2, 3] [2, 3] [(2, .o 2 0), (3, .o 3 0)] [(2, ⟨[.int .i64 x0.At, strV x0.Text, .slice A1 (List.length x0.Posts) c2], 24⟩), (3, ⟨[.int .i64 x1.At, strV x1.Text, .slice A3 (List.length x1.Posts) c4], 24⟩)] (by kernel_rfl) fun β5 a6 w7 h8 => ?_
  clear h
  obtain ⟨g10, hv11, hF12⟩ := bindE hF
  clear hF
  refine seq_join (J := fun a w' => ∃ β, Sb β (cx 24 ok w) [(4, .v (.bool g10))] [] [] [] a w') ?_ ?_
  · skip
    rintro a13 w14 ⟨β15, h16⟩
    refine wp_ret ?_
    refine hr _ _ ?_
    obtain rfl := Option.some.inj hF12
    exact ret1_ok h16 rfl rfl (isV_bool.2 rfl)
  · skip
    refine region_ok ?_
    refine evalS_ok tabOk h8 6 [2, 3, 10] [2, 3] [(2, .o 2 0), (3, .o 3 0), (10, .v (.bool (x0.At == x1.At)))] [(2, ⟨[.int .i64 x0.At, strV x0.Text, .slice A1 (List.length x0.Posts) c2], 24⟩), (3, ⟨[.int .i64 x1.At, strV x1.Text, .slice A3 (List.length x1.Posts) c4], 24⟩)] (by kernel_rfl) fun β17 a18 w19 h20 => ?_
    clear h8
    refine bcases (b := (x0.At == x1.At)) (fun hb21 => ?_) (fun hb21 => ?_)
    · skip
      have hv22 := ifT hb21 hv11
      clear hv11
      have h23 := h20.reb (t := 10) rfl hb21
      clear h20
      refine evalS_ok tabOk h23 7 [2, 3, 17] [2, 3] [(2, .o 2 0), (3, .o 3 0), (17, .v (.bool (x0.Text == x1.Text)))] [(2, ⟨[.int .i64 x0.At, strV x0.Text, .slice A1 (List.length x0.Posts) c2], 24⟩), (3, ⟨[.int .i64 x1.At, strV x1.Text, .slice A3 (List.length x1.Posts) c4], 24⟩)] (by kernel_rfl) fun β24 a25 w26 h27 => ?_
      clear h23
      refine bcases (b := (x0.Text == x1.Text)) (fun hb28 => ?_) (fun hb28 => ?_)
      · skip
        have hv29 := ifT hb28 hv22
        clear hv22
        have h30 := h27.reb (t := 17) rfl hb28
        clear h27
        refine evalS_ok tabOk h30 4 [17, 19, 21] [] [(17, .v (.bool true)), (19, .v (.slice A1 (List.length x0.Posts) c2)), (21, .v (.slice A3 (List.length x1.Posts) c4))] [] (by kernel_rfl) fun β31 a32 w33 h34 => ?_
        clear h30
        obtain ⟨y35, hy35, hv36⟩ := bindE hv29
        clear hv29
        refine step_call h34 rfl rfl runs16 (vs := [(.slice A1 (List.length x0.Posts) c2), (.slice A3 (List.length x1.Posts) c4)]) (by kernel_rfl) (c_billingref47_SamePosts (x0 := x0.Posts) (x1 := x1.Posts) h34.okLt N (h34.d 0 rfl) (h34.d 1 rfl) hy35) fun v37 a40 w41 hR38 hk39 h42 => ?_
        clear h34
        have hv43 := isV.weak hR38 hk39
        obtain rfl := isV_bool.1 hv43
        refine evalS_ok tabOk h42 2 [4] [] [(4, .v (.bool y35))] [] (by kernel_rfl) fun β44 a45 w46 h47 => ?_
        clear h42
        obtain rfl := Option.some.inj hv36
        have h48 : Sb β44 (cx 24 ok w) [(4, .v (.bool y35))] [] [] [] a45 w46 := h47.sel [4] [] []
        clear h47
        exact wpl_end (then_n ⟨_, h48⟩)
      · skip
        have hv49 := ifF hb28 hv22
        clear hv22
        have h50 := h27.reb (t := 17) rfl hb28
        clear h27
        refine evalS_ok tabOk h50 7 [4] [] [(4, .v (.bool false))] [] (by kernel_rfl) fun β51 a52 w53 h54 => ?_
        clear h50
        obtain rfl := Option.some.inj hv49
        have h55 : Sb β51 (cx 24 ok w) [(4, .v (.bool false))] [] [] [] a52 w53 := h54.sel [4] [] []
        clear h54
        exact wpl_end (then_n ⟨_, h55⟩)
    · skip
      have hv56 := ifF hb21 hv11
      clear hv11
      have h57 := h20.reb (t := 10) rfl hb21
      clear h20
      refine evalS_ok tabOk h57 14 [4] [] [(4, .v (.bool false))] [] (by kernel_rfl) fun β58 a59 w60 h61 => ?_
      clear h57
      obtain rfl := Option.some.inj hv56
      have h62 : Sb β58 (cx 24 ok w) [(4, .v (.bool false))] [] [] [] a59 w60 := h61.sel [4] [] []
      clear h61
      exact wpl_end (then_n ⟨_, h62⟩)

theorem c_billingref47_SameAll {ok : Ok} {w : World} (hok : ∀ b o, ok b o → b < w.heap.size) (N : Nat) {x0 : (List ApiEntry)} {x1 : (List ApiEntry)} {A1 : Option Addr} {c2 : Nat} {A3 : Option Addr} {c4 : Nat} (d0 : isV (rSl rApiEntry) ok w x0 (.slice A1 (List.length x0) c2)) (d1 : isV (rSl rApiEntry) ok w x1 (.slice A3 (List.length x1) c4)) {r : Bool} (hF : billingref47_SameAll N x0 x1 = some r) :
    Calls Try.prog 21 ⟨[.slice A1 (List.length x0) c2, .slice A3 (List.length x1) c4]⟩ w (Ret w (R1 rBool ok w r)) := by
  rw [billingref47_SameAll] at hF
  refine enter_ok (n := 27) hok Try.func21 rfl rfl rfl (D := [DF.v (rSl rApiEntry) x0 (.slice A1 (List.length x0) c2), DF.v (rSl rApiEntry) x1 (.slice A3 (List.length x1) c4)]) ⟨d0, d1, trivial⟩ (fun a h => ?_)
  simp only [zipG, Nat.zero_add, Nat.reduceAdd] at h
  refine start_ctx fun Q hn hr => ?_
  refine seq_region tabOk h [0, 1] [] [(0, .v (.slice A1 (List.length x0) c2)), (1, .v (.slice A3 (List.length x1) c4))] [] (by kernel_rfl) fun β5 a6 w7 h8 => ?_
  clear h
  refine seq_ctx fun Q9 hn9 hr9 hx9 => ?_
  refine seq_region tabOk h8 [0, 1, 10] [] [(0, .v (.slice A1 (List.length x0) c2)), (1, .v (.slice A3 (List.length x1) c4)), (10, .v (.bool ((List.length x0 : Int) != (List.length x1 : Int))))] [] (by kernel_rfl) fun β10 a11 w12 h13 => ?_
  clear h8
  refine wp_if h13 rfl (fun hb14 => ?_) (fun hb14 => ?_)
  · skip
    have hF15 := ifT hb14 hF
    clear hF
    refine seq_region tabOk h13 [4] [] [(4, .v (.bool false))] [] (by kernel_rfl) fun β16 a17 w18 h19 => ?_
    clear h13
    refine wp_ret ?_
    refine hr9 _ _ ?_
    refine hr _ _ ?_
    obtain rfl := Option.some.inj hF15
    exact ret1_ok h19 rfl rfl (isV_bool.2 rfl)
  · skip
    have hF20 := ifF hb14 hF
    clear hF
    refine wp_skip ?_
    refine hn9 _ _ ?_
    refine seq_ctx fun Q21 hn21 hr21 hx21 => ?_
    refine seq_region tabOk h13 [0, 1, 5] [] [(0, .v (.slice A1 (List.length x0) c2)), (1, .v (.slice A3 (List.length x1) c4)), (5, .v (.int .i64 0))] [] (by kernel_rfl) fun β22 a23 w24 h25 => ?_
    clear h13
    obtain ⟨out26, hL26, hC26⟩ := bindE hF20
    clear hF20
    have j27 : ∀ a w', ((∃ β, Sb β (cx 27 ok w) [] [] [] [] a w') ∧ billingref47_SameAll_j27 N = some r) → Q21 .normal a w' := by
      rintro a28 w29 ⟨⟨β30, h31⟩, hF32⟩
      rw [billingref47_SameAll_j27] at hF32
      refine hn21 _ _ ?_
      refine seq_region tabOk h31 [4] [] [(4, .v (.bool true))] [] (by kernel_rfl) fun β33 a34 w35 h36 => ?_
      clear h31
      refine wp_ret ?_
      refine hr _ _ ?_
      obtain rfl := Option.some.inj hF32
      exact ret1_ok h36 rfl rfl (isV_bool.2 rfl)
    refine block_ctx fun Qb26 hnb26 hrb26 hbb26 hxb26 => ?_
    have h38 : Sb β22 (cx 27 ok w) [(0, .v (.slice A1 (List.length x0) c2)), (1, .v (.slice A3 (List.length x1) c4)), (5, .v (.int .i64 0))] [DF.v (rSl rApiEntry) x0 (.slice A1 (List.length x0) c2), DF.v (rSl rApiEntry) x1 (.slice A3 (List.length x1) c4)] [] [] a23 w24 := (h25).sel [0, 1, 5] [0, 1] []
    refine loop_ctx (fun m a w' => ∃ (i37 : Int), (∃ β, Sb β (cx 27 ok w) [(0, .v (.slice A1 (List.length x0) c2)), (1, .v (.slice A3 (List.length x1) c4)), (5, .v (.int .i64 i37))] [DF.v (rSl rApiEntry) x0 (.slice A1 (List.length x0) c2), DF.v (rSl rApiEntry) x1 (.slice A3 (List.length x1) c4)] [] [] a w') ∧ billingref47_SameAll_l26 N x0 x1 m i37 = some out26) N ⟨0, ⟨_, h38⟩, hL26⟩ ?_
    rintro Q26 m39 a40 w41 ⟨i37, ⟨β42, h43⟩, hF44⟩ hn26 hr26 hx26
    obtain _ | m39 := m39
    · exact absurd hF44 (by simp [billingref47_SameAll_l26])
    rw [billingref47_SameAll_l26] at hF44
    refine seq_ctx fun Q45 hn45 hr45 hx45 => ?_
    refine seq_region tabOk h43 [0, 1, 5, 14] [] [(0, .v (.slice A1 (List.length x0) c2)), (1, .v (.slice A3 (List.length x1) c4)), (5, .v (.int .i64 i37)), (14, .v (.bool (decide (i37 < (List.length x0 : Int)))))] [] (by kernel_rfl) fun β46 a47 w48 h49 => ?_
    clear h43
    refine wp_if h49 rfl (fun hb50 => ?_) (fun hb50 => ?_)
    · skip
      have hF51 := ifT hb50 hF44
      clear hF44
      refine wp_skip ?_
      refine hn45 _ _ ?_
      refine seq_ctx fun Q52 hn52 hr52 hx52 => ?_
      refine block_ctx fun Q53 hn53 hr53 hb53 hx53 => ?_
      refine seq_draw fun Q54 hq54 => ?_
      obtain ⟨x55, hx55, hF56⟩ := bindE hF51
      clear hF51
      obtain ⟨x59, hx59, hF60⟩ := bindE hF56
      clear hF56
      obtain ⟨y63, hy63, hF64⟩ := bindE hF60
      clear hF60
      have h66 : Sb β46 (cx 27 ok w) [(0, .v (.slice A1 (List.length x0) c2)), (1, .v (.slice A3 (List.length x1) c4)), (5, .v (.int .i64 i37))] [DF.v (rSl rApiEntry) x0 (.slice A1 (List.length x0) c2), DF.v (rSl rApiEntry) x1 (.slice A3 (List.length x1) c4)] [] [] a47 w48 := h49.sel [0, 1, 5] [0, 1] []
      refine draw_rule h66 rfl (by kernel_rfl) 10 [17, 18, 19, 20, 21, 22, 23, 24, 25, 26] [FV.eq (.slice A1 (List.length x0) c2), FV.eq (.int .i64 i37), FV.at rApiEntry x55, FV.rep rApiEntry x55, FV.eq (.slice A3 (List.length x1) c4), FV.eq (.int .i64 i37), FV.at rApiEntry x59, FV.rep rApiEntry x59, FV.eq (.bool y63), FV.eq (.bool (!y63))] rfl rfl rfl (by kernel_rfl) (by kernel_rfl) (by kernel_rfl) (by kernel_rfl) (by kernel_rfl) ?_ ?_
      · skip
        refine ⟨⟨⟨⟨⟨⟨⟨⟨⟨⟨trivial, ?_⟩, ?_⟩, ?_⟩, ?_⟩, ?_⟩, ?_⟩, ?_⟩, ?_⟩, ?_⟩, ?_⟩
        · skip
          intro β67 a68 w69 dX70 Ox71 Q72 h73 hq74 hp75 hk76
          refine evalS_ok tabOk h73 1 [0, 1, 5, 17] [] [(0, .v (.slice A1 (List.length x0) c2)), (1, .v (.slice A3 (List.length x1) c4)), (5, .v (.int .i64 i37)), (17, .v (.slice A1 (List.length x0) c2))] [] (by kernel_rfl) fun β77 a78 w79 h80 => ?_
          exact wpl_end (hk76 _ _ _ _ (h80.sel [0, 1, 5] [0, 1, 2] []) (h80.getD rfl) rfl)
        · skip
          intro β81 a82 w83 dX84 Ox85 Q86 h87 hq88 hp89 hk90
          refine evalS_ok tabOk h87 1 [0, 1, 5, 18] [] [(0, .v (.slice A1 (List.length x0) c2)), (1, .v (.slice A3 (List.length x1) c4)), (5, .v (.int .i64 i37)), (18, .v (.int .i64 i37))] [] (by kernel_rfl) fun β91 a92 w93 h94 => ?_
          exact wpl_end (hk90 _ _ _ _ (h94.sel [0, 1, 5] [0, 1, 2] []) (h94.getD rfl) rfl)
        · skip
          intro β95 a96 w97 dX98 Ox99 Q100 h101 hq102 hp103 hk104
          have h105 := h101.learnE (d := 17) rfl (hp103 0 17 _ rfl rfl rfl)
          clear h101
          have h106 := h105.learnE (d := 18) rfl (hp103 1 18 _ rfl rfl rfl)
          clear h105
          refine step_idx tabOk h106 1 rfl rfl rfl rfl rfl hx55 tb30 rfl tb24 rfl fun p107 a108 h109 => ?_
          clear h106
          exact wpl_end (hk104 _ _ _ _ (h109.sel [0, 1, 5] [1, 2, 3] []) (h109.getA rfl (h109.d 0 rfl)) rfl)
        · skip
          intro β110 a111 w112 dX113 Ox114 Q115 h116 hq117 hp118 hk119
          have h120 := h116.learn (d := 19) rfl
          clear h116
          have f121 := hp118 2 19 _ rfl rfl rfl
          generalize a111.tmps.getD 19 undef = v122 at h120 f121
          have h123 := h120.addD (d := DF.at rApiEntry x55 (v122)) f121
          clear h120
          refine step_load tabOk h123 0 rfl rfl rfl rfl tb24 rfl rfl fun v124 a126 hv125 h127 => ?_
          clear h123
          obtain ⟨v130, hs131, rfl⟩ := ex_ApiEntry hv125
          obtain ⟨A128, c129, rfl, hs132⟩ := slForm hs131
          have h133 := h127.addD (d := DF.v (rSl rApiPost) x55.Posts (.slice A128 (List.length x55.Posts) c129)) hs132
          clear h127
          exact wpl_end (hk119 _ _ _ _ (h133.sel [0, 1, 5] [3, 4, 5] []) (h133.getR rfl (im_ApiEntry (x := x55) (h133.d 0 rfl))) rfl)
        · skip
          intro β134 a135 w136 dX137 Ox138 Q139 h140 hq141 hp142 hk143
          refine evalS_ok tabOk h140 1 [0, 1, 5, 21] [] [(0, .v (.slice A1 (List.length x0) c2)), (1, .v (.slice A3 (List.length x1) c4)), (5, .v (.int .i64 i37)), (21, .v (.slice A3 (List.length x1) c4))] [] (by kernel_rfl) fun β144 a145 w146 h147 => ?_
          exact wpl_end (hk143 _ _ _ _ (h147.sel [0, 1, 5] [0, 1, 2] []) (h147.getD rfl) rfl)
        · skip
          intro β148 a149 w150 dX151 Ox152 Q153 h154 hq155 hp156 hk157
          refine evalS_ok tabOk h154 1 [0, 1, 5, 22] [] [(0, .v (.slice A1 (List.length x0) c2)), (1, .v (.slice A3 (List.length x1) c4)), (5, .v (.int .i64 i37)), (22, .v (.int .i64 i37))] [] (by kernel_rfl) fun β158 a159 w160 h161 => ?_
          exact wpl_end (hk157 _ _ _ _ (h161.sel [0, 1, 5] [0, 1, 2] []) (h161.getD rfl) rfl)
        · skip
          intro β162 a163 w164 dX165 Ox166 Q167 h168 hq169 hp170 hk171
          have h172 := h168.learnE (d := 21) rfl (hp170 4 21 _ rfl rfl rfl)
          clear h168
          have h173 := h172.learnE (d := 22) rfl (hp170 5 22 _ rfl rfl rfl)
          clear h172
          refine step_idx tabOk h173 2 rfl rfl rfl rfl rfl hx59 tb30 rfl tb24 rfl fun p174 a175 h176 => ?_
          clear h173
          exact wpl_end (hk171 _ _ _ _ (h176.sel [0, 1, 5] [1, 2, 3] []) (h176.getA rfl (h176.d 0 rfl)) rfl)
        · skip
          intro β177 a178 w179 dX180 Ox181 Q182 h183 hq184 hp185 hk186
          have h187 := h183.learn (d := 23) rfl
          clear h183
          have f188 := hp185 6 23 _ rfl rfl rfl
          generalize a178.tmps.getD 23 undef = v189 at h187 f188
          have h190 := h187.addD (d := DF.at rApiEntry x59 (v189)) f188
          clear h187
          refine step_load tabOk h190 0 rfl rfl rfl rfl tb24 rfl rfl fun v191 a193 hv192 h194 => ?_
          clear h190
          obtain ⟨v197, hs198, rfl⟩ := ex_ApiEntry hv192
          obtain ⟨A195, c196, rfl, hs199⟩ := slForm hs198
          have h200 := h194.addD (d := DF.v (rSl rApiPost) x59.Posts (.slice A195 (List.length x59.Posts) c196)) hs199
          clear h194
          exact wpl_end (hk186 _ _ _ _ (h200.sel [0, 1, 5] [3, 4, 5] []) (h200.getR rfl (im_ApiEntry (x := x59) (h200.d 0 rfl))) rfl)
        · skip
          intro β201 a202 w203 dX204 Ox205 Q206 h207 hq208 hp209 hk210
          have h211 := h207.learn (d := 20) rfl
          clear h207
          have f212 := hp209 3 20 _ rfl rfl rfl
          generalize a202.tmps.getD 20 undef = v213 at h211 f212
          obtain ⟨v216, hs217, rfl⟩ := ex_ApiEntry f212
          obtain ⟨A214, c215, rfl, hs218⟩ := slForm hs217
          have h219 := h211.addD (d := DF.v (rSl rApiPost) x55.Posts (.slice A214 (List.length x55.Posts) c215)) hs218
          clear h211
          have h220 := h219.learn (d := 24) rfl
          clear h219
          have f221 := hp209 7 24 _ rfl rfl rfl
          generalize a202.tmps.getD 24 undef = v222 at h220 f221
          obtain ⟨v225, hs226, rfl⟩ := ex_ApiEntry f221
          obtain ⟨A223, c224, rfl, hs227⟩ := slForm hs226
          have h228 := h220.addD (d := DF.v (rSl rApiPost) x59.Posts (.slice A223 (List.length x59.Posts) c224)) hs227
          clear h220
          refine step_call h228 rfl rfl runs38 (vs := [(.agg ⟨[.int .i64 x55.At, strV x55.Text, .slice A214 (List.length x55.Posts) c215]⟩), (.agg ⟨[.int .i64 x59.At, strV x59.Text, .slice A223 (List.length x59.Posts) c224]⟩)]) (by kernel_rfl) (c_billingref47_Same (x0 := x55) (x1 := x59) h228.okLt N (h228.d 1 rfl) (h228.d 0 rfl) hy63) fun v229 a232 w233 hR230 hk231 h234 => ?_
          clear h228
          have hv235 := isV.weak hR230 hk231
          obtain rfl := isV_bool.1 hv235
          exact wpl_end (hk210 _ _ _ _ (h234.sel [0, 1, 5] [2, 3, 4] []) (h234.getD rfl) rfl)
        · skip
          intro β236 a237 w238 dX239 Ox240 Q241 h242 hq243 hp244 hk245
          have h246 := h242.learnE (d := 25) rfl (hp244 8 25 _ rfl rfl rfl)
          clear h242
          refine evalS_ok tabOk h246 1 [0, 1, 5, 26] [] [(0, .v (.slice A1 (List.length x0) c2)), (1, .v (.slice A3 (List.length x1) c4)), (5, .v (.int .i64 i37)), (26, .v (.bool (!y63)))] [] (by kernel_rfl) fun β247 a248 w249 h250 => ?_
          exact wpl_end (hk245 _ _ _ _ (h250.sel [0, 1, 5] [0, 1, 2] []) (h250.getD rfl) rfl)
      · skip
        intro β251 a252 w253 h254 ha255
        have h256 := h254.learnE (d := 26) rfl (ha255 9 26 _ rfl rfl)
        clear h254
        have h257 := h256.unpin rfl
        clear h256
        have h258 : Sb β251 (cx 27 ok w) [(0, .v (.slice A1 (List.length x0) c2)), (1, .v (.slice A3 (List.length x1) c4)), (5, .v (.int .i64 i37)), (26, .v (.bool (!y63)))] [DF.v (rSl rApiEntry) x0 (.slice A1 (List.length x0) c2), DF.v (rSl rApiEntry) x1 (.slice A3 (List.length x1) c4)] [] [] a252 w253 := h257.sel [0, 1, 5, 26] [0, 1] []
        clear h257
        refine wpl_end (hq54 _ _ ?_)
        refine wp_if h258 rfl (fun hb259 => ?_) (fun hb259 => ?_)
        · skip
          have hF260 := ifT hb259 hF64
          clear hF64
          refine seq_region tabOk h258 [4] [] [(4, .v (.bool false))] [] (by kernel_rfl) fun β261 a262 w263 h264 => ?_
          clear h258
          refine wp_ret ?_
          refine hr53 _ _ ?_
          refine hr52 _ _ ?_
          refine hr26 _ _ ?_
          refine hrb26 _ _ ?_
          refine hr21 _ _ ?_
          refine hr _ _ ?_
          obtain rfl := Option.some.inj hF260
          obtain rfl := Option.some.inj hC26
          exact ret1_ok h264 rfl rfl (isV_bool.2 rfl)
        · skip
          have hF265 := ifF hb259 hF64
          clear hF64
          refine wp_skip ?_
          refine hn53 _ _ ?_
          refine hn52 _ _ ?_
          refine evalR_ok tabOk h258 [0, 1, 5] [] [(0, .v (.slice A1 (List.length x0) c2)), (1, .v (.slice A3 (List.length x1) c4)), (5, .v (.int .i64 (IntKind.wrap .i64 (i37 + 1))))] [] (by kernel_rfl) fun β266 a267 w268 h269 => ?_
          clear h258
          have h270 : Sb β266 (cx 27 ok w) [(0, .v (.slice A1 (List.length x0) c2)), (1, .v (.slice A3 (List.length x1) c4)), (5, .v (.int .i64 (IntKind.wrap .i64 (i37 + 1))))] [DF.v (rSl rApiEntry) x0 (.slice A1 (List.length x0) c2), DF.v (rSl rApiEntry) x1 (.slice A3 (List.length x1) c4)] [] [] a267 w268 := (h269).sel [0, 1, 5] [0, 1] []
          exact hn26 _ _ _ (Nat.lt_succ_self _) ⟨(IntKind.wrap .i64 (i37 + 1)), ⟨_, h270⟩, hF265⟩
    · skip
      have hF271 := ifF hb50 hF44
      clear hF44
      refine wp_exit ?_
      refine hx45 0 _ _ ?_
      refine hx26 0 _ _ ?_
      refine hbb26 _ _ ?_
      obtain rfl := Option.some.inj hF271
      have h272 : Sb β46 (cx 27 ok w) [] [] [] [] a47 w48 := (h49).sel [] [] []
      exact j27 _ _ ⟨⟨_, h272⟩, hC26⟩

theorem c_billinglaw47_LedgerAdds {ok : Ok} {w : World} (hok : ∀ b o, ok b o → b < w.heap.size) (N : Nat) {x0 : (List ApiEntry)} {x1 : ApiEntry} {A1 : Option Addr} {c2 : Nat} {A3 : Option Addr} {c4 : Nat} (d0 : isV (rSl rApiEntry) ok w x0 (.slice A1 (List.length x0) c2)) (d1 : isV (rSl rApiPost) ok w x1.Posts (.slice A3 (List.length x1.Posts) c4)) {r : Bool} (hF : billinglaw47_LedgerAdds N x0 x1 = some r) :
    Calls Try.prog 6 ⟨[.slice A1 (List.length x0) c2, .agg ⟨[.int .i64 x1.At, strV x1.Text, .slice A3 (List.length x1.Posts) c4]⟩]⟩ w (Ret w (R1 rBool ok w r)) := by
  rw [billinglaw47_LedgerAdds] at hF
  refine enter_ok (n := 43) hok Try.func6 rfl rfl rfl (D := [DF.v (rSl rApiEntry) x0 (.slice A1 (List.length x0) c2), DF.v (rSl rApiPost) x1.Posts (.slice A3 (List.length x1.Posts) c4)]) ⟨d0, d1, trivial⟩ (fun a h => ?_)
  simp only [zipG, Nat.zero_add, Nat.reduceAdd] at h
  refine start_ctx fun Q hn hr => ?_
  refine seq_region tabOk h [0, 3] [3] [(0, .v (.slice A1 (List.length x0) c2)), (3, .o 3 0)] [(3, ⟨[.int .i64 x1.At, strV x1.Text, .slice A3 (List.length x1.Posts) c4], 24⟩)] (by kernel_rfl) fun β5 a6 w7 h8 => ?_
  clear h
  refine seq_ctx fun Q9 hn9 hr9 hx9 => ?_
  obtain ⟨g11, hv12, hF13⟩ := bindE hF
  clear hF
  refine seq_join (J := fun a w' => ∃ β, Sb β (cx 43 ok w) [(0, .v (.slice A1 (List.length x0) c2)), (3, .o 3 0), (16, .v (.bool g11))] [DF.v (rSl rApiEntry) x0 (.slice A1 (List.length x0) c2), DF.v (rSl rApiPost) x1.Posts (.slice A3 (List.length x1.Posts) c4)] [(3, ⟨[.int .i64 x1.At, strV x1.Text, .slice A3 (List.length x1.Posts) c4], 24⟩)] [] a w') ?_ ?_
  · skip
    rintro a14 w15 ⟨β16, h17⟩
    refine wp_if h17 rfl (fun hb18 => ?_) (fun hb18 => ?_)
    · skip
      have hF19 := ifT hb18 hF13
      clear hF13
      refine seq_list fun Q20 hq20 => ?_
      obtain ⟨y21, hy21, hF22⟩ := bindE hF19
      clear hF19
      refine step_call h17 rfl rfl runs8 (vs := []) (by kernel_rfl) (c_billinglaw47_awake h17.okLt N hy21) fun v23 a26 w27 hR24 hk25 h28 => ?_
      clear h17
      have hv29 := isV.weak hR24 hk25
      obtain rfl := isV_bool.1 hv29
      refine evalS_ok tabOk h28 1 [4] [] [(4, .v (.bool y21))] [] (by kernel_rfl) fun β30 a31 w32 h33 => ?_
      clear h28
      have h34 : Sb β30 (cx 43 ok w) [(4, .v (.bool y21))] [] [] [] a31 w32 := h33.sel [4] [] []
      clear h33
      refine wpl_end (hq20 _ _ ?_)
      refine wp_ret ?_
      refine hr9 _ _ ?_
      refine hr _ _ ?_
      obtain rfl := Option.some.inj hF22
      exact ret1_ok h34 rfl rfl (isV_bool.2 rfl)
    · skip
      have hF35 := ifF hb18 hF13
      clear hF13
      refine wp_skip ?_
      refine hn9 _ _ ?_
      refine seq_draw fun Q36 hq36 => ?_
      obtain ⟨y37, hy37, hF38⟩ := bindE hF35
      clear hF35
      obtain ⟨y41, hy41, hF42⟩ := bindE hF38
      clear hF38
      obtain ⟨y45, hy45, hF46⟩ := bindE hF42
      clear hF42
      have h50 : Sb β16 (cx 43 ok w) [(0, .v (.slice A1 (List.length x0) c2)), (3, .o 3 0)] [DF.v (rSl rApiEntry) x0 (.slice A1 (List.length x0) c2), DF.v (rSl rApiPost) x1.Posts (.slice A3 (List.length x1.Posts) c4)] [(3, ⟨[.int .i64 x1.At, strV x1.Text, .slice A3 (List.length x1.Posts) c4], 24⟩)] [] a14 w15 := h17.sel [0, 3] [0, 1] [3]
      refine draw_rule h50 rfl (by kernel_rfl) 9 [19, 20, 21, 22, 23, 18, 24, 25, 5] [FV.eq (.slice A1 (List.length x0) c2), FV.rep (rSl rApiEntry) y37, FV.eq (.agg ⟨[.int .i64 x1.At, strV x1.Text, .slice A3 (List.length x1.Posts) c4]⟩), FV.rep rApiEntry y41, FV.tup2 (rSl rApiEntry) (rInt .i64) y45, FV.tup2 (rSl rApiEntry) (rInt .i64) y45, FV.rep (rSl rApiEntry) y45.1, FV.eq (.int .i64 y45.2), FV.rep (rSl rApiEntry) y45.1] rfl rfl rfl (by kernel_rfl) (by kernel_rfl) (by kernel_rfl) (by kernel_rfl) (by kernel_rfl) ?_ ?_
      · skip
        refine ⟨⟨⟨⟨⟨⟨⟨⟨⟨trivial, ?_⟩, ?_⟩, ?_⟩, ?_⟩, ?_⟩, ?_⟩, ?_⟩, ?_⟩, ?_⟩
        · skip
          intro β51 a52 w53 dX54 Ox55 Q56 h57 hq58 hp59 hk60
          refine evalS_ok tabOk h57 1 [0, 3, 19] [3] [(0, .v (.slice A1 (List.length x0) c2)), (3, .o 3 0), (19, .v (.slice A1 (List.length x0) c2))] [(3, ⟨[.int .i64 x1.At, strV x1.Text, .slice A3 (List.length x1.Posts) c4], 24⟩)] (by kernel_rfl) fun β61 a62 w63 h64 => ?_
          exact wpl_end (hk60 _ _ _ _ (h64.sel [0, 3] [0, 1, 2] [3]) (h64.getD rfl) rfl)
        · skip
          intro β65 a66 w67 dX68 Ox69 Q70 h71 hq72 hp73 hk74
          have h75 := h71.learnE (d := 19) rfl (hp73 0 19 _ rfl rfl rfl)
          clear h71
          refine step_call h75 rfl rfl runs14 (vs := [(.slice A1 (List.length x0) c2)]) (by kernel_rfl) (c_billingref47_CloneAll (x0 := x0) h75.okLt N (h75.d 1 rfl) hy37) fun v76 a79 w80 hR77 hk78 h81 => ?_
          clear h75
          have hv82 := isV.weak hR77 hk78
          obtain ⟨A83, c84, rfl, hs85⟩ := slForm hv82
          have h86 := h81.addD (d := DF.v (rSl rApiEntry) y37 (.slice A83 (List.length y37) c84)) hs85
          clear h81
          exact wpl_end (hk74 _ _ _ _ (h86.sel [0, 3] [1, 2, 3] [3]) (h86.getR rfl (h86.d 0 rfl)) rfl)
        · skip
          intro β87 a88 w89 dX90 Ox91 Q92 h93 hq94 hp95 hk96
          refine evalS_ok tabOk h93 1 [0, 3, 21] [3] [(0, .v (.slice A1 (List.length x0) c2)), (3, .o 3 0), (21, .v (.agg ⟨[.int .i64 x1.At, strV x1.Text, .slice A3 (List.length x1.Posts) c4]⟩))] [(3, ⟨[.int .i64 x1.At, strV x1.Text, .slice A3 (List.length x1.Posts) c4], 24⟩)] (by kernel_rfl) fun β97 a98 w99 h100 => ?_
          exact wpl_end (hk96 _ _ _ _ (h100.sel [0, 3] [0, 1, 2] [3]) (h100.getD rfl) rfl)
        · skip
          intro β101 a102 w103 dX104 Ox105 Q106 h107 hq108 hp109 hk110
          have h111 := h107.learnE (d := 21) rfl (hp109 2 21 _ rfl rfl rfl)
          clear h107
          refine step_call h111 rfl rfl runs10 (vs := [(.agg ⟨[.int .i64 x1.At, strV x1.Text, .slice A3 (List.length x1.Posts) c4]⟩)]) (by kernel_rfl) (c_billingref47_Clone (x0 := x1) h111.okLt N (h111.d 2 rfl) hy41) fun v112 a115 w116 hR113 hk114 h117 => ?_
          clear h111
          have hv118 := isV.weak hR113 hk114
          obtain ⟨v121, hs122, rfl⟩ := ex_ApiEntry hv118
          obtain ⟨A119, c120, rfl, hs123⟩ := slForm hs122
          have h124 := h117.addD (d := DF.v (rSl rApiPost) y41.Posts (.slice A119 (List.length y41.Posts) c120)) hs123
          clear h117
          exact wpl_end (hk110 _ _ _ _ (h124.sel [0, 3] [1, 2, 3] [3]) (h124.getR rfl (im_ApiEntry (x := y41) (h124.d 0 rfl))) rfl)
        · skip
          intro β125 a126 w127 dX128 Ox129 Q130 h131 hq132 hp133 hk134
          have h135 := h131.learn (d := 20) rfl
          clear h131
          have f136 := hp133 1 20 _ rfl rfl rfl
          generalize a126.tmps.getD 20 undef = v137 at h135 f136
          obtain ⟨A138, c139, rfl, hs140⟩ := slForm f136
          have h141 := h135.addD (d := DF.v (rSl rApiEntry) y37 (.slice A138 (List.length y37) c139)) hs140
          clear h135
          have h142 := h141.learn (d := 22) rfl
          clear h141
          have f143 := hp133 3 22 _ rfl rfl rfl
          generalize a126.tmps.getD 22 undef = v144 at h142 f143
          obtain ⟨v147, hs148, rfl⟩ := ex_ApiEntry f143
          obtain ⟨A145, c146, rfl, hs149⟩ := slForm hs148
          have h150 := h142.addD (d := DF.v (rSl rApiPost) y41.Posts (.slice A145 (List.length y41.Posts) c146)) hs149
          clear h142
          refine step_call h150 rfl rfl runs19 (vs := [(.slice A138 (List.length y37) c139), (.agg ⟨[.int .i64 y41.At, strV y41.Text, .slice A145 (List.length y41.Posts) c146]⟩)]) (by kernel_rfl) (c_ledger_Add (x0 := y37) (x1 := y41) h150.okLt N (h150.d 1 rfl) (h150.d 0 rfl) hy45) fun v151 a154 w155 hR152 hk153 h156 => ?_
          clear h150
          obtain ⟨v157, v158, rfl, hv159, hv160⟩ := hR152
          have hv161 := isV.weak hv159 hk153
          obtain ⟨A162, c163, rfl, hs164⟩ := slForm hv161
          have hv165 := isV.weak hv160 hk153
          obtain rfl := isV_int.1 hv165
          have h166 := h156.addD (d := DF.v (rSl rApiEntry) y45.1 (.slice A162 (List.length y45.1) c163)) hs164
          clear h156
          exact wpl_end (hk134 _ _ _ _ (h166.sel [0, 3] [3, 4, 5] [3]) (by have e := h166.getD (d := 23) rfl; show ∃ v0 v1, _ = _ ∧ _ ∧ _; rw [e]; exact ⟨_, _,  rfl, (h166.d 0 rfl), (isV_int.2 rfl)⟩) rfl)
        · skip
          intro β167 a168 w169 dX170 Ox171 Q172 h173 hq174 hp175 hk176
          have h177 := h173.learn (d := 23) rfl
          clear h173
          have f178 := hp175 4 23 _ rfl rfl rfl
          generalize a168.tmps.getD 23 undef = v179 at h177 f178
          obtain ⟨v180, v181, rfl, hv182, hv183⟩ := f178
          obtain ⟨A184, c185, rfl, hs186⟩ := slForm hv182
          obtain rfl := isV_int.1 hv183
          have h187 := h177.addD (d := DF.v (rSl rApiEntry) y45.1 (.slice A184 (List.length y45.1) c185)) hs186
          clear h177
          refine evalS_ok tabOk h187 1 [0, 3, 18] [3] [(0, .v (.slice A1 (List.length x0) c2)), (3, .o 3 0), (18, .v (.tuple ⟨[.slice A184 (List.length y45.1) c185, .int .i64 y45.2]⟩))] [(3, ⟨[.int .i64 x1.At, strV x1.Text, .slice A3 (List.length x1.Posts) c4], 24⟩)] (by kernel_rfl) fun β188 a189 w190 h191 => ?_
          exact wpl_end (hk176 _ _ _ _ (h191.sel [0, 3] [1, 2, 3] [3]) (by have e := h191.getD (d := 18) rfl; show ∃ v0 v1, _ = _ ∧ _ ∧ _; rw [e]; exact ⟨_, _,  rfl, (h191.d 0 rfl), (isV_int.2 rfl)⟩) rfl)
        · skip
          intro β192 a193 w194 dX195 Ox196 Q197 h198 hq199 hp200 hk201
          have h202 := h198.learn (d := 18) rfl
          clear h198
          have f203 := hp200 5 18 _ rfl rfl rfl
          generalize a193.tmps.getD 18 undef = v204 at h202 f203
          obtain ⟨v205, v206, rfl, hv207, hv208⟩ := f203
          obtain ⟨A209, c210, rfl, hs211⟩ := slForm hv207
          obtain rfl := isV_int.1 hv208
          have h212 := h202.addD (d := DF.v (rSl rApiEntry) y45.1 (.slice A209 (List.length y45.1) c210)) hs211
          clear h202
          refine evalS_ok tabOk h212 1 [0, 3, 24] [3] [(0, .v (.slice A1 (List.length x0) c2)), (3, .o 3 0), (24, .v (.slice A209 (List.length y45.1) c210))] [(3, ⟨[.int .i64 x1.At, strV x1.Text, .slice A3 (List.length x1.Posts) c4], 24⟩)] (by kernel_rfl) fun β213 a214 w215 h216 => ?_
          exact wpl_end (hk201 _ _ _ _ (h216.sel [0, 3] [1, 2, 3] [3]) (h216.getR rfl (h216.d 0 rfl)) rfl)
        · skip
          intro β217 a218 w219 dX220 Ox221 Q222 h223 hq224 hp225 hk226
          have h227 := h223.learn (d := 18) rfl
          clear h223
          have f228 := hp225 5 18 _ rfl rfl rfl
          generalize a218.tmps.getD 18 undef = v229 at h227 f228
          obtain ⟨v230, v231, rfl, hv232, hv233⟩ := f228
          obtain ⟨A234, c235, rfl, hs236⟩ := slForm hv232
          obtain rfl := isV_int.1 hv233
          have h237 := h227.addD (d := DF.v (rSl rApiEntry) y45.1 (.slice A234 (List.length y45.1) c235)) hs236
          clear h227
          refine evalS_ok tabOk h237 1 [0, 3, 25] [3] [(0, .v (.slice A1 (List.length x0) c2)), (3, .o 3 0), (25, .v (.int .i64 y45.2))] [(3, ⟨[.int .i64 x1.At, strV x1.Text, .slice A3 (List.length x1.Posts) c4], 24⟩)] (by kernel_rfl) fun β238 a239 w240 h241 => ?_
          exact wpl_end (hk226 _ _ _ _ (h241.sel [0, 3] [1, 2, 3] [3]) (h241.getD rfl) rfl)
        · skip
          intro β242 a243 w244 dX245 Ox246 Q247 h248 hq249 hp250 hk251
          have h252 := h248.learn (d := 24) rfl
          clear h248
          have f253 := hp250 6 24 _ rfl rfl rfl
          generalize a243.tmps.getD 24 undef = v254 at h252 f253
          obtain ⟨A255, c256, rfl, hs257⟩ := slForm f253
          have h258 := h252.addD (d := DF.v (rSl rApiEntry) y45.1 (.slice A255 (List.length y45.1) c256)) hs257
          clear h252
          refine evalS_ok tabOk h258 1 [0, 3, 5] [3] [(0, .v (.slice A1 (List.length x0) c2)), (3, .o 3 0), (5, .v (.slice A255 (List.length y45.1) c256))] [(3, ⟨[.int .i64 x1.At, strV x1.Text, .slice A3 (List.length x1.Posts) c4], 24⟩)] (by kernel_rfl) fun β259 a260 w261 h262 => ?_
          exact wpl_end (hk251 _ _ _ _ (h262.sel [0, 3] [1, 2, 3] [3]) (h262.getR rfl (h262.d 0 rfl)) rfl)
      · skip
        intro β263 a264 w265 h266 ha267
        have h268 := h266.learnE (d := 25) rfl (ha267 7 25 _ rfl rfl)
        clear h266
        have h269 := h268.learn (d := 5) rfl
        clear h268
        have f270 := ha267 8 5 _ rfl rfl
        generalize a264.tmps.getD 5 undef = v271 at h269 f270
        obtain ⟨A272, c273, rfl, hs274⟩ := slForm f270
        have h275 := h269.addD (d := DF.v (rSl rApiEntry) y45.1 (.slice A272 (List.length y45.1) c273)) hs274
        clear h269
        have h276 := h275.unpin rfl
        clear h275
        refine evalS_ok tabOk h276 1 [0, 3, 5, 6] [3] [(0, .v (.slice A1 (List.length x0) c2)), (3, .o 3 0), (5, .v (.slice A272 (List.length y45.1) c273)), (6, .v (.int .i64 y45.2))] [(3, ⟨[.int .i64 x1.At, strV x1.Text, .slice A3 (List.length x1.Posts) c4], 24⟩)] (by kernel_rfl) fun β277 a278 w279 h280 => ?_
        clear h276
        have h281 : Sb β277 (cx 43 ok w) [(0, .v (.slice A1 (List.length x0) c2)), (3, .o 3 0), (5, .v (.slice A272 (List.length y45.1) c273)), (6, .v (.int .i64 y45.2))] [DF.v (rSl rApiEntry) x0 (.slice A1 (List.length x0) c2), DF.v (rSl rApiEntry) y45.1 (.slice A272 (List.length y45.1) c273), DF.v (rSl rApiPost) x1.Posts (.slice A3 (List.length x1.Posts) c4)] [(3, ⟨[.int .i64 x1.At, strV x1.Text, .slice A3 (List.length x1.Posts) c4], 24⟩)] [] a278 w279 := h280.sel [0, 3, 5, 6] [1, 0, 2] [3]
        clear h280
        refine wpl_end (hq36 _ _ ?_)
        refine seq_list fun Q282 hq282 => ?_
        refine evalS_ok tabOk h281 2 [5, 6, 27, 28] [] [(5, .v (.slice A272 (List.length y45.1) c273)), (6, .v (.int .i64 y45.2)), (27, .v (.slice A1 (List.length x0) c2)), (28, .v (.agg ⟨[.int .i64 x1.At, strV x1.Text, .slice A3 (List.length x1.Posts) c4]⟩))] [] (by kernel_rfl) fun β283 a284 w285 h286 => ?_
        clear h281
        obtain ⟨y287, hy287, hF288⟩ := bindE hF46
        clear hF46
        refine step_call h286 rfl rfl runs20 (vs := [(.slice A1 (List.length x0) c2), (.agg ⟨[.int .i64 x1.At, strV x1.Text, .slice A3 (List.length x1.Posts) c4]⟩)]) (by kernel_rfl) (c_billingref47_Add (x0 := x0) (x1 := x1) h286.okLt N (h286.d 0 rfl) (h286.d 2 rfl) hy287) fun v289 a292 w293 hR290 hk291 h294 => ?_
        clear h286
        obtain ⟨v295, v296, rfl, hv297, hv298⟩ := hR290
        have hv299 := isV.weak hv297 hk291
        obtain ⟨A300, c301, rfl, hs302⟩ := slForm hv299
        have hv303 := isV.weak hv298 hk291
        obtain rfl := isV_int.1 hv303
        have h304 := h294.addD (d := DF.v (rSl rApiEntry) y287.1 (.slice A300 (List.length y287.1) c301)) hs302
        clear h294
        refine evalS_ok tabOk h304 5 [5, 6, 7, 8] [] [(5, .v (.slice A272 (List.length y45.1) c273)), (6, .v (.int .i64 y45.2)), (7, .v (.slice A300 (List.length y287.1) c301)), (8, .v (.int .i64 y287.2))] [] (by kernel_rfl) fun β305 a306 w307 h308 => ?_
        clear h304
        have h309 : Sb β305 (cx 43 ok w) [(5, .v (.slice A272 (List.length y45.1) c273)), (6, .v (.int .i64 y45.2)), (7, .v (.slice A300 (List.length y287.1) c301)), (8, .v (.int .i64 y287.2))] [DF.v (rSl rApiEntry) y45.1 (.slice A272 (List.length y45.1) c273), DF.v (rSl rApiEntry) y287.1 (.slice A300 (List.length y287.1) c301)] [] [] a306 w307 := h308.sel [5, 6, 7, 8] [2, 0] []
        clear h308
        refine wpl_end (hq282 _ _ ?_)
        obtain ⟨g311, hv312, hF313⟩ := bindE hF288
        clear hF288
        refine seq_join (J := fun a w' => ∃ β, Sb β (cx 43 ok w) [(4, .v (.bool g311))] [] [] [] a w') ?_ ?_
        · skip
          rintro a314 w315 ⟨β316, h317⟩
          refine wp_ret ?_
          refine hr _ _ ?_
          obtain rfl := Option.some.inj hF313
          exact ret1_ok h317 rfl rfl (isV_bool.2 rfl)
        · skip
          refine region_ok ?_
          refine evalS_ok tabOk h309 4 [5, 7, 35] [] [(5, .v (.slice A272 (List.length y45.1) c273)), (7, .v (.slice A300 (List.length y287.1) c301)), (35, .v (.bool (y45.2 == y287.2)))] [] (by kernel_rfl) fun β318 a319 w320 h321 => ?_
          clear h309
          refine bcases (b := (y45.2 == y287.2)) (fun hb322 => ?_) (fun hb322 => ?_)
          · skip
            have hv323 := ifT hb322 hv312
            clear hv312
            have h324 := h321.reb (t := 35) rfl hb322
            clear h321
            refine evalS_ok tabOk h324 2 [35, 36, 37] [] [(35, .v (.bool true)), (36, .v (.slice A272 (List.length y45.1) c273)), (37, .v (.slice A300 (List.length y287.1) c301))] [] (by kernel_rfl) fun β325 a326 w327 h328 => ?_
            clear h324
            obtain ⟨y329, hy329, hv330⟩ := bindE hv323
            clear hv323
            refine step_call h328 rfl rfl runs21 (vs := [(.slice A272 (List.length y45.1) c273), (.slice A300 (List.length y287.1) c301)]) (by kernel_rfl) (c_billingref47_SameAll (x0 := y45.1) (x1 := y287.1) h328.okLt N (h328.d 0 rfl) (h328.d 1 rfl) hy329) fun v331 a334 w335 hR332 hk333 h336 => ?_
            clear h328
            have hv337 := isV.weak hR332 hk333
            obtain rfl := isV_bool.1 hv337
            refine evalS_ok tabOk h336 2 [40] [] [(40, .v (.bool y329))] [] (by kernel_rfl) fun β338 a339 w340 h341 => ?_
            clear h336
            refine bcases (b := y329) (fun hb342 => ?_) (fun hb342 => ?_)
            · skip
              have hv343 := ifT hb342 hv330
              clear hv330
              have h344 := h341.reb (t := 40) rfl hb342
              clear h341
              obtain ⟨y345, hy345, hv346⟩ := bindE hv343
              clear hv343
              refine step_call h344 rfl rfl runs8 (vs := []) (by kernel_rfl) (c_billinglaw47_awake h344.okLt N hy345) fun v347 a350 w351 hR348 hk349 h352 => ?_
              clear h344
              have hv353 := isV.weak hR348 hk349
              obtain rfl := isV_bool.1 hv353
              refine evalS_ok tabOk h352 2 [4] [] [(4, .v (.bool y345))] [] (by kernel_rfl) fun β354 a355 w356 h357 => ?_
              clear h352
              obtain rfl := Option.some.inj hv346
              have h358 : Sb β354 (cx 43 ok w) [(4, .v (.bool y345))] [] [] [] a355 w356 := h357.sel [4] [] []
              clear h357
              exact wpl_end (then_n ⟨_, h358⟩)
            · skip
              have hv359 := ifF hb342 hv330
              clear hv330
              have h360 := h341.reb (t := 40) rfl hb342
              clear h341
              refine evalS_ok tabOk h360 3 [4] [] [(4, .v (.bool false))] [] (by kernel_rfl) fun β361 a362 w363 h364 => ?_
              clear h360
              obtain rfl := Option.some.inj hv359
              have h365 : Sb β361 (cx 43 ok w) [(4, .v (.bool false))] [] [] [] a362 w363 := h364.sel [4] [] []
              clear h364
              exact wpl_end (then_n ⟨_, h365⟩)
          · skip
            have hv366 := ifF hb322 hv312
            clear hv312
            have h367 := h321.reb (t := 35) rfl hb322
            clear h321
            refine evalS_ok tabOk h367 8 [4] [] [(4, .v (.bool false))] [] (by kernel_rfl) fun β368 a369 w370 h371 => ?_
            clear h367
            obtain rfl := Option.some.inj hv366
            have h372 : Sb β368 (cx 43 ok w) [(4, .v (.bool false))] [] [] [] a369 w370 := h371.sel [4] [] []
            clear h371
            exact wpl_end (then_n ⟨_, h372⟩)
  · skip
    refine region_ok ?_
    refine evalS_ok tabOk h8 1 [0, 3, 9] [3] [(0, .v (.slice A1 (List.length x0) c2)), (3, .o 3 0), (9, .v (.agg ⟨[.int .i64 x1.At, strV x1.Text, .slice A3 (List.length x1.Posts) c4]⟩))] [(3, ⟨[.int .i64 x1.At, strV x1.Text, .slice A3 (List.length x1.Posts) c4], 24⟩)] (by kernel_rfl) fun β373 a374 w375 h376 => ?_
    clear h8
    obtain ⟨y377, hy377, hv378⟩ := bindE hv12
    clear hv12
    refine step_call h376 rfl rfl runs7 (vs := [(.agg ⟨[.int .i64 x1.At, strV x1.Text, .slice A3 (List.length x1.Posts) c4]⟩)]) (by kernel_rfl) (c_billinglaw47_short (x0 := x1) h376.okLt N (h376.d 1 rfl) hy377) fun v379 a382 w383 hR380 hk381 h384 => ?_
    clear h376
    have hv385 := isV.weak hR380 hk381
    obtain rfl := isV_bool.1 hv385
    refine evalS_ok tabOk h384 2 [0, 3, 12] [3] [(0, .v (.slice A1 (List.length x0) c2)), (3, .o 3 0), (12, .v (.bool (!y377)))] [(3, ⟨[.int .i64 x1.At, strV x1.Text, .slice A3 (List.length x1.Posts) c4], 24⟩)] (by kernel_rfl) fun β386 a387 w388 h389 => ?_
    clear h384
    refine bcases (b := (!y377)) (fun hb390 => ?_) (fun hb390 => ?_)
    · skip
      have hv391 := ifT hb390 hv378
      clear hv378
      have h392 := h389.reb (t := 12) rfl hb390
      clear h389
      refine evalS_ok tabOk h392 4 [0, 3, 16] [3] [(0, .v (.slice A1 (List.length x0) c2)), (3, .o 3 0), (16, .v (.bool true))] [(3, ⟨[.int .i64 x1.At, strV x1.Text, .slice A3 (List.length x1.Posts) c4], 24⟩)] (by kernel_rfl) fun β393 a394 w395 h396 => ?_
      clear h392
      obtain rfl := Option.some.inj hv391
      have h397 : Sb β393 (cx 43 ok w) [(0, .v (.slice A1 (List.length x0) c2)), (3, .o 3 0), (16, .v (.bool true))] [DF.v (rSl rApiEntry) x0 (.slice A1 (List.length x0) c2), DF.v (rSl rApiPost) x1.Posts (.slice A3 (List.length x1.Posts) c4)] [(3, ⟨[.int .i64 x1.At, strV x1.Text, .slice A3 (List.length x1.Posts) c4], 24⟩)] [] a394 w395 := h396.sel [0, 3, 16] [0, 1] [3]
      clear h396
      exact wpl_end (then_n ⟨_, h397⟩)
    · skip
      have hv398 := ifF hb390 hv378
      clear hv378
      have h399 := h389.reb (t := 12) rfl hb390
      clear h389
      refine evalS_ok tabOk h399 1 [0, 3, 12, 13] [3] [(0, .v (.slice A1 (List.length x0) c2)), (3, .o 3 0), (12, .v (.bool false)), (13, .v (.slice A1 (List.length x0) c2))] [(3, ⟨[.int .i64 x1.At, strV x1.Text, .slice A3 (List.length x1.Posts) c4], 24⟩)] (by kernel_rfl) fun β400 a401 w402 h403 => ?_
      clear h399
      obtain ⟨y404, hy404, hv405⟩ := bindE hv398
      clear hv398
      refine step_call h403 rfl rfl runs12 (vs := [(.slice A1 (List.length x0) c2), (.int .i64 40)]) (by kernel_rfl) (c_billingref47_ValidAll (x0 := x0) (x1 := 40) h403.okLt N (h403.d 0 rfl) hy404) fun v406 a409 w410 hR407 hk408 h411 => ?_
      clear h403
      have hv412 := isV.weak hR407 hk408
      obtain rfl := isV_bool.1 hv412
      refine evalS_ok tabOk h411 2 [0, 3, 16] [3] [(0, .v (.slice A1 (List.length x0) c2)), (3, .o 3 0), (16, .v (.bool (!y404)))] [(3, ⟨[.int .i64 x1.At, strV x1.Text, .slice A3 (List.length x1.Posts) c4], 24⟩)] (by kernel_rfl) fun β413 a414 w415 h416 => ?_
      clear h411
      obtain rfl := Option.some.inj hv405
      have h417 : Sb β413 (cx 43 ok w) [(0, .v (.slice A1 (List.length x0) c2)), (3, .o 3 0), (16, .v (.bool (!y404)))] [DF.v (rSl rApiEntry) x0 (.slice A1 (List.length x0) c2), DF.v (rSl rApiPost) x1.Posts (.slice A3 (List.length x1.Posts) c4)] [(3, ⟨[.int .i64 x1.At, strV x1.Text, .slice A3 (List.length x1.Posts) c4], 24⟩)] [] a414 w415 := h416.sel [0, 3, 16] [0, 1] [3]
      clear h416
      exact wpl_end (then_n ⟨_, h417⟩)

end Gd

/- The walks, part 2. -/
import Derived.Test.YteiofmonhoddfaaGWalks0
namespace Gd
open Go Go.Proofs
set_option linter.unusedVariables false
set_option linter.unusedSimpArgs false
theorem c_api_Post_ {ok : Ok} {w : World} (hok : ∀ b o, ok b o → b < w.heap.size) (N : Nat) {x0 : (List ApiPost)} {x1 : (ApiPost → Option Int)} {A1 : Option Addr} {c2 : Nat} {g3 : Value} (d0 : isV (rSl rApiPost) ok w x0 (.slice A1 (List.length x0) c2)) (d1 : isV (rFn Try.prog rApiPost (rInt .i64)) ok w x1 (g3)) {r : Int} (hF : api_Post_ N x0 x1 = some r) :
    Calls Try.prog 26 ⟨[.slice A1 (List.length x0) c2, g3]⟩ w (Ret w (R1 (rInt .i64) ok w r)) := by
  rw [api_Post_] at hF
  refine enter_ok (n := 21) hok Try.func26 rfl rfl rfl (D := [DF.v (rSl rApiPost) x0 (.slice A1 (List.length x0) c2), DF.v (rFn Try.prog rApiPost (rInt .i64)) x1 (g3)]) ⟨d0, d1, trivial⟩ (fun a h => ?_)
  simp only [zipG, Nat.zero_add, Nat.reduceAdd] at h
  refine start_ctx fun Q hn hr => ?_
  refine seq_region tabOk h [0, 1] [] [(0, .v (.slice A1 (List.length x0) c2)), (1, .v (g3))] [] (by kernel_rfl) fun β4 a5 w6 h7 => ?_
  clear h
  refine seq_region tabOk h7 [0, 1, 5] [] [(0, .v (.slice A1 (List.length x0) c2)), (1, .v (g3)), (5, .v (.int .i64 0))] [] (by kernel_rfl) fun β8 a9 w10 h11 => ?_
  clear h7
  refine seq_ctx fun Q12 hn12 hr12 hx12 => ?_
  refine seq_region tabOk h11 [1, 5, 8, 9, 10] [] [(1, .v (g3)), (5, .v (.int .i64 0)), (8, .v (.slice A1 (List.length x0) c2)), (9, .v (.int .i64 (List.length x0 : Int))), (10, .v (.int .i64 0))] [] (by kernel_rfl) fun β13 a14 w15 h16 => ?_
  clear h11
  obtain ⟨out17, hL17, hC17⟩ := bindE hF
  clear hF
  have j19 : ∀ a w', (∃ (i18 : Int), (∃ β, Sb β (cx 21 ok w) [(5, .v (.int .i64 i18))] [] [] [] a w') ∧ api_Post__j19 N i18 = some r) → Q12 .normal a w' := by
    rintro a20 w21 ⟨i18, ⟨β22, h23⟩, hF24⟩
    rw [api_Post__j19] at hF24
    refine hn12 _ _ ?_
    refine seq_region tabOk h23 [4] [] [(4, .v (.int .i64 i18))] [] (by kernel_rfl) fun β25 a26 w27 h28 => ?_
    clear h23
    refine wp_ret ?_
    refine hr _ _ ?_
    obtain rfl := Option.some.inj hF24
    exact ret1_ok h28 rfl rfl (isV_int.2 rfl)
  refine block_ctx fun Qb17 hnb17 hrb17 hbb17 hxb17 => ?_
  have h31 : Sb β13 (cx 21 ok w) [(1, .v (g3)), (5, .v (.int .i64 0)), (8, .v (.slice A1 (List.length x0) c2)), (9, .v (.int .i64 (List.length x0 : Int))), (10, .v (.int .i64 0))] [DF.v (rFn Try.prog rApiPost (rInt .i64)) x1 (g3), DF.v (rSl rApiPost) x0 (.slice A1 (List.length x0) c2)] [] [] a14 w15 := (h16).sel [1, 5, 8, 9, 10] [1, 0] []
  refine loop_ctx (fun m a w' => ∃ (i29 : Int) (i30 : Int), (∃ β, Sb β (cx 21 ok w) [(1, .v (g3)), (5, .v (.int .i64 i29)), (8, .v (.slice A1 (List.length x0) c2)), (9, .v (.int .i64 (List.length x0 : Int))), (10, .v (.int .i64 i30))] [DF.v (rFn Try.prog rApiPost (rInt .i64)) x1 (g3), DF.v (rSl rApiPost) x0 (.slice A1 (List.length x0) c2)] [] [] a w') ∧ api_Post__l17 N x0 x1 m i29 i30 = some out17) N ⟨0, 0, ⟨_, h31⟩, hL17⟩ ?_
  rintro Q17 m32 a33 w34 ⟨i29, i30, ⟨β35, h36⟩, hF37⟩ hn17 hr17 hx17
  obtain _ | m32 := m32
  · exact absurd hF37 (by simp [api_Post__l17])
  rw [api_Post__l17] at hF37
  refine seq_region tabOk h36 [1, 5, 8, 9, 10, 11] [] [(1, .v (g3)), (5, .v (.int .i64 i29)), (8, .v (.slice A1 (List.length x0) c2)), (9, .v (.int .i64 (List.length x0 : Int))), (10, .v (.int .i64 i30)), (11, .v (.bool (decide (i30 < (List.length x0 : Int)))))] [] (by kernel_rfl) fun β38 a39 w40 h41 => ?_
  clear h36
  refine seq_ctx fun Q42 hn42 hr42 hx42 => ?_
  refine wp_if h41 rfl (fun hb43 => ?_) (fun hb43 => ?_)
  · skip
    have hF44 := ifT hb43 hF37
    clear hF37
    refine wp_skip ?_
    refine hn42 _ _ ?_
    refine seq_ctx fun Q45 hn45 hr45 hx45 => ?_
    refine block_ctx fun Q46 hn46 hr46 hb46 hx46 => ?_
    refine seq_list fun Q47 hq47 => ?_
    obtain ⟨x48, hx48, hF49⟩ := bindE hF44
    clear hF44
    refine step_idx tabOk h41 1 rfl rfl rfl rfl rfl hx48 tb22 rfl tb38 rfl fun p50 a51 h52 => ?_
    clear h41
    refine step_load tabOk h52 0 rfl rfl rfl rfl tb38 rfl rfl fun v53 a55 hv54 h56 => ?_
    clear h52
    obtain rfl := ex_ApiPost hv54
    refine evalS_ok tabOk h56 2 [1, 5, 7, 8, 9, 10] [7] [(1, .v (g3)), (5, .v (.int .i64 i29)), (7, .o 7 0), (8, .v (.slice A1 (List.length x0) c2)), (9, .v (.int .i64 (List.length x0 : Int))), (10, .v (.int .i64 i30))] [(7, ⟨[strV x48.Account, .int .i64 x48.Amount], 38⟩)] (by kernel_rfl) fun β57 a58 w59 h60 => ?_
    clear h56
    have h61 : Sb β57 (cx 21 ok w) [(1, .v (g3)), (5, .v (.int .i64 i29)), (7, .o 7 0), (8, .v (.slice A1 (List.length x0) c2)), (9, .v (.int .i64 (List.length x0 : Int))), (10, .v (.int .i64 i30))] [DF.v (rFn Try.prog rApiPost (rInt .i64)) x1 (g3), DF.v (rSl rApiPost) x0 (.slice A1 (List.length x0) c2)] [(7, ⟨[strV x48.Account, .int .i64 x48.Amount], 38⟩)] [] a58 w59 := h60.sel [1, 5, 7, 8, 9, 10] [2, 3] [7]
    clear h60
    refine wpl_end (hq47 _ _ ?_)
    refine region_ok ?_
    refine evalS_ok tabOk h61 3 [1, 5, 8, 9, 10, 14, 15, 16] [] [(1, .v (g3)), (5, .v (.int .i64 i29)), (8, .v (.slice A1 (List.length x0) c2)), (9, .v (.int .i64 (List.length x0 : Int))), (10, .v (.int .i64 i30)), (14, .v (.int .i64 i29)), (15, .v (g3)), (16, .v (.agg ⟨[strV x48.Account, .int .i64 x48.Amount]⟩))] [] (by kernel_rfl) fun β63 a64 w65 h66 => ?_
    clear h61
    obtain ⟨y67, hy67, hF68⟩ := bindE hF49
    clear hF49
    refine step_callFn h66 rfl rfl rfl rfl (h66.d 0 rfl) (im_ApiPost (x := x48)) hy67 fun v69 a72 w73 hR70 hk71 h74 => ?_
    clear h66
    have hv75 := isV.weak hR70 hk71
    obtain rfl := isV_int.1 hv75
    refine evalS_ok tabOk h74 2 [1, 5, 8, 9, 10] [] [(1, .v (g3)), (5, .v (.int .i64 (IntKind.wrap .i64 (i29 + y67)))), (8, .v (.slice A1 (List.length x0) c2)), (9, .v (.int .i64 (List.length x0 : Int))), (10, .v (.int .i64 i30))] [] (by kernel_rfl) fun β76 a77 w78 h79 => ?_
    clear h74
    have h80 : Sb β76 (cx 21 ok w) [(1, .v (g3)), (5, .v (.int .i64 (IntKind.wrap .i64 (i29 + y67)))), (8, .v (.slice A1 (List.length x0) c2)), (9, .v (.int .i64 (List.length x0 : Int))), (10, .v (.int .i64 i30))] [DF.v (rFn Try.prog rApiPost (rInt .i64)) x1 (g3), DF.v (rSl rApiPost) x0 (.slice A1 (List.length x0) c2)] [] [] a77 w78 := h79.sel [1, 5, 8, 9, 10] [0, 1] []
    clear h79
    refine wpl_end ?_
    refine hn46 _ _ ?_
    refine hn45 _ _ ?_
    refine evalR_ok tabOk h80 [1, 5, 8, 9, 10] [] [(1, .v (g3)), (5, .v (.int .i64 (IntKind.wrap .i64 (i29 + y67)))), (8, .v (.slice A1 (List.length x0) c2)), (9, .v (.int .i64 (List.length x0 : Int))), (10, .v (.int .i64 (IntKind.wrap .i64 (i30 + 1))))] [] (by kernel_rfl) fun β81 a82 w83 h84 => ?_
    clear h80
    have h85 : Sb β81 (cx 21 ok w) [(1, .v (g3)), (5, .v (.int .i64 (IntKind.wrap .i64 (i29 + y67)))), (8, .v (.slice A1 (List.length x0) c2)), (9, .v (.int .i64 (List.length x0 : Int))), (10, .v (.int .i64 (IntKind.wrap .i64 (i30 + 1))))] [DF.v (rFn Try.prog rApiPost (rInt .i64)) x1 (g3), DF.v (rSl rApiPost) x0 (.slice A1 (List.length x0) c2)] [] [] a82 w83 := (h84).sel [1, 5, 8, 9, 10] [0, 1] []
    exact hn17 _ _ _ (Nat.lt_succ_self _) ⟨(IntKind.wrap .i64 (i29 + y67)), (IntKind.wrap .i64 (i30 + 1)), ⟨_, h85⟩, hF68⟩
  · skip
    have hF86 := ifF hb43 hF37
    clear hF37
    refine wp_exit ?_
    refine hx42 0 _ _ ?_
    refine hx17 0 _ _ ?_
    refine hbb17 _ _ ?_
    obtain rfl := Option.some.inj hF86
    have h87 : Sb β38 (cx 21 ok w) [(5, .v (.int .i64 i29))] [] [] [] a39 w40 := (h41).sel [5] [] []
    exact j19 _ _ ⟨i29, ⟨_, h87⟩, hC17⟩

theorem c_ledger_value {ok : Ok} {w : World} (hok : ∀ b o, ok b o → b < w.heap.size) (N : Nat) {x0 : ApiPost} {r : Int} (hF : ledger_value N x0 = some r) :
    Calls Try.prog 27 ⟨[.agg ⟨[strV x0.Account, .int .i64 x0.Amount]⟩]⟩ w (Ret w (R1 (rInt .i64) ok w r)) := by
  rw [ledger_value] at hF
  refine enter_ok (n := 5) hok Try.func27 rfl rfl rfl (D := []) trivial (fun a h => ?_)
  simp only [zipG, Nat.zero_add, Nat.reduceAdd] at h
  refine start_ctx fun Q hn hr => ?_
  refine seq_region tabOk h [1] [1] [(1, .o 1 0)] [(1, ⟨[strV x0.Account, .int .i64 x0.Amount], 38⟩)] (by kernel_rfl) fun β1 a2 w3 h4 => ?_
  clear h
  refine seq_region tabOk h4 [2] [] [(2, .v (.int .i64 x0.Amount))] [] (by kernel_rfl) fun β5 a6 w7 h8 => ?_
  clear h4
  refine wp_ret ?_
  refine hr _ _ ?_
  obtain rfl := Option.some.inj hF
  exact ret1_ok h8 rfl rfl (isV_int.2 rfl)
theorem fv_ledger_value (N : Nat) {ok : Ok} {w : World} : fnRep Try.prog rApiPost (rInt .i64) ok w (ledger_value N) (.func (.func 27) ⟨[]⟩ ⟨[]⟩) := by
  refine ⟨27, _, rfl, runs27, fun ok2 w2 hk he hlt x v y hx hy => ?_⟩
  obtain rfl := ex_ApiPost hx
  exact c_ledger_value hlt N hy

theorem c_ledger_Check {ok : Ok} {w : World} (hok : ∀ b o, ok b o → b < w.heap.size) (N : Nat) {x0 : ApiEntry} {A1 : Option Addr} {c2 : Nat} (d0 : isV (rSl rApiPost) ok w x0.Posts (.slice A1 (List.length x0.Posts) c2)) {r : Int} (hF : ledger_Check N x0 = some r) :
    Calls Try.prog 9 ⟨[.agg ⟨[.int .i64 x0.At, strV x0.Text, .slice A1 (List.length x0.Posts) c2]⟩]⟩ w (Ret w (R1 (rInt .i64) ok w r)) := by
  rw [ledger_Check] at hF
  refine enter_ok (n := 90) hok Try.func9 rfl rfl rfl (D := [DF.v (rSl rApiPost) x0.Posts (.slice A1 (List.length x0.Posts) c2)]) ⟨d0, trivial⟩ (fun a h => ?_)
  simp only [zipG, Nat.zero_add, Nat.reduceAdd] at h
  refine start_ctx fun Q hn hr => ?_
  refine seq_region tabOk h [1] [1] [(1, .o 1 0)] [(1, ⟨[.int .i64 x0.At, strV x0.Text, .slice A1 (List.length x0.Posts) c2], 24⟩)] (by kernel_rfl) fun β3 a4 w5 h6 => ?_
  clear h
  refine seq_ctx fun Q7 hn7 hr7 hx7 => ?_
  refine block_ctx fun Q8 hn8 hr8 hb8 hx8 => ?_
  obtain ⟨g10, hg10⟩ : ∃ z, z = ((decide (x0.At < 0)) || (decide (x0.At ≥ 12622780800))) := ⟨_, rfl⟩
  skip
  refine seq_join (J := fun a w' => ∃ β, Sb β (cx 90 ok w) [(1, .o 1 0), (5, .v (.bool g10))] [DF.v (rSl rApiPost) x0.Posts (.slice A1 (List.length x0.Posts) c2)] [(1, ⟨[.int .i64 x0.At, strV x0.Text, .slice A1 (List.length x0.Posts) c2], 24⟩)] [] a w') ?_ ?_
  · skip
    rintro a11 w12 ⟨β13, h14⟩
    subst hg10
    refine wp_if h14 rfl (fun hb15 => ?_) (fun hb15 => ?_)
    · skip
      have hF16 := ifT hb15 hF
      clear hF
      refine seq_region tabOk h14 [2] [] [(2, .v (.int .i64 15))] [] (by kernel_rfl) fun β17 a18 w19 h20 => ?_
      clear h14
      refine wp_ret ?_
      refine hr8 _ _ ?_
      refine hr7 _ _ ?_
      refine hr _ _ ?_
      obtain rfl := Option.some.inj hF16
      exact ret1_ok h20 rfl rfl (isV_int.2 rfl)
    · skip
      have hF21 := ifF hb15 hF
      clear hF
      obtain ⟨g23, hg23⟩ : ∃ z, z = ((decide ((List.length x0.Text : Int) > 200)) || (decide ((List.length x0.Posts : Int) > 64))) := ⟨_, rfl⟩
      skip
      refine seq_join (J := fun a w' => ∃ β, Sb β (cx 90 ok w) [(1, .o 1 0), (14, .v (.bool g23))] [DF.v (rSl rApiPost) x0.Posts (.slice A1 (List.length x0.Posts) c2)] [(1, ⟨[.int .i64 x0.At, strV x0.Text, .slice A1 (List.length x0.Posts) c2], 24⟩)] [] a w') ?_ ?_
      · skip
        rintro a24 w25 ⟨β26, h27⟩
        subst hg23
        refine wp_if h27 rfl (fun hb28 => ?_) (fun hb28 => ?_)
        · skip
          have hF29 := ifT hb28 hF21
          clear hF21
          refine seq_region tabOk h27 [2] [] [(2, .v (.int .i64 5))] [] (by kernel_rfl) fun β30 a31 w32 h33 => ?_
          clear h27
          refine wp_ret ?_
          refine hr8 _ _ ?_
          refine hr7 _ _ ?_
          refine hr _ _ ?_
          obtain rfl := Option.some.inj hF29
          exact ret1_ok h33 rfl rfl (isV_int.2 rfl)
        · skip
          have hF34 := ifF hb28 hF21
          clear hF21
          obtain ⟨g36, hv37, hF38⟩ := bindE hF34
          clear hF34
          refine seq_join (J := fun a w' => ∃ β, Sb β (cx 90 ok w) [(1, .o 1 0), (25, .v (.bool g36))] [DF.v (rSl rApiPost) x0.Posts (.slice A1 (List.length x0.Posts) c2)] [(1, ⟨[.int .i64 x0.At, strV x0.Text, .slice A1 (List.length x0.Posts) c2], 24⟩)] [] a w') ?_ ?_
          · skip
            rintro a39 w40 ⟨β41, h42⟩
            refine wp_if h42 rfl (fun hb43 => ?_) (fun hb43 => ?_)
            · skip
              have hF44 := ifT hb43 hF38
              clear hF38
              refine seq_region tabOk h42 [2] [] [(2, .v (.int .i64 8))] [] (by kernel_rfl) fun β45 a46 w47 h48 => ?_
              clear h42
              refine wp_ret ?_
              refine hr8 _ _ ?_
              refine hr7 _ _ ?_
              refine hr _ _ ?_
              obtain rfl := Option.some.inj hF44
              exact ret1_ok h48 rfl rfl (isV_int.2 rfl)
            · skip
              have hF49 := ifF hb43 hF38
              clear hF38
              refine wp_skip ?_
              refine hn8 _ _ ?_
              refine hn7 _ _ ?_
              refine seq_ctx fun Q50 hn50 hr50 hx50 => ?_
              refine seq_region tabOk h42 [1, 37, 38, 39] [1] [(1, .o 1 0), (37, .v (.slice A1 (List.length x0.Posts) c2)), (38, .v (.int .i64 (List.length x0.Posts : Int))), (39, .v (.int .i64 0))] [(1, ⟨[.int .i64 x0.At, strV x0.Text, .slice A1 (List.length x0.Posts) c2], 24⟩)] (by kernel_rfl) fun β51 a52 w53 h54 => ?_
              clear h42
              obtain ⟨out55, hL55, hC55⟩ := bindE hF49
              clear hF49
              have j56 : ∀ a w', ((∃ β, Sb β (cx 90 ok w) [(1, .o 1 0)] [DF.v (rSl rApiPost) x0.Posts (.slice A1 (List.length x0.Posts) c2)] [(1, ⟨[.int .i64 x0.At, strV x0.Text, .slice A1 (List.length x0.Posts) c2], 24⟩)] [] a w') ∧ ledger_Check_j56 N x0 = some r) → Q50 .normal a w' := by
                rintro a57 w58 ⟨⟨β59, h60⟩, hF61⟩
                rw [ledger_Check_j56] at hF61
                refine hn50 _ _ ?_
                refine seq_ctx fun Q62 hn62 hr62 hx62 => ?_
                refine seq_list fun Q63 hq63 => ?_
                refine evalS_ok tabOk h60 2 [87] [] [(87, .v (.slice A1 (List.length x0.Posts) c2))] [] (by kernel_rfl) fun β64 a65 w66 h67 => ?_
                clear h60
                obtain ⟨y68, hy68, hF69⟩ := bindE hF61
                clear hF61
                refine step_call h67 rfl rfl runs26 (vs := [(.slice A1 (List.length x0.Posts) c2), (.func (.func 27) ⟨[]⟩ ⟨[]⟩)]) (by kernel_rfl) (c_api_Post_ (x0 := x0.Posts) (x1 := (ledger_value N)) h67.okLt N (h67.d 0 rfl) (isV_fn.2 (fv_ledger_value N)) hy68) fun v70 a73 w74 hR71 hk72 h75 => ?_
                clear h67
                have hv76 := isV.weak hR71 hk72
                obtain rfl := isV_int.1 hv76
                refine evalS_ok tabOk h75 1 [89] [] [(89, .v (.bool (y68 != 0)))] [] (by kernel_rfl) fun β77 a78 w79 h80 => ?_
                clear h75
                have h81 : Sb β77 (cx 90 ok w) [(89, .v (.bool (y68 != 0)))] [] [] [] a78 w79 := h80.sel [89] [] []
                clear h80
                refine wpl_end (hq63 _ _ ?_)
                refine wp_if h81 rfl (fun hb82 => ?_) (fun hb82 => ?_)
                · skip
                  have hF83 := ifT hb82 hF69
                  clear hF69
                  refine seq_region tabOk h81 [2] [] [(2, .v (.int .i64 21))] [] (by kernel_rfl) fun β84 a85 w86 h87 => ?_
                  clear h81
                  refine wp_ret ?_
                  refine hr62 _ _ ?_
                  refine hr _ _ ?_
                  obtain rfl := Option.some.inj hF83
                  exact ret1_ok h87 rfl rfl (isV_int.2 rfl)
                · skip
                  have hF88 := ifF hb82 hF69
                  clear hF69
                  refine wp_skip ?_
                  refine hn62 _ _ ?_
                  refine seq_region tabOk h81 [2] [] [(2, .v (.int .i64 0))] [] (by kernel_rfl) fun β89 a90 w91 h92 => ?_
                  clear h81
                  refine wp_ret ?_
                  refine hr _ _ ?_
                  obtain rfl := Option.some.inj hF88
                  exact ret1_ok h92 rfl rfl (isV_int.2 rfl)
              refine block_ctx fun Qb55 hnb55 hrb55 hbb55 hxb55 => ?_
              have h94 : Sb β51 (cx 90 ok w) [(1, .o 1 0), (37, .v (.slice A1 (List.length x0.Posts) c2)), (38, .v (.int .i64 (List.length x0.Posts : Int))), (39, .v (.int .i64 0))] [DF.v (rSl rApiPost) x0.Posts (.slice A1 (List.length x0.Posts) c2)] [(1, ⟨[.int .i64 x0.At, strV x0.Text, .slice A1 (List.length x0.Posts) c2], 24⟩)] [] a52 w53 := (h54).sel [1, 37, 38, 39] [0] [1]
              refine loop_ctx (fun m a w' => ∃ (i93 : Int), (∃ β, Sb β (cx 90 ok w) [(1, .o 1 0), (37, .v (.slice A1 (List.length x0.Posts) c2)), (38, .v (.int .i64 (List.length x0.Posts : Int))), (39, .v (.int .i64 i93))] [DF.v (rSl rApiPost) x0.Posts (.slice A1 (List.length x0.Posts) c2)] [(1, ⟨[.int .i64 x0.At, strV x0.Text, .slice A1 (List.length x0.Posts) c2], 24⟩)] [] a w') ∧ ledger_Check_l55 N x0 m i93 = some out55) N ⟨0, ⟨_, h94⟩, hL55⟩ ?_
              rintro Q55 m95 a96 w97 ⟨i93, ⟨β98, h99⟩, hF100⟩ hn55 hr55 hx55
              obtain _ | m95 := m95
              · exact absurd hF100 (by simp [ledger_Check_l55])
              rw [ledger_Check_l55] at hF100
              refine seq_region tabOk h99 [1, 37, 38, 39, 40] [1] [(1, .o 1 0), (37, .v (.slice A1 (List.length x0.Posts) c2)), (38, .v (.int .i64 (List.length x0.Posts : Int))), (39, .v (.int .i64 i93)), (40, .v (.bool (decide (i93 < (List.length x0.Posts : Int)))))] [(1, ⟨[.int .i64 x0.At, strV x0.Text, .slice A1 (List.length x0.Posts) c2], 24⟩)] (by kernel_rfl) fun β101 a102 w103 h104 => ?_
              clear h99
              refine seq_ctx fun Q105 hn105 hr105 hx105 => ?_
              refine wp_if h104 rfl (fun hb106 => ?_) (fun hb106 => ?_)
              · skip
                have hF107 := ifT hb106 hF100
                clear hF100
                refine wp_skip ?_
                refine hn105 _ _ ?_
                refine seq_ctx fun Q108 hn108 hr108 hx108 => ?_
                refine block_ctx fun Q109 hn109 hr109 hb109 hx109 => ?_
                refine seq_list fun Q110 hq110 => ?_
                refine evalS_ok tabOk h104 1 [1, 37, 38, 39, 41] [1] [(1, .o 1 0), (37, .v (.slice A1 (List.length x0.Posts) c2)), (38, .v (.int .i64 (List.length x0.Posts : Int))), (39, .v (.int .i64 i93)), (41, .v (.int .i64 i93))] [(1, ⟨[.int .i64 x0.At, strV x0.Text, .slice A1 (List.length x0.Posts) c2], 24⟩)] (by kernel_rfl) fun β111 a112 w113 h114 => ?_
                clear h104
                obtain ⟨x115, hx115, hF116⟩ := bindE hF107
                clear hF107
                refine step_idx tabOk h114 0 rfl rfl rfl rfl rfl hx115 tb22 rfl tb38 rfl fun p117 a118 h119 => ?_
                clear h114
                refine step_load tabOk h119 0 rfl rfl rfl rfl tb38 rfl rfl fun v120 a122 hv121 h123 => ?_
                clear h119
                obtain rfl := ex_ApiPost hv121
                refine evalS_ok tabOk h123 3 [1, 3, 4, 37, 38, 39] [1, 4] [(1, .o 1 0), (3, .v (.int .i64 i93)), (4, .o 4 0), (37, .v (.slice A1 (List.length x0.Posts) c2)), (38, .v (.int .i64 (List.length x0.Posts : Int))), (39, .v (.int .i64 i93))] [(1, ⟨[.int .i64 x0.At, strV x0.Text, .slice A1 (List.length x0.Posts) c2], 24⟩), (4, ⟨[strV x115.Account, .int .i64 x115.Amount], 38⟩)] (by kernel_rfl) fun β124 a125 w126 h127 => ?_
                clear h123
                have h128 : Sb β124 (cx 90 ok w) [(1, .o 1 0), (3, .v (.int .i64 i93)), (4, .o 4 0), (37, .v (.slice A1 (List.length x0.Posts) c2)), (38, .v (.int .i64 (List.length x0.Posts : Int))), (39, .v (.int .i64 i93))] [DF.v (rSl rApiPost) x0.Posts (.slice A1 (List.length x0.Posts) c2)] [(1, ⟨[.int .i64 x0.At, strV x0.Text, .slice A1 (List.length x0.Posts) c2], 24⟩), (4, ⟨[strV x115.Account, .int .i64 x115.Amount], 38⟩)] [] a125 w126 := h127.sel [1, 3, 4, 37, 38, 39] [2] [1, 4]
                clear h127
                refine wpl_end (hq110 _ _ ?_)
                refine block_ctx fun Q129 hn129 hr129 hb129 hx129 => ?_
                obtain ⟨g131, hv132, hF133⟩ := bindE hF116
                clear hF116
                refine seq_join (J := fun a w' => ∃ β, Sb β (cx 90 ok w) [(1, .o 1 0), (3, .v (.int .i64 i93)), (4, .o 4 0), (37, .v (.slice A1 (List.length x0.Posts) c2)), (38, .v (.int .i64 (List.length x0.Posts : Int))), (39, .v (.int .i64 i93)), (44, .v (.bool g131))] [DF.v (rSl rApiPost) x0.Posts (.slice A1 (List.length x0.Posts) c2)] [(1, ⟨[.int .i64 x0.At, strV x0.Text, .slice A1 (List.length x0.Posts) c2], 24⟩), (4, ⟨[strV x115.Account, .int .i64 x115.Amount], 38⟩)] [] a w') ?_ ?_
                · skip
                  rintro a134 w135 ⟨β136, h137⟩
                  refine wp_if h137 rfl (fun hb138 => ?_) (fun hb138 => ?_)
                  · skip
                    have hF139 := ifT hb138 hF133
                    clear hF133
                    refine seq_region tabOk h137 [2] [] [(2, .v (.int .i64 8))] [] (by kernel_rfl) fun β140 a141 w142 h143 => ?_
                    clear h137
                    refine wp_ret ?_
                    refine hr129 _ _ ?_
                    refine hr109 _ _ ?_
                    refine hr108 _ _ ?_
                    refine hr55 _ _ ?_
                    refine hrb55 _ _ ?_
                    refine hr50 _ _ ?_
                    refine hr _ _ ?_
                    obtain rfl := Option.some.inj hF139
                    obtain rfl := Option.some.inj hC55
                    exact ret1_ok h143 rfl rfl (isV_int.2 rfl)
                  · skip
                    have hF144 := ifF hb138 hF133
                    clear hF133
                    obtain ⟨g146, hv147, hF148⟩ := bindE hF144
                    clear hF144
                    refine seq_join (J := fun a w' => ∃ β, Sb β (cx 90 ok w) [(1, .o 1 0), (4, .o 4 0), (37, .v (.slice A1 (List.length x0.Posts) c2)), (38, .v (.int .i64 (List.length x0.Posts : Int))), (39, .v (.int .i64 i93)), (60, .v (.bool g146))] [DF.v (rSl rApiPost) x0.Posts (.slice A1 (List.length x0.Posts) c2)] [(1, ⟨[.int .i64 x0.At, strV x0.Text, .slice A1 (List.length x0.Posts) c2], 24⟩), (4, ⟨[strV x115.Account, .int .i64 x115.Amount], 38⟩)] [] a w') ?_ ?_
                    · skip
                      rintro a149 w150 ⟨β151, h152⟩
                      refine wp_if h152 rfl (fun hb153 => ?_) (fun hb153 => ?_)
                      · skip
                        have hF154 := ifT hb153 hF148
                        clear hF148
                        refine seq_region tabOk h152 [2] [] [(2, .v (.int .i64 9))] [] (by kernel_rfl) fun β155 a156 w157 h158 => ?_
                        clear h152
                        refine wp_ret ?_
                        refine hr129 _ _ ?_
                        refine hr109 _ _ ?_
                        refine hr108 _ _ ?_
                        refine hr55 _ _ ?_
                        refine hrb55 _ _ ?_
                        refine hr50 _ _ ?_
                        refine hr _ _ ?_
                        obtain rfl := Option.some.inj hF154
                        obtain rfl := Option.some.inj hC55
                        exact ret1_ok h158 rfl rfl (isV_int.2 rfl)
                      · skip
                        have hF159 := ifF hb153 hF148
                        clear hF148
                        obtain ⟨g161, hv162, hF163⟩ := bindE hF159
                        clear hF159
                        refine seq_join (J := fun a w' => ∃ β, Sb β (cx 90 ok w) [(1, .o 1 0), (37, .v (.slice A1 (List.length x0.Posts) c2)), (38, .v (.int .i64 (List.length x0.Posts : Int))), (39, .v (.int .i64 i93)), (75, .v (.bool g161))] [DF.v (rSl rApiPost) x0.Posts (.slice A1 (List.length x0.Posts) c2)] [(1, ⟨[.int .i64 x0.At, strV x0.Text, .slice A1 (List.length x0.Posts) c2], 24⟩)] [] a w') ?_ ?_
                        · skip
                          rintro a164 w165 ⟨β166, h167⟩
                          refine wp_if h167 rfl (fun hb168 => ?_) (fun hb168 => ?_)
                          · skip
                            have hF169 := ifT hb168 hF163
                            clear hF163
                            refine seq_region tabOk h167 [2] [] [(2, .v (.int .i64 6))] [] (by kernel_rfl) fun β170 a171 w172 h173 => ?_
                            clear h167
                            refine wp_ret ?_
                            refine hr129 _ _ ?_
                            refine hr109 _ _ ?_
                            refine hr108 _ _ ?_
                            refine hr55 _ _ ?_
                            refine hrb55 _ _ ?_
                            refine hr50 _ _ ?_
                            refine hr _ _ ?_
                            obtain rfl := Option.some.inj hF169
                            obtain rfl := Option.some.inj hC55
                            exact ret1_ok h173 rfl rfl (isV_int.2 rfl)
                          · skip
                            have hF174 := ifF hb168 hF163
                            clear hF163
                            refine wp_skip ?_
                            refine hn129 _ _ ?_
                            refine hn109 _ _ ?_
                            refine hn108 _ _ ?_
                            refine evalR_ok tabOk h167 [1, 37, 38, 39] [1] [(1, .o 1 0), (37, .v (.slice A1 (List.length x0.Posts) c2)), (38, .v (.int .i64 (List.length x0.Posts : Int))), (39, .v (.int .i64 (IntKind.wrap .i64 (i93 + 1))))] [(1, ⟨[.int .i64 x0.At, strV x0.Text, .slice A1 (List.length x0.Posts) c2], 24⟩)] (by kernel_rfl) fun β175 a176 w177 h178 => ?_
                            clear h167
                            have h179 : Sb β175 (cx 90 ok w) [(1, .o 1 0), (37, .v (.slice A1 (List.length x0.Posts) c2)), (38, .v (.int .i64 (List.length x0.Posts : Int))), (39, .v (.int .i64 (IntKind.wrap .i64 (i93 + 1))))] [DF.v (rSl rApiPost) x0.Posts (.slice A1 (List.length x0.Posts) c2)] [(1, ⟨[.int .i64 x0.At, strV x0.Text, .slice A1 (List.length x0.Posts) c2], 24⟩)] [] a176 w177 := (h178).sel [1, 37, 38, 39] [0] [1]
                            exact hn55 _ _ _ (Nat.lt_succ_self _) ⟨(IntKind.wrap .i64 (i93 + 1)), ⟨_, h179⟩, hF174⟩
                        · skip
                          refine region_ok ?_
                          refine evalS_ok tabOk h152 4 [1, 4, 37, 38, 39, 79] [1, 4] [(1, .o 1 0), (4, .o 4 0), (37, .v (.slice A1 (List.length x0.Posts) c2)), (38, .v (.int .i64 (List.length x0.Posts : Int))), (39, .v (.int .i64 i93)), (79, .v (.bool (x115.Amount == 0)))] [(1, ⟨[.int .i64 x0.At, strV x0.Text, .slice A1 (List.length x0.Posts) c2], 24⟩), (4, ⟨[strV x115.Account, .int .i64 x115.Amount], 38⟩)] (by kernel_rfl) fun β180 a181 w182 h183 => ?_
                          clear h152
                          refine bcases (b := (x115.Amount == 0)) (fun hb184 => ?_) (fun hb184 => ?_)
                          · skip
                            have hv185 := ifT hb184 hv162
                            clear hv162
                            have h186 := h183.reb (t := 79) rfl hb184
                            clear h183
                            refine evalS_ok tabOk h186 6 [1, 37, 38, 39, 75] [1] [(1, .o 1 0), (37, .v (.slice A1 (List.length x0.Posts) c2)), (38, .v (.int .i64 (List.length x0.Posts : Int))), (39, .v (.int .i64 i93)), (75, .v (.bool true))] [(1, ⟨[.int .i64 x0.At, strV x0.Text, .slice A1 (List.length x0.Posts) c2], 24⟩)] (by kernel_rfl) fun β187 a188 w189 h190 => ?_
                            clear h186
                            obtain rfl := Option.some.inj hv185
                            have h191 : Sb β187 (cx 90 ok w) [(1, .o 1 0), (37, .v (.slice A1 (List.length x0.Posts) c2)), (38, .v (.int .i64 (List.length x0.Posts : Int))), (39, .v (.int .i64 i93)), (75, .v (.bool true))] [DF.v (rSl rApiPost) x0.Posts (.slice A1 (List.length x0.Posts) c2)] [(1, ⟨[.int .i64 x0.At, strV x0.Text, .slice A1 (List.length x0.Posts) c2], 24⟩)] [] a188 w189 := h190.sel [1, 37, 38, 39, 75] [0] [1]
                            clear h190
                            exact wpl_end (then_n ⟨_, h191⟩)
                          · skip
                            have hv192 := ifF hb184 hv162
                            clear hv162
                            have h193 := h183.reb (t := 79) rfl hb184
                            clear h183
                            refine evalS_ok tabOk h193 2 [1, 37, 38, 39, 79, 81] [1] [(1, .o 1 0), (37, .v (.slice A1 (List.length x0.Posts) c2)), (38, .v (.int .i64 (List.length x0.Posts : Int))), (39, .v (.int .i64 i93)), (79, .v (.bool false)), (81, .v (.int .i64 x115.Amount))] [(1, ⟨[.int .i64 x0.At, strV x0.Text, .slice A1 (List.length x0.Posts) c2], 24⟩)] (by kernel_rfl) fun β194 a195 w196 h197 => ?_
                            clear h193
                            obtain ⟨y198, hy198, hv199⟩ := bindE hv192
                            clear hv192
                            refine step_call h197 rfl rfl runs25 (vs := [(.int .i64 x115.Amount)]) (by kernel_rfl) (c_amount_Valid (x0 := x115.Amount) h197.okLt N hy198) fun v200 a203 w204 hR201 hk202 h205 => ?_
                            clear h197
                            have hv206 := isV.weak hR201 hk202
                            obtain rfl := isV_bool.1 hv206
                            refine evalS_ok tabOk h205 3 [1, 37, 38, 39, 75] [1] [(1, .o 1 0), (37, .v (.slice A1 (List.length x0.Posts) c2)), (38, .v (.int .i64 (List.length x0.Posts : Int))), (39, .v (.int .i64 i93)), (75, .v (.bool (!y198)))] [(1, ⟨[.int .i64 x0.At, strV x0.Text, .slice A1 (List.length x0.Posts) c2], 24⟩)] (by kernel_rfl) fun β207 a208 w209 h210 => ?_
                            clear h205
                            obtain rfl := Option.some.inj hv199
                            have h211 : Sb β207 (cx 90 ok w) [(1, .o 1 0), (37, .v (.slice A1 (List.length x0.Posts) c2)), (38, .v (.int .i64 (List.length x0.Posts : Int))), (39, .v (.int .i64 i93)), (75, .v (.bool (!y198)))] [DF.v (rSl rApiPost) x0.Posts (.slice A1 (List.length x0.Posts) c2)] [(1, ⟨[.int .i64 x0.At, strV x0.Text, .slice A1 (List.length x0.Posts) c2], 24⟩)] [] a208 w209 := h210.sel [1, 37, 38, 39, 75] [0] [1]
                            clear h210
                            exact wpl_end (then_n ⟨_, h211⟩)
                    · skip
                      refine bcases (b := (decide (i93 > 0))) (fun hb212 => ?_) (fun hb212 => ?_)
                      · skip
                        have hv213 := ifT hb212 hv147
                        clear hv147
                        obtain ⟨x214, hx214, hv215⟩ := bindE hv213
                        clear hv213
                        have h217 : Sb β136 (cx 90 ok w) [(1, .o 1 0), (3, .v (.int .i64 i93)), (4, .o 4 0), (37, .v (.slice A1 (List.length x0.Posts) c2)), (38, .v (.int .i64 (List.length x0.Posts : Int))), (39, .v (.int .i64 i93))] [DF.v (rSl rApiPost) x0.Posts (.slice A1 (List.length x0.Posts) c2)] [(1, ⟨[.int .i64 x0.At, strV x0.Text, .slice A1 (List.length x0.Posts) c2], 24⟩), (4, ⟨[strV x115.Account, .int .i64 x115.Amount], 38⟩)] [] a134 w135 := h137.sel [1, 3, 4, 37, 38, 39] [0] [1, 4]
                        refine draw_rule h217 rfl (by kernel_rfl) 14 [61, 62, 63, 64, 65, 66, 67, 68, 69, 70, 71, 72, 73, 74] [FV.eq (.int .i64 i93), FV.eq (.bool (decide (i93 > 0))), FV.eq (.bool (decide (i93 > 0))), FV.eq (.pointer (some ⟨β136 1, 2, none⟩)), FV.eq (.slice A1 (List.length x0.Posts) c2), FV.eq (.int .i64 i93), FV.eq (.int .i64 (IntKind.wrap .i64 (i93 - 1))), FV.at rApiPost x214, FV.at rStr x214.Account, FV.eq (strV x214.Account), FV.eq (.pointer (some ⟨β136 4, 0, none⟩)), FV.eq (strV x115.Account), FV.eq (.bool (!(Op.bytesLess x214.Account x115.Account))), FV.eq (.bool (!(Op.bytesLess x214.Account x115.Account)))] rfl rfl rfl (by kernel_rfl) (by kernel_rfl) (by kernel_rfl) (by kernel_rfl) (by kernel_rfl) ?_ ?_
                        · skip
                          refine ⟨⟨⟨⟨⟨⟨⟨⟨⟨⟨⟨⟨⟨⟨trivial, ?_⟩, ?_⟩, ?_⟩, ?_⟩, ?_⟩, ?_⟩, ?_⟩, ?_⟩, ?_⟩, ?_⟩, ?_⟩, ?_⟩, ?_⟩, ?_⟩
                          · skip
                            intro β218 a219 w220 dX221 Ox222 Q223 h224 hq225 hp226 hk227
                            refine evalS_ok tabOk h224 1 [1, 3, 4, 37, 38, 39, 61] [1, 4] [(1, .o 1 0), (3, .v (.int .i64 i93)), (4, .o 4 0), (37, .v (.slice A1 (List.length x0.Posts) c2)), (38, .v (.int .i64 (List.length x0.Posts : Int))), (39, .v (.int .i64 i93)), (61, .v (.int .i64 i93))] [(1, ⟨[.int .i64 x0.At, strV x0.Text, .slice A1 (List.length x0.Posts) c2], 24⟩), (4, ⟨[strV x115.Account, .int .i64 x115.Amount], 38⟩)] (by kernel_rfl) fun β228 a229 w230 h231 => ?_
                            exact wpl_end (hk227 _ _ _ _ (h231.sel [1, 3, 4, 37, 38, 39] [0, 1] [1, 4]) (h231.getD rfl) rfl)
                          · skip
                            intro β232 a233 w234 dX235 Ox236 Q237 h238 hq239 hp240 hk241
                            have h242 := h238.learnE (d := 61) rfl (hp240 0 61 _ rfl rfl rfl)
                            clear h238
                            refine evalS_ok tabOk h242 1 [1, 3, 4, 37, 38, 39, 62] [1, 4] [(1, .o 1 0), (3, .v (.int .i64 i93)), (4, .o 4 0), (37, .v (.slice A1 (List.length x0.Posts) c2)), (38, .v (.int .i64 (List.length x0.Posts : Int))), (39, .v (.int .i64 i93)), (62, .v (.bool (decide (i93 > 0))))] [(1, ⟨[.int .i64 x0.At, strV x0.Text, .slice A1 (List.length x0.Posts) c2], 24⟩), (4, ⟨[strV x115.Account, .int .i64 x115.Amount], 38⟩)] (by kernel_rfl) fun β243 a244 w245 h246 => ?_
                            exact wpl_end (hk241 _ _ _ _ (h246.sel [1, 3, 4, 37, 38, 39] [0, 1] [1, 4]) (h246.getD rfl) rfl)
                          · skip
                            intro β247 a248 w249 dX250 Ox251 Q252 h253 hq254 hp255 hk256
                            have h257 := h253.learnE (d := 62) rfl (hp255 1 62 _ rfl rfl rfl)
                            clear h253
                            refine evalS_ok tabOk h257 1 [1, 3, 4, 37, 38, 39, 63] [1, 4] [(1, .o 1 0), (3, .v (.int .i64 i93)), (4, .o 4 0), (37, .v (.slice A1 (List.length x0.Posts) c2)), (38, .v (.int .i64 (List.length x0.Posts : Int))), (39, .v (.int .i64 i93)), (63, .v (.bool (decide (i93 > 0))))] [(1, ⟨[.int .i64 x0.At, strV x0.Text, .slice A1 (List.length x0.Posts) c2], 24⟩), (4, ⟨[strV x115.Account, .int .i64 x115.Amount], 38⟩)] (by kernel_rfl) fun β258 a259 w260 h261 => ?_
                            exact wpl_end (hk256 _ _ _ _ (h261.sel [1, 3, 4, 37, 38, 39] [0, 1] [1, 4]) (h261.getD rfl) rfl)
                          · skip
                            intro β262 a263 w264 dX265 Ox266 Q267 h268 hq269 hp270 hk271
                            have h272 := h268.learnE (d := 63) rfl (hp270 2 63 _ rfl rfl rfl)
                            clear h268
                            have h273 := h272.reb (t := 63) rfl hb212
                            clear h272
                            refine evalS_ok tabOk h273 1 [1, 3, 4, 37, 38, 39, 64] [1, 4] [(1, .o 1 0), (3, .v (.int .i64 i93)), (4, .o 4 0), (37, .v (.slice A1 (List.length x0.Posts) c2)), (38, .v (.int .i64 (List.length x0.Posts : Int))), (39, .v (.int .i64 i93)), (64, .o 1 2)] [(1, ⟨[.int .i64 x0.At, strV x0.Text, .slice A1 (List.length x0.Posts) c2], 24⟩), (4, ⟨[strV x115.Account, .int .i64 x115.Amount], 38⟩)] (by kernel_rfl) fun β274 a275 w276 h277 => ?_
                            exact wpl_end (hk271 _ _ _ _ (h277.sel [1, 3, 4, 37, 38, 39] [0, 1] [1, 4]) (h277.getO rfl rfl rfl) rfl)
                          · skip
                            intro β278 a279 w280 dX281 Ox282 Q283 h284 hq285 hp286 hk287
                            have h288 := h284.learnE (d := 63) rfl (hp286 2 63 _ rfl rfl rfl)
                            clear h284
                            have h289 := h288.reb (t := 63) rfl hb212
                            clear h288
                            have h290 := h289.learnO (d := 64) (id := 1) (off := 2) rfl rfl rfl (hp286 3 64 _ rfl rfl rfl)
                            clear h289
                            refine evalS_ok tabOk h290 1 [1, 3, 4, 37, 38, 39, 65] [1, 4] [(1, .o 1 0), (3, .v (.int .i64 i93)), (4, .o 4 0), (37, .v (.slice A1 (List.length x0.Posts) c2)), (38, .v (.int .i64 (List.length x0.Posts : Int))), (39, .v (.int .i64 i93)), (65, .v (.slice A1 (List.length x0.Posts) c2))] [(1, ⟨[.int .i64 x0.At, strV x0.Text, .slice A1 (List.length x0.Posts) c2], 24⟩), (4, ⟨[strV x115.Account, .int .i64 x115.Amount], 38⟩)] (by kernel_rfl) fun β291 a292 w293 h294 => ?_
                            exact wpl_end (hk287 _ _ _ _ (h294.sel [1, 3, 4, 37, 38, 39] [0, 1] [1, 4]) (h294.getD rfl) rfl)
                          · skip
                            intro β295 a296 w297 dX298 Ox299 Q300 h301 hq302 hp303 hk304
                            have h305 := h301.learnE (d := 63) rfl (hp303 2 63 _ rfl rfl rfl)
                            clear h301
                            have h306 := h305.reb (t := 63) rfl hb212
                            clear h305
                            refine evalS_ok tabOk h306 1 [1, 3, 4, 37, 38, 39, 66] [1, 4] [(1, .o 1 0), (3, .v (.int .i64 i93)), (4, .o 4 0), (37, .v (.slice A1 (List.length x0.Posts) c2)), (38, .v (.int .i64 (List.length x0.Posts : Int))), (39, .v (.int .i64 i93)), (66, .v (.int .i64 i93))] [(1, ⟨[.int .i64 x0.At, strV x0.Text, .slice A1 (List.length x0.Posts) c2], 24⟩), (4, ⟨[strV x115.Account, .int .i64 x115.Amount], 38⟩)] (by kernel_rfl) fun β307 a308 w309 h310 => ?_
                            exact wpl_end (hk304 _ _ _ _ (h310.sel [1, 3, 4, 37, 38, 39] [0, 1] [1, 4]) (h310.getD rfl) rfl)
                          · skip
                            intro β311 a312 w313 dX314 Ox315 Q316 h317 hq318 hp319 hk320
                            have h321 := h317.learnE (d := 63) rfl (hp319 2 63 _ rfl rfl rfl)
                            clear h317
                            have h322 := h321.reb (t := 63) rfl hb212
                            clear h321
                            have h323 := h322.learnE (d := 66) rfl (hp319 5 66 _ rfl rfl rfl)
                            clear h322
                            refine evalS_ok tabOk h323 1 [1, 3, 4, 37, 38, 39, 67] [1, 4] [(1, .o 1 0), (3, .v (.int .i64 i93)), (4, .o 4 0), (37, .v (.slice A1 (List.length x0.Posts) c2)), (38, .v (.int .i64 (List.length x0.Posts : Int))), (39, .v (.int .i64 i93)), (67, .v (.int .i64 (IntKind.wrap .i64 (i93 - 1))))] [(1, ⟨[.int .i64 x0.At, strV x0.Text, .slice A1 (List.length x0.Posts) c2], 24⟩), (4, ⟨[strV x115.Account, .int .i64 x115.Amount], 38⟩)] (by kernel_rfl) fun β324 a325 w326 h327 => ?_
                            exact wpl_end (hk320 _ _ _ _ (h327.sel [1, 3, 4, 37, 38, 39] [0, 1] [1, 4]) (h327.getD rfl) rfl)
                          · skip
                            intro β328 a329 w330 dX331 Ox332 Q333 h334 hq335 hp336 hk337
                            have h338 := h334.learnE (d := 63) rfl (hp336 2 63 _ rfl rfl rfl)
                            clear h334
                            have h339 := h338.reb (t := 63) rfl hb212
                            clear h338
                            have h340 := h339.learnE (d := 65) rfl (hp336 4 65 _ rfl rfl rfl)
                            clear h339
                            have h341 := h340.learnE (d := 67) rfl (hp336 6 67 _ rfl rfl rfl)
                            clear h340
                            refine step_idx tabOk h341 1 rfl rfl rfl rfl rfl hx214 tb22 rfl tb38 rfl fun p342 a343 h344 => ?_
                            clear h341
                            exact wpl_end (hk337 _ _ _ _ (h344.sel [1, 3, 4, 37, 38, 39] [1, 2] [1, 4]) (h344.getA rfl (h344.d 0 rfl)) rfl)
                          · skip
                            intro β345 a346 w347 dX348 Ox349 Q350 h351 hq352 hp353 hk354
                            have h355 := h351.learnE (d := 63) rfl (hp353 2 63 _ rfl rfl rfl)
                            clear h351
                            have h356 := h355.reb (t := 63) rfl hb212
                            clear h355
                            have h357 := h356.learn (d := 68) rfl
                            clear h356
                            have f358 := hp353 7 68 _ rfl rfl rfl
                            generalize a346.tmps.getD 68 undef = v359 at h357 f358
                            have h360 := h357.addD (d := DF.at rApiPost x214 (v359)) f358
                            clear h357
                            refine step_field tabOk h360 0 rfl rfl rfl rfl tb38 rfl rfl rfl fun p361 a362 (h363 : Sb β345 _ _ (DF.at rStr x214.Account (p361) :: _) _ _ a362 w347) => ?_
                            clear h360
                            exact wpl_end (hk354 _ _ _ _ (h363.sel [1, 3, 4, 37, 38, 39] [2, 3] [1, 4]) (h363.getA rfl (h363.d 0 rfl)) rfl)
                          · skip
                            intro β364 a365 w366 dX367 Ox368 Q369 h370 hq371 hp372 hk373
                            have h374 := h370.learnE (d := 63) rfl (hp372 2 63 _ rfl rfl rfl)
                            clear h370
                            have h375 := h374.reb (t := 63) rfl hb212
                            clear h374
                            have h376 := h375.learn (d := 69) rfl
                            clear h375
                            have f377 := hp372 8 69 _ rfl rfl rfl
                            generalize a365.tmps.getD 69 undef = v378 at h376 f377
                            have h379 := h376.addD (d := DF.at rStr x214.Account (v378)) f377
                            clear h376
                            refine step_load tabOk h379 0 rfl rfl rfl rfl tb9 rfl rfl fun v380 a382 hv381 h383 => ?_
                            clear h379
                            obtain rfl := isV_str.1 hv381
                            exact wpl_end (hk373 _ _ _ _ (h383.sel [1, 3, 4, 37, 38, 39] [2, 3] [1, 4]) (h383.getD rfl) rfl)
                          · skip
                            intro β384 a385 w386 dX387 Ox388 Q389 h390 hq391 hp392 hk393
                            have h394 := h390.learnE (d := 63) rfl (hp392 2 63 _ rfl rfl rfl)
                            clear h390
                            have h395 := h394.reb (t := 63) rfl hb212
                            clear h394
                            refine evalS_ok tabOk h395 1 [1, 3, 4, 37, 38, 39, 71] [1, 4] [(1, .o 1 0), (3, .v (.int .i64 i93)), (4, .o 4 0), (37, .v (.slice A1 (List.length x0.Posts) c2)), (38, .v (.int .i64 (List.length x0.Posts : Int))), (39, .v (.int .i64 i93)), (71, .o 4 0)] [(1, ⟨[.int .i64 x0.At, strV x0.Text, .slice A1 (List.length x0.Posts) c2], 24⟩), (4, ⟨[strV x115.Account, .int .i64 x115.Amount], 38⟩)] (by kernel_rfl) fun β396 a397 w398 h399 => ?_
                            exact wpl_end (hk393 _ _ _ _ (h399.sel [1, 3, 4, 37, 38, 39] [0, 1] [1, 4]) (h399.getO rfl rfl rfl) rfl)
                          · skip
                            intro β400 a401 w402 dX403 Ox404 Q405 h406 hq407 hp408 hk409
                            have h410 := h406.learnE (d := 63) rfl (hp408 2 63 _ rfl rfl rfl)
                            clear h406
                            have h411 := h410.reb (t := 63) rfl hb212
                            clear h410
                            have h412 := h411.learnO (d := 71) (id := 4) (off := 0) rfl rfl rfl (hp408 10 71 _ rfl rfl rfl)
                            clear h411
                            refine evalS_ok tabOk h412 1 [1, 3, 4, 37, 38, 39, 72] [1, 4] [(1, .o 1 0), (3, .v (.int .i64 i93)), (4, .o 4 0), (37, .v (.slice A1 (List.length x0.Posts) c2)), (38, .v (.int .i64 (List.length x0.Posts : Int))), (39, .v (.int .i64 i93)), (72, .v (strV x115.Account))] [(1, ⟨[.int .i64 x0.At, strV x0.Text, .slice A1 (List.length x0.Posts) c2], 24⟩), (4, ⟨[strV x115.Account, .int .i64 x115.Amount], 38⟩)] (by kernel_rfl) fun β413 a414 w415 h416 => ?_
                            exact wpl_end (hk409 _ _ _ _ (h416.sel [1, 3, 4, 37, 38, 39] [0, 1] [1, 4]) (h416.getD rfl) rfl)
                          · skip
                            intro β417 a418 w419 dX420 Ox421 Q422 h423 hq424 hp425 hk426
                            have h427 := h423.learnE (d := 63) rfl (hp425 2 63 _ rfl rfl rfl)
                            clear h423
                            have h428 := h427.reb (t := 63) rfl hb212
                            clear h427
                            have h429 := h428.learnE (d := 70) rfl (hp425 9 70 _ rfl rfl rfl)
                            clear h428
                            have h430 := h429.learnE (d := 72) rfl (hp425 11 72 _ rfl rfl rfl)
                            clear h429
                            refine evalS_ok tabOk h430 1 [1, 3, 4, 37, 38, 39, 73] [1, 4] [(1, .o 1 0), (3, .v (.int .i64 i93)), (4, .o 4 0), (37, .v (.slice A1 (List.length x0.Posts) c2)), (38, .v (.int .i64 (List.length x0.Posts : Int))), (39, .v (.int .i64 i93)), (73, .v (.bool (!(Op.bytesLess x214.Account x115.Account))))] [(1, ⟨[.int .i64 x0.At, strV x0.Text, .slice A1 (List.length x0.Posts) c2], 24⟩), (4, ⟨[strV x115.Account, .int .i64 x115.Amount], 38⟩)] (by kernel_rfl) fun β431 a432 w433 h434 => ?_
                            exact wpl_end (hk426 _ _ _ _ (h434.sel [1, 3, 4, 37, 38, 39] [0, 1] [1, 4]) (h434.getD rfl) rfl)
                          · skip
                            intro β435 a436 w437 dX438 Ox439 Q440 h441 hq442 hp443 hk444
                            have h445 := h441.learnE (d := 63) rfl (hp443 2 63 _ rfl rfl rfl)
                            clear h441
                            have h446 := h445.reb (t := 63) rfl hb212
                            clear h445
                            have h447 := h446.learnE (d := 73) rfl (hp443 12 73 _ rfl rfl rfl)
                            clear h446
                            refine evalS_ok tabOk h447 1 [1, 3, 4, 37, 38, 39, 74] [1, 4] [(1, .o 1 0), (3, .v (.int .i64 i93)), (4, .o 4 0), (37, .v (.slice A1 (List.length x0.Posts) c2)), (38, .v (.int .i64 (List.length x0.Posts : Int))), (39, .v (.int .i64 i93)), (74, .v (.bool (!(Op.bytesLess x214.Account x115.Account))))] [(1, ⟨[.int .i64 x0.At, strV x0.Text, .slice A1 (List.length x0.Posts) c2], 24⟩), (4, ⟨[strV x115.Account, .int .i64 x115.Amount], 38⟩)] (by kernel_rfl) fun β448 a449 w450 h451 => ?_
                            exact wpl_end (hk444 _ _ _ _ (h451.sel [1, 3, 4, 37, 38, 39] [0, 1] [1, 4]) (h451.getD rfl) rfl)
                        · skip
                          intro β452 a453 w454 h455 ha456
                          have h457 := h455.learnE (d := 74) rfl (ha456 13 74 _ rfl rfl)
                          clear h455
                          have h458 := h457.unpin rfl
                          clear h457
                          refine evalS_ok tabOk h458 1 [1, 4, 37, 38, 39, 60] [1, 4] [(1, .o 1 0), (4, .o 4 0), (37, .v (.slice A1 (List.length x0.Posts) c2)), (38, .v (.int .i64 (List.length x0.Posts : Int))), (39, .v (.int .i64 i93)), (60, .v (.bool (!(Op.bytesLess x214.Account x115.Account))))] [(1, ⟨[.int .i64 x0.At, strV x0.Text, .slice A1 (List.length x0.Posts) c2], 24⟩), (4, ⟨[strV x115.Account, .int .i64 x115.Amount], 38⟩)] (by kernel_rfl) fun β459 a460 w461 h462 => ?_
                          clear h458
                          obtain rfl := Option.some.inj hv215
                          have h463 : Sb β459 (cx 90 ok w) [(1, .o 1 0), (4, .o 4 0), (37, .v (.slice A1 (List.length x0.Posts) c2)), (38, .v (.int .i64 (List.length x0.Posts : Int))), (39, .v (.int .i64 i93)), (60, .v (.bool (!(Op.bytesLess x214.Account x115.Account))))] [DF.v (rSl rApiPost) x0.Posts (.slice A1 (List.length x0.Posts) c2)] [(1, ⟨[.int .i64 x0.At, strV x0.Text, .slice A1 (List.length x0.Posts) c2], 24⟩), (4, ⟨[strV x115.Account, .int .i64 x115.Amount], 38⟩)] [] a460 w461 := h462.sel [1, 4, 37, 38, 39, 60] [0] [1, 4]
                          clear h462
                          exact wpl_end (then_n ⟨_, h463⟩)
                      · skip
                        have hv464 := ifF hb212 hv147
                        clear hv147
                        have h466 : Sb β136 (cx 90 ok w) [(1, .o 1 0), (3, .v (.int .i64 i93)), (4, .o 4 0), (37, .v (.slice A1 (List.length x0.Posts) c2)), (38, .v (.int .i64 (List.length x0.Posts : Int))), (39, .v (.int .i64 i93))] [DF.v (rSl rApiPost) x0.Posts (.slice A1 (List.length x0.Posts) c2)] [(1, ⟨[.int .i64 x0.At, strV x0.Text, .slice A1 (List.length x0.Posts) c2], 24⟩), (4, ⟨[strV x115.Account, .int .i64 x115.Amount], 38⟩)] [] a134 w135 := h137.sel [1, 3, 4, 37, 38, 39] [0] [1, 4]
                        refine draw_rule h466 rfl (by kernel_rfl) 14 [61, 62, 63, 64, 65, 66, 67, 68, 69, 70, 71, 72, 73, 74] [FV.eq (.int .i64 i93), FV.eq (.bool (decide (i93 > 0))), FV.eq (.bool (decide (i93 > 0))), FV.any, FV.any, FV.any, FV.any, FV.any, FV.any, FV.any, FV.any, FV.any, FV.any, FV.eq (.bool false)] rfl rfl rfl (by kernel_rfl) (by kernel_rfl) (by kernel_rfl) (by kernel_rfl) (by kernel_rfl) ?_ ?_
                        · skip
                          refine ⟨⟨⟨⟨⟨⟨⟨⟨⟨⟨⟨⟨⟨⟨trivial, ?_⟩, ?_⟩, ?_⟩, ?_⟩, ?_⟩, ?_⟩, ?_⟩, ?_⟩, ?_⟩, ?_⟩, ?_⟩, ?_⟩, ?_⟩, ?_⟩
                          · skip
                            intro β467 a468 w469 dX470 Ox471 Q472 h473 hq474 hp475 hk476
                            refine evalS_ok tabOk h473 1 [1, 3, 4, 37, 38, 39, 61] [1, 4] [(1, .o 1 0), (3, .v (.int .i64 i93)), (4, .o 4 0), (37, .v (.slice A1 (List.length x0.Posts) c2)), (38, .v (.int .i64 (List.length x0.Posts : Int))), (39, .v (.int .i64 i93)), (61, .v (.int .i64 i93))] [(1, ⟨[.int .i64 x0.At, strV x0.Text, .slice A1 (List.length x0.Posts) c2], 24⟩), (4, ⟨[strV x115.Account, .int .i64 x115.Amount], 38⟩)] (by kernel_rfl) fun β477 a478 w479 h480 => ?_
                            exact wpl_end (hk476 _ _ _ _ (h480.sel [1, 3, 4, 37, 38, 39] [0, 1] [1, 4]) (h480.getD rfl) rfl)
                          · skip
                            intro β481 a482 w483 dX484 Ox485 Q486 h487 hq488 hp489 hk490
                            have h491 := h487.learnE (d := 61) rfl (hp489 0 61 _ rfl rfl rfl)
                            clear h487
                            refine evalS_ok tabOk h491 1 [1, 3, 4, 37, 38, 39, 62] [1, 4] [(1, .o 1 0), (3, .v (.int .i64 i93)), (4, .o 4 0), (37, .v (.slice A1 (List.length x0.Posts) c2)), (38, .v (.int .i64 (List.length x0.Posts : Int))), (39, .v (.int .i64 i93)), (62, .v (.bool (decide (i93 > 0))))] [(1, ⟨[.int .i64 x0.At, strV x0.Text, .slice A1 (List.length x0.Posts) c2], 24⟩), (4, ⟨[strV x115.Account, .int .i64 x115.Amount], 38⟩)] (by kernel_rfl) fun β492 a493 w494 h495 => ?_
                            exact wpl_end (hk490 _ _ _ _ (h495.sel [1, 3, 4, 37, 38, 39] [0, 1] [1, 4]) (h495.getD rfl) rfl)
                          · skip
                            intro β496 a497 w498 dX499 Ox500 Q501 h502 hq503 hp504 hk505
                            have h506 := h502.learnE (d := 62) rfl (hp504 1 62 _ rfl rfl rfl)
                            clear h502
                            refine evalS_ok tabOk h506 1 [1, 3, 4, 37, 38, 39, 63] [1, 4] [(1, .o 1 0), (3, .v (.int .i64 i93)), (4, .o 4 0), (37, .v (.slice A1 (List.length x0.Posts) c2)), (38, .v (.int .i64 (List.length x0.Posts : Int))), (39, .v (.int .i64 i93)), (63, .v (.bool (decide (i93 > 0))))] [(1, ⟨[.int .i64 x0.At, strV x0.Text, .slice A1 (List.length x0.Posts) c2], 24⟩), (4, ⟨[strV x115.Account, .int .i64 x115.Amount], 38⟩)] (by kernel_rfl) fun β507 a508 w509 h510 => ?_
                            exact wpl_end (hk505 _ _ _ _ (h510.sel [1, 3, 4, 37, 38, 39] [0, 1] [1, 4]) (h510.getD rfl) rfl)
                          · skip
                            intro β511 a512 w513 dX514 Ox515 Q516 h517 hq518 hp519 hk520
                            have h521 := h517.learnE (d := 63) rfl (hp519 2 63 _ rfl rfl rfl)
                            clear h517
                            have h522 := h521.reb (t := 63) rfl hb212
                            clear h521
                            refine evalS_ok tabOk h522 1 [1, 3, 4, 37, 38, 39] [1, 4] [(1, .o 1 0), (3, .v (.int .i64 i93)), (4, .o 4 0), (37, .v (.slice A1 (List.length x0.Posts) c2)), (38, .v (.int .i64 (List.length x0.Posts : Int))), (39, .v (.int .i64 i93))] [(1, ⟨[.int .i64 x0.At, strV x0.Text, .slice A1 (List.length x0.Posts) c2], 24⟩), (4, ⟨[strV x115.Account, .int .i64 x115.Amount], 38⟩)] (by kernel_rfl) fun β523 a524 w525 h526 => ?_
                            exact wpl_end (hk520 _ _ _ _ (h526.sel [1, 3, 4, 37, 38, 39] [0, 1] [1, 4]) trivial rfl)
                          · skip
                            intro β527 a528 w529 dX530 Ox531 Q532 h533 hq534 hp535 hk536
                            have h537 := h533.learnE (d := 63) rfl (hp535 2 63 _ rfl rfl rfl)
                            clear h533
                            have h538 := h537.reb (t := 63) rfl hb212
                            clear h537
                            refine evalS_ok tabOk h538 1 [1, 3, 4, 37, 38, 39] [1, 4] [(1, .o 1 0), (3, .v (.int .i64 i93)), (4, .o 4 0), (37, .v (.slice A1 (List.length x0.Posts) c2)), (38, .v (.int .i64 (List.length x0.Posts : Int))), (39, .v (.int .i64 i93))] [(1, ⟨[.int .i64 x0.At, strV x0.Text, .slice A1 (List.length x0.Posts) c2], 24⟩), (4, ⟨[strV x115.Account, .int .i64 x115.Amount], 38⟩)] (by kernel_rfl) fun β539 a540 w541 h542 => ?_
                            exact wpl_end (hk536 _ _ _ _ (h542.sel [1, 3, 4, 37, 38, 39] [0, 1] [1, 4]) trivial rfl)
                          · skip
                            intro β543 a544 w545 dX546 Ox547 Q548 h549 hq550 hp551 hk552
                            have h553 := h549.learnE (d := 63) rfl (hp551 2 63 _ rfl rfl rfl)
                            clear h549
                            have h554 := h553.reb (t := 63) rfl hb212
                            clear h553
                            refine evalS_ok tabOk h554 1 [1, 3, 4, 37, 38, 39] [1, 4] [(1, .o 1 0), (3, .v (.int .i64 i93)), (4, .o 4 0), (37, .v (.slice A1 (List.length x0.Posts) c2)), (38, .v (.int .i64 (List.length x0.Posts : Int))), (39, .v (.int .i64 i93))] [(1, ⟨[.int .i64 x0.At, strV x0.Text, .slice A1 (List.length x0.Posts) c2], 24⟩), (4, ⟨[strV x115.Account, .int .i64 x115.Amount], 38⟩)] (by kernel_rfl) fun β555 a556 w557 h558 => ?_
                            exact wpl_end (hk552 _ _ _ _ (h558.sel [1, 3, 4, 37, 38, 39] [0, 1] [1, 4]) trivial rfl)
                          · skip
                            intro β559 a560 w561 dX562 Ox563 Q564 h565 hq566 hp567 hk568
                            have h569 := h565.learnE (d := 63) rfl (hp567 2 63 _ rfl rfl rfl)
                            clear h565
                            have h570 := h569.reb (t := 63) rfl hb212
                            clear h569
                            refine evalS_ok tabOk h570 1 [1, 3, 4, 37, 38, 39] [1, 4] [(1, .o 1 0), (3, .v (.int .i64 i93)), (4, .o 4 0), (37, .v (.slice A1 (List.length x0.Posts) c2)), (38, .v (.int .i64 (List.length x0.Posts : Int))), (39, .v (.int .i64 i93))] [(1, ⟨[.int .i64 x0.At, strV x0.Text, .slice A1 (List.length x0.Posts) c2], 24⟩), (4, ⟨[strV x115.Account, .int .i64 x115.Amount], 38⟩)] (by kernel_rfl) fun β571 a572 w573 h574 => ?_
                            exact wpl_end (hk568 _ _ _ _ (h574.sel [1, 3, 4, 37, 38, 39] [0, 1] [1, 4]) trivial rfl)
                          · skip
                            intro β575 a576 w577 dX578 Ox579 Q580 h581 hq582 hp583 hk584
                            have h585 := h581.learnE (d := 63) rfl (hp583 2 63 _ rfl rfl rfl)
                            clear h581
                            have h586 := h585.reb (t := 63) rfl hb212
                            clear h585
                            refine evalS_ok tabOk h586 1 [1, 3, 4, 37, 38, 39] [1, 4] [(1, .o 1 0), (3, .v (.int .i64 i93)), (4, .o 4 0), (37, .v (.slice A1 (List.length x0.Posts) c2)), (38, .v (.int .i64 (List.length x0.Posts : Int))), (39, .v (.int .i64 i93))] [(1, ⟨[.int .i64 x0.At, strV x0.Text, .slice A1 (List.length x0.Posts) c2], 24⟩), (4, ⟨[strV x115.Account, .int .i64 x115.Amount], 38⟩)] (by kernel_rfl) fun β587 a588 w589 h590 => ?_
                            exact wpl_end (hk584 _ _ _ _ (h590.sel [1, 3, 4, 37, 38, 39] [0, 1] [1, 4]) trivial rfl)
                          · skip
                            intro β591 a592 w593 dX594 Ox595 Q596 h597 hq598 hp599 hk600
                            have h601 := h597.learnE (d := 63) rfl (hp599 2 63 _ rfl rfl rfl)
                            clear h597
                            have h602 := h601.reb (t := 63) rfl hb212
                            clear h601
                            refine evalS_ok tabOk h602 1 [1, 3, 4, 37, 38, 39] [1, 4] [(1, .o 1 0), (3, .v (.int .i64 i93)), (4, .o 4 0), (37, .v (.slice A1 (List.length x0.Posts) c2)), (38, .v (.int .i64 (List.length x0.Posts : Int))), (39, .v (.int .i64 i93))] [(1, ⟨[.int .i64 x0.At, strV x0.Text, .slice A1 (List.length x0.Posts) c2], 24⟩), (4, ⟨[strV x115.Account, .int .i64 x115.Amount], 38⟩)] (by kernel_rfl) fun β603 a604 w605 h606 => ?_
                            exact wpl_end (hk600 _ _ _ _ (h606.sel [1, 3, 4, 37, 38, 39] [0, 1] [1, 4]) trivial rfl)
                          · skip
                            intro β607 a608 w609 dX610 Ox611 Q612 h613 hq614 hp615 hk616
                            have h617 := h613.learnE (d := 63) rfl (hp615 2 63 _ rfl rfl rfl)
                            clear h613
                            have h618 := h617.reb (t := 63) rfl hb212
                            clear h617
                            refine evalS_ok tabOk h618 1 [1, 3, 4, 37, 38, 39] [1, 4] [(1, .o 1 0), (3, .v (.int .i64 i93)), (4, .o 4 0), (37, .v (.slice A1 (List.length x0.Posts) c2)), (38, .v (.int .i64 (List.length x0.Posts : Int))), (39, .v (.int .i64 i93))] [(1, ⟨[.int .i64 x0.At, strV x0.Text, .slice A1 (List.length x0.Posts) c2], 24⟩), (4, ⟨[strV x115.Account, .int .i64 x115.Amount], 38⟩)] (by kernel_rfl) fun β619 a620 w621 h622 => ?_
                            exact wpl_end (hk616 _ _ _ _ (h622.sel [1, 3, 4, 37, 38, 39] [0, 1] [1, 4]) trivial rfl)
                          · skip
                            intro β623 a624 w625 dX626 Ox627 Q628 h629 hq630 hp631 hk632
                            have h633 := h629.learnE (d := 63) rfl (hp631 2 63 _ rfl rfl rfl)
                            clear h629
                            have h634 := h633.reb (t := 63) rfl hb212
                            clear h633
                            refine evalS_ok tabOk h634 1 [1, 3, 4, 37, 38, 39] [1, 4] [(1, .o 1 0), (3, .v (.int .i64 i93)), (4, .o 4 0), (37, .v (.slice A1 (List.length x0.Posts) c2)), (38, .v (.int .i64 (List.length x0.Posts : Int))), (39, .v (.int .i64 i93))] [(1, ⟨[.int .i64 x0.At, strV x0.Text, .slice A1 (List.length x0.Posts) c2], 24⟩), (4, ⟨[strV x115.Account, .int .i64 x115.Amount], 38⟩)] (by kernel_rfl) fun β635 a636 w637 h638 => ?_
                            exact wpl_end (hk632 _ _ _ _ (h638.sel [1, 3, 4, 37, 38, 39] [0, 1] [1, 4]) trivial rfl)
                          · skip
                            intro β639 a640 w641 dX642 Ox643 Q644 h645 hq646 hp647 hk648
                            have h649 := h645.learnE (d := 63) rfl (hp647 2 63 _ rfl rfl rfl)
                            clear h645
                            have h650 := h649.reb (t := 63) rfl hb212
                            clear h649
                            refine evalS_ok tabOk h650 1 [1, 3, 4, 37, 38, 39] [1, 4] [(1, .o 1 0), (3, .v (.int .i64 i93)), (4, .o 4 0), (37, .v (.slice A1 (List.length x0.Posts) c2)), (38, .v (.int .i64 (List.length x0.Posts : Int))), (39, .v (.int .i64 i93))] [(1, ⟨[.int .i64 x0.At, strV x0.Text, .slice A1 (List.length x0.Posts) c2], 24⟩), (4, ⟨[strV x115.Account, .int .i64 x115.Amount], 38⟩)] (by kernel_rfl) fun β651 a652 w653 h654 => ?_
                            exact wpl_end (hk648 _ _ _ _ (h654.sel [1, 3, 4, 37, 38, 39] [0, 1] [1, 4]) trivial rfl)
                          · skip
                            intro β655 a656 w657 dX658 Ox659 Q660 h661 hq662 hp663 hk664
                            have h665 := h661.learnE (d := 63) rfl (hp663 2 63 _ rfl rfl rfl)
                            clear h661
                            have h666 := h665.reb (t := 63) rfl hb212
                            clear h665
                            refine evalS_ok tabOk h666 1 [1, 3, 4, 37, 38, 39] [1, 4] [(1, .o 1 0), (3, .v (.int .i64 i93)), (4, .o 4 0), (37, .v (.slice A1 (List.length x0.Posts) c2)), (38, .v (.int .i64 (List.length x0.Posts : Int))), (39, .v (.int .i64 i93))] [(1, ⟨[.int .i64 x0.At, strV x0.Text, .slice A1 (List.length x0.Posts) c2], 24⟩), (4, ⟨[strV x115.Account, .int .i64 x115.Amount], 38⟩)] (by kernel_rfl) fun β667 a668 w669 h670 => ?_
                            exact wpl_end (hk664 _ _ _ _ (h670.sel [1, 3, 4, 37, 38, 39] [0, 1] [1, 4]) trivial rfl)
                          · skip
                            intro β671 a672 w673 dX674 Ox675 Q676 h677 hq678 hp679 hk680
                            have h681 := h677.learnE (d := 63) rfl (hp679 2 63 _ rfl rfl rfl)
                            clear h677
                            have h682 := h681.reb (t := 63) rfl hb212
                            clear h681
                            refine evalS_ok tabOk h682 1 [1, 3, 4, 37, 38, 39, 74] [1, 4] [(1, .o 1 0), (3, .v (.int .i64 i93)), (4, .o 4 0), (37, .v (.slice A1 (List.length x0.Posts) c2)), (38, .v (.int .i64 (List.length x0.Posts : Int))), (39, .v (.int .i64 i93)), (74, .v (.bool false))] [(1, ⟨[.int .i64 x0.At, strV x0.Text, .slice A1 (List.length x0.Posts) c2], 24⟩), (4, ⟨[strV x115.Account, .int .i64 x115.Amount], 38⟩)] (by kernel_rfl) fun β683 a684 w685 h686 => ?_
                            exact wpl_end (hk680 _ _ _ _ (h686.sel [1, 3, 4, 37, 38, 39] [0, 1] [1, 4]) (h686.getD rfl) rfl)
                        · skip
                          intro β687 a688 w689 h690 ha691
                          have h692 := h690.learnE (d := 74) rfl (ha691 13 74 _ rfl rfl)
                          clear h690
                          have h693 := h692.unpin rfl
                          clear h692
                          refine evalS_ok tabOk h693 1 [1, 4, 37, 38, 39, 60] [1, 4] [(1, .o 1 0), (4, .o 4 0), (37, .v (.slice A1 (List.length x0.Posts) c2)), (38, .v (.int .i64 (List.length x0.Posts : Int))), (39, .v (.int .i64 i93)), (60, .v (.bool false))] [(1, ⟨[.int .i64 x0.At, strV x0.Text, .slice A1 (List.length x0.Posts) c2], 24⟩), (4, ⟨[strV x115.Account, .int .i64 x115.Amount], 38⟩)] (by kernel_rfl) fun β694 a695 w696 h697 => ?_
                          clear h693
                          obtain rfl := Option.some.inj hv464
                          have h698 : Sb β694 (cx 90 ok w) [(1, .o 1 0), (4, .o 4 0), (37, .v (.slice A1 (List.length x0.Posts) c2)), (38, .v (.int .i64 (List.length x0.Posts : Int))), (39, .v (.int .i64 i93)), (60, .v (.bool false))] [DF.v (rSl rApiPost) x0.Posts (.slice A1 (List.length x0.Posts) c2)] [(1, ⟨[.int .i64 x0.At, strV x0.Text, .slice A1 (List.length x0.Posts) c2], 24⟩), (4, ⟨[strV x115.Account, .int .i64 x115.Amount], 38⟩)] [] a695 w696 := h697.sel [1, 4, 37, 38, 39, 60] [0] [1, 4]
                          clear h697
                          exact wpl_end (then_n ⟨_, h698⟩)
                · skip
                  refine region_ok ?_
                  refine evalS_ok tabOk h128 4 [1, 3, 4, 37, 38, 39, 48] [1, 4] [(1, .o 1 0), (3, .v (.int .i64 i93)), (4, .o 4 0), (37, .v (.slice A1 (List.length x0.Posts) c2)), (38, .v (.int .i64 (List.length x0.Posts : Int))), (39, .v (.int .i64 i93)), (48, .v (.bool (x115.Account == ([] : Str))))] [(1, ⟨[.int .i64 x0.At, strV x0.Text, .slice A1 (List.length x0.Posts) c2], 24⟩), (4, ⟨[strV x115.Account, .int .i64 x115.Amount], 38⟩)] (by kernel_rfl) fun β699 a700 w701 h702 => ?_
                  clear h128
                  refine bcases (b := (x115.Account == ([] : Str))) (fun hb703 => ?_) (fun hb703 => ?_)
                  · skip
                    have hv704 := ifT hb703 hv132
                    clear hv132
                    have h705 := h702.reb (t := 48) rfl hb703
                    clear h702
                    refine evalS_ok tabOk h705 12 [1, 3, 4, 37, 38, 39, 44] [1, 4] [(1, .o 1 0), (3, .v (.int .i64 i93)), (4, .o 4 0), (37, .v (.slice A1 (List.length x0.Posts) c2)), (38, .v (.int .i64 (List.length x0.Posts : Int))), (39, .v (.int .i64 i93)), (44, .v (.bool true))] [(1, ⟨[.int .i64 x0.At, strV x0.Text, .slice A1 (List.length x0.Posts) c2], 24⟩), (4, ⟨[strV x115.Account, .int .i64 x115.Amount], 38⟩)] (by kernel_rfl) fun β706 a707 w708 h709 => ?_
                    clear h705
                    obtain rfl := Option.some.inj hv704
                    have h710 : Sb β706 (cx 90 ok w) [(1, .o 1 0), (3, .v (.int .i64 i93)), (4, .o 4 0), (37, .v (.slice A1 (List.length x0.Posts) c2)), (38, .v (.int .i64 (List.length x0.Posts : Int))), (39, .v (.int .i64 i93)), (44, .v (.bool true))] [DF.v (rSl rApiPost) x0.Posts (.slice A1 (List.length x0.Posts) c2)] [(1, ⟨[.int .i64 x0.At, strV x0.Text, .slice A1 (List.length x0.Posts) c2], 24⟩), (4, ⟨[strV x115.Account, .int .i64 x115.Amount], 38⟩)] [] a707 w708 := h709.sel [1, 3, 4, 37, 38, 39, 44] [0] [1, 4]
                    clear h709
                    exact wpl_end (then_n ⟨_, h710⟩)
                  · skip
                    have hv711 := ifF hb703 hv132
                    clear hv132
                    have h712 := h702.reb (t := 48) rfl hb703
                    clear h702
                    refine evalS_ok tabOk h712 6 [1, 3, 4, 37, 38, 39, 54] [1, 4] [(1, .o 1 0), (3, .v (.int .i64 i93)), (4, .o 4 0), (37, .v (.slice A1 (List.length x0.Posts) c2)), (38, .v (.int .i64 (List.length x0.Posts : Int))), (39, .v (.int .i64 i93)), (54, .v (.bool (decide ((List.length x115.Account : Int) > 200))))] [(1, ⟨[.int .i64 x0.At, strV x0.Text, .slice A1 (List.length x0.Posts) c2], 24⟩), (4, ⟨[strV x115.Account, .int .i64 x115.Amount], 38⟩)] (by kernel_rfl) fun β713 a714 w715 h716 => ?_
                    clear h712
                    refine bcases (b := (decide ((List.length x115.Account : Int) > 200))) (fun hb717 => ?_) (fun hb717 => ?_)
                    · skip
                      have hv718 := ifT hb717 hv711
                      clear hv711
                      have h719 := h716.reb (t := 54) rfl hb717
                      clear h716
                      refine evalS_ok tabOk h719 6 [1, 3, 4, 37, 38, 39, 44] [1, 4] [(1, .o 1 0), (3, .v (.int .i64 i93)), (4, .o 4 0), (37, .v (.slice A1 (List.length x0.Posts) c2)), (38, .v (.int .i64 (List.length x0.Posts : Int))), (39, .v (.int .i64 i93)), (44, .v (.bool true))] [(1, ⟨[.int .i64 x0.At, strV x0.Text, .slice A1 (List.length x0.Posts) c2], 24⟩), (4, ⟨[strV x115.Account, .int .i64 x115.Amount], 38⟩)] (by kernel_rfl) fun β720 a721 w722 h723 => ?_
                      clear h719
                      obtain rfl := Option.some.inj hv718
                      have h724 : Sb β720 (cx 90 ok w) [(1, .o 1 0), (3, .v (.int .i64 i93)), (4, .o 4 0), (37, .v (.slice A1 (List.length x0.Posts) c2)), (38, .v (.int .i64 (List.length x0.Posts : Int))), (39, .v (.int .i64 i93)), (44, .v (.bool true))] [DF.v (rSl rApiPost) x0.Posts (.slice A1 (List.length x0.Posts) c2)] [(1, ⟨[.int .i64 x0.At, strV x0.Text, .slice A1 (List.length x0.Posts) c2], 24⟩), (4, ⟨[strV x115.Account, .int .i64 x115.Amount], 38⟩)] [] a721 w722 := h723.sel [1, 3, 4, 37, 38, 39, 44] [0] [1, 4]
                      clear h723
                      exact wpl_end (then_n ⟨_, h724⟩)
                    · skip
                      have hv725 := ifF hb717 hv711
                      clear hv711
                      have h726 := h716.reb (t := 54) rfl hb717
                      clear h716
                      refine evalS_ok tabOk h726 2 [1, 3, 4, 37, 38, 39, 54, 56] [1, 4] [(1, .o 1 0), (3, .v (.int .i64 i93)), (4, .o 4 0), (37, .v (.slice A1 (List.length x0.Posts) c2)), (38, .v (.int .i64 (List.length x0.Posts : Int))), (39, .v (.int .i64 i93)), (54, .v (.bool false)), (56, .v (strV x115.Account))] [(1, ⟨[.int .i64 x0.At, strV x0.Text, .slice A1 (List.length x0.Posts) c2], 24⟩), (4, ⟨[strV x115.Account, .int .i64 x115.Amount], 38⟩)] (by kernel_rfl) fun β727 a728 w729 h730 => ?_
                      clear h726
                      obtain ⟨y731, hy731, hv732⟩ := bindE hv725
                      clear hv725
                      refine step_call h730 rfl rfl runs24 (vs := [(strV x115.Account), (.int .u8 33)]) (by kernel_rfl) (c_ledger_printed (x0 := x115.Account) (x1 := 33) h730.okLt N hy731) fun v733 a736 w737 hR734 hk735 h738 => ?_
                      clear h730
                      have hv739 := isV.weak hR734 hk735
                      obtain rfl := isV_bool.1 hv739
                      refine evalS_ok tabOk h738 3 [1, 3, 4, 37, 38, 39, 44] [1, 4] [(1, .o 1 0), (3, .v (.int .i64 i93)), (4, .o 4 0), (37, .v (.slice A1 (List.length x0.Posts) c2)), (38, .v (.int .i64 (List.length x0.Posts : Int))), (39, .v (.int .i64 i93)), (44, .v (.bool (!y731)))] [(1, ⟨[.int .i64 x0.At, strV x0.Text, .slice A1 (List.length x0.Posts) c2], 24⟩), (4, ⟨[strV x115.Account, .int .i64 x115.Amount], 38⟩)] (by kernel_rfl) fun β740 a741 w742 h743 => ?_
                      clear h738
                      obtain rfl := Option.some.inj hv732
                      have h744 : Sb β740 (cx 90 ok w) [(1, .o 1 0), (3, .v (.int .i64 i93)), (4, .o 4 0), (37, .v (.slice A1 (List.length x0.Posts) c2)), (38, .v (.int .i64 (List.length x0.Posts : Int))), (39, .v (.int .i64 i93)), (44, .v (.bool (!y731)))] [DF.v (rSl rApiPost) x0.Posts (.slice A1 (List.length x0.Posts) c2)] [(1, ⟨[.int .i64 x0.At, strV x0.Text, .slice A1 (List.length x0.Posts) c2], 24⟩), (4, ⟨[strV x115.Account, .int .i64 x115.Amount], 38⟩)] [] a741 w742 := h743.sel [1, 3, 4, 37, 38, 39, 44] [0] [1, 4]
                      clear h743
                      exact wpl_end (then_n ⟨_, h744⟩)
              · skip
                have hF745 := ifF hb106 hF100
                clear hF100
                refine wp_exit ?_
                refine hx105 1 _ _ ?_
                refine hx55 1 _ _ ?_
                refine hbb55 _ _ ?_
                obtain rfl := Option.some.inj hF745
                have h746 : Sb β101 (cx 90 ok w) [(1, .o 1 0)] [DF.v (rSl rApiPost) x0.Posts (.slice A1 (List.length x0.Posts) c2)] [(1, ⟨[.int .i64 x0.At, strV x0.Text, .slice A1 (List.length x0.Posts) c2], 24⟩)] [] a102 w103 := (h104).sel [1] [0] [1]
                exact j56 _ _ ⟨⟨_, h746⟩, hC55⟩
          · skip
            refine region_ok ?_
            refine evalS_ok tabOk h27 2 [1, 27] [1] [(1, .o 1 0), (27, .v (strV x0.Text))] [(1, ⟨[.int .i64 x0.At, strV x0.Text, .slice A1 (List.length x0.Posts) c2], 24⟩)] (by kernel_rfl) fun β748 a749 w750 h751 => ?_
            clear h27
            obtain ⟨y752, hy752, hv753⟩ := bindE hv37
            clear hv37
            refine step_call h751 rfl rfl runs24 (vs := [(strV x0.Text), (.int .u8 32)]) (by kernel_rfl) (c_ledger_printed (x0 := x0.Text) (x1 := 32) h751.okLt N hy752) fun v754 a757 w758 hR755 hk756 h759 => ?_
            clear h751
            have hv760 := isV.weak hR755 hk756
            obtain rfl := isV_bool.1 hv760
            refine evalS_ok tabOk h759 2 [1, 30] [1] [(1, .o 1 0), (30, .v (.bool (!y752)))] [(1, ⟨[.int .i64 x0.At, strV x0.Text, .slice A1 (List.length x0.Posts) c2], 24⟩)] (by kernel_rfl) fun β761 a762 w763 h764 => ?_
            clear h759
            refine bcases (b := (!y752)) (fun hb765 => ?_) (fun hb765 => ?_)
            · skip
              have hv766 := ifT hb765 hv753
              clear hv753
              have h767 := h764.reb (t := 30) rfl hb765
              clear h764
              refine evalS_ok tabOk h767 6 [1, 25] [1] [(1, .o 1 0), (25, .v (.bool true))] [(1, ⟨[.int .i64 x0.At, strV x0.Text, .slice A1 (List.length x0.Posts) c2], 24⟩)] (by kernel_rfl) fun β768 a769 w770 h771 => ?_
              clear h767
              obtain rfl := Option.some.inj hv766
              have h772 : Sb β768 (cx 90 ok w) [(1, .o 1 0), (25, .v (.bool true))] [DF.v (rSl rApiPost) x0.Posts (.slice A1 (List.length x0.Posts) c2)] [(1, ⟨[.int .i64 x0.At, strV x0.Text, .slice A1 (List.length x0.Posts) c2], 24⟩)] [] a769 w770 := h771.sel [1, 25] [0] [1]
              clear h771
              exact wpl_end (then_n ⟨_, h772⟩)
            · skip
              have hv773 := ifF hb765 hv753
              clear hv753
              have h774 := h764.reb (t := 30) rfl hb765
              clear h764
              refine evalS_ok tabOk h774 6 [1, 25] [1] [(1, .o 1 0), (25, .v (.bool (decide ((List.length x0.Posts : Int) < 2))))] [(1, ⟨[.int .i64 x0.At, strV x0.Text, .slice A1 (List.length x0.Posts) c2], 24⟩)] (by kernel_rfl) fun β775 a776 w777 h778 => ?_
              clear h774
              obtain rfl := Option.some.inj hv773
              have h779 : Sb β775 (cx 90 ok w) [(1, .o 1 0), (25, .v (.bool (decide ((List.length x0.Posts : Int) < 2))))] [DF.v (rSl rApiPost) x0.Posts (.slice A1 (List.length x0.Posts) c2)] [(1, ⟨[.int .i64 x0.At, strV x0.Text, .slice A1 (List.length x0.Posts) c2], 24⟩)] [] a776 w777 := h778.sel [1, 25] [0] [1]
              clear h778
              exact wpl_end (then_n ⟨_, h779⟩)
      · skip
        refine region_ok ?_
        refine evalS_ok tabOk h14 5 [1, 19] [1] [(1, .o 1 0), (19, .v (.bool (decide ((List.length x0.Text : Int) > 200))))] [(1, ⟨[.int .i64 x0.At, strV x0.Text, .slice A1 (List.length x0.Posts) c2], 24⟩)] (by kernel_rfl) fun β780 a781 w782 h783 => ?_
        clear h14
        refine bcases (b := (decide ((List.length x0.Text : Int) > 200))) (fun hb784 => ?_) (fun hb784 => ?_)
        · skip
          have h785 := h783.reb (t := 19) rfl hb784
          clear h783
          refine evalS_ok tabOk h785 6 [1, 14] [1] [(1, .o 1 0), (14, .v (.bool true))] [(1, ⟨[.int .i64 x0.At, strV x0.Text, .slice A1 (List.length x0.Posts) c2], 24⟩)] (by kernel_rfl) fun β786 a787 w788 h789 => ?_
          clear h785
          obtain rfl : g23 = true := by rw [hg23]; simp only [*, Bool.and_true, Bool.true_and, Bool.or_true, Bool.true_or, Bool.or_false, Bool.false_or, Bool.and_false, Bool.false_and, cond_true, cond_false]
          have h790 : Sb β786 (cx 90 ok w) [(1, .o 1 0), (14, .v (.bool true))] [DF.v (rSl rApiPost) x0.Posts (.slice A1 (List.length x0.Posts) c2)] [(1, ⟨[.int .i64 x0.At, strV x0.Text, .slice A1 (List.length x0.Posts) c2], 24⟩)] [] a787 w788 := h789.sel [1, 14] [0] [1]
          clear h789
          exact wpl_end (then_n ⟨_, h790⟩)
        · skip
          have h791 := h783.reb (t := 19) rfl hb784
          clear h783
          refine evalS_ok tabOk h791 6 [1, 14] [1] [(1, .o 1 0), (14, .v (.bool (decide ((List.length x0.Posts : Int) > 64))))] [(1, ⟨[.int .i64 x0.At, strV x0.Text, .slice A1 (List.length x0.Posts) c2], 24⟩)] (by kernel_rfl) fun β792 a793 w794 h795 => ?_
          clear h791
          obtain rfl : g23 = (decide ((List.length x0.Posts : Int) > 64)) := by rw [hg23]; simp only [*, Bool.and_true, Bool.true_and, Bool.or_true, Bool.true_or, Bool.or_false, Bool.false_or, Bool.and_false, Bool.false_and, cond_true, cond_false]
          have h796 : Sb β792 (cx 90 ok w) [(1, .o 1 0), (14, .v (.bool (decide ((List.length x0.Posts : Int) > 64))))] [DF.v (rSl rApiPost) x0.Posts (.slice A1 (List.length x0.Posts) c2)] [(1, ⟨[.int .i64 x0.At, strV x0.Text, .slice A1 (List.length x0.Posts) c2], 24⟩)] [] a793 w794 := h795.sel [1, 14] [0] [1]
          clear h795
          exact wpl_end (then_n ⟨_, h796⟩)
  · skip
    refine region_ok ?_
    refine evalS_ok tabOk h6 4 [1, 9] [1] [(1, .o 1 0), (9, .v (.bool (decide (x0.At < 0))))] [(1, ⟨[.int .i64 x0.At, strV x0.Text, .slice A1 (List.length x0.Posts) c2], 24⟩)] (by kernel_rfl) fun β797 a798 w799 h800 => ?_
    clear h6
    refine bcases (b := (decide (x0.At < 0))) (fun hb801 => ?_) (fun hb801 => ?_)
    · skip
      have h802 := h800.reb (t := 9) rfl hb801
      clear h800
      refine evalS_ok tabOk h802 5 [1, 5] [1] [(1, .o 1 0), (5, .v (.bool true))] [(1, ⟨[.int .i64 x0.At, strV x0.Text, .slice A1 (List.length x0.Posts) c2], 24⟩)] (by kernel_rfl) fun β803 a804 w805 h806 => ?_
      clear h802
      obtain rfl : g10 = true := by rw [hg10]; simp only [*, Bool.and_true, Bool.true_and, Bool.or_true, Bool.true_or, Bool.or_false, Bool.false_or, Bool.and_false, Bool.false_and, cond_true, cond_false]
      have h807 : Sb β803 (cx 90 ok w) [(1, .o 1 0), (5, .v (.bool true))] [DF.v (rSl rApiPost) x0.Posts (.slice A1 (List.length x0.Posts) c2)] [(1, ⟨[.int .i64 x0.At, strV x0.Text, .slice A1 (List.length x0.Posts) c2], 24⟩)] [] a804 w805 := h806.sel [1, 5] [0] [1]
      clear h806
      exact wpl_end (then_n ⟨_, h807⟩)
    · skip
      have h808 := h800.reb (t := 9) rfl hb801
      clear h800
      refine evalS_ok tabOk h808 5 [1, 5] [1] [(1, .o 1 0), (5, .v (.bool (decide (x0.At ≥ 12622780800))))] [(1, ⟨[.int .i64 x0.At, strV x0.Text, .slice A1 (List.length x0.Posts) c2], 24⟩)] (by kernel_rfl) fun β809 a810 w811 h812 => ?_
      clear h808
      obtain rfl : g10 = (decide (x0.At ≥ 12622780800)) := by rw [hg10]; simp only [*, Bool.and_true, Bool.true_and, Bool.or_true, Bool.true_or, Bool.or_false, Bool.false_or, Bool.and_false, Bool.false_and, cond_true, cond_false]
      have h813 : Sb β809 (cx 90 ok w) [(1, .o 1 0), (5, .v (.bool (decide (x0.At ≥ 12622780800))))] [DF.v (rSl rApiPost) x0.Posts (.slice A1 (List.length x0.Posts) c2)] [(1, ⟨[.int .i64 x0.At, strV x0.Text, .slice A1 (List.length x0.Posts) c2], 24⟩)] [] a810 w811 := h812.sel [1, 5] [0] [1]
      clear h812
      exact wpl_end (then_n ⟨_, h813⟩)

theorem c_billinglaw47_awake {ok : Ok} {w : World} (hok : ∀ b o, ok b o → b < w.heap.size) (N : Nat) {r : Bool} (hF : billinglaw47_awake N = some r) :
    Calls Try.prog 8 ⟨[]⟩ w (Ret w (R1 rBool ok w r)) := by
  rw [billinglaw47_awake] at hF
  refine enter_ok (n := 54) hok Try.func8 rfl rfl rfl (D := []) trivial (fun a h => ?_)
  simp only [zipG, Nat.zero_add, Nat.reduceAdd] at h
  refine start_ctx fun Q hn hr => ?_
  refine seq_region tabOk h [] [] [] [] (by kernel_rfl) fun β1 a2 w3 h4 => ?_
  clear h
  refine seq_list fun Q5 hq5 => ?_
  obtain ⟨y6, hy6, hF7⟩ := bindE hF
  clear hF
  refine step_call h4 rfl rfl runs22 (vs := [(.int .i64 17), (.int .i64 100), (.int .i64 595)]) (by kernel_rfl) (c_ledger_Payment (x0 := 17) (x1 := 100) (x2 := 595) h4.okLt N hy6) fun v8 a11 w12 hR9 hk10 h13 => ?_
  clear h4
  have hv14 := isV.weak hR9 hk10
  obtain ⟨v17, hs18, rfl⟩ := ex_ApiEntry hv14
  obtain ⟨A15, c16, rfl, hs19⟩ := slForm hs18
  have h20 := h13.addD (d := DF.v (rSl rApiPost) y6.Posts (.slice A15 (List.length y6.Posts) c16)) hs19
  clear h13
  refine evalS_ok tabOk h20 2 [1] [1] [(1, .o 1 0)] [(1, ⟨[.int .i64 y6.At, strV y6.Text, .slice A15 (List.length y6.Posts) c16], 24⟩)] (by kernel_rfl) fun β21 a22 w23 h24 => ?_
  clear h20
  have h25 : Sb β21 (cx 54 ok w) [(1, .o 1 0)] [DF.v (rSl rApiPost) y6.Posts (.slice A15 (List.length y6.Posts) c16)] [(1, ⟨[.int .i64 y6.At, strV y6.Text, .slice A15 (List.length y6.Posts) c16], 24⟩)] [] a22 w23 := h24.sel [1] [0] [1]
  clear h24
  refine wpl_end (hq5 _ _ ?_)
  refine seq_list fun Q26 hq26 => ?_
  refine evalS_ok tabOk h25 2 [1, 6, 7] [1] [(1, .o 1 0), (6, .v (.agg ⟨[.int .i64 0, .int .i64 50]⟩)), (7, .v (.agg ⟨[strV ([118, 111, 105, 99, 101] : Str), .int .i64 0, .int .i64 0, .int .i64 95]⟩))] [(1, ⟨[.int .i64 y6.At, strV y6.Text, .slice A15 (List.length y6.Posts) c16], 24⟩)] (by kernel_rfl) fun β27 a28 w29 h30 => ?_
  clear h25
  refine step_buildSlice tabOk h30 rfl rfl (r := rApiTaxLine) (xs := ([(⟨([118, 111, 105, 99, 101] : Str), 0, 0, 95⟩ : ApiTaxLine)] : List ApiTaxLine)) (vs := [.agg ⟨[strV ([118, 111, 105, 99, 101] : Str), .int .i64 0, .int .i64 0, .int .i64 95]⟩]) (pvs := [(0, .agg ⟨[strV ([118, 111, 105, 99, 101] : Str), .int .i64 0, .int .i64 0, .int .i64 95]⟩)]) (by kernel_rfl) tb49 rfl tb48 rfl rfl rfl rfl rfl (by kernel_rfl) ⟨(im_ApiTaxLine (x := (⟨([118, 111, 105, 99, 101] : Str), 0, 0, 95⟩ : ApiTaxLine))), trivial⟩ fun A31 c32 a34 w35 hv33 h36 => ?_
  clear h30
  have h37 := h36.addD (d := DF.v (rSl rApiTaxLine) ([(⟨([118, 111, 105, 99, 101] : Str), 0, 0, 95⟩ : ApiTaxLine)] : List ApiTaxLine) (.slice A31 (List.length ([(⟨([118, 111, 105, 99, 101] : Str), 0, 0, 95⟩ : ApiTaxLine)] : List ApiTaxLine)) c32)) hv33
  clear h36
  refine evalS_ok tabOk h37 1 [1, 9] [1] [(1, .o 1 0), (9, .v (.agg ⟨[.int .i64 17, .int .i64 0, .int .i64 50, .slice none 0 0, .slice A31 (List.length ([(⟨([118, 111, 105, 99, 101] : Str), 0, 0, 95⟩ : ApiTaxLine)] : List ApiTaxLine)) c32, .int .i64 500, .int .i64 95, .int .i64 595]⟩))] [(1, ⟨[.int .i64 y6.At, strV y6.Text, .slice A15 (List.length y6.Posts) c16], 24⟩)] (by kernel_rfl) fun β38 a39 w40 h41 => ?_
  clear h37
  obtain ⟨y42, hy42, hF43⟩ := bindE hF7
  clear hF7
  refine step_call h41 rfl rfl runs23 (vs := [(.agg ⟨[.int .i64 17, .int .i64 0, .int .i64 50, .slice none 0 0, .slice A31 (List.length ([(⟨([118, 111, 105, 99, 101] : Str), 0, 0, 95⟩ : ApiTaxLine)] : List ApiTaxLine)) c32, .int .i64 500, .int .i64 95, .int .i64 595]⟩)]) (by kernel_rfl) (c_ledger_Invoice (x0 := (⟨17, (⟨0, 50⟩ : ApiPeriod), [], ([(⟨([118, 111, 105, 99, 101] : Str), 0, 0, 95⟩ : ApiTaxLine)] : List ApiTaxLine), 500, 95, 595⟩ : ApiInvoice)) h41.okLt N slNil (h41.d 0 rfl) hy42) fun v44 a47 w48 hR45 hk46 h49 => ?_
  clear h41
  have hv50 := isV.weak hR45 hk46
  obtain ⟨v53, hs54, rfl⟩ := ex_ApiEntry hv50
  obtain ⟨A51, c52, rfl, hs55⟩ := slForm hs54
  have h56 := h49.addD (d := DF.v (rSl rApiPost) y42.Posts (.slice A51 (List.length y42.Posts) c52)) hs55
  clear h49
  refine evalS_ok tabOk h56 2 [1, 2] [1, 2] [(1, .o 1 0), (2, .o 2 0)] [(1, ⟨[.int .i64 y6.At, strV y6.Text, .slice A15 (List.length y6.Posts) c16], 24⟩), (2, ⟨[.int .i64 y42.At, strV y42.Text, .slice A51 (List.length y42.Posts) c52], 24⟩)] (by kernel_rfl) fun β57 a58 w59 h60 => ?_
  clear h56
  have h61 : Sb β57 (cx 54 ok w) [(1, .o 1 0), (2, .o 2 0)] [DF.v (rSl rApiPost) y6.Posts (.slice A15 (List.length y6.Posts) c16), DF.v (rSl rApiPost) y42.Posts (.slice A51 (List.length y42.Posts) c52)] [(1, ⟨[.int .i64 y6.At, strV y6.Text, .slice A15 (List.length y6.Posts) c16], 24⟩), (2, ⟨[.int .i64 y42.At, strV y42.Text, .slice A51 (List.length y42.Posts) c52], 24⟩)] [] a58 w59 := h60.sel [1, 2] [2, 0] [1, 2]
  clear h60
  refine wpl_end (hq26 _ _ ?_)
  refine seq_list fun Q62 hq62 => ?_
  refine evalS_ok tabOk h61 3 [1, 2, 11, 12, 13] [1, 2] [(1, .o 1 0), (2, .o 2 0), (11, .v (.agg ⟨[strV ([114, 101, 99, 101, 105, 118, 97, 98, 108, 101, 58, 49, 55] : Str), .int .i64 595]⟩)), (12, .v (.agg ⟨[strV ([114, 101, 118, 101, 110, 117, 101] : Str), .int .i64 (-500)]⟩)), (13, .v (.agg ⟨[strV ([116, 97, 120, 58, 118, 111, 105, 99, 101] : Str), .int .i64 (-95)]⟩))] [(1, ⟨[.int .i64 y6.At, strV y6.Text, .slice A15 (List.length y6.Posts) c16], 24⟩), (2, ⟨[.int .i64 y42.At, strV y42.Text, .slice A51 (List.length y42.Posts) c52], 24⟩)] (by kernel_rfl) fun β63 a64 w65 h66 => ?_
  clear h61
  refine step_buildSlice tabOk h66 rfl rfl (r := rApiPost) (xs := ([(⟨([114, 101, 99, 101, 105, 118, 97, 98, 108, 101, 58, 49, 55] : Str), 595⟩ : ApiPost), (⟨([114, 101, 118, 101, 110, 117, 101] : Str), (-500)⟩ : ApiPost), (⟨([116, 97, 120, 58, 118, 111, 105, 99, 101] : Str), (-95)⟩ : ApiPost)] : List ApiPost)) (vs := [.agg ⟨[strV ([114, 101, 99, 101, 105, 118, 97, 98, 108, 101, 58, 49, 55] : Str), .int .i64 595]⟩, .agg ⟨[strV ([114, 101, 118, 101, 110, 117, 101] : Str), .int .i64 (-500)]⟩, .agg ⟨[strV ([116, 97, 120, 58, 118, 111, 105, 99, 101] : Str), .int .i64 (-95)]⟩]) (pvs := [(0, .agg ⟨[strV ([114, 101, 99, 101, 105, 118, 97, 98, 108, 101, 58, 49, 55] : Str), .int .i64 595]⟩), (1, .agg ⟨[strV ([114, 101, 118, 101, 110, 117, 101] : Str), .int .i64 (-500)]⟩), (2, .agg ⟨[strV ([116, 97, 120, 58, 118, 111, 105, 99, 101] : Str), .int .i64 (-95)]⟩)]) (by kernel_rfl) tb22 rfl tb38 rfl rfl rfl rfl rfl (by kernel_rfl) ⟨(im_ApiPost (x := (⟨([114, 101, 99, 101, 105, 118, 97, 98, 108, 101, 58, 49, 55] : Str), 595⟩ : ApiPost))), (im_ApiPost (x := (⟨([114, 101, 118, 101, 110, 117, 101] : Str), (-500)⟩ : ApiPost))), (im_ApiPost (x := (⟨([116, 97, 120, 58, 118, 111, 105, 99, 101] : Str), (-95)⟩ : ApiPost))), trivial⟩ fun A67 c68 a70 w71 hv69 h72 => ?_
  clear h66
  have h73 := h72.addD (d := DF.v (rSl rApiPost) ([(⟨([114, 101, 99, 101, 105, 118, 97, 98, 108, 101, 58, 49, 55] : Str), 595⟩ : ApiPost), (⟨([114, 101, 118, 101, 110, 117, 101] : Str), (-500)⟩ : ApiPost), (⟨([116, 97, 120, 58, 118, 111, 105, 99, 101] : Str), (-95)⟩ : ApiPost)] : List ApiPost) (.slice A67 (List.length ([(⟨([114, 101, 99, 101, 105, 118, 97, 98, 108, 101, 58, 49, 55] : Str), 595⟩ : ApiPost), (⟨([114, 101, 118, 101, 110, 117, 101] : Str), (-500)⟩ : ApiPost), (⟨([116, 97, 120, 58, 118, 111, 105, 99, 101] : Str), (-95)⟩ : ApiPost)] : List ApiPost)) c68)) hv69
  clear h72
  refine evalS_ok tabOk h73 1 [1, 2, 3] [1, 2] [(1, .o 1 0), (2, .o 2 0), (3, .v (.slice A67 (List.length ([(⟨([114, 101, 99, 101, 105, 118, 97, 98, 108, 101, 58, 49, 55] : Str), 595⟩ : ApiPost), (⟨([114, 101, 118, 101, 110, 117, 101] : Str), (-500)⟩ : ApiPost), (⟨([116, 97, 120, 58, 118, 111, 105, 99, 101] : Str), (-95)⟩ : ApiPost)] : List ApiPost)) c68))] [(1, ⟨[.int .i64 y6.At, strV y6.Text, .slice A15 (List.length y6.Posts) c16], 24⟩), (2, ⟨[.int .i64 y42.At, strV y42.Text, .slice A51 (List.length y42.Posts) c52], 24⟩)] (by kernel_rfl) fun β74 a75 w76 h77 => ?_
  clear h73
  have h78 : Sb β74 (cx 54 ok w) [(1, .o 1 0), (2, .o 2 0), (3, .v (.slice A67 (List.length ([(⟨([114, 101, 99, 101, 105, 118, 97, 98, 108, 101, 58, 49, 55] : Str), 595⟩ : ApiPost), (⟨([114, 101, 118, 101, 110, 117, 101] : Str), (-500)⟩ : ApiPost), (⟨([116, 97, 120, 58, 118, 111, 105, 99, 101] : Str), (-95)⟩ : ApiPost)] : List ApiPost)) c68))] [DF.v (rSl rApiPost) ([(⟨([114, 101, 99, 101, 105, 118, 97, 98, 108, 101, 58, 49, 55] : Str), 595⟩ : ApiPost), (⟨([114, 101, 118, 101, 110, 117, 101] : Str), (-500)⟩ : ApiPost), (⟨([116, 97, 120, 58, 118, 111, 105, 99, 101] : Str), (-95)⟩ : ApiPost)] : List ApiPost) (.slice A67 (List.length ([(⟨([114, 101, 99, 101, 105, 118, 97, 98, 108, 101, 58, 49, 55] : Str), 595⟩ : ApiPost), (⟨([114, 101, 118, 101, 110, 117, 101] : Str), (-500)⟩ : ApiPost), (⟨([116, 97, 120, 58, 118, 111, 105, 99, 101] : Str), (-95)⟩ : ApiPost)] : List ApiPost)) c68), DF.v (rSl rApiPost) y6.Posts (.slice A15 (List.length y6.Posts) c16), DF.v (rSl rApiPost) y42.Posts (.slice A51 (List.length y42.Posts) c52)] [(1, ⟨[.int .i64 y6.At, strV y6.Text, .slice A15 (List.length y6.Posts) c16], 24⟩), (2, ⟨[.int .i64 y42.At, strV y42.Text, .slice A51 (List.length y42.Posts) c52], 24⟩)] [] a75 w76 := h77.sel [1, 2, 3] [0, 1, 2] [1, 2]
  clear h77
  refine wpl_end (hq62 _ _ ?_)
  refine seq_list fun Q79 hq79 => ?_
  refine evalS_ok tabOk h78 2 [1, 2, 3, 15, 16] [1, 2] [(1, .o 1 0), (2, .o 2 0), (3, .v (.slice A67 (List.length ([(⟨([114, 101, 99, 101, 105, 118, 97, 98, 108, 101, 58, 49, 55] : Str), 595⟩ : ApiPost), (⟨([114, 101, 118, 101, 110, 117, 101] : Str), (-500)⟩ : ApiPost), (⟨([116, 97, 120, 58, 118, 111, 105, 99, 101] : Str), (-95)⟩ : ApiPost)] : List ApiPost)) c68)), (15, .v (.agg ⟨[.int .i64 y42.At, strV y42.Text, .slice A51 (List.length y42.Posts) c52]⟩)), (16, .v (.agg ⟨[.int .i64 y6.At, strV y6.Text, .slice A15 (List.length y6.Posts) c16]⟩))] [(1, ⟨[.int .i64 y6.At, strV y6.Text, .slice A15 (List.length y6.Posts) c16], 24⟩), (2, ⟨[.int .i64 y42.At, strV y42.Text, .slice A51 (List.length y42.Posts) c52], 24⟩)] (by kernel_rfl) fun β80 a81 w82 h83 => ?_
  clear h78
  refine step_buildSlice tabOk h83 rfl rfl (r := rApiEntry) (xs := ([y42, y6] : List ApiEntry)) (vs := [.agg ⟨[.int .i64 y42.At, strV y42.Text, .slice A51 (List.length y42.Posts) c52]⟩, .agg ⟨[.int .i64 y6.At, strV y6.Text, .slice A15 (List.length y6.Posts) c16]⟩]) (pvs := [(0, .agg ⟨[.int .i64 y42.At, strV y42.Text, .slice A51 (List.length y42.Posts) c52]⟩), (1, .agg ⟨[.int .i64 y6.At, strV y6.Text, .slice A15 (List.length y6.Posts) c16]⟩)]) (by kernel_rfl) tb30 rfl tb24 rfl rfl rfl rfl rfl (by kernel_rfl) ⟨(im_ApiEntry (x := y42) (h83.d 2 rfl)), (im_ApiEntry (x := y6) (h83.d 1 rfl)), trivial⟩ fun A84 c85 a87 w88 hv86 h89 => ?_
  clear h83
  have h90 := h89.addD (d := DF.v (rSl rApiEntry) ([y42, y6] : List ApiEntry) (.slice A84 (List.length ([y42, y6] : List ApiEntry)) c85)) hv86
  clear h89
  obtain ⟨y91, hy91, hF92⟩ := bindE hF43
  clear hF43
  refine step_call h90 rfl rfl runs17 (vs := [(.slice A84 (List.length ([y42, y6] : List ApiEntry)) c85)]) (by kernel_rfl) (c_ledger_Trial (x0 := ([y42, y6] : List ApiEntry)) h90.okLt N (h90.d 0 rfl) hy91) fun v93 a96 w97 hR94 hk95 h98 => ?_
  clear h90
  have hv99 := isV.weak hR94 hk95
  obtain ⟨A100, c101, rfl, hs102⟩ := slForm hv99
  have h103 := h98.addD (d := DF.v (rSl rApiPost) y91 (.slice A100 (List.length y91) c101)) hs102
  clear h98
  refine evalS_ok tabOk h103 1 [1, 2, 3, 4] [1, 2] [(1, .o 1 0), (2, .o 2 0), (3, .v (.slice A67 (List.length ([(⟨([114, 101, 99, 101, 105, 118, 97, 98, 108, 101, 58, 49, 55] : Str), 595⟩ : ApiPost), (⟨([114, 101, 118, 101, 110, 117, 101] : Str), (-500)⟩ : ApiPost), (⟨([116, 97, 120, 58, 118, 111, 105, 99, 101] : Str), (-95)⟩ : ApiPost)] : List ApiPost)) c68)), (4, .v (.slice A100 (List.length y91) c101))] [(1, ⟨[.int .i64 y6.At, strV y6.Text, .slice A15 (List.length y6.Posts) c16], 24⟩), (2, ⟨[.int .i64 y42.At, strV y42.Text, .slice A51 (List.length y42.Posts) c52], 24⟩)] (by kernel_rfl) fun β104 a105 w106 h107 => ?_
  clear h103
  have h108 : Sb β104 (cx 54 ok w) [(1, .o 1 0), (2, .o 2 0), (3, .v (.slice A67 (List.length ([(⟨([114, 101, 99, 101, 105, 118, 97, 98, 108, 101, 58, 49, 55] : Str), 595⟩ : ApiPost), (⟨([114, 101, 118, 101, 110, 117, 101] : Str), (-500)⟩ : ApiPost), (⟨([116, 97, 120, 58, 118, 111, 105, 99, 101] : Str), (-95)⟩ : ApiPost)] : List ApiPost)) c68)), (4, .v (.slice A100 (List.length y91) c101))] [DF.v (rSl rApiPost) ([(⟨([114, 101, 99, 101, 105, 118, 97, 98, 108, 101, 58, 49, 55] : Str), 595⟩ : ApiPost), (⟨([114, 101, 118, 101, 110, 117, 101] : Str), (-500)⟩ : ApiPost), (⟨([116, 97, 120, 58, 118, 111, 105, 99, 101] : Str), (-95)⟩ : ApiPost)] : List ApiPost) (.slice A67 (List.length ([(⟨([114, 101, 99, 101, 105, 118, 97, 98, 108, 101, 58, 49, 55] : Str), 595⟩ : ApiPost), (⟨([114, 101, 118, 101, 110, 117, 101] : Str), (-500)⟩ : ApiPost), (⟨([116, 97, 120, 58, 118, 111, 105, 99, 101] : Str), (-95)⟩ : ApiPost)] : List ApiPost)) c68), DF.v (rSl rApiPost) y91 (.slice A100 (List.length y91) c101), DF.v (rSl rApiPost) y6.Posts (.slice A15 (List.length y6.Posts) c16), DF.v (rSl rApiPost) y42.Posts (.slice A51 (List.length y42.Posts) c52)] [(1, ⟨[.int .i64 y6.At, strV y6.Text, .slice A15 (List.length y6.Posts) c16], 24⟩), (2, ⟨[.int .i64 y42.At, strV y42.Text, .slice A51 (List.length y42.Posts) c52], 24⟩)] [] a105 w106 := h107.sel [1, 2, 3, 4] [2, 0, 3, 4] [1, 2]
  clear h107
  refine wpl_end (hq79 _ _ ?_)
  obtain ⟨g110, hv111, hF112⟩ := bindE hF92
  clear hF92
  refine seq_join (J := fun a w' => ∃ β, Sb β (cx 54 ok w) [(0, .v (.bool g110))] [] [] [] a w') ?_ ?_
  · skip
    rintro a113 w114 ⟨β115, h116⟩
    refine wp_ret ?_
    refine hr _ _ ?_
    obtain rfl := Option.some.inj hF112
    exact ret1_ok h116 rfl rfl (isV_bool.2 rfl)
  · skip
    refine region_ok ?_
    refine evalS_ok tabOk h108 4 [1, 2, 3, 4, 20, 21, 22] [1, 2] [(1, .o 1 0), (2, .o 2 0), (3, .v (.slice A67 (List.length ([(⟨([114, 101, 99, 101, 105, 118, 97, 98, 108, 101, 58, 49, 55] : Str), 595⟩ : ApiPost), (⟨([114, 101, 118, 101, 110, 117, 101] : Str), (-500)⟩ : ApiPost), (⟨([116, 97, 120, 58, 118, 111, 105, 99, 101] : Str), (-95)⟩ : ApiPost)] : List ApiPost)) c68)), (4, .v (.slice A100 (List.length y91) c101)), (20, .v (.slice A15 (List.length y6.Posts) c16)), (21, .v (.agg ⟨[strV ([99, 97, 115, 104] : Str), .int .i64 595]⟩)), (22, .v (.agg ⟨[strV ([114, 101, 99, 101, 105, 118, 97, 98, 108, 101, 58, 49, 55] : Str), .int .i64 (-595)]⟩))] [(1, ⟨[.int .i64 y6.At, strV y6.Text, .slice A15 (List.length y6.Posts) c16], 24⟩), (2, ⟨[.int .i64 y42.At, strV y42.Text, .slice A51 (List.length y42.Posts) c52], 24⟩)] (by kernel_rfl) fun β117 a118 w119 h120 => ?_
    clear h108
    refine step_buildSlice tabOk h120 rfl rfl (r := rApiPost) (xs := ([(⟨([99, 97, 115, 104] : Str), 595⟩ : ApiPost), (⟨([114, 101, 99, 101, 105, 118, 97, 98, 108, 101, 58, 49, 55] : Str), (-595)⟩ : ApiPost)] : List ApiPost)) (vs := [.agg ⟨[strV ([99, 97, 115, 104] : Str), .int .i64 595]⟩, .agg ⟨[strV ([114, 101, 99, 101, 105, 118, 97, 98, 108, 101, 58, 49, 55] : Str), .int .i64 (-595)]⟩]) (pvs := [(0, .agg ⟨[strV ([99, 97, 115, 104] : Str), .int .i64 595]⟩), (1, .agg ⟨[strV ([114, 101, 99, 101, 105, 118, 97, 98, 108, 101, 58, 49, 55] : Str), .int .i64 (-595)]⟩)]) (by kernel_rfl) tb22 rfl tb38 rfl rfl rfl rfl rfl (by kernel_rfl) ⟨(im_ApiPost (x := (⟨([99, 97, 115, 104] : Str), 595⟩ : ApiPost))), (im_ApiPost (x := (⟨([114, 101, 99, 101, 105, 118, 97, 98, 108, 101, 58, 49, 55] : Str), (-595)⟩ : ApiPost))), trivial⟩ fun A121 c122 a124 w125 hv123 h126 => ?_
    clear h120
    have h127 := h126.addD (d := DF.v (rSl rApiPost) ([(⟨([99, 97, 115, 104] : Str), 595⟩ : ApiPost), (⟨([114, 101, 99, 101, 105, 118, 97, 98, 108, 101, 58, 49, 55] : Str), (-595)⟩ : ApiPost)] : List ApiPost) (.slice A121 (List.length ([(⟨([99, 97, 115, 104] : Str), 595⟩ : ApiPost), (⟨([114, 101, 99, 101, 105, 118, 97, 98, 108, 101, 58, 49, 55] : Str), (-595)⟩ : ApiPost)] : List ApiPost)) c122)) hv123
    clear h126
    obtain ⟨y128, hy128, hv129⟩ := bindE hv111
    clear hv111
    refine step_call h127 rfl rfl runs16 (vs := [(.slice A15 (List.length y6.Posts) c16), (.slice A121 (List.length ([(⟨([99, 97, 115, 104] : Str), 595⟩ : ApiPost), (⟨([114, 101, 99, 101, 105, 118, 97, 98, 108, 101, 58, 49, 55] : Str), (-595)⟩ : ApiPost)] : List ApiPost)) c122)]) (by kernel_rfl) (c_billingref47_SamePosts (x0 := y6.Posts) (x1 := ([(⟨([99, 97, 115, 104] : Str), 595⟩ : ApiPost), (⟨([114, 101, 99, 101, 105, 118, 97, 98, 108, 101, 58, 49, 55] : Str), (-595)⟩ : ApiPost)] : List ApiPost)) h127.okLt N (h127.d 3 rfl) (h127.d 0 rfl) hy128) fun v130 a133 w134 hR131 hk132 h135 => ?_
    clear h127
    have hv136 := isV.weak hR131 hk132
    obtain rfl := isV_bool.1 hv136
    refine evalS_ok tabOk h135 1 [1, 2, 3, 4, 25] [1, 2] [(1, .o 1 0), (2, .o 2 0), (3, .v (.slice A67 (List.length ([(⟨([114, 101, 99, 101, 105, 118, 97, 98, 108, 101, 58, 49, 55] : Str), 595⟩ : ApiPost), (⟨([114, 101, 118, 101, 110, 117, 101] : Str), (-500)⟩ : ApiPost), (⟨([116, 97, 120, 58, 118, 111, 105, 99, 101] : Str), (-95)⟩ : ApiPost)] : List ApiPost)) c68)), (4, .v (.slice A100 (List.length y91) c101)), (25, .v (.bool y128))] [(1, ⟨[.int .i64 y6.At, strV y6.Text, .slice A15 (List.length y6.Posts) c16], 24⟩), (2, ⟨[.int .i64 y42.At, strV y42.Text, .slice A51 (List.length y42.Posts) c52], 24⟩)] (by kernel_rfl) fun β137 a138 w139 h140 => ?_
    clear h135
    refine bcases (b := y128) (fun hb141 => ?_) (fun hb141 => ?_)
    · skip
      have hv142 := ifT hb141 hv129
      clear hv129
      have h143 := h140.reb (t := 25) rfl hb141
      clear h140
      refine evalS_ok tabOk h143 5 [1, 2, 3, 4, 30] [1, 2] [(1, .o 1 0), (2, .o 2 0), (3, .v (.slice A67 (List.length ([(⟨([114, 101, 99, 101, 105, 118, 97, 98, 108, 101, 58, 49, 55] : Str), 595⟩ : ApiPost), (⟨([114, 101, 118, 101, 110, 117, 101] : Str), (-500)⟩ : ApiPost), (⟨([116, 97, 120, 58, 118, 111, 105, 99, 101] : Str), (-95)⟩ : ApiPost)] : List ApiPost)) c68)), (4, .v (.slice A100 (List.length y91) c101)), (30, .v (.bool (y6.At == 100)))] [(1, ⟨[.int .i64 y6.At, strV y6.Text, .slice A15 (List.length y6.Posts) c16], 24⟩), (2, ⟨[.int .i64 y42.At, strV y42.Text, .slice A51 (List.length y42.Posts) c52], 24⟩)] (by kernel_rfl) fun β144 a145 w146 h147 => ?_
      clear h143
      refine bcases (b := (y6.At == 100)) (fun hb148 => ?_) (fun hb148 => ?_)
      · skip
        have hv149 := ifT hb148 hv142
        clear hv142
        have h150 := h147.reb (t := 30) rfl hb148
        clear h147
        refine evalS_ok tabOk h150 5 [1, 2, 3, 4, 35] [1, 2] [(1, .o 1 0), (2, .o 2 0), (3, .v (.slice A67 (List.length ([(⟨([114, 101, 99, 101, 105, 118, 97, 98, 108, 101, 58, 49, 55] : Str), 595⟩ : ApiPost), (⟨([114, 101, 118, 101, 110, 117, 101] : Str), (-500)⟩ : ApiPost), (⟨([116, 97, 120, 58, 118, 111, 105, 99, 101] : Str), (-95)⟩ : ApiPost)] : List ApiPost)) c68)), (4, .v (.slice A100 (List.length y91) c101)), (35, .v (.bool (y42.At == 49)))] [(1, ⟨[.int .i64 y6.At, strV y6.Text, .slice A15 (List.length y6.Posts) c16], 24⟩), (2, ⟨[.int .i64 y42.At, strV y42.Text, .slice A51 (List.length y42.Posts) c52], 24⟩)] (by kernel_rfl) fun β151 a152 w153 h154 => ?_
        clear h150
        refine bcases (b := (y42.At == 49)) (fun hb155 => ?_) (fun hb155 => ?_)
        · skip
          have hv156 := ifT hb155 hv149
          clear hv149
          have h157 := h154.reb (t := 35) rfl hb155
          clear h154
          refine evalS_ok tabOk h157 3 [1, 4, 35, 37, 38] [1] [(1, .o 1 0), (4, .v (.slice A100 (List.length y91) c101)), (35, .v (.bool true)), (37, .v (.slice A51 (List.length y42.Posts) c52)), (38, .v (.slice A67 (List.length ([(⟨([114, 101, 99, 101, 105, 118, 97, 98, 108, 101, 58, 49, 55] : Str), 595⟩ : ApiPost), (⟨([114, 101, 118, 101, 110, 117, 101] : Str), (-500)⟩ : ApiPost), (⟨([116, 97, 120, 58, 118, 111, 105, 99, 101] : Str), (-95)⟩ : ApiPost)] : List ApiPost)) c68))] [(1, ⟨[.int .i64 y6.At, strV y6.Text, .slice A15 (List.length y6.Posts) c16], 24⟩)] (by kernel_rfl) fun β158 a159 w160 h161 => ?_
          clear h157
          obtain ⟨y162, hy162, hv163⟩ := bindE hv156
          clear hv156
          refine step_call h161 rfl rfl runs16 (vs := [(.slice A51 (List.length y42.Posts) c52), (.slice A67 (List.length ([(⟨([114, 101, 99, 101, 105, 118, 97, 98, 108, 101, 58, 49, 55] : Str), 595⟩ : ApiPost), (⟨([114, 101, 118, 101, 110, 117, 101] : Str), (-500)⟩ : ApiPost), (⟨([116, 97, 120, 58, 118, 111, 105, 99, 101] : Str), (-95)⟩ : ApiPost)] : List ApiPost)) c68)]) (by kernel_rfl) (c_billingref47_SamePosts (x0 := y42.Posts) (x1 := ([(⟨([114, 101, 99, 101, 105, 118, 97, 98, 108, 101, 58, 49, 55] : Str), 595⟩ : ApiPost), (⟨([114, 101, 118, 101, 110, 117, 101] : Str), (-500)⟩ : ApiPost), (⟨([116, 97, 120, 58, 118, 111, 105, 99, 101] : Str), (-95)⟩ : ApiPost)] : List ApiPost)) h161.okLt N (h161.d 4 rfl) (h161.d 1 rfl) hy162) fun v164 a167 w168 hR165 hk166 h169 => ?_
          clear h161
          have hv170 := isV.weak hR165 hk166
          obtain rfl := isV_bool.1 hv170
          refine evalS_ok tabOk h169 2 [1, 4, 41] [1] [(1, .o 1 0), (4, .v (.slice A100 (List.length y91) c101)), (41, .v (.bool y162))] [(1, ⟨[.int .i64 y6.At, strV y6.Text, .slice A15 (List.length y6.Posts) c16], 24⟩)] (by kernel_rfl) fun β171 a172 w173 h174 => ?_
          clear h169
          refine bcases (b := y162) (fun hb175 => ?_) (fun hb175 => ?_)
          · skip
            have hv176 := ifT hb175 hv163
            clear hv163
            have h177 := h174.reb (t := 41) rfl hb175
            clear h174
            refine evalS_ok tabOk h177 4 [1, 41, 42, 43, 44, 45] [1] [(1, .o 1 0), (41, .v (.bool true)), (42, .v (.slice A100 (List.length y91) c101)), (43, .v (.agg ⟨[strV ([99, 97, 115, 104] : Str), .int .i64 595]⟩)), (44, .v (.agg ⟨[strV ([114, 101, 118, 101, 110, 117, 101] : Str), .int .i64 (-500)]⟩)), (45, .v (.agg ⟨[strV ([116, 97, 120, 58, 118, 111, 105, 99, 101] : Str), .int .i64 (-95)]⟩))] [(1, ⟨[.int .i64 y6.At, strV y6.Text, .slice A15 (List.length y6.Posts) c16], 24⟩)] (by kernel_rfl) fun β178 a179 w180 h181 => ?_
            clear h177
            refine step_buildSlice tabOk h181 rfl rfl (r := rApiPost) (xs := ([(⟨([99, 97, 115, 104] : Str), 595⟩ : ApiPost), (⟨([114, 101, 118, 101, 110, 117, 101] : Str), (-500)⟩ : ApiPost), (⟨([116, 97, 120, 58, 118, 111, 105, 99, 101] : Str), (-95)⟩ : ApiPost)] : List ApiPost)) (vs := [.agg ⟨[strV ([99, 97, 115, 104] : Str), .int .i64 595]⟩, .agg ⟨[strV ([114, 101, 118, 101, 110, 117, 101] : Str), .int .i64 (-500)]⟩, .agg ⟨[strV ([116, 97, 120, 58, 118, 111, 105, 99, 101] : Str), .int .i64 (-95)]⟩]) (pvs := [(0, .agg ⟨[strV ([99, 97, 115, 104] : Str), .int .i64 595]⟩), (1, .agg ⟨[strV ([114, 101, 118, 101, 110, 117, 101] : Str), .int .i64 (-500)]⟩), (2, .agg ⟨[strV ([116, 97, 120, 58, 118, 111, 105, 99, 101] : Str), .int .i64 (-95)]⟩)]) (by kernel_rfl) tb22 rfl tb38 rfl rfl rfl rfl rfl (by kernel_rfl) ⟨(im_ApiPost (x := (⟨([99, 97, 115, 104] : Str), 595⟩ : ApiPost))), (im_ApiPost (x := (⟨([114, 101, 118, 101, 110, 117, 101] : Str), (-500)⟩ : ApiPost))), (im_ApiPost (x := (⟨([116, 97, 120, 58, 118, 111, 105, 99, 101] : Str), (-95)⟩ : ApiPost))), trivial⟩ fun A182 c183 a185 w186 hv184 h187 => ?_
            clear h181
            have h188 := h187.addD (d := DF.v (rSl rApiPost) ([(⟨([99, 97, 115, 104] : Str), 595⟩ : ApiPost), (⟨([114, 101, 118, 101, 110, 117, 101] : Str), (-500)⟩ : ApiPost), (⟨([116, 97, 120, 58, 118, 111, 105, 99, 101] : Str), (-95)⟩ : ApiPost)] : List ApiPost) (.slice A182 (List.length ([(⟨([99, 97, 115, 104] : Str), 595⟩ : ApiPost), (⟨([114, 101, 118, 101, 110, 117, 101] : Str), (-500)⟩ : ApiPost), (⟨([116, 97, 120, 58, 118, 111, 105, 99, 101] : Str), (-95)⟩ : ApiPost)] : List ApiPost)) c183)) hv184
            clear h187
            obtain ⟨y189, hy189, hv190⟩ := bindE hv176
            clear hv176
            refine step_call h188 rfl rfl runs16 (vs := [(.slice A100 (List.length y91) c101), (.slice A182 (List.length ([(⟨([99, 97, 115, 104] : Str), 595⟩ : ApiPost), (⟨([114, 101, 118, 101, 110, 117, 101] : Str), (-500)⟩ : ApiPost), (⟨([116, 97, 120, 58, 118, 111, 105, 99, 101] : Str), (-95)⟩ : ApiPost)] : List ApiPost)) c183)]) (by kernel_rfl) (c_billingref47_SamePosts (x0 := y91) (x1 := ([(⟨([99, 97, 115, 104] : Str), 595⟩ : ApiPost), (⟨([114, 101, 118, 101, 110, 117, 101] : Str), (-500)⟩ : ApiPost), (⟨([116, 97, 120, 58, 118, 111, 105, 99, 101] : Str), (-95)⟩ : ApiPost)] : List ApiPost)) h188.okLt N (h188.d 3 rfl) (h188.d 0 rfl) hy189) fun v191 a194 w195 hR192 hk193 h196 => ?_
            clear h188
            have hv197 := isV.weak hR192 hk193
            obtain rfl := isV_bool.1 hv197
            refine evalS_ok tabOk h196 2 [1, 49] [1] [(1, .o 1 0), (49, .v (.bool y189))] [(1, ⟨[.int .i64 y6.At, strV y6.Text, .slice A15 (List.length y6.Posts) c16], 24⟩)] (by kernel_rfl) fun β198 a199 w200 h201 => ?_
            clear h196
            refine bcases (b := y189) (fun hb202 => ?_) (fun hb202 => ?_)
            · skip
              have hv203 := ifT hb202 hv190
              clear hv190
              have h204 := h201.reb (t := 49) rfl hb202
              clear h201
              refine evalS_ok tabOk h204 1 [49, 50] [] [(49, .v (.bool true)), (50, .v (.agg ⟨[.int .i64 y6.At, strV y6.Text, .slice A15 (List.length y6.Posts) c16]⟩))] [] (by kernel_rfl) fun β205 a206 w207 h208 => ?_
              clear h204
              obtain ⟨y209, hy209, hv210⟩ := bindE hv203
              clear hv203
              refine step_call h208 rfl rfl runs9 (vs := [(.agg ⟨[.int .i64 y6.At, strV y6.Text, .slice A15 (List.length y6.Posts) c16]⟩)]) (by kernel_rfl) (c_ledger_Check (x0 := y6) h208.okLt N (h208.d 4 rfl) hy209) fun v211 a214 w215 hR212 hk213 h216 => ?_
              clear h208
              have hv217 := isV.weak hR212 hk213
              obtain rfl := isV_int.1 hv217
              refine evalS_ok tabOk h216 3 [0] [] [(0, .v (.bool (y209 == 0)))] [] (by kernel_rfl) fun β218 a219 w220 h221 => ?_
              clear h216
              obtain rfl := Option.some.inj hv210
              have h222 : Sb β218 (cx 54 ok w) [(0, .v (.bool (y209 == 0)))] [] [] [] a219 w220 := h221.sel [0] [] []
              clear h221
              exact wpl_end (then_n ⟨_, h222⟩)
            · skip
              have hv223 := ifF hb202 hv190
              clear hv190
              have h224 := h201.reb (t := 49) rfl hb202
              clear h201
              refine evalS_ok tabOk h224 5 [0] [] [(0, .v (.bool false))] [] (by kernel_rfl) fun β225 a226 w227 h228 => ?_
              clear h224
              obtain rfl := Option.some.inj hv223
              have h229 : Sb β225 (cx 54 ok w) [(0, .v (.bool false))] [] [] [] a226 w227 := h228.sel [0] [] []
              clear h228
              exact wpl_end (then_n ⟨_, h229⟩)
          · skip
            have hv230 := ifF hb175 hv163
            clear hv163
            have h231 := h174.reb (t := 41) rfl hb175
            clear h174
            refine evalS_ok tabOk h231 13 [0] [] [(0, .v (.bool false))] [] (by kernel_rfl) fun β232 a233 w234 h235 => ?_
            clear h231
            obtain rfl := Option.some.inj hv230
            have h236 : Sb β232 (cx 54 ok w) [(0, .v (.bool false))] [] [] [] a233 w234 := h235.sel [0] [] []
            clear h235
            exact wpl_end (then_n ⟨_, h236⟩)
        · skip
          have hv237 := ifF hb155 hv149
          clear hv149
          have h238 := h154.reb (t := 35) rfl hb155
          clear h154
          refine evalS_ok tabOk h238 19 [0] [] [(0, .v (.bool false))] [] (by kernel_rfl) fun β239 a240 w241 h242 => ?_
          clear h238
          obtain rfl := Option.some.inj hv237
          have h243 : Sb β239 (cx 54 ok w) [(0, .v (.bool false))] [] [] [] a240 w241 := h242.sel [0] [] []
          clear h242
          exact wpl_end (then_n ⟨_, h243⟩)
      · skip
        have hv244 := ifF hb148 hv142
        clear hv142
        have h245 := h147.reb (t := 30) rfl hb148
        clear h147
        refine evalS_ok tabOk h245 24 [0] [] [(0, .v (.bool false))] [] (by kernel_rfl) fun β246 a247 w248 h249 => ?_
        clear h245
        obtain rfl := Option.some.inj hv244
        have h250 : Sb β246 (cx 54 ok w) [(0, .v (.bool false))] [] [] [] a247 w248 := h249.sel [0] [] []
        clear h249
        exact wpl_end (then_n ⟨_, h250⟩)
    · skip
      have hv251 := ifF hb141 hv129
      clear hv129
      have h252 := h140.reb (t := 25) rfl hb141
      clear h140
      refine evalS_ok tabOk h252 29 [0] [] [(0, .v (.bool false))] [] (by kernel_rfl) fun β253 a254 w255 h256 => ?_
      clear h252
      obtain rfl := Option.some.inj hv251
      have h257 : Sb β253 (cx 54 ok w) [(0, .v (.bool false))] [] [] [] a254 w255 := h256.sel [0] [] []
      clear h256
      exact wpl_end (then_n ⟨_, h257⟩)

theorem c_billingref47_Clone {ok : Ok} {w : World} (hok : ∀ b o, ok b o → b < w.heap.size) (N : Nat) {x0 : ApiEntry} {A1 : Option Addr} {c2 : Nat} (d0 : isV (rSl rApiPost) ok w x0.Posts (.slice A1 (List.length x0.Posts) c2)) {r : ApiEntry} (hF : billingref47_Clone N x0 = some r) :
    Calls Try.prog 10 ⟨[.agg ⟨[.int .i64 x0.At, strV x0.Text, .slice A1 (List.length x0.Posts) c2]⟩]⟩ w (Ret w (R1 rApiEntry ok w r)) := by
  rw [billingref47_Clone] at hF
  refine enter_ok (n := 12) hok Try.func10 rfl rfl rfl (D := [DF.v (rSl rApiPost) x0.Posts (.slice A1 (List.length x0.Posts) c2)]) ⟨d0, trivial⟩ (fun a h => ?_)
  simp only [zipG, Nat.zero_add, Nat.reduceAdd] at h
  refine start_ctx fun Q hn hr => ?_
  refine seq_region tabOk h [1, 2] [1, 2] [(1, .o 1 0), (2, .o 2 0)] [(1, ⟨[.int .i64 x0.At, strV x0.Text, .slice A1 (List.length x0.Posts) c2], 24⟩), (2, ⟨[.int .i64 0, strV ([] : Str), .slice none 0 0], 24⟩)] (by kernel_rfl) fun β3 a4 w5 h6 => ?_
  clear h
  refine seq_draw fun Q7 hq7 => ?_
  obtain ⟨z8, hz8, hF9⟩ := bindE hF
  clear hF
  have h11 : Sb β3 (cx 12 ok w) [(1, .o 1 0), (2, .o 2 0)] [DF.v (rSl rApiPost) x0.Posts (.slice A1 (List.length x0.Posts) c2)] [(1, ⟨[.int .i64 x0.At, strV x0.Text, .slice A1 (List.length x0.Posts) c2], 24⟩), (2, ⟨[.int .i64 0, strV ([] : Str), .slice none 0 0], 24⟩)] [] a4 w5 := h6.sel [1, 2] [0] [1, 2]
  refine draw_rule h11 rfl (by kernel_rfl) 9 [3, 4, 5, 6, 7, 8, 9, 10, 11] [FV.eq (.pointer (some ⟨β3 1, 0, none⟩)), FV.eq (.int .i64 x0.At), FV.eq (.pointer (some ⟨β3 1, 1, none⟩)), FV.eq (strV x0.Text), FV.emp (rSl rApiPost) ([] : List ApiPost), FV.eq (.pointer (some ⟨β3 1, 2, none⟩)), FV.eq (.slice A1 (List.length x0.Posts) c2), FV.rep (rSl rApiPost) z8, FV.rep rApiEntry (⟨x0.At, x0.Text, z8⟩ : ApiEntry)] rfl rfl rfl (by kernel_rfl) (by kernel_rfl) (by kernel_rfl) (by kernel_rfl) (by kernel_rfl) ?_ ?_
  · skip
    refine ⟨⟨⟨⟨⟨⟨⟨⟨⟨trivial, ?_⟩, ?_⟩, ?_⟩, ?_⟩, ?_⟩, ?_⟩, ?_⟩, ?_⟩, ?_⟩
    · skip
      intro β12 a13 w14 dX15 Ox16 Q17 h18 hq19 hp20 hk21
      refine evalS_ok tabOk h18 1 [1, 2, 3] [1, 2] [(1, .o 1 0), (2, .o 2 0), (3, .o 1 0)] [(1, ⟨[.int .i64 x0.At, strV x0.Text, .slice A1 (List.length x0.Posts) c2], 24⟩), (2, ⟨[.int .i64 0, strV ([] : Str), .slice none 0 0], 24⟩)] (by kernel_rfl) fun β22 a23 w24 h25 => ?_
      exact wpl_end (hk21 _ _ _ _ (h25.sel [1, 2] [0, 1] [1, 2]) (h25.getO rfl rfl rfl) rfl)
    · skip
      intro β26 a27 w28 dX29 Ox30 Q31 h32 hq33 hp34 hk35
      have h36 := h32.learnO (d := 3) (id := 1) (off := 0) rfl rfl rfl (hp34 0 3 _ rfl rfl rfl)
      clear h32
      refine evalS_ok tabOk h36 1 [1, 2, 4] [1, 2] [(1, .o 1 0), (2, .o 2 0), (4, .v (.int .i64 x0.At))] [(1, ⟨[.int .i64 x0.At, strV x0.Text, .slice A1 (List.length x0.Posts) c2], 24⟩), (2, ⟨[.int .i64 0, strV ([] : Str), .slice none 0 0], 24⟩)] (by kernel_rfl) fun β37 a38 w39 h40 => ?_
      exact wpl_end (hk35 _ _ _ _ (h40.sel [1, 2] [0, 1] [1, 2]) (h40.getD rfl) rfl)
    · skip
      intro β41 a42 w43 dX44 Ox45 Q46 h47 hq48 hp49 hk50
      refine evalS_ok tabOk h47 1 [1, 2, 5] [1, 2] [(1, .o 1 0), (2, .o 2 0), (5, .o 1 1)] [(1, ⟨[.int .i64 x0.At, strV x0.Text, .slice A1 (List.length x0.Posts) c2], 24⟩), (2, ⟨[.int .i64 0, strV ([] : Str), .slice none 0 0], 24⟩)] (by kernel_rfl) fun β51 a52 w53 h54 => ?_
      exact wpl_end (hk50 _ _ _ _ (h54.sel [1, 2] [0, 1] [1, 2]) (h54.getO rfl rfl rfl) rfl)
    · skip
      intro β55 a56 w57 dX58 Ox59 Q60 h61 hq62 hp63 hk64
      have h65 := h61.learnO (d := 5) (id := 1) (off := 1) rfl rfl rfl (hp63 2 5 _ rfl rfl rfl)
      clear h61
      refine evalS_ok tabOk h65 1 [1, 2, 6] [1, 2] [(1, .o 1 0), (2, .o 2 0), (6, .v (strV x0.Text))] [(1, ⟨[.int .i64 x0.At, strV x0.Text, .slice A1 (List.length x0.Posts) c2], 24⟩), (2, ⟨[.int .i64 0, strV ([] : Str), .slice none 0 0], 24⟩)] (by kernel_rfl) fun β66 a67 w68 h69 => ?_
      exact wpl_end (hk64 _ _ _ _ (h69.sel [1, 2] [0, 1] [1, 2]) (h69.getD rfl) rfl)
    · skip
      intro β70 a71 w72 dX73 Ox74 Q75 h76 hq77 hp78 hk79
      refine step_buildOwn0 tabOk h76 rfl rfl (r := rApiPost) tb22 rfl tb38 fun b86 a83 w84 hv82 h85 => ?_
      clear h76
      have h87 := h85.addD (d := DF.v (rSl rApiPost) ([] : List ApiPost) (.slice (some ⟨b86, 0, none⟩) (List.length ([] : List ApiPost)) 0)) hv82
      clear h85
      have h88 := h87.dropO 0
      clear h87
      exact wpl_end (hk79 _ _ _ _ (h88.sel [1, 2] [1, 2] [1, 2]) (by have e := h88.getD (d := 7) rfl; show _ ∧ _; rw [e]; exact ⟨⟨_, rfl⟩, (h88.d 0 rfl)⟩) rfl)
    · skip
      intro β89 a90 w91 dX92 Ox93 Q94 h95 hq96 hp97 hk98
      refine evalS_ok tabOk h95 1 [1, 2, 8] [1, 2] [(1, .o 1 0), (2, .o 2 0), (8, .o 1 2)] [(1, ⟨[.int .i64 x0.At, strV x0.Text, .slice A1 (List.length x0.Posts) c2], 24⟩), (2, ⟨[.int .i64 0, strV ([] : Str), .slice none 0 0], 24⟩)] (by kernel_rfl) fun β99 a100 w101 h102 => ?_
      exact wpl_end (hk98 _ _ _ _ (h102.sel [1, 2] [0, 1] [1, 2]) (h102.getO rfl rfl rfl) rfl)
    · skip
      intro β103 a104 w105 dX106 Ox107 Q108 h109 hq110 hp111 hk112
      have h113 := h109.learnO (d := 8) (id := 1) (off := 2) rfl rfl rfl (hp111 5 8 _ rfl rfl rfl)
      clear h109
      refine evalS_ok tabOk h113 1 [1, 2, 9] [1, 2] [(1, .o 1 0), (2, .o 2 0), (9, .v (.slice A1 (List.length x0.Posts) c2))] [(1, ⟨[.int .i64 x0.At, strV x0.Text, .slice A1 (List.length x0.Posts) c2], 24⟩), (2, ⟨[.int .i64 0, strV ([] : Str), .slice none 0 0], 24⟩)] (by kernel_rfl) fun β114 a115 w116 h117 => ?_
      exact wpl_end (hk112 _ _ _ _ (h117.sel [1, 2] [0, 1] [1, 2]) (h117.getD rfl) rfl)
    · skip
      intro β118 a119 w120 dX121 Ox122 Q123 h124 hq125 hp126 hk127
      have h128 := h124.learn (d := 7) rfl
      clear h124
      have f129 := hp126 4 7 _ rfl rfl rfl
      generalize a119.tmps.getD 7 undef = v130 at h128 f129
      obtain ⟨⟨A131, rfl⟩, hs133⟩ := f129
      have h134 := h128.addD (d := DF.v (rSl rApiPost) ([] : List ApiPost) (.slice (some ⟨A131, 0, none⟩) (List.length ([] : List ApiPost)) 0)) hs133
      clear h128
      have h135 := h134.learnE (d := 9) rfl (hp126 6 9 _ rfl rfl rfl)
      clear h134
      refine step_append0 tabOk h135 rfl rfl (r := rApiPost) tb22 rfl tb38 rfl rfl rfl rfl rfl rfl (h135.d 2 rfl) hz8 fun A136 c137 a139 w140 hv138 h141 => ?_
      clear h135
      have h142 := h141.addD (d := DF.v (rSl rApiPost) z8 (.slice A136 (List.length z8) c137)) hv138
      clear h141
      exact wpl_end (hk127 _ _ _ _ (h142.sel [1, 2] [2, 3] [1, 2]) (h142.getR rfl (h142.d 0 rfl)) rfl)
    · skip
      intro β143 a144 w145 dX146 Ox147 Q148 h149 hq150 hp151 hk152
      have h153 := h149.learnE (d := 4) rfl (hp151 1 4 _ rfl rfl rfl)
      clear h149
      have h154 := h153.learnE (d := 6) rfl (hp151 3 6 _ rfl rfl rfl)
      clear h153
      have h155 := h154.learn (d := 10) rfl
      clear h154
      have f156 := hp151 7 10 _ rfl rfl rfl
      generalize a144.tmps.getD 10 undef = v157 at h155 f156
      obtain ⟨A158, c159, rfl, hs160⟩ := slForm f156
      have h161 := h155.addD (d := DF.v (rSl rApiPost) z8 (.slice A158 (List.length z8) c159)) hs160
      clear h155
      refine evalS_ok tabOk h161 1 [1, 2, 11] [1, 2] [(1, .o 1 0), (2, .o 2 0), (11, .v (.agg ⟨[.int .i64 x0.At, strV x0.Text, .slice A158 (List.length z8) c159]⟩))] [(1, ⟨[.int .i64 x0.At, strV x0.Text, .slice A1 (List.length x0.Posts) c2], 24⟩), (2, ⟨[.int .i64 0, strV ([] : Str), .slice none 0 0], 24⟩)] (by kernel_rfl) fun β162 a163 w164 h165 => ?_
      exact wpl_end (hk152 _ _ _ _ (h165.sel [1, 2] [1, 2] [1, 2]) (h165.getR rfl (im_ApiEntry (x := (⟨x0.At, x0.Text, z8⟩ : ApiEntry)) (h165.d 0 rfl))) rfl)
  · skip
    intro β166 a167 w168 h169 ha170
    have h171 := h169.learn (d := 11) rfl
    clear h169
    have f172 := ha170 8 11 _ rfl rfl
    generalize a167.tmps.getD 11 undef = v173 at h171 f172
    obtain ⟨v176, hs177, rfl⟩ := ex_ApiEntry f172
    obtain ⟨A174, c175, rfl, hs178⟩ := slForm hs177
    have h179 := h171.addD (d := DF.v (rSl rApiPost) ((⟨x0.At, x0.Text, z8⟩ : ApiEntry).Posts) (.slice A174 (List.length ((⟨x0.At, x0.Text, z8⟩ : ApiEntry).Posts)) c175)) hs178
    clear h171
    have h180 := h179.unpin rfl
    clear h179
    refine evalS_ok tabOk h180 1 [2] [2] [(2, .o 2 0)] [(2, ⟨[.int .i64 ((⟨x0.At, x0.Text, z8⟩ : ApiEntry).At), strV ((⟨x0.At, x0.Text, z8⟩ : ApiEntry).Text), .slice A174 (List.length ((⟨x0.At, x0.Text, z8⟩ : ApiEntry).Posts)) c175], 24⟩)] (by kernel_rfl) fun β181 a182 w183 h184 => ?_
    clear h180
    have h185 : Sb β181 (cx 12 ok w) [(2, .o 2 0)] [DF.v (rSl rApiPost) ((⟨x0.At, x0.Text, z8⟩ : ApiEntry).Posts) (.slice A174 (List.length ((⟨x0.At, x0.Text, z8⟩ : ApiEntry).Posts)) c175)] [(2, ⟨[.int .i64 ((⟨x0.At, x0.Text, z8⟩ : ApiEntry).At), strV ((⟨x0.At, x0.Text, z8⟩ : ApiEntry).Text), .slice A174 (List.length ((⟨x0.At, x0.Text, z8⟩ : ApiEntry).Posts)) c175], 24⟩)] [] a182 w183 := h184.sel [2] [0] [2]
    clear h184
    refine wpl_end (hq7 _ _ ?_)
    refine wp_ret ?_
    refine hr _ _ ?_
    obtain rfl := Option.some.inj hF9
    exact ret1c_ok tabOk h185 rfl rfl rfl (v := .agg ⟨[.int .i64 ((⟨x0.At, x0.Text, z8⟩ : ApiEntry).At), strV ((⟨x0.At, x0.Text, z8⟩ : ApiEntry).Text), .slice A174 (List.length ((⟨x0.At, x0.Text, z8⟩ : ApiEntry).Posts)) c175]⟩) (by kernel_rfl) (im_ApiEntry (x := (⟨x0.At, x0.Text, z8⟩ : ApiEntry)) (isV.weak (h185.d 0 rfl) (okOf_out h185 hok)))

theorem co_billingref47_CloneAll {ok : Ok} {w : World} (hok : ∀ b o, ok b o → b < w.heap.size) (N : Nat) {x0 : (List ApiEntry)} {A1 : Option Addr} {c2 : Nat} (d0 : isV (rSl rApiEntry) ok w x0 (.slice A1 (List.length x0) c2)) {r : (List ApiEntry)} (hF : billingref47_CloneAll N x0 = some r) :
    Calls Try.prog 14 ⟨[.slice A1 (List.length x0) c2]⟩ w (Ret w (R1o (rSl rApiEntry) 24 3 ok w r)) := by
  rw [billingref47_CloneAll] at hF
  refine enter_ok (n := 21) hok Try.func14 rfl rfl rfl (D := [DF.v (rSl rApiEntry) x0 (.slice A1 (List.length x0) c2)]) ⟨d0, trivial⟩ (fun a h => ?_)
  simp only [zipG, Nat.zero_add, Nat.reduceAdd] at h
  refine start_ctx fun Q hn hr => ?_
  refine seq_region tabOk h [0] [] [(0, .v (.slice A1 (List.length x0) c2))] [] (by kernel_rfl) fun β3 a4 w5 h6 => ?_
  clear h
  refine seq_list fun Q7 hq7 => ?_
  refine step_buildOwn0 tabOk h6 rfl rfl (r := rApiEntry) tb30 rfl tb24 fun b14 a11 w12 hv10 h13 => ?_
  clear h6
  have h15 := h13.addD (d := DF.v (rSl rApiEntry) ([] : List ApiEntry) (.slice (some ⟨b14, 0, none⟩) (List.length ([] : List ApiEntry)) 0)) hv10
  clear h13
  refine evalS_ok tabOk h15 1 [0, 3] [] [(0, .v (.slice A1 (List.length x0) c2)), (3, .v (.slice (some ⟨b14, 0, none⟩) (List.length ([] : List ApiEntry)) 0))] [] (by kernel_rfl) fun β16 a17 w18 h19 => ?_
  clear h15
  have h20 : Sb β16 (cx 21 ok w) [(0, .v (.slice A1 (List.length x0) c2)), (3, .v (.slice (some ⟨b14, 0, none⟩) (List.length ([] : List ApiEntry)) 0))] [DF.v (rSl rApiEntry) x0 (.slice A1 (List.length x0) c2), DF.v (rSl rApiEntry) ([] : List ApiEntry) (.slice (some ⟨b14, 0, none⟩) (List.length ([] : List ApiEntry)) 0)] [] [⟨.slice (some ⟨b14, 0, none⟩) (List.length ([] : List ApiEntry)) 0, 24, 3⟩] a17 w18 := h19.sel [0, 3] [1, 0] []
  clear h19
  refine wpl_end (hq7 _ _ ?_)
  refine seq_ctx fun Q21 hn21 hr21 hx21 => ?_
  refine seq_region tabOk h20 [0, 3, 4] [] [(0, .v (.slice A1 (List.length x0) c2)), (3, .v (.slice (some ⟨b14, 0, none⟩) (List.length ([] : List ApiEntry)) 0)), (4, .v (.int .i64 0))] [] (by kernel_rfl) fun β22 a23 w24 h25 => ?_
  clear h20
  obtain ⟨out26, hL26, hC26⟩ := bindE hF
  clear hF
  have j30 : ∀ a w', (∃ (l27 : List ApiEntry) (A28 : Option Addr) (c29 : Nat), (∃ β, Sb β (cx 21 ok w) [(3, .v (.slice A28 (List.length l27) c29))] [DF.v (rSl rApiEntry) l27 (.slice A28 (List.length l27) c29)] [] [⟨.slice A28 (List.length l27) c29, 24, 3⟩] a w') ∧ billingref47_CloneAll_j30 N l27 = some r) → Q21 .normal a w' := by
    rintro a31 w32 ⟨l27, A28, c29, ⟨β33, h34⟩, hF35⟩
    rw [billingref47_CloneAll_j30] at hF35
    refine hn21 _ _ ?_
    refine seq_region tabOk h34 [2] [] [(2, .v (.slice A28 (List.length l27) c29))] [] (by kernel_rfl) fun β36 a37 w38 h39 => ?_
    clear h34
    refine wp_ret ?_
    refine hr _ _ ?_
    obtain rfl := Option.some.inj hF35
    exact ret1_ok h39 rfl rfl (own_out h39 hok (.head _) (h39.d 0 rfl))
  refine block_ctx fun Qb26 hnb26 hrb26 hbb26 hxb26 => ?_
  have h44 : Sb β22 (cx 21 ok w) [(0, .v (.slice A1 (List.length x0) c2)), (3, .v (.slice (some ⟨b14, 0, none⟩) (List.length ([] : List ApiEntry)) 0)), (4, .v (.int .i64 0))] [DF.v (rSl rApiEntry) x0 (.slice A1 (List.length x0) c2), DF.v (rSl rApiEntry) ([] : List ApiEntry) (.slice (some ⟨b14, 0, none⟩) (List.length ([] : List ApiEntry)) 0)] [] [⟨.slice (some ⟨b14, 0, none⟩) (List.length ([] : List ApiEntry)) 0, 24, 3⟩] a23 w24 := (h25).sel [0, 3, 4] [0, 1] []
  refine loop_ctx (fun m a w' => ∃ (l40 : List ApiEntry) (i43 : Int) (A41 : Option Addr) (c42 : Nat), (∃ β, Sb β (cx 21 ok w) [(0, .v (.slice A1 (List.length x0) c2)), (3, .v (.slice A41 (List.length l40) c42)), (4, .v (.int .i64 i43))] [DF.v (rSl rApiEntry) x0 (.slice A1 (List.length x0) c2), DF.v (rSl rApiEntry) l40 (.slice A41 (List.length l40) c42)] [] [⟨.slice A41 (List.length l40) c42, 24, 3⟩] a w') ∧ billingref47_CloneAll_l26 N x0 m l40 i43 = some out26) N ⟨([] : List ApiEntry), 0, (some ⟨b14, 0, none⟩), 0, ⟨_, h44⟩, hL26⟩ ?_
  rintro Q26 m45 a46 w47 ⟨l40, i43, A41, c42, ⟨β48, h49⟩, hF50⟩ hn26 hr26 hx26
  obtain _ | m45 := m45
  · exact absurd hF50 (by simp [billingref47_CloneAll_l26])
  rw [billingref47_CloneAll_l26] at hF50
  refine seq_ctx fun Q51 hn51 hr51 hx51 => ?_
  refine seq_region tabOk h49 [0, 3, 4, 9] [] [(0, .v (.slice A1 (List.length x0) c2)), (3, .v (.slice A41 (List.length l40) c42)), (4, .v (.int .i64 i43)), (9, .v (.bool (decide (i43 < (List.length x0 : Int)))))] [] (by kernel_rfl) fun β52 a53 w54 h55 => ?_
  clear h49
  refine wp_if h55 rfl (fun hb56 => ?_) (fun hb56 => ?_)
  · skip
    have hF57 := ifT hb56 hF50
    clear hF50
    refine wp_skip ?_
    refine hn51 _ _ ?_
    refine seq_ctx fun Q58 hn58 hr58 hx58 => ?_
    refine block_ctx fun Q59 hn59 hr59 hb59 hx59 => ?_
    refine region_ok ?_
    refine evalS_ok tabOk h55 3 [0, 3, 4, 12, 13, 14] [] [(0, .v (.slice A1 (List.length x0) c2)), (3, .v (.slice A41 (List.length l40) c42)), (4, .v (.int .i64 i43)), (12, .v (.slice A41 (List.length l40) c42)), (13, .v (.slice A1 (List.length x0) c2)), (14, .v (.int .i64 i43))] [] (by kernel_rfl) fun β61 a62 w63 h64 => ?_
    clear h55
    obtain ⟨x65, hx65, hF66⟩ := bindE hF57
    clear hF57
    refine step_idx tabOk h64 0 rfl rfl rfl rfl rfl hx65 tb30 rfl tb24 rfl fun p67 a68 h69 => ?_
    clear h64
    refine step_load tabOk h69 0 rfl rfl rfl rfl tb24 rfl rfl fun v70 a72 hv71 h73 => ?_
    clear h69
    obtain ⟨v76, hs77, rfl⟩ := ex_ApiEntry hv71
    obtain ⟨A74, c75, rfl, hs78⟩ := slForm hs77
    have h79 := h73.addD (d := DF.v (rSl rApiPost) x65.Posts (.slice A74 (List.length x65.Posts) c75)) hs78
    clear h73
    obtain ⟨y80, hy80, hF81⟩ := bindE hF66
    clear hF66
    refine step_call h79 rfl rfl runs10 (vs := [(.agg ⟨[.int .i64 x65.At, strV x65.Text, .slice A74 (List.length x65.Posts) c75]⟩)]) (by kernel_rfl) (c_billingref47_Clone (x0 := x65) h79.okLt N (h79.d 0 rfl) hy80) fun v82 a85 w86 hR83 hk84 h87 => ?_
    clear h79
    have hv88 := isV.weak hR83 hk84
    obtain ⟨v91, hs92, rfl⟩ := ex_ApiEntry hv88
    obtain ⟨A89, c90, rfl, hs93⟩ := slForm hs92
    have h94 := h87.addD (d := DF.v (rSl rApiPost) y80.Posts (.slice A89 (List.length y80.Posts) c90)) hs93
    clear h87
    refine step_buildSlice tabOk h94 rfl rfl (r := rApiEntry) (xs := ([y80] : List ApiEntry)) (vs := [.agg ⟨[.int .i64 y80.At, strV y80.Text, .slice A89 (List.length y80.Posts) c90]⟩]) (pvs := [(0, .agg ⟨[.int .i64 y80.At, strV y80.Text, .slice A89 (List.length y80.Posts) c90]⟩)]) (by kernel_rfl) tb30 rfl tb24 rfl rfl rfl rfl rfl (by kernel_rfl) ⟨(im_ApiEntry (x := y80) (h94.d 0 rfl)), trivial⟩ fun A95 c96 a98 w99 hv97 h100 => ?_
    clear h94
    have h101 := h100.addD (d := DF.v (rSl rApiEntry) ([y80] : List ApiEntry) (.slice A95 (List.length ([y80] : List ApiEntry)) c96)) hv97
    clear h100
    obtain ⟨z102, hz102, hF103⟩ := bindE hF81
    clear hF81
    refine step_append tabOk h101 6 0 [] [] rfl rfl (r := rApiEntry) (xs := l40) tb30 rfl tb24 rfl rfl rfl rfl rfl rfl rfl rfl (h101.d 0 rfl) hz102 fun A104 c105 a107 w108 hv106 h109 => ?_
    clear h101
    have h110 := h109.addD (d := DF.v (rSl rApiEntry) z102 (.slice A104 (List.length z102) c105)) hv106
    clear h109
    refine evalS_ok tabOk h110 1 [0, 3, 4] [] [(0, .v (.slice A1 (List.length x0) c2)), (3, .v (.slice A104 (List.length z102) c105)), (4, .v (.int .i64 i43))] [] (by kernel_rfl) fun β111 a112 w113 h114 => ?_
    clear h110
    have h115 : Sb β111 (cx 21 ok w) [(0, .v (.slice A1 (List.length x0) c2)), (3, .v (.slice A104 (List.length z102) c105)), (4, .v (.int .i64 i43))] [DF.v (rSl rApiEntry) x0 (.slice A1 (List.length x0) c2), DF.v (rSl rApiEntry) z102 (.slice A104 (List.length z102) c105)] [] [⟨.slice A104 (List.length z102) c105, 24, 3⟩] a112 w113 := h114.sel [0, 3, 4] [6, 0] []
    clear h114
    refine wpl_end ?_
    refine hn59 _ _ ?_
    refine hn58 _ _ ?_
    refine evalR_ok tabOk h115 [0, 3, 4] [] [(0, .v (.slice A1 (List.length x0) c2)), (3, .v (.slice A104 (List.length z102) c105)), (4, .v (.int .i64 (IntKind.wrap .i64 (i43 + 1))))] [] (by kernel_rfl) fun β116 a117 w118 h119 => ?_
    clear h115
    have h120 : Sb β116 (cx 21 ok w) [(0, .v (.slice A1 (List.length x0) c2)), (3, .v (.slice A104 (List.length z102) c105)), (4, .v (.int .i64 (IntKind.wrap .i64 (i43 + 1))))] [DF.v (rSl rApiEntry) x0 (.slice A1 (List.length x0) c2), DF.v (rSl rApiEntry) z102 (.slice A104 (List.length z102) c105)] [] [⟨.slice A104 (List.length z102) c105, 24, 3⟩] a117 w118 := (h119).sel [0, 3, 4] [0, 1] []
    exact hn26 _ _ _ (Nat.lt_succ_self _) ⟨z102, (IntKind.wrap .i64 (i43 + 1)), A104, c105, ⟨_, h120⟩, hF103⟩
  · skip
    have hF121 := ifF hb56 hF50
    clear hF50
    refine wp_exit ?_
    refine hx51 0 _ _ ?_
    refine hx26 0 _ _ ?_
    refine hbb26 _ _ ?_
    obtain rfl := Option.some.inj hF121
    have h122 : Sb β52 (cx 21 ok w) [(3, .v (.slice A41 (List.length l40) c42))] [DF.v (rSl rApiEntry) l40 (.slice A41 (List.length l40) c42)] [] [⟨.slice A41 (List.length l40) c42, 24, 3⟩] a53 w54 := (h55).sel [3] [1] []
    exact j30 _ _ ⟨l40, A41, c42, ⟨_, h122⟩, hC26⟩
theorem c_billingref47_CloneAll {ok : Ok} {w : World} (hok : ∀ b o, ok b o → b < w.heap.size) (N : Nat) {x0 : (List ApiEntry)} {A1 : Option Addr} {c2 : Nat} (d0 : isV (rSl rApiEntry) ok w x0 (.slice A1 (List.length x0) c2)) {r : (List ApiEntry)} (hF : billingref47_CloneAll N x0 = some r) :
    Calls Try.prog 14 ⟨[.slice A1 (List.length x0) c2]⟩ w (Ret w (R1 (rSl rApiEntry) ok w r)) :=
  Calls.own1 (co_billingref47_CloneAll hok N d0 hF)

theorem c_ledger_Balance_c1_c1 {ok : Ok} {w : World} (hok : ∀ b o, ok b o → b < w.heap.size) (N : Nat) {x0 : ApiPost} {x1 : Str} {p1 : Value} (e0 : isAt rStr ok w x1 p1) {r : Int} (hF : ledger_Balance_c1_c1 N x0 x1 = some r) :
    Calls Try.prog 32 ⟨[.agg ⟨[strV x0.Account, .int .i64 x0.Amount]⟩, p1]⟩ w (Ret w (R1 (rInt .i64) ok w r)) := by
  rw [ledger_Balance_c1_c1] at hF
  refine enter_ok (n := 10) hok Try.func32 rfl rfl rfl (D := [DF.at rStr x1 (p1)]) ⟨e0, trivial⟩ (fun a h => ?_)
  simp only [zipG, Nat.zero_add, Nat.reduceAdd] at h
  refine start_ctx fun Q hn hr => ?_
  refine seq_region tabOk h [1, 2] [2] [(1, .v (p1)), (2, .o 2 0)] [(2, ⟨[strV x0.Account, .int .i64 x0.Amount], 38⟩)] (by kernel_rfl) fun β2 a3 w4 h5 => ?_
  clear h
  refine seq_ctx fun Q6 hn6 hr6 hx6 => ?_
  refine seq_list fun Q7 hq7 => ?_
  refine evalS_ok tabOk h5 2 [1, 2, 5] [2] [(1, .v (p1)), (2, .o 2 0), (5, .v (strV x0.Account))] [(2, ⟨[strV x0.Account, .int .i64 x0.Amount], 38⟩)] (by kernel_rfl) fun β8 a9 w10 h11 => ?_
  clear h5
  refine step_load tabOk h11 0 rfl rfl rfl rfl tb9 rfl rfl fun v12 a14 hv13 h15 => ?_
  clear h11
  obtain rfl := isV_str.1 hv13
  refine evalS_ok tabOk h15 1 [2, 7] [2] [(2, .o 2 0), (7, .v (.bool (!(x0.Account == x1))))] [(2, ⟨[strV x0.Account, .int .i64 x0.Amount], 38⟩)] (by kernel_rfl) fun β16 a17 w18 h19 => ?_
  clear h15
  have h20 : Sb β16 (cx 10 ok w) [(2, .o 2 0), (7, .v (.bool (!(x0.Account == x1))))] [] [(2, ⟨[strV x0.Account, .int .i64 x0.Amount], 38⟩)] [] a17 w18 := h19.sel [2, 7] [] [2]
  clear h19
  refine wpl_end (hq7 _ _ ?_)
  refine wp_if h20 rfl (fun hb21 => ?_) (fun hb21 => ?_)
  · skip
    have hF22 := ifT hb21 hF
    clear hF
    refine seq_region tabOk h20 [3] [] [(3, .v (.int .i64 0))] [] (by kernel_rfl) fun β23 a24 w25 h26 => ?_
    clear h20
    refine wp_ret ?_
    refine hr6 _ _ ?_
    refine hr _ _ ?_
    obtain rfl := Option.some.inj hF22
    exact ret1_ok h26 rfl rfl (isV_int.2 rfl)
  · skip
    have hF27 := ifF hb21 hF
    clear hF
    refine wp_skip ?_
    refine hn6 _ _ ?_
    refine seq_region tabOk h20 [3] [] [(3, .v (.int .i64 x0.Amount))] [] (by kernel_rfl) fun β28 a29 w30 h31 => ?_
    clear h20
    refine wp_ret ?_
    refine hr _ _ ?_
    obtain rfl := Option.some.inj hF27
    exact ret1_ok h31 rfl rfl (isV_int.2 rfl)
theorem fv_ledger_Balance_c1_c1 (N : Nat) {ok : Ok} {w : World} {x1 : Str} {p1 : Value} (e0 : isAt rStr ok w x1 p1) : fnRep Try.prog rApiPost (rInt .i64) ok w (fun z => ledger_Balance_c1_c1 N z x1) (.func (.func 32) ⟨[]⟩ ⟨[p1]⟩) := by
  refine ⟨32, _, rfl, runs32, fun ok2 w2 hk he hlt x v y hx hy => ?_⟩
  obtain rfl := ex_ApiPost hx
  exact c_ledger_Balance_c1_c1 hlt N ((e0.evo he).weak hk) hy

theorem c_ledger_Balance_c1 {ok : Ok} {w : World} (hok : ∀ b o, ok b o → b < w.heap.size) (N : Nat) {x0 : ApiEntry} {x1 : Str} {A1 : Option Addr} {c2 : Nat} {p3 : Value} (d0 : isV (rSl rApiPost) ok w x0.Posts (.slice A1 (List.length x0.Posts) c2)) (e0 : isAt rStr ok w x1 p3) {r : Int} (hF : ledger_Balance_c1 N x0 x1 = some r) :
    Calls Try.prog 31 ⟨[.agg ⟨[.int .i64 x0.At, strV x0.Text, .slice A1 (List.length x0.Posts) c2]⟩, p3]⟩ w (Ret w (R1 (rInt .i64) ok w r)) := by
  rw [ledger_Balance_c1] at hF
  refine enter_ok (n := 8) hok Try.func31 rfl rfl rfl (D := [DF.v (rSl rApiPost) x0.Posts (.slice A1 (List.length x0.Posts) c2), DF.at rStr x1 (p3)]) ⟨d0, e0, trivial⟩ (fun a h => ?_)
  simp only [zipG, Nat.zero_add, Nat.reduceAdd] at h
  refine start_ctx fun Q hn hr => ?_
  refine seq_region tabOk h [1, 2] [2] [(1, .v (p3)), (2, .o 2 0)] [(2, ⟨[.int .i64 x0.At, strV x0.Text, .slice A1 (List.length x0.Posts) c2], 24⟩)] (by kernel_rfl) fun β4 a5 w6 h7 => ?_
  clear h
  refine seq_list fun Q8 hq8 => ?_
  refine evalS_ok tabOk h7 2 [1, 5] [] [(1, .v (p3)), (5, .v (.slice A1 (List.length x0.Posts) c2))] [] (by kernel_rfl) fun β9 a10 w11 h12 => ?_
  clear h7
  refine step_makeFunc h12 rfl rfl (vs := [p3]) (by kernel_rfl) fun a13 h14 => ?_
  clear h12
  obtain ⟨y15, hy15, hF16⟩ := bindE hF
  clear hF
  refine step_call h14 rfl rfl runs26 (vs := [(.slice A1 (List.length x0.Posts) c2), (.func (.func 32) ⟨[]⟩ ⟨[p3]⟩)]) (by kernel_rfl) (c_api_Post_ (x0 := x0.Posts) (x1 := (fun z => ledger_Balance_c1_c1 N z x1)) h14.okLt N (h14.d 0 rfl) (isV_fn.2 (fv_ledger_Balance_c1_c1 N (h14.d 1 rfl))) hy15) fun v17 a20 w21 hR18 hk19 h22 => ?_
  clear h14
  have hv23 := isV.weak hR18 hk19
  obtain rfl := isV_int.1 hv23
  refine evalS_ok tabOk h22 1 [3] [] [(3, .v (.int .i64 y15))] [] (by kernel_rfl) fun β24 a25 w26 h27 => ?_
  clear h22
  have h28 : Sb β24 (cx 8 ok w) [(3, .v (.int .i64 y15))] [] [] [] a25 w26 := h27.sel [3] [] []
  clear h27
  refine wpl_end (hq8 _ _ ?_)
  refine wp_ret ?_
  refine hr _ _ ?_
  obtain rfl := Option.some.inj hF16
  exact ret1_ok h28 rfl rfl (isV_int.2 rfl)
theorem fv_ledger_Balance_c1 (N : Nat) {ok : Ok} {w : World} {x1 : Str} {p3 : Value} (e0 : isAt rStr ok w x1 p3) : fnRep Try.prog rApiEntry (rInt .i64) ok w (fun z => ledger_Balance_c1 N z x1) (.func (.func 31) ⟨[]⟩ ⟨[p3]⟩) := by
  refine ⟨31, _, rfl, runs31, fun ok2 w2 hk he hlt x v y hx hy => ?_⟩
  obtain ⟨v36, hs37, rfl⟩ := ex_ApiEntry hx
  obtain ⟨A34, c35, rfl, hs38⟩ := slForm hs37
  exact c_ledger_Balance_c1 hlt N hs38 ((e0.evo he).weak hk) hy

theorem c_api_Entry_ {ok : Ok} {w : World} (hok : ∀ b o, ok b o → b < w.heap.size) (N : Nat) {x0 : (List ApiEntry)} {x1 : (ApiEntry → Option Int)} {A1 : Option Addr} {c2 : Nat} {g3 : Value} (d0 : isV (rSl rApiEntry) ok w x0 (.slice A1 (List.length x0) c2)) (d1 : isV (rFn Try.prog rApiEntry (rInt .i64)) ok w x1 (g3)) {r : Int} (hF : api_Entry_ N x0 x1 = some r) :
    Calls Try.prog 30 ⟨[.slice A1 (List.length x0) c2, g3]⟩ w (Ret w (R1 (rInt .i64) ok w r)) := by
  rw [api_Entry_] at hF
  refine enter_ok (n := 21) hok Try.func30 rfl rfl rfl (D := [DF.v (rSl rApiEntry) x0 (.slice A1 (List.length x0) c2), DF.v (rFn Try.prog rApiEntry (rInt .i64)) x1 (g3)]) ⟨d0, d1, trivial⟩ (fun a h => ?_)
  simp only [zipG, Nat.zero_add, Nat.reduceAdd] at h
  refine start_ctx fun Q hn hr => ?_
  refine seq_region tabOk h [0, 1] [] [(0, .v (.slice A1 (List.length x0) c2)), (1, .v (g3))] [] (by kernel_rfl) fun β4 a5 w6 h7 => ?_
  clear h
  refine seq_region tabOk h7 [0, 1, 5] [] [(0, .v (.slice A1 (List.length x0) c2)), (1, .v (g3)), (5, .v (.int .i64 0))] [] (by kernel_rfl) fun β8 a9 w10 h11 => ?_
  clear h7
  refine seq_ctx fun Q12 hn12 hr12 hx12 => ?_
  refine seq_region tabOk h11 [1, 5, 8, 9, 10] [] [(1, .v (g3)), (5, .v (.int .i64 0)), (8, .v (.slice A1 (List.length x0) c2)), (9, .v (.int .i64 (List.length x0 : Int))), (10, .v (.int .i64 0))] [] (by kernel_rfl) fun β13 a14 w15 h16 => ?_
  clear h11
  obtain ⟨out17, hL17, hC17⟩ := bindE hF
  clear hF
  have j19 : ∀ a w', (∃ (i18 : Int), (∃ β, Sb β (cx 21 ok w) [(5, .v (.int .i64 i18))] [] [] [] a w') ∧ api_Entry__j19 N i18 = some r) → Q12 .normal a w' := by
    rintro a20 w21 ⟨i18, ⟨β22, h23⟩, hF24⟩
    rw [api_Entry__j19] at hF24
    refine hn12 _ _ ?_
    refine seq_region tabOk h23 [4] [] [(4, .v (.int .i64 i18))] [] (by kernel_rfl) fun β25 a26 w27 h28 => ?_
    clear h23
    refine wp_ret ?_
    refine hr _ _ ?_
    obtain rfl := Option.some.inj hF24
    exact ret1_ok h28 rfl rfl (isV_int.2 rfl)
  refine block_ctx fun Qb17 hnb17 hrb17 hbb17 hxb17 => ?_
  have h31 : Sb β13 (cx 21 ok w) [(1, .v (g3)), (5, .v (.int .i64 0)), (8, .v (.slice A1 (List.length x0) c2)), (9, .v (.int .i64 (List.length x0 : Int))), (10, .v (.int .i64 0))] [DF.v (rFn Try.prog rApiEntry (rInt .i64)) x1 (g3), DF.v (rSl rApiEntry) x0 (.slice A1 (List.length x0) c2)] [] [] a14 w15 := (h16).sel [1, 5, 8, 9, 10] [1, 0] []
  refine loop_ctx (fun m a w' => ∃ (i29 : Int) (i30 : Int), (∃ β, Sb β (cx 21 ok w) [(1, .v (g3)), (5, .v (.int .i64 i29)), (8, .v (.slice A1 (List.length x0) c2)), (9, .v (.int .i64 (List.length x0 : Int))), (10, .v (.int .i64 i30))] [DF.v (rFn Try.prog rApiEntry (rInt .i64)) x1 (g3), DF.v (rSl rApiEntry) x0 (.slice A1 (List.length x0) c2)] [] [] a w') ∧ api_Entry__l17 N x0 x1 m i29 i30 = some out17) N ⟨0, 0, ⟨_, h31⟩, hL17⟩ ?_
  rintro Q17 m32 a33 w34 ⟨i29, i30, ⟨β35, h36⟩, hF37⟩ hn17 hr17 hx17
  obtain _ | m32 := m32
  · exact absurd hF37 (by simp [api_Entry__l17])
  rw [api_Entry__l17] at hF37
  refine seq_region tabOk h36 [1, 5, 8, 9, 10, 11] [] [(1, .v (g3)), (5, .v (.int .i64 i29)), (8, .v (.slice A1 (List.length x0) c2)), (9, .v (.int .i64 (List.length x0 : Int))), (10, .v (.int .i64 i30)), (11, .v (.bool (decide (i30 < (List.length x0 : Int)))))] [] (by kernel_rfl) fun β38 a39 w40 h41 => ?_
  clear h36
  refine seq_ctx fun Q42 hn42 hr42 hx42 => ?_
  refine wp_if h41 rfl (fun hb43 => ?_) (fun hb43 => ?_)
  · skip
    have hF44 := ifT hb43 hF37
    clear hF37
    refine wp_skip ?_
    refine hn42 _ _ ?_
    refine seq_ctx fun Q45 hn45 hr45 hx45 => ?_
    refine block_ctx fun Q46 hn46 hr46 hb46 hx46 => ?_
    refine seq_list fun Q47 hq47 => ?_
    obtain ⟨x48, hx48, hF49⟩ := bindE hF44
    clear hF44
    refine step_idx tabOk h41 1 rfl rfl rfl rfl rfl hx48 tb30 rfl tb24 rfl fun p50 a51 h52 => ?_
    clear h41
    refine step_load tabOk h52 0 rfl rfl rfl rfl tb24 rfl rfl fun v53 a55 hv54 h56 => ?_
    clear h52
    obtain ⟨v59, hs60, rfl⟩ := ex_ApiEntry hv54
    obtain ⟨A57, c58, rfl, hs61⟩ := slForm hs60
    have h62 := h56.addD (d := DF.v (rSl rApiPost) x48.Posts (.slice A57 (List.length x48.Posts) c58)) hs61
    clear h56
    refine evalS_ok tabOk h62 2 [1, 5, 7, 8, 9, 10] [7] [(1, .v (g3)), (5, .v (.int .i64 i29)), (7, .o 7 0), (8, .v (.slice A1 (List.length x0) c2)), (9, .v (.int .i64 (List.length x0 : Int))), (10, .v (.int .i64 i30))] [(7, ⟨[.int .i64 x48.At, strV x48.Text, .slice A57 (List.length x48.Posts) c58], 24⟩)] (by kernel_rfl) fun β63 a64 w65 h66 => ?_
    clear h62
    have h67 : Sb β63 (cx 21 ok w) [(1, .v (g3)), (5, .v (.int .i64 i29)), (7, .o 7 0), (8, .v (.slice A1 (List.length x0) c2)), (9, .v (.int .i64 (List.length x0 : Int))), (10, .v (.int .i64 i30))] [DF.v (rFn Try.prog rApiEntry (rInt .i64)) x1 (g3), DF.v (rSl rApiEntry) x0 (.slice A1 (List.length x0) c2), DF.v (rSl rApiPost) x48.Posts (.slice A57 (List.length x48.Posts) c58)] [(7, ⟨[.int .i64 x48.At, strV x48.Text, .slice A57 (List.length x48.Posts) c58], 24⟩)] [] a64 w65 := h66.sel [1, 5, 7, 8, 9, 10] [3, 4, 0] [7]
    clear h66
    refine wpl_end (hq47 _ _ ?_)
    refine region_ok ?_
    refine evalS_ok tabOk h67 3 [1, 5, 8, 9, 10, 14, 15, 16] [] [(1, .v (g3)), (5, .v (.int .i64 i29)), (8, .v (.slice A1 (List.length x0) c2)), (9, .v (.int .i64 (List.length x0 : Int))), (10, .v (.int .i64 i30)), (14, .v (.int .i64 i29)), (15, .v (g3)), (16, .v (.agg ⟨[.int .i64 x48.At, strV x48.Text, .slice A57 (List.length x48.Posts) c58]⟩))] [] (by kernel_rfl) fun β69 a70 w71 h72 => ?_
    clear h67
    obtain ⟨y73, hy73, hF74⟩ := bindE hF49
    clear hF49
    refine step_callFn h72 rfl rfl rfl rfl (h72.d 0 rfl) (im_ApiEntry (x := x48) (h72.d 2 rfl)) hy73 fun v75 a78 w79 hR76 hk77 h80 => ?_
    clear h72
    have hv81 := isV.weak hR76 hk77
    obtain rfl := isV_int.1 hv81
    refine evalS_ok tabOk h80 2 [1, 5, 8, 9, 10] [] [(1, .v (g3)), (5, .v (.int .i64 (IntKind.wrap .i64 (i29 + y73)))), (8, .v (.slice A1 (List.length x0) c2)), (9, .v (.int .i64 (List.length x0 : Int))), (10, .v (.int .i64 i30))] [] (by kernel_rfl) fun β82 a83 w84 h85 => ?_
    clear h80
    have h86 : Sb β82 (cx 21 ok w) [(1, .v (g3)), (5, .v (.int .i64 (IntKind.wrap .i64 (i29 + y73)))), (8, .v (.slice A1 (List.length x0) c2)), (9, .v (.int .i64 (List.length x0 : Int))), (10, .v (.int .i64 i30))] [DF.v (rFn Try.prog rApiEntry (rInt .i64)) x1 (g3), DF.v (rSl rApiEntry) x0 (.slice A1 (List.length x0) c2)] [] [] a83 w84 := h85.sel [1, 5, 8, 9, 10] [0, 1] []
    clear h85
    refine wpl_end ?_
    refine hn46 _ _ ?_
    refine hn45 _ _ ?_
    refine evalR_ok tabOk h86 [1, 5, 8, 9, 10] [] [(1, .v (g3)), (5, .v (.int .i64 (IntKind.wrap .i64 (i29 + y73)))), (8, .v (.slice A1 (List.length x0) c2)), (9, .v (.int .i64 (List.length x0 : Int))), (10, .v (.int .i64 (IntKind.wrap .i64 (i30 + 1))))] [] (by kernel_rfl) fun β87 a88 w89 h90 => ?_
    clear h86
    have h91 : Sb β87 (cx 21 ok w) [(1, .v (g3)), (5, .v (.int .i64 (IntKind.wrap .i64 (i29 + y73)))), (8, .v (.slice A1 (List.length x0) c2)), (9, .v (.int .i64 (List.length x0 : Int))), (10, .v (.int .i64 (IntKind.wrap .i64 (i30 + 1))))] [DF.v (rFn Try.prog rApiEntry (rInt .i64)) x1 (g3), DF.v (rSl rApiEntry) x0 (.slice A1 (List.length x0) c2)] [] [] a88 w89 := (h90).sel [1, 5, 8, 9, 10] [0, 1] []
    exact hn17 _ _ _ (Nat.lt_succ_self _) ⟨(IntKind.wrap .i64 (i29 + y73)), (IntKind.wrap .i64 (i30 + 1)), ⟨_, h91⟩, hF74⟩
  · skip
    have hF92 := ifF hb43 hF37
    clear hF37
    refine wp_exit ?_
    refine hx42 0 _ _ ?_
    refine hx17 0 _ _ ?_
    refine hbb17 _ _ ?_
    obtain rfl := Option.some.inj hF92
    have h93 : Sb β38 (cx 21 ok w) [(5, .v (.int .i64 i29))] [] [] [] a39 w40 := (h41).sel [5] [] []
    exact j19 _ _ ⟨i29, ⟨_, h93⟩, hC17⟩

theorem c_ledger_Balance {ok : Ok} {w : World} (hok : ∀ b o, ok b o → b < w.heap.size) (N : Nat) {x0 : (List ApiEntry)} {x1 : Str} {A1 : Option Addr} {c2 : Nat} (d0 : isV (rSl rApiEntry) ok w x0 (.slice A1 (List.length x0) c2)) {r : Int} (hF : ledger_Balance N x0 x1 = some r) :
    Calls Try.prog 13 ⟨[.slice A1 (List.length x0) c2, strV x1]⟩ w (Ret w (R1 (rInt .i64) ok w r)) := by
  rw [ledger_Balance] at hF
  refine enter_ok (n := 8) hok Try.func13 rfl rfl rfl (D := [DF.v (rSl rApiEntry) x0 (.slice A1 (List.length x0) c2)]) ⟨d0, trivial⟩ (fun a h => ?_)
  simp only [zipG, Nat.zero_add, Nat.reduceAdd] at h
  refine start_ctx fun Q hn hr => ?_
  refine seq_region tabOk h [0, 3] [3] [(0, .v (.slice A1 (List.length x0) c2)), (3, .o 3 0)] [(3, ⟨[strV x1], 9⟩)] (by kernel_rfl) fun β3 a4 w5 h6 => ?_
  clear h
  refine seq_list fun Q7 hq7 => ?_
  refine evalS_ok tabOk h6 1 [3, 5] [3] [(3, .o 3 0), (5, .v (.slice A1 (List.length x0) c2))] [(3, ⟨[strV x1], 9⟩)] (by kernel_rfl) fun β8 a9 w10 h11 => ?_
  clear h6
  obtain ⟨p12, h13, _⟩ := h11.thaw (id := 3) rfl (r := rStr) (x := x1) (cellsL_rep (v := strV x1) (isV_str.2 rfl))
  clear h11
  refine step_makeFunc h13 rfl rfl (vs := [p12]) (by kernel_rfl) fun a14 h15 => ?_
  clear h13
  obtain ⟨y16, hy16, hF17⟩ := bindE hF
  clear hF
  refine step_call h15 rfl rfl runs30 (vs := [(.slice A1 (List.length x0) c2), (.func (.func 31) ⟨[]⟩ ⟨[p12]⟩)]) (by kernel_rfl) (c_api_Entry_ (x0 := x0) (x1 := (fun z => ledger_Balance_c1 N z x1)) h15.okLt N (h15.d 1 rfl) (isV_fn.2 (fv_ledger_Balance_c1 N (h15.d 0 rfl))) hy16) fun v18 a21 w22 hR19 hk20 h23 => ?_
  clear h15
  have hv24 := isV.weak hR19 hk20
  obtain rfl := isV_int.1 hv24
  refine evalS_ok tabOk h23 1 [4] [] [(4, .v (.int .i64 y16))] [] (by kernel_rfl) fun β25 a26 w27 h28 => ?_
  clear h23
  have h29 : Sb β25 (cx 8 ok w) [(4, .v (.int .i64 y16))] [] [] [] a26 w27 := h28.sel [4] [] []
  clear h28
  refine wpl_end (hq7 _ _ ?_)
  refine wp_ret ?_
  refine hr _ _ ?_
  obtain rfl := Option.some.inj hF17
  exact ret1_ok h29 rfl rfl (isV_int.2 rfl)

theorem c_billingref47_Balance {ok : Ok} {w : World} (hok : ∀ b o, ok b o → b < w.heap.size) (N : Nat) {x0 : (List ApiEntry)} {x1 : Str} {A1 : Option Addr} {c2 : Nat} (d0 : isV (rSl rApiEntry) ok w x0 (.slice A1 (List.length x0) c2)) {r : Int} (hF : billingref47_Balance N x0 x1 = some r) :
    Calls Try.prog 15 ⟨[.slice A1 (List.length x0) c2, strV x1]⟩ w (Ret w (R1 (rInt .i64) ok w r)) := by
  rw [billingref47_Balance] at hF
  refine enter_ok (n := 47) hok Try.func15 rfl rfl rfl (D := [DF.v (rSl rApiEntry) x0 (.slice A1 (List.length x0) c2)]) ⟨d0, trivial⟩ (fun a h => ?_)
  simp only [zipG, Nat.zero_add, Nat.reduceAdd] at h
  refine start_ctx fun Q hn hr => ?_
  refine seq_region tabOk h [0, 1] [] [(0, .v (.slice A1 (List.length x0) c2)), (1, .v (strV x1))] [] (by kernel_rfl) fun β3 a4 w5 h6 => ?_
  clear h
  refine seq_region tabOk h6 [0, 1, 5] [] [(0, .v (.slice A1 (List.length x0) c2)), (1, .v (strV x1)), (5, .v (.int .i64 0))] [] (by kernel_rfl) fun β7 a8 w9 h10 => ?_
  clear h6
  refine seq_ctx fun Q11 hn11 hr11 hx11 => ?_
  refine seq_region tabOk h10 [0, 1, 5, 6] [] [(0, .v (.slice A1 (List.length x0) c2)), (1, .v (strV x1)), (5, .v (.int .i64 0)), (6, .v (.int .i64 0))] [] (by kernel_rfl) fun β12 a13 w14 h15 => ?_
  clear h10
  obtain ⟨out16, hL16, hC16⟩ := bindE hF
  clear hF
  have j18 : ∀ a w', (∃ (i17 : Int), (∃ β, Sb β (cx 47 ok w) [(5, .v (.int .i64 i17))] [] [] [] a w') ∧ billingref47_Balance_j18 N i17 = some r) → Q11 .normal a w' := by
    rintro a19 w20 ⟨i17, ⟨β21, h22⟩, hF23⟩
    rw [billingref47_Balance_j18] at hF23
    refine hn11 _ _ ?_
    refine seq_region tabOk h22 [4] [] [(4, .v (.int .i64 i17))] [] (by kernel_rfl) fun β24 a25 w26 h27 => ?_
    clear h22
    refine wp_ret ?_
    refine hr _ _ ?_
    obtain rfl := Option.some.inj hF23
    exact ret1_ok h27 rfl rfl (isV_int.2 rfl)
  refine block_ctx fun Qb16 hnb16 hrb16 hbb16 hxb16 => ?_
  have h30 : Sb β12 (cx 47 ok w) [(0, .v (.slice A1 (List.length x0) c2)), (1, .v (strV x1)), (5, .v (.int .i64 0)), (6, .v (.int .i64 0))] [DF.v (rSl rApiEntry) x0 (.slice A1 (List.length x0) c2)] [] [] a13 w14 := (h15).sel [0, 1, 5, 6] [0] []
  refine loop_ctx (fun m a w' => ∃ (i28 : Int) (i29 : Int), (∃ β, Sb β (cx 47 ok w) [(0, .v (.slice A1 (List.length x0) c2)), (1, .v (strV x1)), (5, .v (.int .i64 i28)), (6, .v (.int .i64 i29))] [DF.v (rSl rApiEntry) x0 (.slice A1 (List.length x0) c2)] [] [] a w') ∧ billingref47_Balance_l16 N x0 x1 m i28 i29 = some out16) N ⟨0, 0, ⟨_, h30⟩, hL16⟩ ?_
  rintro Q16 m31 a32 w33 ⟨i28, i29, ⟨β34, h35⟩, hF36⟩ hn16 hr16 hx16
  obtain _ | m31 := m31
  · exact absurd hF36 (by simp [billingref47_Balance_l16])
  rw [billingref47_Balance_l16] at hF36
  refine seq_ctx fun Q37 hn37 hr37 hx37 => ?_
  refine seq_region tabOk h35 [0, 1, 5, 6, 11] [] [(0, .v (.slice A1 (List.length x0) c2)), (1, .v (strV x1)), (5, .v (.int .i64 i28)), (6, .v (.int .i64 i29)), (11, .v (.bool (decide (i29 < (List.length x0 : Int)))))] [] (by kernel_rfl) fun β38 a39 w40 h41 => ?_
  clear h35
  refine wp_if h41 rfl (fun hb42 => ?_) (fun hb42 => ?_)
  · skip
    have hF43 := ifT hb42 hF36
    clear hF36
    refine wp_skip ?_
    refine hn37 _ _ ?_
    refine seq_ctx fun Q44 hn44 hr44 hx44 => ?_
    refine block_ctx fun Q45 hn45 hr45 hb45 hx45 => ?_
    refine seq_region tabOk h41 [0, 1, 5, 6, 7] [] [(0, .v (.slice A1 (List.length x0) c2)), (1, .v (strV x1)), (5, .v (.int .i64 i28)), (6, .v (.int .i64 i29)), (7, .v (.int .i64 0))] [] (by kernel_rfl) fun β46 a47 w48 h49 => ?_
    clear h41
    obtain ⟨out50, hL50, hC50⟩ := bindE hF43
    clear hF43
    have j52 : ∀ a w', (∃ (i51 : Int), (∃ β, Sb β (cx 47 ok w) [(0, .v (.slice A1 (List.length x0) c2)), (1, .v (strV x1)), (5, .v (.int .i64 i51)), (6, .v (.int .i64 i29))] [DF.v (rSl rApiEntry) x0 (.slice A1 (List.length x0) c2)] [] [] a w') ∧ billingref47_Balance_j52 N (billingref47_Balance_l16 N x0 x1 m31) i29 i51 = some out16) → Q45 .normal a w' := by
      rintro a53 w54 ⟨i51, ⟨β55, h56⟩, hF57⟩
      rw [billingref47_Balance_j52] at hF57
      refine hn45 _ _ ?_
      refine hn44 _ _ ?_
      refine evalR_ok tabOk h56 [0, 1, 5, 6] [] [(0, .v (.slice A1 (List.length x0) c2)), (1, .v (strV x1)), (5, .v (.int .i64 i51)), (6, .v (.int .i64 (IntKind.wrap .i64 (i29 + 1))))] [] (by kernel_rfl) fun β58 a59 w60 h61 => ?_
      clear h56
      have h62 : Sb β58 (cx 47 ok w) [(0, .v (.slice A1 (List.length x0) c2)), (1, .v (strV x1)), (5, .v (.int .i64 i51)), (6, .v (.int .i64 (IntKind.wrap .i64 (i29 + 1))))] [DF.v (rSl rApiEntry) x0 (.slice A1 (List.length x0) c2)] [] [] a59 w60 := (h61).sel [0, 1, 5, 6] [0] []
      exact hn16 _ _ _ (Nat.lt_succ_self _) ⟨i51, (IntKind.wrap .i64 (i29 + 1)), ⟨_, h62⟩, hF57⟩
    refine block_ctx fun Qb50 hnb50 hrb50 hbb50 hxb50 => ?_
    have h65 : Sb β46 (cx 47 ok w) [(0, .v (.slice A1 (List.length x0) c2)), (1, .v (strV x1)), (5, .v (.int .i64 i28)), (6, .v (.int .i64 i29)), (7, .v (.int .i64 0))] [DF.v (rSl rApiEntry) x0 (.slice A1 (List.length x0) c2)] [] [] a47 w48 := (h49).sel [0, 1, 5, 6, 7] [0] []
    refine loop_ctx (fun m a w' => ∃ (i63 : Int) (i64 : Int), (∃ β, Sb β (cx 47 ok w) [(0, .v (.slice A1 (List.length x0) c2)), (1, .v (strV x1)), (5, .v (.int .i64 i63)), (6, .v (.int .i64 i29)), (7, .v (.int .i64 i64))] [DF.v (rSl rApiEntry) x0 (.slice A1 (List.length x0) c2)] [] [] a w') ∧ billingref47_Balance_l50 N x0 x1 i29 m i63 i64 = some out50) N ⟨i28, 0, ⟨_, h65⟩, hL50⟩ ?_
    rintro Q50 m66 a67 w68 ⟨i63, i64, ⟨β69, h70⟩, hF71⟩ hn50 hr50 hx50
    obtain _ | m66 := m66
    · exact absurd hF71 (by simp [billingref47_Balance_l50])
    rw [billingref47_Balance_l50] at hF71
    refine seq_ctx fun Q72 hn72 hr72 hx72 => ?_
    refine seq_list fun Q73 hq73 => ?_
    refine evalS_ok tabOk h70 3 [0, 1, 5, 6, 7, 14, 15, 16] [] [(0, .v (.slice A1 (List.length x0) c2)), (1, .v (strV x1)), (5, .v (.int .i64 i63)), (6, .v (.int .i64 i29)), (7, .v (.int .i64 i64)), (14, .v (.int .i64 i64)), (15, .v (.slice A1 (List.length x0) c2)), (16, .v (.int .i64 i29))] [] (by kernel_rfl) fun β74 a75 w76 h77 => ?_
    clear h70
    obtain ⟨x78, hx78, hF79⟩ := bindE hF71
    clear hF71
    refine step_idx tabOk h77 0 rfl rfl rfl rfl rfl hx78 tb30 rfl tb24 rfl fun p80 a81 h82 => ?_
    clear h77
    refine step_field tabOk h82 0 rfl rfl rfl rfl tb24 rfl rfl rfl fun p83 a84 (h85 : Sb β74 _ _ (DF.at (rSl rApiPost) x78.Posts (p83) :: _) _ _ a84 w76) => ?_
    clear h82
    refine step_load tabOk h85 0 rfl rfl rfl rfl tb22 rfl rfl fun v86 a88 hv87 h89 => ?_
    clear h85
    obtain ⟨A90, c91, rfl, hs92⟩ := slForm hv87
    refine evalS_ok tabOk h89 2 [0, 1, 5, 6, 7, 21] [] [(0, .v (.slice A1 (List.length x0) c2)), (1, .v (strV x1)), (5, .v (.int .i64 i63)), (6, .v (.int .i64 i29)), (7, .v (.int .i64 i64)), (21, .v (.bool (decide (i64 < (List.length x78.Posts : Int)))))] [] (by kernel_rfl) fun β93 a94 w95 h96 => ?_
    clear h89
    have h97 : Sb β93 (cx 47 ok w) [(0, .v (.slice A1 (List.length x0) c2)), (1, .v (strV x1)), (5, .v (.int .i64 i63)), (6, .v (.int .i64 i29)), (7, .v (.int .i64 i64)), (21, .v (.bool (decide (i64 < (List.length x78.Posts : Int)))))] [DF.v (rSl rApiEntry) x0 (.slice A1 (List.length x0) c2)] [] [] a94 w95 := h96.sel [0, 1, 5, 6, 7, 21] [3] []
    clear h96
    refine wpl_end (hq73 _ _ ?_)
    refine wp_if h97 rfl (fun hb98 => ?_) (fun hb98 => ?_)
    · skip
      have hF99 := ifT hb98 hF79
      clear hF79
      refine wp_skip ?_
      refine hn72 _ _ ?_
      refine seq_ctx fun Q100 hn100 hr100 hx100 => ?_
      refine block_ctx fun Q101 hn101 hr101 hb101 hx101 => ?_
      refine seq_list fun Q102 hq102 => ?_
      refine evalS_ok tabOk h97 2 [0, 1, 5, 6, 7, 24, 25] [] [(0, .v (.slice A1 (List.length x0) c2)), (1, .v (strV x1)), (5, .v (.int .i64 i63)), (6, .v (.int .i64 i29)), (7, .v (.int .i64 i64)), (24, .v (.slice A1 (List.length x0) c2)), (25, .v (.int .i64 i29))] [] (by kernel_rfl) fun β103 a104 w105 h106 => ?_
      clear h97
      obtain ⟨x107, hx107, hF108⟩ := bindE hF99
      clear hF99
      refine step_idx tabOk h106 0 rfl rfl rfl rfl rfl hx107 tb30 rfl tb24 rfl fun p109 a110 h111 => ?_
      clear h106
      refine step_field tabOk h111 0 rfl rfl rfl rfl tb24 rfl rfl rfl fun p112 a113 (h114 : Sb β103 _ _ (DF.at (rSl rApiPost) x107.Posts (p112) :: _) _ _ a113 w105) => ?_
      clear h111
      refine step_load tabOk h114 0 rfl rfl rfl rfl tb22 rfl rfl fun v115 a117 hv116 h118 => ?_
      clear h114
      obtain ⟨A119, c120, rfl, hs121⟩ := slForm hv116
      refine evalS_ok tabOk h118 1 [0, 1, 5, 6, 7, 28, 29] [] [(0, .v (.slice A1 (List.length x0) c2)), (1, .v (strV x1)), (5, .v (.int .i64 i63)), (6, .v (.int .i64 i29)), (7, .v (.int .i64 i64)), (28, .v (.slice A119 (List.length x107.Posts) c120)), (29, .v (.int .i64 i64))] [] (by kernel_rfl) fun β122 a123 w124 h125 => ?_
      clear h118
      obtain ⟨x126, hx126, hF127⟩ := bindE hF108
      clear hF108
      refine step_idx tabOk h125 0 rfl rfl rfl rfl rfl hx126 tb22 rfl tb38 rfl fun p128 a129 h130 => ?_
      clear h125
      refine step_field tabOk h130 0 rfl rfl rfl rfl tb38 rfl rfl rfl fun p131 a132 (h133 : Sb β122 _ _ (DF.at rStr x126.Account (p131) :: _) _ _ a132 w124) => ?_
      clear h130
      refine step_load tabOk h133 0 rfl rfl rfl rfl tb9 rfl rfl fun v134 a136 hv135 h137 => ?_
      clear h133
      obtain rfl := isV_str.1 hv135
      refine evalS_ok tabOk h137 2 [0, 1, 5, 6, 7, 34] [] [(0, .v (.slice A1 (List.length x0) c2)), (1, .v (strV x1)), (5, .v (.int .i64 i63)), (6, .v (.int .i64 i29)), (7, .v (.int .i64 i64)), (34, .v (.bool (x126.Account == x1)))] [] (by kernel_rfl) fun β138 a139 w140 h141 => ?_
      clear h137
      have h142 : Sb β138 (cx 47 ok w) [(0, .v (.slice A1 (List.length x0) c2)), (1, .v (strV x1)), (5, .v (.int .i64 i63)), (6, .v (.int .i64 i29)), (7, .v (.int .i64 i64)), (34, .v (.bool (x126.Account == x1)))] [DF.v (rSl rApiEntry) x0 (.slice A1 (List.length x0) c2)] [] [] a139 w140 := h141.sel [0, 1, 5, 6, 7, 34] [6] []
      clear h141
      refine wpl_end (hq102 _ _ ?_)
      refine wp_if h142 rfl (fun hb143 => ?_) (fun hb143 => ?_)
      · skip
        have hF144 := ifT hb143 hF127
        clear hF127
        refine region_ok ?_
        refine evalS_ok tabOk h142 3 [0, 1, 5, 6, 7, 35, 36, 37] [] [(0, .v (.slice A1 (List.length x0) c2)), (1, .v (strV x1)), (5, .v (.int .i64 i63)), (6, .v (.int .i64 i29)), (7, .v (.int .i64 i64)), (35, .v (.int .i64 i63)), (36, .v (.slice A1 (List.length x0) c2)), (37, .v (.int .i64 i29))] [] (by kernel_rfl) fun β146 a147 w148 h149 => ?_
        clear h142
        obtain ⟨x150, hx150, hF151⟩ := bindE hF144
        clear hF144
        refine step_idx tabOk h149 0 rfl rfl rfl rfl rfl hx150 tb30 rfl tb24 rfl fun p152 a153 h154 => ?_
        clear h149
        refine step_field tabOk h154 0 rfl rfl rfl rfl tb24 rfl rfl rfl fun p155 a156 (h157 : Sb β146 _ _ (DF.at (rSl rApiPost) x150.Posts (p155) :: _) _ _ a156 w148) => ?_
        clear h154
        refine step_load tabOk h157 0 rfl rfl rfl rfl tb22 rfl rfl fun v158 a160 hv159 h161 => ?_
        clear h157
        obtain ⟨A162, c163, rfl, hs164⟩ := slForm hv159
        refine evalS_ok tabOk h161 1 [0, 1, 5, 6, 7, 35, 40, 41] [] [(0, .v (.slice A1 (List.length x0) c2)), (1, .v (strV x1)), (5, .v (.int .i64 i63)), (6, .v (.int .i64 i29)), (7, .v (.int .i64 i64)), (35, .v (.int .i64 i63)), (40, .v (.slice A162 (List.length x150.Posts) c163)), (41, .v (.int .i64 i64))] [] (by kernel_rfl) fun β165 a166 w167 h168 => ?_
        clear h161
        obtain ⟨x169, hx169, hF170⟩ := bindE hF151
        clear hF151
        refine step_idx tabOk h168 0 rfl rfl rfl rfl rfl hx169 tb22 rfl tb38 rfl fun p171 a172 h173 => ?_
        clear h168
        refine step_field tabOk h173 0 rfl rfl rfl rfl tb38 rfl rfl rfl fun p174 a175 (h176 : Sb β165 _ _ (DF.at (rInt .i64) x169.Amount (p174) :: _) _ _ a175 w167) => ?_
        clear h173
        refine step_load tabOk h176 0 rfl rfl rfl rfl tb3 rfl rfl fun v177 a179 hv178 h180 => ?_
        clear h176
        obtain rfl := isV_int.1 hv178
        refine evalS_ok tabOk h180 2 [0, 1, 5, 6, 7] [] [(0, .v (.slice A1 (List.length x0) c2)), (1, .v (strV x1)), (5, .v (.int .i64 (IntKind.wrap .i64 (i63 + x169.Amount)))), (6, .v (.int .i64 i29)), (7, .v (.int .i64 i64))] [] (by kernel_rfl) fun β181 a182 w183 h184 => ?_
        clear h180
        have h185 : Sb β181 (cx 47 ok w) [(0, .v (.slice A1 (List.length x0) c2)), (1, .v (strV x1)), (5, .v (.int .i64 (IntKind.wrap .i64 (i63 + x169.Amount)))), (6, .v (.int .i64 i29)), (7, .v (.int .i64 i64))] [DF.v (rSl rApiEntry) x0 (.slice A1 (List.length x0) c2)] [] [] a182 w183 := h184.sel [0, 1, 5, 6, 7] [6] []
        clear h184
        refine wpl_end ?_
        refine hn101 _ _ ?_
        refine hn100 _ _ ?_
        refine evalR_ok tabOk h185 [0, 1, 5, 6, 7] [] [(0, .v (.slice A1 (List.length x0) c2)), (1, .v (strV x1)), (5, .v (.int .i64 (IntKind.wrap .i64 (i63 + x169.Amount)))), (6, .v (.int .i64 i29)), (7, .v (.int .i64 (IntKind.wrap .i64 (i64 + 1))))] [] (by kernel_rfl) fun β186 a187 w188 h189 => ?_
        clear h185
        have h190 : Sb β186 (cx 47 ok w) [(0, .v (.slice A1 (List.length x0) c2)), (1, .v (strV x1)), (5, .v (.int .i64 (IntKind.wrap .i64 (i63 + x169.Amount)))), (6, .v (.int .i64 i29)), (7, .v (.int .i64 (IntKind.wrap .i64 (i64 + 1))))] [DF.v (rSl rApiEntry) x0 (.slice A1 (List.length x0) c2)] [] [] a187 w188 := (h189).sel [0, 1, 5, 6, 7] [0] []
        exact hn50 _ _ _ (Nat.lt_succ_self _) ⟨(IntKind.wrap .i64 (i63 + x169.Amount)), (IntKind.wrap .i64 (i64 + 1)), ⟨_, h190⟩, hF170⟩
      · skip
        have hF191 := ifF hb143 hF127
        clear hF127
        refine wp_skip ?_
        refine hn101 _ _ ?_
        refine hn100 _ _ ?_
        refine evalR_ok tabOk h142 [0, 1, 5, 6, 7] [] [(0, .v (.slice A1 (List.length x0) c2)), (1, .v (strV x1)), (5, .v (.int .i64 i63)), (6, .v (.int .i64 i29)), (7, .v (.int .i64 (IntKind.wrap .i64 (i64 + 1))))] [] (by kernel_rfl) fun β192 a193 w194 h195 => ?_
        clear h142
        have h196 : Sb β192 (cx 47 ok w) [(0, .v (.slice A1 (List.length x0) c2)), (1, .v (strV x1)), (5, .v (.int .i64 i63)), (6, .v (.int .i64 i29)), (7, .v (.int .i64 (IntKind.wrap .i64 (i64 + 1))))] [DF.v (rSl rApiEntry) x0 (.slice A1 (List.length x0) c2)] [] [] a193 w194 := (h195).sel [0, 1, 5, 6, 7] [0] []
        exact hn50 _ _ _ (Nat.lt_succ_self _) ⟨i63, (IntKind.wrap .i64 (i64 + 1)), ⟨_, h196⟩, hF191⟩
    · skip
      have hF197 := ifF hb98 hF79
      clear hF79
      refine wp_exit ?_
      refine hx72 2 _ _ ?_
      refine hx50 2 _ _ ?_
      refine hbb50 _ _ ?_
      obtain rfl := Option.some.inj hF197
      have h198 : Sb β93 (cx 47 ok w) [(0, .v (.slice A1 (List.length x0) c2)), (1, .v (strV x1)), (5, .v (.int .i64 i63)), (6, .v (.int .i64 i29))] [DF.v (rSl rApiEntry) x0 (.slice A1 (List.length x0) c2)] [] [] a94 w95 := (h97).sel [0, 1, 5, 6] [0] []
      exact j52 _ _ ⟨i63, ⟨_, h198⟩, hC50⟩
  · skip
    have hF200 := ifF hb42 hF36
    clear hF36
    refine wp_exit ?_
    refine hx37 0 _ _ ?_
    refine hx16 0 _ _ ?_
    refine hbb16 _ _ ?_
    obtain rfl := Option.some.inj hF200
    have h201 : Sb β38 (cx 47 ok w) [(5, .v (.int .i64 i28))] [] [] [] a39 w40 := (h41).sel [5] [] []
    exact j18 _ _ ⟨i28, ⟨_, h201⟩, hC16⟩

theorem co_billingref47_Put {ok : Ok} {w : World} (hok : ∀ b o, ok b o → b < w.heap.size) (N : Nat) {x0 : (List ApiPost)} {x1 : ApiPost} {A1 : Option Addr} {c2 : Nat} (d0 : isV (rSl rApiPost) ok w x0 (.slice A1 (List.length x0) c2)) {r : (List ApiPost)} (hF : billingref47_Put N x0 x1 = some r) :
    Calls Try.prog 35 ⟨[.slice A1 (List.length x0) c2, .agg ⟨[strV x1.Account, .int .i64 x1.Amount]⟩]⟩ w (Ret w (R1o (rSl rApiPost) 38 2 ok w r)) := by
  rw [billingref47_Put] at hF
  refine enter_ok (n := 73) hok Try.func35 rfl rfl rfl (D := [DF.v (rSl rApiPost) x0 (.slice A1 (List.length x0) c2)]) ⟨d0, trivial⟩ (fun a h => ?_)
  simp only [zipG, Nat.zero_add, Nat.reduceAdd] at h
  refine start_ctx fun Q hn hr => ?_
  refine seq_region tabOk h [0, 3] [3] [(0, .v (.slice A1 (List.length x0) c2)), (3, .o 3 0)] [(3, ⟨[strV x1.Account, .int .i64 x1.Amount], 38⟩)] (by kernel_rfl) fun β3 a4 w5 h6 => ?_
  clear h
  refine seq_list fun Q7 hq7 => ?_
  refine step_buildOwn0 tabOk h6 rfl rfl (r := rApiPost) tb22 rfl tb38 fun b14 a11 w12 hv10 h13 => ?_
  clear h6
  have h15 := h13.addD (d := DF.v (rSl rApiPost) ([] : List ApiPost) (.slice (some ⟨b14, 0, none⟩) (List.length ([] : List ApiPost)) 0)) hv10
  clear h13
  refine evalS_ok tabOk h15 2 [0, 3, 5, 6] [3] [(0, .v (.slice A1 (List.length x0) c2)), (3, .o 3 0), (5, .v (.slice (some ⟨b14, 0, none⟩) (List.length ([] : List ApiPost)) 0)), (6, .v (.bool false))] [(3, ⟨[strV x1.Account, .int .i64 x1.Amount], 38⟩)] (by kernel_rfl) fun β16 a17 w18 h19 => ?_
  clear h15
  have h20 : Sb β16 (cx 73 ok w) [(0, .v (.slice A1 (List.length x0) c2)), (3, .o 3 0), (5, .v (.slice (some ⟨b14, 0, none⟩) (List.length ([] : List ApiPost)) 0)), (6, .v (.bool false))] [DF.v (rSl rApiPost) x0 (.slice A1 (List.length x0) c2), DF.v (rSl rApiPost) ([] : List ApiPost) (.slice (some ⟨b14, 0, none⟩) (List.length ([] : List ApiPost)) 0)] [(3, ⟨[strV x1.Account, .int .i64 x1.Amount], 38⟩)] [⟨.slice (some ⟨b14, 0, none⟩) (List.length ([] : List ApiPost)) 0, 38, 2⟩] a17 w18 := h19.sel [0, 3, 5, 6] [1, 0] [3]
  clear h19
  refine wpl_end (hq7 _ _ ?_)
  refine seq_ctx fun Q21 hn21 hr21 hx21 => ?_
  refine seq_region tabOk h20 [0, 3, 5, 6, 7] [3] [(0, .v (.slice A1 (List.length x0) c2)), (3, .o 3 0), (5, .v (.slice (some ⟨b14, 0, none⟩) (List.length ([] : List ApiPost)) 0)), (6, .v (.bool false)), (7, .v (.int .i64 0))] [(3, ⟨[strV x1.Account, .int .i64 x1.Amount], 38⟩)] (by kernel_rfl) fun β22 a23 w24 h25 => ?_
  clear h20
  obtain ⟨out26, hL26, hC26⟩ := bindE hF
  clear hF
  have j31 : ∀ a w', (∃ (l27 : List ApiPost) (b30 : Bool) (A28 : Option Addr) (c29 : Nat), (∃ β, Sb β (cx 73 ok w) [(3, .o 3 0), (5, .v (.slice A28 (List.length l27) c29)), (6, .v (.bool b30))] [DF.v (rSl rApiPost) l27 (.slice A28 (List.length l27) c29)] [(3, ⟨[strV x1.Account, .int .i64 x1.Amount], 38⟩)] [⟨.slice A28 (List.length l27) c29, 38, 2⟩] a w') ∧ billingref47_Put_j31 N x1 l27 b30 = some r) → Q21 .normal a w' := by
    rintro a32 w33 ⟨l27, b30, A28, c29, ⟨β34, h35⟩, hF36⟩
    rw [billingref47_Put_j31] at hF36
    refine hn21 _ _ ?_
    refine seq_ctx fun Q37 hn37 hr37 hx37 => ?_
    refine seq_region tabOk h35 [3, 5, 67] [3] [(3, .o 3 0), (5, .v (.slice A28 (List.length l27) c29)), (67, .v (.bool (!b30)))] [(3, ⟨[strV x1.Account, .int .i64 x1.Amount], 38⟩)] (by kernel_rfl) fun β38 a39 w40 h41 => ?_
    clear h35
    refine wp_if h41 rfl (fun hb42 => ?_) (fun hb42 => ?_)
    · skip
      have hF43 := ifT hb42 hF36
      clear hF36
      refine region_ok ?_
      refine evalS_ok tabOk h41 2 [5, 68, 69] [] [(5, .v (.slice A28 (List.length l27) c29)), (68, .v (.slice A28 (List.length l27) c29)), (69, .v (.agg ⟨[strV x1.Account, .int .i64 x1.Amount]⟩))] [] (by kernel_rfl) fun β45 a46 w47 h48 => ?_
      clear h41
      refine step_buildSlice tabOk h48 rfl rfl (r := rApiPost) (xs := ([x1] : List ApiPost)) (vs := [.agg ⟨[strV x1.Account, .int .i64 x1.Amount]⟩]) (pvs := [(0, .agg ⟨[strV x1.Account, .int .i64 x1.Amount]⟩)]) (by kernel_rfl) tb22 rfl tb38 rfl rfl rfl rfl rfl (by kernel_rfl) ⟨(im_ApiPost (x := x1)), trivial⟩ fun A49 c50 a52 w53 hv51 h54 => ?_
      clear h48
      have h55 := h54.addD (d := DF.v (rSl rApiPost) ([x1] : List ApiPost) (.slice A49 (List.length ([x1] : List ApiPost)) c50)) hv51
      clear h54
      obtain ⟨z56, hz56, hF57⟩ := bindE hF43
      clear hF43
      refine step_append tabOk h55 1 0 [] [] rfl rfl (r := rApiPost) (xs := l27) tb22 rfl tb38 rfl rfl rfl rfl rfl rfl rfl rfl (h55.d 0 rfl) hz56 fun A58 c59 a61 w62 hv60 h63 => ?_
      clear h55
      have h64 := h63.addD (d := DF.v (rSl rApiPost) z56 (.slice A58 (List.length z56) c59)) hv60
      clear h63
      refine evalS_ok tabOk h64 1 [5] [] [(5, .v (.slice A58 (List.length z56) c59))] [] (by kernel_rfl) fun β65 a66 w67 h68 => ?_
      clear h64
      have h69 : Sb β65 (cx 73 ok w) [(5, .v (.slice A58 (List.length z56) c59))] [DF.v (rSl rApiPost) z56 (.slice A58 (List.length z56) c59)] [] [⟨.slice A58 (List.length z56) c59, 38, 2⟩] a66 w67 := h68.sel [5] [0] []
      clear h68
      refine wpl_end ?_
      refine hn37 _ _ ?_
      refine seq_region tabOk h69 [4] [] [(4, .v (.slice A58 (List.length z56) c59))] [] (by kernel_rfl) fun β70 a71 w72 h73 => ?_
      clear h69
      refine wp_ret ?_
      refine hr _ _ ?_
      obtain rfl := Option.some.inj hF57
      exact ret1_ok h73 rfl rfl (own_out h73 hok (.head _) (h73.d 0 rfl))
    · skip
      have hF74 := ifF hb42 hF36
      clear hF36
      refine wp_skip ?_
      refine hn37 _ _ ?_
      refine seq_region tabOk h41 [4] [] [(4, .v (.slice A28 (List.length l27) c29))] [] (by kernel_rfl) fun β75 a76 w77 h78 => ?_
      clear h41
      refine wp_ret ?_
      refine hr _ _ ?_
      obtain rfl := Option.some.inj hF74
      exact ret1_ok h78 rfl rfl (own_out h78 hok (.head _) (h78.d 0 rfl))
  refine block_ctx fun Qb26 hnb26 hrb26 hbb26 hxb26 => ?_
  have h84 : Sb β22 (cx 73 ok w) [(0, .v (.slice A1 (List.length x0) c2)), (3, .o 3 0), (5, .v (.slice (some ⟨b14, 0, none⟩) (List.length ([] : List ApiPost)) 0)), (6, .v (.bool false)), (7, .v (.int .i64 0))] [DF.v (rSl rApiPost) x0 (.slice A1 (List.length x0) c2), DF.v (rSl rApiPost) ([] : List ApiPost) (.slice (some ⟨b14, 0, none⟩) (List.length ([] : List ApiPost)) 0)] [(3, ⟨[strV x1.Account, .int .i64 x1.Amount], 38⟩)] [⟨.slice (some ⟨b14, 0, none⟩) (List.length ([] : List ApiPost)) 0, 38, 2⟩] a23 w24 := (h25).sel [0, 3, 5, 6, 7] [0, 1] [3]
  refine loop_ctx (fun m a w' => ∃ (l79 : List ApiPost) (b82 : Bool) (i83 : Int) (A80 : Option Addr) (c81 : Nat), (∃ β, Sb β (cx 73 ok w) [(0, .v (.slice A1 (List.length x0) c2)), (3, .o 3 0), (5, .v (.slice A80 (List.length l79) c81)), (6, .v (.bool b82)), (7, .v (.int .i64 i83))] [DF.v (rSl rApiPost) x0 (.slice A1 (List.length x0) c2), DF.v (rSl rApiPost) l79 (.slice A80 (List.length l79) c81)] [(3, ⟨[strV x1.Account, .int .i64 x1.Amount], 38⟩)] [⟨.slice A80 (List.length l79) c81, 38, 2⟩] a w') ∧ billingref47_Put_l26 N x0 x1 m l79 b82 i83 = some out26) N ⟨([] : List ApiPost), false, 0, (some ⟨b14, 0, none⟩), 0, ⟨_, h84⟩, hL26⟩ ?_
  rintro Q26 m85 a86 w87 ⟨l79, b82, i83, A80, c81, ⟨β88, h89⟩, hF90⟩ hn26 hr26 hx26
  obtain _ | m85 := m85
  · exact absurd hF90 (by simp [billingref47_Put_l26])
  rw [billingref47_Put_l26] at hF90
  refine seq_ctx fun Q91 hn91 hr91 hx91 => ?_
  refine seq_region tabOk h89 [0, 3, 5, 6, 7, 12] [3] [(0, .v (.slice A1 (List.length x0) c2)), (3, .o 3 0), (5, .v (.slice A80 (List.length l79) c81)), (6, .v (.bool b82)), (7, .v (.int .i64 i83)), (12, .v (.bool (decide (i83 < (List.length x0 : Int)))))] [(3, ⟨[strV x1.Account, .int .i64 x1.Amount], 38⟩)] (by kernel_rfl) fun β92 a93 w94 h95 => ?_
  clear h89
  refine wp_if h95 rfl (fun hb96 => ?_) (fun hb96 => ?_)
  · skip
    have hF97 := ifT hb96 hF90
    clear hF90
    refine wp_skip ?_
    refine hn91 _ _ ?_
    refine seq_ctx fun Q98 hn98 hr98 hx98 => ?_
    refine block_ctx fun Q99 hn99 hr99 hb99 hx99 => ?_
    refine seq_ctx fun Q100 hn100 hr100 hx100 => ?_
    refine block_ctx fun Q101 hn101 hr101 hb101 hx101 => ?_
    obtain ⟨g103, hv104, hF105⟩ := bindE hF97
    clear hF97
    refine seq_join (J := fun a w' => ∃ β, Sb β (cx 73 ok w) [(0, .v (.slice A1 (List.length x0) c2)), (3, .o 3 0), (5, .v (.slice A80 (List.length l79) c81)), (6, .v (.bool b82)), (7, .v (.int .i64 i83)), (15, .v (.bool g103))] [DF.v (rSl rApiPost) x0 (.slice A1 (List.length x0) c2), DF.v (rSl rApiPost) l79 (.slice A80 (List.length l79) c81)] [(3, ⟨[strV x1.Account, .int .i64 x1.Amount], 38⟩)] [⟨.slice A80 (List.length l79) c81, 38, 2⟩] a w') ?_ ?_
    · skip
      rintro a106 w107 ⟨β108, h109⟩
      refine wp_if h109 rfl (fun hb110 => ?_) (fun hb110 => ?_)
      · skip
        have hF111 := ifT hb110 hF105
        clear hF105
        refine seq_draw fun Q112 hq112 => ?_
        obtain ⟨x113, hx113, hF114⟩ := bindE hF111
        clear hF111
        have h116 : Sb β108 (cx 73 ok w) [(0, .v (.slice A1 (List.length x0) c2)), (3, .o 3 0), (5, .v (.slice A80 (List.length l79) c81)), (7, .v (.int .i64 i83))] [DF.v (rSl rApiPost) x0 (.slice A1 (List.length x0) c2), DF.v (rSl rApiPost) l79 (.slice A80 (List.length l79) c81)] [(3, ⟨[strV x1.Account, .int .i64 x1.Amount], 38⟩)] [⟨.slice A80 (List.length l79) c81, 38, 2⟩] a106 w107 := h109.sel [0, 3, 5, 7] [0, 1] [3]
        refine draw_rule h116 rfl (by kernel_rfl) 13 [28, 29, 30, 31, 32, 33, 34, 35, 36, 37, 38, 39, 40] [FV.eq (.slice A80 (List.length l79) c81), FV.eq (.pointer (some ⟨β108 3, 0, none⟩)), FV.eq (strV x1.Account), FV.eq (.slice A1 (List.length x0) c2), FV.eq (.int .i64 i83), FV.at rApiPost x113, FV.at (rInt .i64) x113.Amount, FV.eq (.int .i64 x113.Amount), FV.eq (.pointer (some ⟨β108 3, 1, none⟩)), FV.eq (.int .i64 x1.Amount), FV.eq (.int .i64 (IntKind.wrap .i64 (x113.Amount + x1.Amount))), FV.eq (.agg ⟨[strV x1.Account, .int .i64 (IntKind.wrap .i64 (x113.Amount + x1.Amount))]⟩), FV.rep (rSl rApiPost) ([(⟨x1.Account, (IntKind.wrap .i64 (x113.Amount + x1.Amount))⟩ : ApiPost)] : List ApiPost)] rfl rfl rfl (by kernel_rfl) (by kernel_rfl) (by kernel_rfl) (by kernel_rfl) (by kernel_rfl) ?_ ?_
        · skip
          refine ⟨⟨⟨⟨⟨⟨⟨⟨⟨⟨⟨⟨⟨trivial, ?_⟩, ?_⟩, ?_⟩, ?_⟩, ?_⟩, ?_⟩, ?_⟩, ?_⟩, ?_⟩, ?_⟩, ?_⟩, ?_⟩, ?_⟩
          · skip
            intro β117 a118 w119 dX120 Ox121 Q122 h123 hq124 hp125 hk126
            refine evalS_ok tabOk h123 1 [0, 3, 5, 7, 28] [3] [(0, .v (.slice A1 (List.length x0) c2)), (3, .o 3 0), (5, .v (.slice A80 (List.length l79) c81)), (7, .v (.int .i64 i83)), (28, .v (.slice A80 (List.length l79) c81))] [(3, ⟨[strV x1.Account, .int .i64 x1.Amount], 38⟩)] (by kernel_rfl) fun β127 a128 w129 h130 => ?_
            exact wpl_end (hk126 _ _ _ _ (h130.sel [0, 3, 5, 7] [0, 1, 2] [3]) (h130.getD rfl) rfl)
          · skip
            intro β131 a132 w133 dX134 Ox135 Q136 h137 hq138 hp139 hk140
            refine evalS_ok tabOk h137 1 [0, 3, 5, 7, 29] [3] [(0, .v (.slice A1 (List.length x0) c2)), (3, .o 3 0), (5, .v (.slice A80 (List.length l79) c81)), (7, .v (.int .i64 i83)), (29, .o 3 0)] [(3, ⟨[strV x1.Account, .int .i64 x1.Amount], 38⟩)] (by kernel_rfl) fun β141 a142 w143 h144 => ?_
            exact wpl_end (hk140 _ _ _ _ (h144.sel [0, 3, 5, 7] [0, 1, 2] [3]) (h144.getO rfl rfl rfl) rfl)
          · skip
            intro β145 a146 w147 dX148 Ox149 Q150 h151 hq152 hp153 hk154
            have h155 := h151.learnO (d := 29) (id := 3) (off := 0) rfl rfl rfl (hp153 1 29 _ rfl rfl rfl)
            clear h151
            refine evalS_ok tabOk h155 1 [0, 3, 5, 7, 30] [3] [(0, .v (.slice A1 (List.length x0) c2)), (3, .o 3 0), (5, .v (.slice A80 (List.length l79) c81)), (7, .v (.int .i64 i83)), (30, .v (strV x1.Account))] [(3, ⟨[strV x1.Account, .int .i64 x1.Amount], 38⟩)] (by kernel_rfl) fun β156 a157 w158 h159 => ?_
            exact wpl_end (hk154 _ _ _ _ (h159.sel [0, 3, 5, 7] [0, 1, 2] [3]) (h159.getD rfl) rfl)
          · skip
            intro β160 a161 w162 dX163 Ox164 Q165 h166 hq167 hp168 hk169
            refine evalS_ok tabOk h166 1 [0, 3, 5, 7, 31] [3] [(0, .v (.slice A1 (List.length x0) c2)), (3, .o 3 0), (5, .v (.slice A80 (List.length l79) c81)), (7, .v (.int .i64 i83)), (31, .v (.slice A1 (List.length x0) c2))] [(3, ⟨[strV x1.Account, .int .i64 x1.Amount], 38⟩)] (by kernel_rfl) fun β170 a171 w172 h173 => ?_
            exact wpl_end (hk169 _ _ _ _ (h173.sel [0, 3, 5, 7] [0, 1, 2] [3]) (h173.getD rfl) rfl)
          · skip
            intro β174 a175 w176 dX177 Ox178 Q179 h180 hq181 hp182 hk183
            refine evalS_ok tabOk h180 1 [0, 3, 5, 7, 32] [3] [(0, .v (.slice A1 (List.length x0) c2)), (3, .o 3 0), (5, .v (.slice A80 (List.length l79) c81)), (7, .v (.int .i64 i83)), (32, .v (.int .i64 i83))] [(3, ⟨[strV x1.Account, .int .i64 x1.Amount], 38⟩)] (by kernel_rfl) fun β184 a185 w186 h187 => ?_
            exact wpl_end (hk183 _ _ _ _ (h187.sel [0, 3, 5, 7] [0, 1, 2] [3]) (h187.getD rfl) rfl)
          · skip
            intro β188 a189 w190 dX191 Ox192 Q193 h194 hq195 hp196 hk197
            have h198 := h194.learnE (d := 31) rfl (hp196 3 31 _ rfl rfl rfl)
            clear h194
            have h199 := h198.learnE (d := 32) rfl (hp196 4 32 _ rfl rfl rfl)
            clear h198
            refine step_idx tabOk h199 1 rfl rfl rfl rfl rfl hx113 tb22 rfl tb38 rfl fun p200 a201 h202 => ?_
            clear h199
            exact wpl_end (hk197 _ _ _ _ (h202.sel [0, 3, 5, 7] [1, 2, 3] [3]) (h202.getA rfl (h202.d 0 rfl)) rfl)
          · skip
            intro β203 a204 w205 dX206 Ox207 Q208 h209 hq210 hp211 hk212
            have h213 := h209.learn (d := 33) rfl
            clear h209
            have f214 := hp211 5 33 _ rfl rfl rfl
            generalize a204.tmps.getD 33 undef = v215 at h213 f214
            have h216 := h213.addD (d := DF.at rApiPost x113 (v215)) f214
            clear h213
            refine step_field tabOk h216 0 rfl rfl rfl rfl tb38 rfl rfl rfl fun p217 a218 (h219 : Sb β203 _ _ (DF.at (rInt .i64) x113.Amount (p217) :: _) _ _ a218 w205) => ?_
            clear h216
            exact wpl_end (hk212 _ _ _ _ (h219.sel [0, 3, 5, 7] [2, 3, 4] [3]) (h219.getA rfl (h219.d 0 rfl)) rfl)
          · skip
            intro β220 a221 w222 dX223 Ox224 Q225 h226 hq227 hp228 hk229
            have h230 := h226.learn (d := 34) rfl
            clear h226
            have f231 := hp228 6 34 _ rfl rfl rfl
            generalize a221.tmps.getD 34 undef = v232 at h230 f231
            have h233 := h230.addD (d := DF.at (rInt .i64) x113.Amount (v232)) f231
            clear h230
            refine step_load tabOk h233 0 rfl rfl rfl rfl tb3 rfl rfl fun v234 a236 hv235 h237 => ?_
            clear h233
            obtain rfl := isV_int.1 hv235
            exact wpl_end (hk229 _ _ _ _ (h237.sel [0, 3, 5, 7] [2, 3, 4] [3]) (h237.getD rfl) rfl)
          · skip
            intro β238 a239 w240 dX241 Ox242 Q243 h244 hq245 hp246 hk247
            refine evalS_ok tabOk h244 1 [0, 3, 5, 7, 36] [3] [(0, .v (.slice A1 (List.length x0) c2)), (3, .o 3 0), (5, .v (.slice A80 (List.length l79) c81)), (7, .v (.int .i64 i83)), (36, .o 3 1)] [(3, ⟨[strV x1.Account, .int .i64 x1.Amount], 38⟩)] (by kernel_rfl) fun β248 a249 w250 h251 => ?_
            exact wpl_end (hk247 _ _ _ _ (h251.sel [0, 3, 5, 7] [0, 1, 2] [3]) (h251.getO rfl rfl rfl) rfl)
          · skip
            intro β252 a253 w254 dX255 Ox256 Q257 h258 hq259 hp260 hk261
            have h262 := h258.learnO (d := 36) (id := 3) (off := 1) rfl rfl rfl (hp260 8 36 _ rfl rfl rfl)
            clear h258
            refine evalS_ok tabOk h262 1 [0, 3, 5, 7, 37] [3] [(0, .v (.slice A1 (List.length x0) c2)), (3, .o 3 0), (5, .v (.slice A80 (List.length l79) c81)), (7, .v (.int .i64 i83)), (37, .v (.int .i64 x1.Amount))] [(3, ⟨[strV x1.Account, .int .i64 x1.Amount], 38⟩)] (by kernel_rfl) fun β263 a264 w265 h266 => ?_
            exact wpl_end (hk261 _ _ _ _ (h266.sel [0, 3, 5, 7] [0, 1, 2] [3]) (h266.getD rfl) rfl)
          · skip
            intro β267 a268 w269 dX270 Ox271 Q272 h273 hq274 hp275 hk276
            have h277 := h273.learnE (d := 35) rfl (hp275 7 35 _ rfl rfl rfl)
            clear h273
            have h278 := h277.learnE (d := 37) rfl (hp275 9 37 _ rfl rfl rfl)
            clear h277
            refine evalS_ok tabOk h278 1 [0, 3, 5, 7, 38] [3] [(0, .v (.slice A1 (List.length x0) c2)), (3, .o 3 0), (5, .v (.slice A80 (List.length l79) c81)), (7, .v (.int .i64 i83)), (38, .v (.int .i64 (IntKind.wrap .i64 (x113.Amount + x1.Amount))))] [(3, ⟨[strV x1.Account, .int .i64 x1.Amount], 38⟩)] (by kernel_rfl) fun β279 a280 w281 h282 => ?_
            exact wpl_end (hk276 _ _ _ _ (h282.sel [0, 3, 5, 7] [0, 1, 2] [3]) (h282.getD rfl) rfl)
          · skip
            intro β283 a284 w285 dX286 Ox287 Q288 h289 hq290 hp291 hk292
            have h293 := h289.learnE (d := 30) rfl (hp291 2 30 _ rfl rfl rfl)
            clear h289
            have h294 := h293.learnE (d := 38) rfl (hp291 10 38 _ rfl rfl rfl)
            clear h293
            refine evalS_ok tabOk h294 1 [0, 3, 5, 7, 39] [3] [(0, .v (.slice A1 (List.length x0) c2)), (3, .o 3 0), (5, .v (.slice A80 (List.length l79) c81)), (7, .v (.int .i64 i83)), (39, .v (.agg ⟨[strV x1.Account, .int .i64 (IntKind.wrap .i64 (x113.Amount + x1.Amount))]⟩))] [(3, ⟨[strV x1.Account, .int .i64 x1.Amount], 38⟩)] (by kernel_rfl) fun β295 a296 w297 h298 => ?_
            exact wpl_end (hk292 _ _ _ _ (h298.sel [0, 3, 5, 7] [0, 1, 2] [3]) (h298.getD rfl) rfl)
          · skip
            intro β299 a300 w301 dX302 Ox303 Q304 h305 hq306 hp307 hk308
            have h309 := h305.learnE (d := 39) rfl (hp307 11 39 _ rfl rfl rfl)
            clear h305
            refine step_buildSlice tabOk h309 rfl rfl (r := rApiPost) (xs := ([(⟨x1.Account, (IntKind.wrap .i64 (x113.Amount + x1.Amount))⟩ : ApiPost)] : List ApiPost)) (vs := [.agg ⟨[strV x1.Account, .int .i64 (IntKind.wrap .i64 (x113.Amount + x1.Amount))]⟩]) (pvs := [(0, .agg ⟨[strV x1.Account, .int .i64 (IntKind.wrap .i64 (x113.Amount + x1.Amount))]⟩)]) (by kernel_rfl) tb22 rfl tb38 rfl rfl rfl rfl rfl (by kernel_rfl) ⟨(im_ApiPost (x := (⟨x1.Account, (IntKind.wrap .i64 (x113.Amount + x1.Amount))⟩ : ApiPost))), trivial⟩ fun A310 c311 a313 w314 hv312 h315 => ?_
            clear h309
            have h316 := h315.addD (d := DF.v (rSl rApiPost) ([(⟨x1.Account, (IntKind.wrap .i64 (x113.Amount + x1.Amount))⟩ : ApiPost)] : List ApiPost) (.slice A310 (List.length ([(⟨x1.Account, (IntKind.wrap .i64 (x113.Amount + x1.Amount))⟩ : ApiPost)] : List ApiPost)) c311)) hv312
            clear h315
            exact wpl_end (hk308 _ _ _ _ (h316.sel [0, 3, 5, 7] [1, 2, 3] [3]) (h316.getR rfl (h316.d 0 rfl)) rfl)
        · skip
          intro β317 a318 w319 h320 ha321
          have h322 := h320.learnE (d := 28) rfl (ha321 0 28 _ rfl rfl)
          clear h320
          have h323 := h322.learn (d := 40) rfl
          clear h322
          have f324 := ha321 12 40 _ rfl rfl
          generalize a318.tmps.getD 40 undef = v325 at h323 f324
          obtain ⟨A326, c327, rfl, hs328⟩ := slForm f324
          have h329 := h323.addD (d := DF.v (rSl rApiPost) ([(⟨x1.Account, (IntKind.wrap .i64 (x113.Amount + x1.Amount))⟩ : ApiPost)] : List ApiPost) (.slice A326 (List.length ([(⟨x1.Account, (IntKind.wrap .i64 (x113.Amount + x1.Amount))⟩ : ApiPost)] : List ApiPost)) c327)) hs328
          clear h323
          have h330 := h329.unpin rfl
          clear h329
          obtain ⟨z331, hz331, hF332⟩ := bindE hF114
          clear hF114
          refine step_append tabOk h330 2 0 [] [] rfl rfl (r := rApiPost) (xs := l79) tb22 rfl tb38 rfl rfl rfl rfl rfl rfl rfl rfl (h330.d 0 rfl) hz331 fun A333 c334 a336 w337 hv335 h338 => ?_
          clear h330
          have h339 := h338.addD (d := DF.v (rSl rApiPost) z331 (.slice A333 (List.length z331) c334)) hv335
          clear h338
          refine evalS_ok tabOk h339 1 [0, 3, 5, 7] [3] [(0, .v (.slice A1 (List.length x0) c2)), (3, .o 3 0), (5, .v (.slice A333 (List.length z331) c334)), (7, .v (.int .i64 i83))] [(3, ⟨[strV x1.Account, .int .i64 x1.Amount], 38⟩)] (by kernel_rfl) fun β340 a341 w342 h343 => ?_
          clear h339
          have h344 : Sb β340 (cx 73 ok w) [(0, .v (.slice A1 (List.length x0) c2)), (3, .o 3 0), (5, .v (.slice A333 (List.length z331) c334)), (7, .v (.int .i64 i83))] [DF.v (rSl rApiPost) x0 (.slice A1 (List.length x0) c2), DF.v (rSl rApiPost) z331 (.slice A333 (List.length z331) c334)] [(3, ⟨[strV x1.Account, .int .i64 x1.Amount], 38⟩)] [⟨.slice A333 (List.length z331) c334, 38, 2⟩] a341 w342 := h343.sel [0, 3, 5, 7] [2, 0] [3]
          clear h343
          refine wpl_end (hq112 _ _ ?_)
          refine seq_region tabOk h344 [0, 3, 5, 6, 7] [3] [(0, .v (.slice A1 (List.length x0) c2)), (3, .o 3 0), (5, .v (.slice A333 (List.length z331) c334)), (6, .v (.bool true)), (7, .v (.int .i64 i83))] [(3, ⟨[strV x1.Account, .int .i64 x1.Amount], 38⟩)] (by kernel_rfl) fun β345 a346 w347 h348 => ?_
          clear h344
          refine wp_exit ?_
          refine hx101 1 _ _ (by decide) ?_
          refine hx100 1 _ _ ?_
          refine hb99 _ _ ?_
          refine hn98 _ _ ?_
          refine evalR_ok tabOk h348 [0, 3, 5, 6, 7] [3] [(0, .v (.slice A1 (List.length x0) c2)), (3, .o 3 0), (5, .v (.slice A333 (List.length z331) c334)), (6, .v (.bool true)), (7, .v (.int .i64 (IntKind.wrap .i64 (i83 + 1))))] [(3, ⟨[strV x1.Account, .int .i64 x1.Amount], 38⟩)] (by kernel_rfl) fun β349 a350 w351 h352 => ?_
          clear h348
          have h353 : Sb β349 (cx 73 ok w) [(0, .v (.slice A1 (List.length x0) c2)), (3, .o 3 0), (5, .v (.slice A333 (List.length z331) c334)), (6, .v (.bool true)), (7, .v (.int .i64 (IntKind.wrap .i64 (i83 + 1))))] [DF.v (rSl rApiPost) x0 (.slice A1 (List.length x0) c2), DF.v (rSl rApiPost) z331 (.slice A333 (List.length z331) c334)] [(3, ⟨[strV x1.Account, .int .i64 x1.Amount], 38⟩)] [⟨.slice A333 (List.length z331) c334, 38, 2⟩] a350 w351 := (h352).sel [0, 3, 5, 6, 7] [0, 1] [3]
          exact hn26 _ _ _ (Nat.lt_succ_self _) ⟨z331, true, (IntKind.wrap .i64 (i83 + 1)), A333, c334, ⟨_, h353⟩, hF332⟩
      · skip
        have hF354 := ifF hb110 hF105
        clear hF105
        obtain ⟨g356, hv357, hF358⟩ := bindE hF354
        clear hF354
        refine seq_join (J := fun a w' => ∃ β, Sb β (cx 73 ok w) [(0, .v (.slice A1 (List.length x0) c2)), (3, .o 3 0), (5, .v (.slice A80 (List.length l79) c81)), (6, .v (.bool b82)), (7, .v (.int .i64 i83)), (42, .v (.bool g356))] [DF.v (rSl rApiPost) x0 (.slice A1 (List.length x0) c2), DF.v (rSl rApiPost) l79 (.slice A80 (List.length l79) c81)] [(3, ⟨[strV x1.Account, .int .i64 x1.Amount], 38⟩)] [⟨.slice A80 (List.length l79) c81, 38, 2⟩] a w') ?_ ?_
        · skip
          rintro a359 w360 ⟨β361, h362⟩
          have j367 : ∀ a w', (∃ (l363 : List ApiPost) (b366 : Bool) (A364 : Option Addr) (c365 : Nat), (∃ β, Sb β (cx 73 ok w) [(0, .v (.slice A1 (List.length x0) c2)), (3, .o 3 0), (5, .v (.slice A364 (List.length l363) c365)), (6, .v (.bool b366)), (7, .v (.int .i64 i83))] [DF.v (rSl rApiPost) x0 (.slice A1 (List.length x0) c2), DF.v (rSl rApiPost) l363 (.slice A364 (List.length l363) c365)] [(3, ⟨[strV x1.Account, .int .i64 x1.Amount], 38⟩)] [⟨.slice A364 (List.length l363) c365, 38, 2⟩] a w') ∧ billingref47_Put_j367 N (billingref47_Put_l26 N x0 x1 m85) x0 i83 l363 b366 = some out26) → Q101 .normal a w' := by
            rintro a368 w369 ⟨l363, b366, A364, c365, ⟨β370, h371⟩, hF372⟩
            rw [billingref47_Put_j367] at hF372
            refine hn101 _ _ ?_
            refine hn100 _ _ ?_
            refine region_ok ?_
            refine evalS_ok tabOk h371 3 [0, 3, 5, 6, 7, 59, 60, 61] [3] [(0, .v (.slice A1 (List.length x0) c2)), (3, .o 3 0), (5, .v (.slice A364 (List.length l363) c365)), (6, .v (.bool b366)), (7, .v (.int .i64 i83)), (59, .v (.slice A364 (List.length l363) c365)), (60, .v (.slice A1 (List.length x0) c2)), (61, .v (.int .i64 i83))] [(3, ⟨[strV x1.Account, .int .i64 x1.Amount], 38⟩)] (by kernel_rfl) fun β374 a375 w376 h377 => ?_
            clear h371
            obtain ⟨x378, hx378, hF379⟩ := bindE hF372
            clear hF372
            refine step_idx tabOk h377 0 rfl rfl rfl rfl rfl hx378 tb22 rfl tb38 rfl fun p380 a381 h382 => ?_
            clear h377
            refine step_load tabOk h382 0 rfl rfl rfl rfl tb38 rfl rfl fun v383 a385 hv384 h386 => ?_
            clear h382
            obtain rfl := ex_ApiPost hv384
            refine step_buildSlice tabOk h386 rfl rfl (r := rApiPost) (xs := ([x378] : List ApiPost)) (vs := [.agg ⟨[strV x378.Account, .int .i64 x378.Amount]⟩]) (pvs := [(0, .agg ⟨[strV x378.Account, .int .i64 x378.Amount]⟩)]) (by kernel_rfl) tb22 rfl tb38 rfl rfl rfl rfl rfl (by kernel_rfl) ⟨(im_ApiPost (x := x378)), trivial⟩ fun A387 c388 a390 w391 hv389 h392 => ?_
            clear h386
            have h393 := h392.addD (d := DF.v (rSl rApiPost) ([x378] : List ApiPost) (.slice A387 (List.length ([x378] : List ApiPost)) c388)) hv389
            clear h392
            obtain ⟨z394, hz394, hF395⟩ := bindE hF379
            clear hF379
            refine step_append tabOk h393 4 0 [] [] rfl rfl (r := rApiPost) (xs := l363) tb22 rfl tb38 rfl rfl rfl rfl rfl rfl rfl rfl (h393.d 0 rfl) hz394 fun A396 c397 a399 w400 hv398 h401 => ?_
            clear h393
            have h402 := h401.addD (d := DF.v (rSl rApiPost) z394 (.slice A396 (List.length z394) c397)) hv398
            clear h401
            refine evalS_ok tabOk h402 1 [0, 3, 5, 6, 7] [3] [(0, .v (.slice A1 (List.length x0) c2)), (3, .o 3 0), (5, .v (.slice A396 (List.length z394) c397)), (6, .v (.bool b366)), (7, .v (.int .i64 i83))] [(3, ⟨[strV x1.Account, .int .i64 x1.Amount], 38⟩)] (by kernel_rfl) fun β403 a404 w405 h406 => ?_
            clear h402
            have h407 : Sb β403 (cx 73 ok w) [(0, .v (.slice A1 (List.length x0) c2)), (3, .o 3 0), (5, .v (.slice A396 (List.length z394) c397)), (6, .v (.bool b366)), (7, .v (.int .i64 i83))] [DF.v (rSl rApiPost) x0 (.slice A1 (List.length x0) c2), DF.v (rSl rApiPost) z394 (.slice A396 (List.length z394) c397)] [(3, ⟨[strV x1.Account, .int .i64 x1.Amount], 38⟩)] [⟨.slice A396 (List.length z394) c397, 38, 2⟩] a404 w405 := h406.sel [0, 3, 5, 6, 7] [4, 0] [3]
            clear h406
            refine wpl_end ?_
            refine hn99 _ _ ?_
            refine hn98 _ _ ?_
            refine evalR_ok tabOk h407 [0, 3, 5, 6, 7] [3] [(0, .v (.slice A1 (List.length x0) c2)), (3, .o 3 0), (5, .v (.slice A396 (List.length z394) c397)), (6, .v (.bool b366)), (7, .v (.int .i64 (IntKind.wrap .i64 (i83 + 1))))] [(3, ⟨[strV x1.Account, .int .i64 x1.Amount], 38⟩)] (by kernel_rfl) fun β408 a409 w410 h411 => ?_
            clear h407
            have h412 : Sb β408 (cx 73 ok w) [(0, .v (.slice A1 (List.length x0) c2)), (3, .o 3 0), (5, .v (.slice A396 (List.length z394) c397)), (6, .v (.bool b366)), (7, .v (.int .i64 (IntKind.wrap .i64 (i83 + 1))))] [DF.v (rSl rApiPost) x0 (.slice A1 (List.length x0) c2), DF.v (rSl rApiPost) z394 (.slice A396 (List.length z394) c397)] [(3, ⟨[strV x1.Account, .int .i64 x1.Amount], 38⟩)] [⟨.slice A396 (List.length z394) c397, 38, 2⟩] a409 w410 := (h411).sel [0, 3, 5, 6, 7] [0, 1] [3]
            exact hn26 _ _ _ (Nat.lt_succ_self _) ⟨z394, b366, (IntKind.wrap .i64 (i83 + 1)), A396, c397, ⟨_, h412⟩, hF395⟩
          refine wp_if h362 rfl (fun hb413 => ?_) (fun hb413 => ?_)
          · skip
            have hF414 := ifT hb413 hF358
            clear hF358
            refine seq_list fun Q415 hq415 => ?_
            refine evalS_ok tabOk h362 2 [0, 3, 5, 7, 55, 56] [3] [(0, .v (.slice A1 (List.length x0) c2)), (3, .o 3 0), (5, .v (.slice A80 (List.length l79) c81)), (7, .v (.int .i64 i83)), (55, .v (.slice A80 (List.length l79) c81)), (56, .v (.agg ⟨[strV x1.Account, .int .i64 x1.Amount]⟩))] [(3, ⟨[strV x1.Account, .int .i64 x1.Amount], 38⟩)] (by kernel_rfl) fun β416 a417 w418 h419 => ?_
            clear h362
            refine step_buildSlice tabOk h419 rfl rfl (r := rApiPost) (xs := ([x1] : List ApiPost)) (vs := [.agg ⟨[strV x1.Account, .int .i64 x1.Amount]⟩]) (pvs := [(0, .agg ⟨[strV x1.Account, .int .i64 x1.Amount]⟩)]) (by kernel_rfl) tb22 rfl tb38 rfl rfl rfl rfl rfl (by kernel_rfl) ⟨(im_ApiPost (x := x1)), trivial⟩ fun A420 c421 a423 w424 hv422 h425 => ?_
            clear h419
            have h426 := h425.addD (d := DF.v (rSl rApiPost) ([x1] : List ApiPost) (.slice A420 (List.length ([x1] : List ApiPost)) c421)) hv422
            clear h425
            obtain ⟨z427, hz427, hF428⟩ := bindE hF414
            clear hF414
            refine step_append tabOk h426 2 0 [] [] rfl rfl (r := rApiPost) (xs := l79) tb22 rfl tb38 rfl rfl rfl rfl rfl rfl rfl rfl (h426.d 0 rfl) hz427 fun A429 c430 a432 w433 hv431 h434 => ?_
            clear h426
            have h435 := h434.addD (d := DF.v (rSl rApiPost) z427 (.slice A429 (List.length z427) c430)) hv431
            clear h434
            refine evalS_ok tabOk h435 1 [0, 3, 5, 7] [3] [(0, .v (.slice A1 (List.length x0) c2)), (3, .o 3 0), (5, .v (.slice A429 (List.length z427) c430)), (7, .v (.int .i64 i83))] [(3, ⟨[strV x1.Account, .int .i64 x1.Amount], 38⟩)] (by kernel_rfl) fun β436 a437 w438 h439 => ?_
            clear h435
            have h440 : Sb β436 (cx 73 ok w) [(0, .v (.slice A1 (List.length x0) c2)), (3, .o 3 0), (5, .v (.slice A429 (List.length z427) c430)), (7, .v (.int .i64 i83))] [DF.v (rSl rApiPost) x0 (.slice A1 (List.length x0) c2), DF.v (rSl rApiPost) z427 (.slice A429 (List.length z427) c430)] [(3, ⟨[strV x1.Account, .int .i64 x1.Amount], 38⟩)] [⟨.slice A429 (List.length z427) c430, 38, 2⟩] a437 w438 := h439.sel [0, 3, 5, 7] [2, 0] [3]
            clear h439
            refine wpl_end (hq415 _ _ ?_)
            refine evalR_ok tabOk h440 [0, 3, 5, 6, 7] [3] [(0, .v (.slice A1 (List.length x0) c2)), (3, .o 3 0), (5, .v (.slice A429 (List.length z427) c430)), (6, .v (.bool true)), (7, .v (.int .i64 i83))] [(3, ⟨[strV x1.Account, .int .i64 x1.Amount], 38⟩)] (by kernel_rfl) fun β441 a442 w443 h444 => ?_
            clear h440
            have h445 : Sb β441 (cx 73 ok w) [(0, .v (.slice A1 (List.length x0) c2)), (3, .o 3 0), (5, .v (.slice A429 (List.length z427) c430)), (6, .v (.bool true)), (7, .v (.int .i64 i83))] [DF.v (rSl rApiPost) x0 (.slice A1 (List.length x0) c2), DF.v (rSl rApiPost) z427 (.slice A429 (List.length z427) c430)] [(3, ⟨[strV x1.Account, .int .i64 x1.Amount], 38⟩)] [⟨.slice A429 (List.length z427) c430, 38, 2⟩] a442 w443 := (h444).sel [0, 3, 5, 6, 7] [0, 1] [3]
            exact j367 _ _ ⟨z427, true, A429, c430, ⟨_, h445⟩, hF428⟩
          · skip
            have hF446 := ifF hb413 hF358
            clear hF358
            refine wp_skip ?_
            have h447 : Sb β361 (cx 73 ok w) [(0, .v (.slice A1 (List.length x0) c2)), (3, .o 3 0), (5, .v (.slice A80 (List.length l79) c81)), (6, .v (.bool b82)), (7, .v (.int .i64 i83))] [DF.v (rSl rApiPost) x0 (.slice A1 (List.length x0) c2), DF.v (rSl rApiPost) l79 (.slice A80 (List.length l79) c81)] [(3, ⟨[strV x1.Account, .int .i64 x1.Amount], 38⟩)] [⟨.slice A80 (List.length l79) c81, 38, 2⟩] a359 w360 := (h362).sel [0, 3, 5, 6, 7] [0, 1] [3]
            exact j367 _ _ ⟨l79, b82, A80, c81, ⟨_, h447⟩, hF446⟩
        · skip
          refine bcases (b := (!b82)) (fun hb448 => ?_) (fun hb448 => ?_)
          · skip
            have hv449 := ifT hb448 hv357
            clear hv357
            obtain ⟨x450, hx450, hv451⟩ := bindE hv449
            clear hv449
            have h453 : Sb β108 (cx 73 ok w) [(0, .v (.slice A1 (List.length x0) c2)), (3, .o 3 0), (5, .v (.slice A80 (List.length l79) c81)), (6, .v (.bool b82)), (7, .v (.int .i64 i83))] [DF.v (rSl rApiPost) x0 (.slice A1 (List.length x0) c2), DF.v (rSl rApiPost) l79 (.slice A80 (List.length l79) c81)] [(3, ⟨[strV x1.Account, .int .i64 x1.Amount], 38⟩)] [⟨.slice A80 (List.length l79) c81, 38, 2⟩] a106 w107 := h109.sel [0, 3, 5, 6, 7] [0, 1] [3]
            refine draw_rule h453 rfl (by kernel_rfl) 12 [43, 44, 45, 46, 47, 48, 49, 50, 51, 52, 53, 54] [FV.eq (.bool b82), FV.eq (.bool (!b82)), FV.eq (.bool (!b82)), FV.eq (.slice A1 (List.length x0) c2), FV.eq (.int .i64 i83), FV.at rApiPost x450, FV.at rStr x450.Account, FV.eq (strV x450.Account), FV.eq (.pointer (some ⟨β108 3, 0, none⟩)), FV.eq (strV x1.Account), FV.eq (.bool (!(Op.bytesLess x450.Account x1.Account || x450.Account == x1.Account))), FV.eq (.bool (!(Op.bytesLess x450.Account x1.Account || x450.Account == x1.Account)))] rfl rfl rfl (by kernel_rfl) (by kernel_rfl) (by kernel_rfl) (by kernel_rfl) (by kernel_rfl) ?_ ?_
            · skip
              refine ⟨⟨⟨⟨⟨⟨⟨⟨⟨⟨⟨⟨trivial, ?_⟩, ?_⟩, ?_⟩, ?_⟩, ?_⟩, ?_⟩, ?_⟩, ?_⟩, ?_⟩, ?_⟩, ?_⟩, ?_⟩
              · skip
                intro β454 a455 w456 dX457 Ox458 Q459 h460 hq461 hp462 hk463
                refine evalS_ok tabOk h460 1 [0, 3, 5, 6, 7, 43] [3] [(0, .v (.slice A1 (List.length x0) c2)), (3, .o 3 0), (5, .v (.slice A80 (List.length l79) c81)), (6, .v (.bool b82)), (7, .v (.int .i64 i83)), (43, .v (.bool b82))] [(3, ⟨[strV x1.Account, .int .i64 x1.Amount], 38⟩)] (by kernel_rfl) fun β464 a465 w466 h467 => ?_
                exact wpl_end (hk463 _ _ _ _ (h467.sel [0, 3, 5, 6, 7] [0, 1, 2] [3]) (h467.getD rfl) rfl)
              · skip
                intro β468 a469 w470 dX471 Ox472 Q473 h474 hq475 hp476 hk477
                have h478 := h474.learnE (d := 43) rfl (hp476 0 43 _ rfl rfl rfl)
                clear h474
                refine evalS_ok tabOk h478 1 [0, 3, 5, 6, 7, 44] [3] [(0, .v (.slice A1 (List.length x0) c2)), (3, .o 3 0), (5, .v (.slice A80 (List.length l79) c81)), (6, .v (.bool b82)), (7, .v (.int .i64 i83)), (44, .v (.bool (!b82)))] [(3, ⟨[strV x1.Account, .int .i64 x1.Amount], 38⟩)] (by kernel_rfl) fun β479 a480 w481 h482 => ?_
                exact wpl_end (hk477 _ _ _ _ (h482.sel [0, 3, 5, 6, 7] [0, 1, 2] [3]) (h482.getD rfl) rfl)
              · skip
                intro β483 a484 w485 dX486 Ox487 Q488 h489 hq490 hp491 hk492
                have h493 := h489.learnE (d := 44) rfl (hp491 1 44 _ rfl rfl rfl)
                clear h489
                refine evalS_ok tabOk h493 1 [0, 3, 5, 6, 7, 45] [3] [(0, .v (.slice A1 (List.length x0) c2)), (3, .o 3 0), (5, .v (.slice A80 (List.length l79) c81)), (6, .v (.bool b82)), (7, .v (.int .i64 i83)), (45, .v (.bool (!b82)))] [(3, ⟨[strV x1.Account, .int .i64 x1.Amount], 38⟩)] (by kernel_rfl) fun β494 a495 w496 h497 => ?_
                exact wpl_end (hk492 _ _ _ _ (h497.sel [0, 3, 5, 6, 7] [0, 1, 2] [3]) (h497.getD rfl) rfl)
              · skip
                intro β498 a499 w500 dX501 Ox502 Q503 h504 hq505 hp506 hk507
                have h508 := h504.learnE (d := 45) rfl (hp506 2 45 _ rfl rfl rfl)
                clear h504
                have h509 := h508.reb (t := 45) rfl hb448
                clear h508
                refine evalS_ok tabOk h509 1 [0, 3, 5, 6, 7, 46] [3] [(0, .v (.slice A1 (List.length x0) c2)), (3, .o 3 0), (5, .v (.slice A80 (List.length l79) c81)), (6, .v (.bool b82)), (7, .v (.int .i64 i83)), (46, .v (.slice A1 (List.length x0) c2))] [(3, ⟨[strV x1.Account, .int .i64 x1.Amount], 38⟩)] (by kernel_rfl) fun β510 a511 w512 h513 => ?_
                exact wpl_end (hk507 _ _ _ _ (h513.sel [0, 3, 5, 6, 7] [0, 1, 2] [3]) (h513.getD rfl) rfl)
              · skip
                intro β514 a515 w516 dX517 Ox518 Q519 h520 hq521 hp522 hk523
                have h524 := h520.learnE (d := 45) rfl (hp522 2 45 _ rfl rfl rfl)
                clear h520
                have h525 := h524.reb (t := 45) rfl hb448
                clear h524
                refine evalS_ok tabOk h525 1 [0, 3, 5, 6, 7, 47] [3] [(0, .v (.slice A1 (List.length x0) c2)), (3, .o 3 0), (5, .v (.slice A80 (List.length l79) c81)), (6, .v (.bool b82)), (7, .v (.int .i64 i83)), (47, .v (.int .i64 i83))] [(3, ⟨[strV x1.Account, .int .i64 x1.Amount], 38⟩)] (by kernel_rfl) fun β526 a527 w528 h529 => ?_
                exact wpl_end (hk523 _ _ _ _ (h529.sel [0, 3, 5, 6, 7] [0, 1, 2] [3]) (h529.getD rfl) rfl)
              · skip
                intro β530 a531 w532 dX533 Ox534 Q535 h536 hq537 hp538 hk539
                have h540 := h536.learnE (d := 45) rfl (hp538 2 45 _ rfl rfl rfl)
                clear h536
                have h541 := h540.reb (t := 45) rfl hb448
                clear h540
                have h542 := h541.learnE (d := 46) rfl (hp538 3 46 _ rfl rfl rfl)
                clear h541
                have h543 := h542.learnE (d := 47) rfl (hp538 4 47 _ rfl rfl rfl)
                clear h542
                refine step_idx tabOk h543 1 rfl rfl rfl rfl rfl hx450 tb22 rfl tb38 rfl fun p544 a545 h546 => ?_
                clear h543
                exact wpl_end (hk539 _ _ _ _ (h546.sel [0, 3, 5, 6, 7] [1, 2, 3] [3]) (h546.getA rfl (h546.d 0 rfl)) rfl)
              · skip
                intro β547 a548 w549 dX550 Ox551 Q552 h553 hq554 hp555 hk556
                have h557 := h553.learnE (d := 45) rfl (hp555 2 45 _ rfl rfl rfl)
                clear h553
                have h558 := h557.reb (t := 45) rfl hb448
                clear h557
                have h559 := h558.learn (d := 48) rfl
                clear h558
                have f560 := hp555 5 48 _ rfl rfl rfl
                generalize a548.tmps.getD 48 undef = v561 at h559 f560
                have h562 := h559.addD (d := DF.at rApiPost x450 (v561)) f560
                clear h559
                refine step_field tabOk h562 0 rfl rfl rfl rfl tb38 rfl rfl rfl fun p563 a564 (h565 : Sb β547 _ _ (DF.at rStr x450.Account (p563) :: _) _ _ a564 w549) => ?_
                clear h562
                exact wpl_end (hk556 _ _ _ _ (h565.sel [0, 3, 5, 6, 7] [2, 3, 4] [3]) (h565.getA rfl (h565.d 0 rfl)) rfl)
              · skip
                intro β566 a567 w568 dX569 Ox570 Q571 h572 hq573 hp574 hk575
                have h576 := h572.learnE (d := 45) rfl (hp574 2 45 _ rfl rfl rfl)
                clear h572
                have h577 := h576.reb (t := 45) rfl hb448
                clear h576
                have h578 := h577.learn (d := 49) rfl
                clear h577
                have f579 := hp574 6 49 _ rfl rfl rfl
                generalize a567.tmps.getD 49 undef = v580 at h578 f579
                have h581 := h578.addD (d := DF.at rStr x450.Account (v580)) f579
                clear h578
                refine step_load tabOk h581 0 rfl rfl rfl rfl tb9 rfl rfl fun v582 a584 hv583 h585 => ?_
                clear h581
                obtain rfl := isV_str.1 hv583
                exact wpl_end (hk575 _ _ _ _ (h585.sel [0, 3, 5, 6, 7] [2, 3, 4] [3]) (h585.getD rfl) rfl)
              · skip
                intro β586 a587 w588 dX589 Ox590 Q591 h592 hq593 hp594 hk595
                have h596 := h592.learnE (d := 45) rfl (hp594 2 45 _ rfl rfl rfl)
                clear h592
                have h597 := h596.reb (t := 45) rfl hb448
                clear h596
                refine evalS_ok tabOk h597 1 [0, 3, 5, 6, 7, 51] [3] [(0, .v (.slice A1 (List.length x0) c2)), (3, .o 3 0), (5, .v (.slice A80 (List.length l79) c81)), (6, .v (.bool b82)), (7, .v (.int .i64 i83)), (51, .o 3 0)] [(3, ⟨[strV x1.Account, .int .i64 x1.Amount], 38⟩)] (by kernel_rfl) fun β598 a599 w600 h601 => ?_
                exact wpl_end (hk595 _ _ _ _ (h601.sel [0, 3, 5, 6, 7] [0, 1, 2] [3]) (h601.getO rfl rfl rfl) rfl)
              · skip
                intro β602 a603 w604 dX605 Ox606 Q607 h608 hq609 hp610 hk611
                have h612 := h608.learnE (d := 45) rfl (hp610 2 45 _ rfl rfl rfl)
                clear h608
                have h613 := h612.reb (t := 45) rfl hb448
                clear h612
                have h614 := h613.learnO (d := 51) (id := 3) (off := 0) rfl rfl rfl (hp610 8 51 _ rfl rfl rfl)
                clear h613
                refine evalS_ok tabOk h614 1 [0, 3, 5, 6, 7, 52] [3] [(0, .v (.slice A1 (List.length x0) c2)), (3, .o 3 0), (5, .v (.slice A80 (List.length l79) c81)), (6, .v (.bool b82)), (7, .v (.int .i64 i83)), (52, .v (strV x1.Account))] [(3, ⟨[strV x1.Account, .int .i64 x1.Amount], 38⟩)] (by kernel_rfl) fun β615 a616 w617 h618 => ?_
                exact wpl_end (hk611 _ _ _ _ (h618.sel [0, 3, 5, 6, 7] [0, 1, 2] [3]) (h618.getD rfl) rfl)
              · skip
                intro β619 a620 w621 dX622 Ox623 Q624 h625 hq626 hp627 hk628
                have h629 := h625.learnE (d := 45) rfl (hp627 2 45 _ rfl rfl rfl)
                clear h625
                have h630 := h629.reb (t := 45) rfl hb448
                clear h629
                have h631 := h630.learnE (d := 50) rfl (hp627 7 50 _ rfl rfl rfl)
                clear h630
                have h632 := h631.learnE (d := 52) rfl (hp627 9 52 _ rfl rfl rfl)
                clear h631
                refine evalS_ok tabOk h632 1 [0, 3, 5, 6, 7, 53] [3] [(0, .v (.slice A1 (List.length x0) c2)), (3, .o 3 0), (5, .v (.slice A80 (List.length l79) c81)), (6, .v (.bool b82)), (7, .v (.int .i64 i83)), (53, .v (.bool (!(Op.bytesLess x450.Account x1.Account || x450.Account == x1.Account))))] [(3, ⟨[strV x1.Account, .int .i64 x1.Amount], 38⟩)] (by kernel_rfl) fun β633 a634 w635 h636 => ?_
                exact wpl_end (hk628 _ _ _ _ (h636.sel [0, 3, 5, 6, 7] [0, 1, 2] [3]) (h636.getD rfl) rfl)
              · skip
                intro β637 a638 w639 dX640 Ox641 Q642 h643 hq644 hp645 hk646
                have h647 := h643.learnE (d := 45) rfl (hp645 2 45 _ rfl rfl rfl)
                clear h643
                have h648 := h647.reb (t := 45) rfl hb448
                clear h647
                have h649 := h648.learnE (d := 53) rfl (hp645 10 53 _ rfl rfl rfl)
                clear h648
                refine evalS_ok tabOk h649 1 [0, 3, 5, 6, 7, 54] [3] [(0, .v (.slice A1 (List.length x0) c2)), (3, .o 3 0), (5, .v (.slice A80 (List.length l79) c81)), (6, .v (.bool b82)), (7, .v (.int .i64 i83)), (54, .v (.bool (!(Op.bytesLess x450.Account x1.Account || x450.Account == x1.Account))))] [(3, ⟨[strV x1.Account, .int .i64 x1.Amount], 38⟩)] (by kernel_rfl) fun β650 a651 w652 h653 => ?_
                exact wpl_end (hk646 _ _ _ _ (h653.sel [0, 3, 5, 6, 7] [0, 1, 2] [3]) (h653.getD rfl) rfl)
            · skip
              intro β654 a655 w656 h657 ha658
              have h659 := h657.learnE (d := 54) rfl (ha658 11 54 _ rfl rfl)
              clear h657
              have h660 := h659.unpin rfl
              clear h659
              refine evalS_ok tabOk h660 1 [0, 3, 5, 6, 7, 42] [3] [(0, .v (.slice A1 (List.length x0) c2)), (3, .o 3 0), (5, .v (.slice A80 (List.length l79) c81)), (6, .v (.bool b82)), (7, .v (.int .i64 i83)), (42, .v (.bool (!(Op.bytesLess x450.Account x1.Account || x450.Account == x1.Account))))] [(3, ⟨[strV x1.Account, .int .i64 x1.Amount], 38⟩)] (by kernel_rfl) fun β661 a662 w663 h664 => ?_
              clear h660
              obtain rfl := Option.some.inj hv451
              have h665 : Sb β661 (cx 73 ok w) [(0, .v (.slice A1 (List.length x0) c2)), (3, .o 3 0), (5, .v (.slice A80 (List.length l79) c81)), (6, .v (.bool b82)), (7, .v (.int .i64 i83)), (42, .v (.bool (!(Op.bytesLess x450.Account x1.Account || x450.Account == x1.Account))))] [DF.v (rSl rApiPost) x0 (.slice A1 (List.length x0) c2), DF.v (rSl rApiPost) l79 (.slice A80 (List.length l79) c81)] [(3, ⟨[strV x1.Account, .int .i64 x1.Amount], 38⟩)] [⟨.slice A80 (List.length l79) c81, 38, 2⟩] a662 w663 := h664.sel [0, 3, 5, 6, 7, 42] [0, 1] [3]
              clear h664
              exact wpl_end (then_n ⟨_, h665⟩)
          · skip
            have hv666 := ifF hb448 hv357
            clear hv357
            have h668 : Sb β108 (cx 73 ok w) [(0, .v (.slice A1 (List.length x0) c2)), (3, .o 3 0), (5, .v (.slice A80 (List.length l79) c81)), (6, .v (.bool b82)), (7, .v (.int .i64 i83))] [DF.v (rSl rApiPost) x0 (.slice A1 (List.length x0) c2), DF.v (rSl rApiPost) l79 (.slice A80 (List.length l79) c81)] [(3, ⟨[strV x1.Account, .int .i64 x1.Amount], 38⟩)] [⟨.slice A80 (List.length l79) c81, 38, 2⟩] a106 w107 := h109.sel [0, 3, 5, 6, 7] [0, 1] [3]
            refine draw_rule h668 rfl (by kernel_rfl) 12 [43, 44, 45, 46, 47, 48, 49, 50, 51, 52, 53, 54] [FV.eq (.bool b82), FV.eq (.bool (!b82)), FV.eq (.bool (!b82)), FV.any, FV.any, FV.any, FV.any, FV.any, FV.any, FV.any, FV.any, FV.eq (.bool false)] rfl rfl rfl (by kernel_rfl) (by kernel_rfl) (by kernel_rfl) (by kernel_rfl) (by kernel_rfl) ?_ ?_
            · skip
              refine ⟨⟨⟨⟨⟨⟨⟨⟨⟨⟨⟨⟨trivial, ?_⟩, ?_⟩, ?_⟩, ?_⟩, ?_⟩, ?_⟩, ?_⟩, ?_⟩, ?_⟩, ?_⟩, ?_⟩, ?_⟩
              · skip
                intro β669 a670 w671 dX672 Ox673 Q674 h675 hq676 hp677 hk678
                refine evalS_ok tabOk h675 1 [0, 3, 5, 6, 7, 43] [3] [(0, .v (.slice A1 (List.length x0) c2)), (3, .o 3 0), (5, .v (.slice A80 (List.length l79) c81)), (6, .v (.bool b82)), (7, .v (.int .i64 i83)), (43, .v (.bool b82))] [(3, ⟨[strV x1.Account, .int .i64 x1.Amount], 38⟩)] (by kernel_rfl) fun β679 a680 w681 h682 => ?_
                exact wpl_end (hk678 _ _ _ _ (h682.sel [0, 3, 5, 6, 7] [0, 1, 2] [3]) (h682.getD rfl) rfl)
              · skip
                intro β683 a684 w685 dX686 Ox687 Q688 h689 hq690 hp691 hk692
                have h693 := h689.learnE (d := 43) rfl (hp691 0 43 _ rfl rfl rfl)
                clear h689
                refine evalS_ok tabOk h693 1 [0, 3, 5, 6, 7, 44] [3] [(0, .v (.slice A1 (List.length x0) c2)), (3, .o 3 0), (5, .v (.slice A80 (List.length l79) c81)), (6, .v (.bool b82)), (7, .v (.int .i64 i83)), (44, .v (.bool (!b82)))] [(3, ⟨[strV x1.Account, .int .i64 x1.Amount], 38⟩)] (by kernel_rfl) fun β694 a695 w696 h697 => ?_
                exact wpl_end (hk692 _ _ _ _ (h697.sel [0, 3, 5, 6, 7] [0, 1, 2] [3]) (h697.getD rfl) rfl)
              · skip
                intro β698 a699 w700 dX701 Ox702 Q703 h704 hq705 hp706 hk707
                have h708 := h704.learnE (d := 44) rfl (hp706 1 44 _ rfl rfl rfl)
                clear h704
                refine evalS_ok tabOk h708 1 [0, 3, 5, 6, 7, 45] [3] [(0, .v (.slice A1 (List.length x0) c2)), (3, .o 3 0), (5, .v (.slice A80 (List.length l79) c81)), (6, .v (.bool b82)), (7, .v (.int .i64 i83)), (45, .v (.bool (!b82)))] [(3, ⟨[strV x1.Account, .int .i64 x1.Amount], 38⟩)] (by kernel_rfl) fun β709 a710 w711 h712 => ?_
                exact wpl_end (hk707 _ _ _ _ (h712.sel [0, 3, 5, 6, 7] [0, 1, 2] [3]) (h712.getD rfl) rfl)
              · skip
                intro β713 a714 w715 dX716 Ox717 Q718 h719 hq720 hp721 hk722
                have h723 := h719.learnE (d := 45) rfl (hp721 2 45 _ rfl rfl rfl)
                clear h719
                have h724 := h723.reb (t := 45) rfl hb448
                clear h723
                refine evalS_ok tabOk h724 1 [0, 3, 5, 6, 7] [3] [(0, .v (.slice A1 (List.length x0) c2)), (3, .o 3 0), (5, .v (.slice A80 (List.length l79) c81)), (6, .v (.bool b82)), (7, .v (.int .i64 i83))] [(3, ⟨[strV x1.Account, .int .i64 x1.Amount], 38⟩)] (by kernel_rfl) fun β725 a726 w727 h728 => ?_
                exact wpl_end (hk722 _ _ _ _ (h728.sel [0, 3, 5, 6, 7] [0, 1, 2] [3]) trivial rfl)
              · skip
                intro β729 a730 w731 dX732 Ox733 Q734 h735 hq736 hp737 hk738
                have h739 := h735.learnE (d := 45) rfl (hp737 2 45 _ rfl rfl rfl)
                clear h735
                have h740 := h739.reb (t := 45) rfl hb448
                clear h739
                refine evalS_ok tabOk h740 1 [0, 3, 5, 6, 7] [3] [(0, .v (.slice A1 (List.length x0) c2)), (3, .o 3 0), (5, .v (.slice A80 (List.length l79) c81)), (6, .v (.bool b82)), (7, .v (.int .i64 i83))] [(3, ⟨[strV x1.Account, .int .i64 x1.Amount], 38⟩)] (by kernel_rfl) fun β741 a742 w743 h744 => ?_
                exact wpl_end (hk738 _ _ _ _ (h744.sel [0, 3, 5, 6, 7] [0, 1, 2] [3]) trivial rfl)
              · skip
                intro β745 a746 w747 dX748 Ox749 Q750 h751 hq752 hp753 hk754
                have h755 := h751.learnE (d := 45) rfl (hp753 2 45 _ rfl rfl rfl)
                clear h751
                have h756 := h755.reb (t := 45) rfl hb448
                clear h755
                refine evalS_ok tabOk h756 1 [0, 3, 5, 6, 7] [3] [(0, .v (.slice A1 (List.length x0) c2)), (3, .o 3 0), (5, .v (.slice A80 (List.length l79) c81)), (6, .v (.bool b82)), (7, .v (.int .i64 i83))] [(3, ⟨[strV x1.Account, .int .i64 x1.Amount], 38⟩)] (by kernel_rfl) fun β757 a758 w759 h760 => ?_
                exact wpl_end (hk754 _ _ _ _ (h760.sel [0, 3, 5, 6, 7] [0, 1, 2] [3]) trivial rfl)
              · skip
                intro β761 a762 w763 dX764 Ox765 Q766 h767 hq768 hp769 hk770
                have h771 := h767.learnE (d := 45) rfl (hp769 2 45 _ rfl rfl rfl)
                clear h767
                have h772 := h771.reb (t := 45) rfl hb448
                clear h771
                refine evalS_ok tabOk h772 1 [0, 3, 5, 6, 7] [3] [(0, .v (.slice A1 (List.length x0) c2)), (3, .o 3 0), (5, .v (.slice A80 (List.length l79) c81)), (6, .v (.bool b82)), (7, .v (.int .i64 i83))] [(3, ⟨[strV x1.Account, .int .i64 x1.Amount], 38⟩)] (by kernel_rfl) fun β773 a774 w775 h776 => ?_
                exact wpl_end (hk770 _ _ _ _ (h776.sel [0, 3, 5, 6, 7] [0, 1, 2] [3]) trivial rfl)
              · skip
                intro β777 a778 w779 dX780 Ox781 Q782 h783 hq784 hp785 hk786
                have h787 := h783.learnE (d := 45) rfl (hp785 2 45 _ rfl rfl rfl)
                clear h783
                have h788 := h787.reb (t := 45) rfl hb448
                clear h787
                refine evalS_ok tabOk h788 1 [0, 3, 5, 6, 7] [3] [(0, .v (.slice A1 (List.length x0) c2)), (3, .o 3 0), (5, .v (.slice A80 (List.length l79) c81)), (6, .v (.bool b82)), (7, .v (.int .i64 i83))] [(3, ⟨[strV x1.Account, .int .i64 x1.Amount], 38⟩)] (by kernel_rfl) fun β789 a790 w791 h792 => ?_
                exact wpl_end (hk786 _ _ _ _ (h792.sel [0, 3, 5, 6, 7] [0, 1, 2] [3]) trivial rfl)
              · skip
                intro β793 a794 w795 dX796 Ox797 Q798 h799 hq800 hp801 hk802
                have h803 := h799.learnE (d := 45) rfl (hp801 2 45 _ rfl rfl rfl)
                clear h799
                have h804 := h803.reb (t := 45) rfl hb448
                clear h803
                refine evalS_ok tabOk h804 1 [0, 3, 5, 6, 7] [3] [(0, .v (.slice A1 (List.length x0) c2)), (3, .o 3 0), (5, .v (.slice A80 (List.length l79) c81)), (6, .v (.bool b82)), (7, .v (.int .i64 i83))] [(3, ⟨[strV x1.Account, .int .i64 x1.Amount], 38⟩)] (by kernel_rfl) fun β805 a806 w807 h808 => ?_
                exact wpl_end (hk802 _ _ _ _ (h808.sel [0, 3, 5, 6, 7] [0, 1, 2] [3]) trivial rfl)
              · skip
                intro β809 a810 w811 dX812 Ox813 Q814 h815 hq816 hp817 hk818
                have h819 := h815.learnE (d := 45) rfl (hp817 2 45 _ rfl rfl rfl)
                clear h815
                have h820 := h819.reb (t := 45) rfl hb448
                clear h819
                refine evalS_ok tabOk h820 1 [0, 3, 5, 6, 7] [3] [(0, .v (.slice A1 (List.length x0) c2)), (3, .o 3 0), (5, .v (.slice A80 (List.length l79) c81)), (6, .v (.bool b82)), (7, .v (.int .i64 i83))] [(3, ⟨[strV x1.Account, .int .i64 x1.Amount], 38⟩)] (by kernel_rfl) fun β821 a822 w823 h824 => ?_
                exact wpl_end (hk818 _ _ _ _ (h824.sel [0, 3, 5, 6, 7] [0, 1, 2] [3]) trivial rfl)
              · skip
                intro β825 a826 w827 dX828 Ox829 Q830 h831 hq832 hp833 hk834
                have h835 := h831.learnE (d := 45) rfl (hp833 2 45 _ rfl rfl rfl)
                clear h831
                have h836 := h835.reb (t := 45) rfl hb448
                clear h835
                refine evalS_ok tabOk h836 1 [0, 3, 5, 6, 7] [3] [(0, .v (.slice A1 (List.length x0) c2)), (3, .o 3 0), (5, .v (.slice A80 (List.length l79) c81)), (6, .v (.bool b82)), (7, .v (.int .i64 i83))] [(3, ⟨[strV x1.Account, .int .i64 x1.Amount], 38⟩)] (by kernel_rfl) fun β837 a838 w839 h840 => ?_
                exact wpl_end (hk834 _ _ _ _ (h840.sel [0, 3, 5, 6, 7] [0, 1, 2] [3]) trivial rfl)
              · skip
                intro β841 a842 w843 dX844 Ox845 Q846 h847 hq848 hp849 hk850
                have h851 := h847.learnE (d := 45) rfl (hp849 2 45 _ rfl rfl rfl)
                clear h847
                have h852 := h851.reb (t := 45) rfl hb448
                clear h851
                refine evalS_ok tabOk h852 1 [0, 3, 5, 6, 7, 54] [3] [(0, .v (.slice A1 (List.length x0) c2)), (3, .o 3 0), (5, .v (.slice A80 (List.length l79) c81)), (6, .v (.bool b82)), (7, .v (.int .i64 i83)), (54, .v (.bool false))] [(3, ⟨[strV x1.Account, .int .i64 x1.Amount], 38⟩)] (by kernel_rfl) fun β853 a854 w855 h856 => ?_
                exact wpl_end (hk850 _ _ _ _ (h856.sel [0, 3, 5, 6, 7] [0, 1, 2] [3]) (h856.getD rfl) rfl)
            · skip
              intro β857 a858 w859 h860 ha861
              have h862 := h860.learnE (d := 54) rfl (ha861 11 54 _ rfl rfl)
              clear h860
              have h863 := h862.unpin rfl
              clear h862
              refine evalS_ok tabOk h863 1 [0, 3, 5, 6, 7, 42] [3] [(0, .v (.slice A1 (List.length x0) c2)), (3, .o 3 0), (5, .v (.slice A80 (List.length l79) c81)), (6, .v (.bool b82)), (7, .v (.int .i64 i83)), (42, .v (.bool false))] [(3, ⟨[strV x1.Account, .int .i64 x1.Amount], 38⟩)] (by kernel_rfl) fun β864 a865 w866 h867 => ?_
              clear h863
              obtain rfl := Option.some.inj hv666
              have h868 : Sb β864 (cx 73 ok w) [(0, .v (.slice A1 (List.length x0) c2)), (3, .o 3 0), (5, .v (.slice A80 (List.length l79) c81)), (6, .v (.bool b82)), (7, .v (.int .i64 i83)), (42, .v (.bool false))] [DF.v (rSl rApiPost) x0 (.slice A1 (List.length x0) c2), DF.v (rSl rApiPost) l79 (.slice A80 (List.length l79) c81)] [(3, ⟨[strV x1.Account, .int .i64 x1.Amount], 38⟩)] [⟨.slice A80 (List.length l79) c81, 38, 2⟩] a865 w866 := h867.sel [0, 3, 5, 6, 7, 42] [0, 1] [3]
              clear h867
              exact wpl_end (then_n ⟨_, h868⟩)
    · skip
      refine bcases (b := (!b82)) (fun hb869 => ?_) (fun hb869 => ?_)
      · skip
        have hv870 := ifT hb869 hv104
        clear hv104
        obtain ⟨x871, hx871, hv872⟩ := bindE hv870
        clear hv870
        have h874 : Sb β92 (cx 73 ok w) [(0, .v (.slice A1 (List.length x0) c2)), (3, .o 3 0), (5, .v (.slice A80 (List.length l79) c81)), (6, .v (.bool b82)), (7, .v (.int .i64 i83))] [DF.v (rSl rApiPost) x0 (.slice A1 (List.length x0) c2), DF.v (rSl rApiPost) l79 (.slice A80 (List.length l79) c81)] [(3, ⟨[strV x1.Account, .int .i64 x1.Amount], 38⟩)] [⟨.slice A80 (List.length l79) c81, 38, 2⟩] a93 w94 := h95.sel [0, 3, 5, 6, 7] [0, 1] [3]
        refine draw_rule h874 rfl (by kernel_rfl) 12 [16, 17, 18, 19, 20, 21, 22, 23, 24, 25, 26, 27] [FV.eq (.bool b82), FV.eq (.bool (!b82)), FV.eq (.bool (!b82)), FV.eq (.slice A1 (List.length x0) c2), FV.eq (.int .i64 i83), FV.at rApiPost x871, FV.at rStr x871.Account, FV.eq (strV x871.Account), FV.eq (.pointer (some ⟨β92 3, 0, none⟩)), FV.eq (strV x1.Account), FV.eq (.bool (x871.Account == x1.Account)), FV.eq (.bool (x871.Account == x1.Account))] rfl rfl rfl (by kernel_rfl) (by kernel_rfl) (by kernel_rfl) (by kernel_rfl) (by kernel_rfl) ?_ ?_
        · skip
          refine ⟨⟨⟨⟨⟨⟨⟨⟨⟨⟨⟨⟨trivial, ?_⟩, ?_⟩, ?_⟩, ?_⟩, ?_⟩, ?_⟩, ?_⟩, ?_⟩, ?_⟩, ?_⟩, ?_⟩, ?_⟩
          · skip
            intro β875 a876 w877 dX878 Ox879 Q880 h881 hq882 hp883 hk884
            refine evalS_ok tabOk h881 1 [0, 3, 5, 6, 7, 16] [3] [(0, .v (.slice A1 (List.length x0) c2)), (3, .o 3 0), (5, .v (.slice A80 (List.length l79) c81)), (6, .v (.bool b82)), (7, .v (.int .i64 i83)), (16, .v (.bool b82))] [(3, ⟨[strV x1.Account, .int .i64 x1.Amount], 38⟩)] (by kernel_rfl) fun β885 a886 w887 h888 => ?_
            exact wpl_end (hk884 _ _ _ _ (h888.sel [0, 3, 5, 6, 7] [0, 1, 2] [3]) (h888.getD rfl) rfl)
          · skip
            intro β889 a890 w891 dX892 Ox893 Q894 h895 hq896 hp897 hk898
            have h899 := h895.learnE (d := 16) rfl (hp897 0 16 _ rfl rfl rfl)
            clear h895
            refine evalS_ok tabOk h899 1 [0, 3, 5, 6, 7, 17] [3] [(0, .v (.slice A1 (List.length x0) c2)), (3, .o 3 0), (5, .v (.slice A80 (List.length l79) c81)), (6, .v (.bool b82)), (7, .v (.int .i64 i83)), (17, .v (.bool (!b82)))] [(3, ⟨[strV x1.Account, .int .i64 x1.Amount], 38⟩)] (by kernel_rfl) fun β900 a901 w902 h903 => ?_
            exact wpl_end (hk898 _ _ _ _ (h903.sel [0, 3, 5, 6, 7] [0, 1, 2] [3]) (h903.getD rfl) rfl)
          · skip
            intro β904 a905 w906 dX907 Ox908 Q909 h910 hq911 hp912 hk913
            have h914 := h910.learnE (d := 17) rfl (hp912 1 17 _ rfl rfl rfl)
            clear h910
            refine evalS_ok tabOk h914 1 [0, 3, 5, 6, 7, 18] [3] [(0, .v (.slice A1 (List.length x0) c2)), (3, .o 3 0), (5, .v (.slice A80 (List.length l79) c81)), (6, .v (.bool b82)), (7, .v (.int .i64 i83)), (18, .v (.bool (!b82)))] [(3, ⟨[strV x1.Account, .int .i64 x1.Amount], 38⟩)] (by kernel_rfl) fun β915 a916 w917 h918 => ?_
            exact wpl_end (hk913 _ _ _ _ (h918.sel [0, 3, 5, 6, 7] [0, 1, 2] [3]) (h918.getD rfl) rfl)
          · skip
            intro β919 a920 w921 dX922 Ox923 Q924 h925 hq926 hp927 hk928
            have h929 := h925.learnE (d := 18) rfl (hp927 2 18 _ rfl rfl rfl)
            clear h925
            have h930 := h929.reb (t := 18) rfl hb869
            clear h929
            refine evalS_ok tabOk h930 1 [0, 3, 5, 6, 7, 19] [3] [(0, .v (.slice A1 (List.length x0) c2)), (3, .o 3 0), (5, .v (.slice A80 (List.length l79) c81)), (6, .v (.bool b82)), (7, .v (.int .i64 i83)), (19, .v (.slice A1 (List.length x0) c2))] [(3, ⟨[strV x1.Account, .int .i64 x1.Amount], 38⟩)] (by kernel_rfl) fun β931 a932 w933 h934 => ?_
            exact wpl_end (hk928 _ _ _ _ (h934.sel [0, 3, 5, 6, 7] [0, 1, 2] [3]) (h934.getD rfl) rfl)
          · skip
            intro β935 a936 w937 dX938 Ox939 Q940 h941 hq942 hp943 hk944
            have h945 := h941.learnE (d := 18) rfl (hp943 2 18 _ rfl rfl rfl)
            clear h941
            have h946 := h945.reb (t := 18) rfl hb869
            clear h945
            refine evalS_ok tabOk h946 1 [0, 3, 5, 6, 7, 20] [3] [(0, .v (.slice A1 (List.length x0) c2)), (3, .o 3 0), (5, .v (.slice A80 (List.length l79) c81)), (6, .v (.bool b82)), (7, .v (.int .i64 i83)), (20, .v (.int .i64 i83))] [(3, ⟨[strV x1.Account, .int .i64 x1.Amount], 38⟩)] (by kernel_rfl) fun β947 a948 w949 h950 => ?_
            exact wpl_end (hk944 _ _ _ _ (h950.sel [0, 3, 5, 6, 7] [0, 1, 2] [3]) (h950.getD rfl) rfl)
          · skip
            intro β951 a952 w953 dX954 Ox955 Q956 h957 hq958 hp959 hk960
            have h961 := h957.learnE (d := 18) rfl (hp959 2 18 _ rfl rfl rfl)
            clear h957
            have h962 := h961.reb (t := 18) rfl hb869
            clear h961
            have h963 := h962.learnE (d := 19) rfl (hp959 3 19 _ rfl rfl rfl)
            clear h962
            have h964 := h963.learnE (d := 20) rfl (hp959 4 20 _ rfl rfl rfl)
            clear h963
            refine step_idx tabOk h964 1 rfl rfl rfl rfl rfl hx871 tb22 rfl tb38 rfl fun p965 a966 h967 => ?_
            clear h964
            exact wpl_end (hk960 _ _ _ _ (h967.sel [0, 3, 5, 6, 7] [1, 2, 3] [3]) (h967.getA rfl (h967.d 0 rfl)) rfl)
          · skip
            intro β968 a969 w970 dX971 Ox972 Q973 h974 hq975 hp976 hk977
            have h978 := h974.learnE (d := 18) rfl (hp976 2 18 _ rfl rfl rfl)
            clear h974
            have h979 := h978.reb (t := 18) rfl hb869
            clear h978
            have h980 := h979.learn (d := 21) rfl
            clear h979
            have f981 := hp976 5 21 _ rfl rfl rfl
            generalize a969.tmps.getD 21 undef = v982 at h980 f981
            have h983 := h980.addD (d := DF.at rApiPost x871 (v982)) f981
            clear h980
            refine step_field tabOk h983 0 rfl rfl rfl rfl tb38 rfl rfl rfl fun p984 a985 (h986 : Sb β968 _ _ (DF.at rStr x871.Account (p984) :: _) _ _ a985 w970) => ?_
            clear h983
            exact wpl_end (hk977 _ _ _ _ (h986.sel [0, 3, 5, 6, 7] [2, 3, 4] [3]) (h986.getA rfl (h986.d 0 rfl)) rfl)
          · skip
            intro β987 a988 w989 dX990 Ox991 Q992 h993 hq994 hp995 hk996
            have h997 := h993.learnE (d := 18) rfl (hp995 2 18 _ rfl rfl rfl)
            clear h993
            have h998 := h997.reb (t := 18) rfl hb869
            clear h997
            have h999 := h998.learn (d := 22) rfl
            clear h998
            have f1000 := hp995 6 22 _ rfl rfl rfl
            generalize a988.tmps.getD 22 undef = v1001 at h999 f1000
            have h1002 := h999.addD (d := DF.at rStr x871.Account (v1001)) f1000
            clear h999
            refine step_load tabOk h1002 0 rfl rfl rfl rfl tb9 rfl rfl fun v1003 a1005 hv1004 h1006 => ?_
            clear h1002
            obtain rfl := isV_str.1 hv1004
            exact wpl_end (hk996 _ _ _ _ (h1006.sel [0, 3, 5, 6, 7] [2, 3, 4] [3]) (h1006.getD rfl) rfl)
          · skip
            intro β1007 a1008 w1009 dX1010 Ox1011 Q1012 h1013 hq1014 hp1015 hk1016
            have h1017 := h1013.learnE (d := 18) rfl (hp1015 2 18 _ rfl rfl rfl)
            clear h1013
            have h1018 := h1017.reb (t := 18) rfl hb869
            clear h1017
            refine evalS_ok tabOk h1018 1 [0, 3, 5, 6, 7, 24] [3] [(0, .v (.slice A1 (List.length x0) c2)), (3, .o 3 0), (5, .v (.slice A80 (List.length l79) c81)), (6, .v (.bool b82)), (7, .v (.int .i64 i83)), (24, .o 3 0)] [(3, ⟨[strV x1.Account, .int .i64 x1.Amount], 38⟩)] (by kernel_rfl) fun β1019 a1020 w1021 h1022 => ?_
            exact wpl_end (hk1016 _ _ _ _ (h1022.sel [0, 3, 5, 6, 7] [0, 1, 2] [3]) (h1022.getO rfl rfl rfl) rfl)
          · skip
            intro β1023 a1024 w1025 dX1026 Ox1027 Q1028 h1029 hq1030 hp1031 hk1032
            have h1033 := h1029.learnE (d := 18) rfl (hp1031 2 18 _ rfl rfl rfl)
            clear h1029
            have h1034 := h1033.reb (t := 18) rfl hb869
            clear h1033
            have h1035 := h1034.learnO (d := 24) (id := 3) (off := 0) rfl rfl rfl (hp1031 8 24 _ rfl rfl rfl)
            clear h1034
            refine evalS_ok tabOk h1035 1 [0, 3, 5, 6, 7, 25] [3] [(0, .v (.slice A1 (List.length x0) c2)), (3, .o 3 0), (5, .v (.slice A80 (List.length l79) c81)), (6, .v (.bool b82)), (7, .v (.int .i64 i83)), (25, .v (strV x1.Account))] [(3, ⟨[strV x1.Account, .int .i64 x1.Amount], 38⟩)] (by kernel_rfl) fun β1036 a1037 w1038 h1039 => ?_
            exact wpl_end (hk1032 _ _ _ _ (h1039.sel [0, 3, 5, 6, 7] [0, 1, 2] [3]) (h1039.getD rfl) rfl)
          · skip
            intro β1040 a1041 w1042 dX1043 Ox1044 Q1045 h1046 hq1047 hp1048 hk1049
            have h1050 := h1046.learnE (d := 18) rfl (hp1048 2 18 _ rfl rfl rfl)
            clear h1046
            have h1051 := h1050.reb (t := 18) rfl hb869
            clear h1050
            have h1052 := h1051.learnE (d := 23) rfl (hp1048 7 23 _ rfl rfl rfl)
            clear h1051
            have h1053 := h1052.learnE (d := 25) rfl (hp1048 9 25 _ rfl rfl rfl)
            clear h1052
            refine evalS_ok tabOk h1053 1 [0, 3, 5, 6, 7, 26] [3] [(0, .v (.slice A1 (List.length x0) c2)), (3, .o 3 0), (5, .v (.slice A80 (List.length l79) c81)), (6, .v (.bool b82)), (7, .v (.int .i64 i83)), (26, .v (.bool (x871.Account == x1.Account)))] [(3, ⟨[strV x1.Account, .int .i64 x1.Amount], 38⟩)] (by kernel_rfl) fun β1054 a1055 w1056 h1057 => ?_
            exact wpl_end (hk1049 _ _ _ _ (h1057.sel [0, 3, 5, 6, 7] [0, 1, 2] [3]) (h1057.getD rfl) rfl)
          · skip
            intro β1058 a1059 w1060 dX1061 Ox1062 Q1063 h1064 hq1065 hp1066 hk1067
            have h1068 := h1064.learnE (d := 18) rfl (hp1066 2 18 _ rfl rfl rfl)
            clear h1064
            have h1069 := h1068.reb (t := 18) rfl hb869
            clear h1068
            have h1070 := h1069.learnE (d := 26) rfl (hp1066 10 26 _ rfl rfl rfl)
            clear h1069
            refine evalS_ok tabOk h1070 1 [0, 3, 5, 6, 7, 27] [3] [(0, .v (.slice A1 (List.length x0) c2)), (3, .o 3 0), (5, .v (.slice A80 (List.length l79) c81)), (6, .v (.bool b82)), (7, .v (.int .i64 i83)), (27, .v (.bool (x871.Account == x1.Account)))] [(3, ⟨[strV x1.Account, .int .i64 x1.Amount], 38⟩)] (by kernel_rfl) fun β1071 a1072 w1073 h1074 => ?_
            exact wpl_end (hk1067 _ _ _ _ (h1074.sel [0, 3, 5, 6, 7] [0, 1, 2] [3]) (h1074.getD rfl) rfl)
        · skip
          intro β1075 a1076 w1077 h1078 ha1079
          have h1080 := h1078.learnE (d := 27) rfl (ha1079 11 27 _ rfl rfl)
          clear h1078
          have h1081 := h1080.unpin rfl
          clear h1080
          refine evalS_ok tabOk h1081 1 [0, 3, 5, 6, 7, 15] [3] [(0, .v (.slice A1 (List.length x0) c2)), (3, .o 3 0), (5, .v (.slice A80 (List.length l79) c81)), (6, .v (.bool b82)), (7, .v (.int .i64 i83)), (15, .v (.bool (x871.Account == x1.Account)))] [(3, ⟨[strV x1.Account, .int .i64 x1.Amount], 38⟩)] (by kernel_rfl) fun β1082 a1083 w1084 h1085 => ?_
          clear h1081
          obtain rfl := Option.some.inj hv872
          have h1086 : Sb β1082 (cx 73 ok w) [(0, .v (.slice A1 (List.length x0) c2)), (3, .o 3 0), (5, .v (.slice A80 (List.length l79) c81)), (6, .v (.bool b82)), (7, .v (.int .i64 i83)), (15, .v (.bool (x871.Account == x1.Account)))] [DF.v (rSl rApiPost) x0 (.slice A1 (List.length x0) c2), DF.v (rSl rApiPost) l79 (.slice A80 (List.length l79) c81)] [(3, ⟨[strV x1.Account, .int .i64 x1.Amount], 38⟩)] [⟨.slice A80 (List.length l79) c81, 38, 2⟩] a1083 w1084 := h1085.sel [0, 3, 5, 6, 7, 15] [0, 1] [3]
          clear h1085
          exact wpl_end (then_n ⟨_, h1086⟩)
      · skip
        have hv1087 := ifF hb869 hv104
        clear hv104
        have h1089 : Sb β92 (cx 73 ok w) [(0, .v (.slice A1 (List.length x0) c2)), (3, .o 3 0), (5, .v (.slice A80 (List.length l79) c81)), (6, .v (.bool b82)), (7, .v (.int .i64 i83))] [DF.v (rSl rApiPost) x0 (.slice A1 (List.length x0) c2), DF.v (rSl rApiPost) l79 (.slice A80 (List.length l79) c81)] [(3, ⟨[strV x1.Account, .int .i64 x1.Amount], 38⟩)] [⟨.slice A80 (List.length l79) c81, 38, 2⟩] a93 w94 := h95.sel [0, 3, 5, 6, 7] [0, 1] [3]
        refine draw_rule h1089 rfl (by kernel_rfl) 12 [16, 17, 18, 19, 20, 21, 22, 23, 24, 25, 26, 27] [FV.eq (.bool b82), FV.eq (.bool (!b82)), FV.eq (.bool (!b82)), FV.any, FV.any, FV.any, FV.any, FV.any, FV.any, FV.any, FV.any, FV.eq (.bool false)] rfl rfl rfl (by kernel_rfl) (by kernel_rfl) (by kernel_rfl) (by kernel_rfl) (by kernel_rfl) ?_ ?_
        · skip
          refine ⟨⟨⟨⟨⟨⟨⟨⟨⟨⟨⟨⟨trivial, ?_⟩, ?_⟩, ?_⟩, ?_⟩, ?_⟩, ?_⟩, ?_⟩, ?_⟩, ?_⟩, ?_⟩, ?_⟩, ?_⟩
          · skip
            intro β1090 a1091 w1092 dX1093 Ox1094 Q1095 h1096 hq1097 hp1098 hk1099
            refine evalS_ok tabOk h1096 1 [0, 3, 5, 6, 7, 16] [3] [(0, .v (.slice A1 (List.length x0) c2)), (3, .o 3 0), (5, .v (.slice A80 (List.length l79) c81)), (6, .v (.bool b82)), (7, .v (.int .i64 i83)), (16, .v (.bool b82))] [(3, ⟨[strV x1.Account, .int .i64 x1.Amount], 38⟩)] (by kernel_rfl) fun β1100 a1101 w1102 h1103 => ?_
            exact wpl_end (hk1099 _ _ _ _ (h1103.sel [0, 3, 5, 6, 7] [0, 1, 2] [3]) (h1103.getD rfl) rfl)
          · skip
            intro β1104 a1105 w1106 dX1107 Ox1108 Q1109 h1110 hq1111 hp1112 hk1113
            have h1114 := h1110.learnE (d := 16) rfl (hp1112 0 16 _ rfl rfl rfl)
            clear h1110
            refine evalS_ok tabOk h1114 1 [0, 3, 5, 6, 7, 17] [3] [(0, .v (.slice A1 (List.length x0) c2)), (3, .o 3 0), (5, .v (.slice A80 (List.length l79) c81)), (6, .v (.bool b82)), (7, .v (.int .i64 i83)), (17, .v (.bool (!b82)))] [(3, ⟨[strV x1.Account, .int .i64 x1.Amount], 38⟩)] (by kernel_rfl) fun β1115 a1116 w1117 h1118 => ?_
            exact wpl_end (hk1113 _ _ _ _ (h1118.sel [0, 3, 5, 6, 7] [0, 1, 2] [3]) (h1118.getD rfl) rfl)
          · skip
            intro β1119 a1120 w1121 dX1122 Ox1123 Q1124 h1125 hq1126 hp1127 hk1128
            have h1129 := h1125.learnE (d := 17) rfl (hp1127 1 17 _ rfl rfl rfl)
            clear h1125
            refine evalS_ok tabOk h1129 1 [0, 3, 5, 6, 7, 18] [3] [(0, .v (.slice A1 (List.length x0) c2)), (3, .o 3 0), (5, .v (.slice A80 (List.length l79) c81)), (6, .v (.bool b82)), (7, .v (.int .i64 i83)), (18, .v (.bool (!b82)))] [(3, ⟨[strV x1.Account, .int .i64 x1.Amount], 38⟩)] (by kernel_rfl) fun β1130 a1131 w1132 h1133 => ?_
            exact wpl_end (hk1128 _ _ _ _ (h1133.sel [0, 3, 5, 6, 7] [0, 1, 2] [3]) (h1133.getD rfl) rfl)
          · skip
            intro β1134 a1135 w1136 dX1137 Ox1138 Q1139 h1140 hq1141 hp1142 hk1143
            have h1144 := h1140.learnE (d := 18) rfl (hp1142 2 18 _ rfl rfl rfl)
            clear h1140
            have h1145 := h1144.reb (t := 18) rfl hb869
            clear h1144
            refine evalS_ok tabOk h1145 1 [0, 3, 5, 6, 7] [3] [(0, .v (.slice A1 (List.length x0) c2)), (3, .o 3 0), (5, .v (.slice A80 (List.length l79) c81)), (6, .v (.bool b82)), (7, .v (.int .i64 i83))] [(3, ⟨[strV x1.Account, .int .i64 x1.Amount], 38⟩)] (by kernel_rfl) fun β1146 a1147 w1148 h1149 => ?_
            exact wpl_end (hk1143 _ _ _ _ (h1149.sel [0, 3, 5, 6, 7] [0, 1, 2] [3]) trivial rfl)
          · skip
            intro β1150 a1151 w1152 dX1153 Ox1154 Q1155 h1156 hq1157 hp1158 hk1159
            have h1160 := h1156.learnE (d := 18) rfl (hp1158 2 18 _ rfl rfl rfl)
            clear h1156
            have h1161 := h1160.reb (t := 18) rfl hb869
            clear h1160
            refine evalS_ok tabOk h1161 1 [0, 3, 5, 6, 7] [3] [(0, .v (.slice A1 (List.length x0) c2)), (3, .o 3 0), (5, .v (.slice A80 (List.length l79) c81)), (6, .v (.bool b82)), (7, .v (.int .i64 i83))] [(3, ⟨[strV x1.Account, .int .i64 x1.Amount], 38⟩)] (by kernel_rfl) fun β1162 a1163 w1164 h1165 => ?_
            exact wpl_end (hk1159 _ _ _ _ (h1165.sel [0, 3, 5, 6, 7] [0, 1, 2] [3]) trivial rfl)
          · skip
            intro β1166 a1167 w1168 dX1169 Ox1170 Q1171 h1172 hq1173 hp1174 hk1175
            have h1176 := h1172.learnE (d := 18) rfl (hp1174 2 18 _ rfl rfl rfl)
            clear h1172
            have h1177 := h1176.reb (t := 18) rfl hb869
            clear h1176
            refine evalS_ok tabOk h1177 1 [0, 3, 5, 6, 7] [3] [(0, .v (.slice A1 (List.length x0) c2)), (3, .o 3 0), (5, .v (.slice A80 (List.length l79) c81)), (6, .v (.bool b82)), (7, .v (.int .i64 i83))] [(3, ⟨[strV x1.Account, .int .i64 x1.Amount], 38⟩)] (by kernel_rfl) fun β1178 a1179 w1180 h1181 => ?_
            exact wpl_end (hk1175 _ _ _ _ (h1181.sel [0, 3, 5, 6, 7] [0, 1, 2] [3]) trivial rfl)
          · skip
            intro β1182 a1183 w1184 dX1185 Ox1186 Q1187 h1188 hq1189 hp1190 hk1191
            have h1192 := h1188.learnE (d := 18) rfl (hp1190 2 18 _ rfl rfl rfl)
            clear h1188
            have h1193 := h1192.reb (t := 18) rfl hb869
            clear h1192
            refine evalS_ok tabOk h1193 1 [0, 3, 5, 6, 7] [3] [(0, .v (.slice A1 (List.length x0) c2)), (3, .o 3 0), (5, .v (.slice A80 (List.length l79) c81)), (6, .v (.bool b82)), (7, .v (.int .i64 i83))] [(3, ⟨[strV x1.Account, .int .i64 x1.Amount], 38⟩)] (by kernel_rfl) fun β1194 a1195 w1196 h1197 => ?_
            exact wpl_end (hk1191 _ _ _ _ (h1197.sel [0, 3, 5, 6, 7] [0, 1, 2] [3]) trivial rfl)
          · skip
            intro β1198 a1199 w1200 dX1201 Ox1202 Q1203 h1204 hq1205 hp1206 hk1207
            have h1208 := h1204.learnE (d := 18) rfl (hp1206 2 18 _ rfl rfl rfl)
            clear h1204
            have h1209 := h1208.reb (t := 18) rfl hb869
            clear h1208
            refine evalS_ok tabOk h1209 1 [0, 3, 5, 6, 7] [3] [(0, .v (.slice A1 (List.length x0) c2)), (3, .o 3 0), (5, .v (.slice A80 (List.length l79) c81)), (6, .v (.bool b82)), (7, .v (.int .i64 i83))] [(3, ⟨[strV x1.Account, .int .i64 x1.Amount], 38⟩)] (by kernel_rfl) fun β1210 a1211 w1212 h1213 => ?_
            exact wpl_end (hk1207 _ _ _ _ (h1213.sel [0, 3, 5, 6, 7] [0, 1, 2] [3]) trivial rfl)
          · skip
            intro β1214 a1215 w1216 dX1217 Ox1218 Q1219 h1220 hq1221 hp1222 hk1223
            have h1224 := h1220.learnE (d := 18) rfl (hp1222 2 18 _ rfl rfl rfl)
            clear h1220
            have h1225 := h1224.reb (t := 18) rfl hb869
            clear h1224
            refine evalS_ok tabOk h1225 1 [0, 3, 5, 6, 7] [3] [(0, .v (.slice A1 (List.length x0) c2)), (3, .o 3 0), (5, .v (.slice A80 (List.length l79) c81)), (6, .v (.bool b82)), (7, .v (.int .i64 i83))] [(3, ⟨[strV x1.Account, .int .i64 x1.Amount], 38⟩)] (by kernel_rfl) fun β1226 a1227 w1228 h1229 => ?_
            exact wpl_end (hk1223 _ _ _ _ (h1229.sel [0, 3, 5, 6, 7] [0, 1, 2] [3]) trivial rfl)
          · skip
            intro β1230 a1231 w1232 dX1233 Ox1234 Q1235 h1236 hq1237 hp1238 hk1239
            have h1240 := h1236.learnE (d := 18) rfl (hp1238 2 18 _ rfl rfl rfl)
            clear h1236
            have h1241 := h1240.reb (t := 18) rfl hb869
            clear h1240
            refine evalS_ok tabOk h1241 1 [0, 3, 5, 6, 7] [3] [(0, .v (.slice A1 (List.length x0) c2)), (3, .o 3 0), (5, .v (.slice A80 (List.length l79) c81)), (6, .v (.bool b82)), (7, .v (.int .i64 i83))] [(3, ⟨[strV x1.Account, .int .i64 x1.Amount], 38⟩)] (by kernel_rfl) fun β1242 a1243 w1244 h1245 => ?_
            exact wpl_end (hk1239 _ _ _ _ (h1245.sel [0, 3, 5, 6, 7] [0, 1, 2] [3]) trivial rfl)
          · skip
            intro β1246 a1247 w1248 dX1249 Ox1250 Q1251 h1252 hq1253 hp1254 hk1255
            have h1256 := h1252.learnE (d := 18) rfl (hp1254 2 18 _ rfl rfl rfl)
            clear h1252
            have h1257 := h1256.reb (t := 18) rfl hb869
            clear h1256
            refine evalS_ok tabOk h1257 1 [0, 3, 5, 6, 7] [3] [(0, .v (.slice A1 (List.length x0) c2)), (3, .o 3 0), (5, .v (.slice A80 (List.length l79) c81)), (6, .v (.bool b82)), (7, .v (.int .i64 i83))] [(3, ⟨[strV x1.Account, .int .i64 x1.Amount], 38⟩)] (by kernel_rfl) fun β1258 a1259 w1260 h1261 => ?_
            exact wpl_end (hk1255 _ _ _ _ (h1261.sel [0, 3, 5, 6, 7] [0, 1, 2] [3]) trivial rfl)
          · skip
            intro β1262 a1263 w1264 dX1265 Ox1266 Q1267 h1268 hq1269 hp1270 hk1271
            have h1272 := h1268.learnE (d := 18) rfl (hp1270 2 18 _ rfl rfl rfl)
            clear h1268
            have h1273 := h1272.reb (t := 18) rfl hb869
            clear h1272
            refine evalS_ok tabOk h1273 1 [0, 3, 5, 6, 7, 27] [3] [(0, .v (.slice A1 (List.length x0) c2)), (3, .o 3 0), (5, .v (.slice A80 (List.length l79) c81)), (6, .v (.bool b82)), (7, .v (.int .i64 i83)), (27, .v (.bool false))] [(3, ⟨[strV x1.Account, .int .i64 x1.Amount], 38⟩)] (by kernel_rfl) fun β1274 a1275 w1276 h1277 => ?_
            exact wpl_end (hk1271 _ _ _ _ (h1277.sel [0, 3, 5, 6, 7] [0, 1, 2] [3]) (h1277.getD rfl) rfl)
        · skip
          intro β1278 a1279 w1280 h1281 ha1282
          have h1283 := h1281.learnE (d := 27) rfl (ha1282 11 27 _ rfl rfl)
          clear h1281
          have h1284 := h1283.unpin rfl
          clear h1283
          refine evalS_ok tabOk h1284 1 [0, 3, 5, 6, 7, 15] [3] [(0, .v (.slice A1 (List.length x0) c2)), (3, .o 3 0), (5, .v (.slice A80 (List.length l79) c81)), (6, .v (.bool b82)), (7, .v (.int .i64 i83)), (15, .v (.bool false))] [(3, ⟨[strV x1.Account, .int .i64 x1.Amount], 38⟩)] (by kernel_rfl) fun β1285 a1286 w1287 h1288 => ?_
          clear h1284
          obtain rfl := Option.some.inj hv1087
          have h1289 : Sb β1285 (cx 73 ok w) [(0, .v (.slice A1 (List.length x0) c2)), (3, .o 3 0), (5, .v (.slice A80 (List.length l79) c81)), (6, .v (.bool b82)), (7, .v (.int .i64 i83)), (15, .v (.bool false))] [DF.v (rSl rApiPost) x0 (.slice A1 (List.length x0) c2), DF.v (rSl rApiPost) l79 (.slice A80 (List.length l79) c81)] [(3, ⟨[strV x1.Account, .int .i64 x1.Amount], 38⟩)] [⟨.slice A80 (List.length l79) c81, 38, 2⟩] a1286 w1287 := h1288.sel [0, 3, 5, 6, 7, 15] [0, 1] [3]
          clear h1288
          exact wpl_end (then_n ⟨_, h1289⟩)
  · skip
    have hF1290 := ifF hb96 hF90
    clear hF90
    refine wp_exit ?_
    refine hx91 0 _ _ ?_
    refine hx26 0 _ _ ?_
    refine hbb26 _ _ ?_
    obtain rfl := Option.some.inj hF1290
    have h1291 : Sb β92 (cx 73 ok w) [(3, .o 3 0), (5, .v (.slice A80 (List.length l79) c81)), (6, .v (.bool b82))] [DF.v (rSl rApiPost) l79 (.slice A80 (List.length l79) c81)] [(3, ⟨[strV x1.Account, .int .i64 x1.Amount], 38⟩)] [⟨.slice A80 (List.length l79) c81, 38, 2⟩] a93 w94 := (h95).sel [3, 5, 6] [1] [3]
    exact j31 _ _ ⟨l79, b82, A80, c81, ⟨_, h1291⟩, hC26⟩
theorem c_billingref47_Put {ok : Ok} {w : World} (hok : ∀ b o, ok b o → b < w.heap.size) (N : Nat) {x0 : (List ApiPost)} {x1 : ApiPost} {A1 : Option Addr} {c2 : Nat} (d0 : isV (rSl rApiPost) ok w x0 (.slice A1 (List.length x0) c2)) {r : (List ApiPost)} (hF : billingref47_Put N x0 x1 = some r) :
    Calls Try.prog 35 ⟨[.slice A1 (List.length x0) c2, .agg ⟨[strV x1.Account, .int .i64 x1.Amount]⟩]⟩ w (Ret w (R1 (rSl rApiPost) ok w r)) :=
  Calls.own1 (co_billingref47_Put hok N d0 hF)

end Gd

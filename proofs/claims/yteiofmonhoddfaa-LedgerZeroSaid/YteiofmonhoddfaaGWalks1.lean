/- The walks, part 2. -/
import Derived.Test.YteiofmonhoddfaaGWalks0
namespace Gd
open Go Go.Proofs
set_option linter.unusedVariables false
set_option linter.unusedSimpArgs false
theorem c_api_Post_ {ok : Ok} {w : World} (hok : ∀ b o, ok b o → b < w.heap.size) (N : Nat) {x0 : (List ApiPost)} {x1 : (ApiPost → Option Int)} {A1 : Option Addr} {c2 : Nat} {g3 : Value} (d0 : isV (rSl rApiPost) ok w x0 (.slice A1 (List.length x0) c2)) (d1 : isV (rFn Try.prog rApiPost (rInt .i64)) ok w x1 (g3)) {r : Int} (hF : api_Post_ N x0 x1 = some r) :
    Calls Try.prog 26 ⟨[.slice A1 (List.length x0) c2, g3]⟩ w (Ret w (R1 (rInt .i64) ok w r)) := by
  rw [api_Post_] at hF
  refine enter_ok (n := 21) hok Try.func26 rfl rfl rfl (D := [DF.v (rSl rApiPost) x0 (.slice A1 (List.length x0) c2), DF.v (rFn Try.prog rApiPost (rInt .i64)) x1 (g3)]) ⟨d0, d1, trivial⟩ (fun a h => ?_)
  simp only [zipG, Nat.zero_add, Nat.reduceAdd] at h
  refine start_ctx fun Q hn hr => ?_
  refine seq_region tabOk h [0, 1] [] [(0, .v (.slice A1 (List.length x0) c2)), (1, .v (g3))] [] (by kernel_rfl) fun β4 a5 w6 h7 => ?_
  clear h
  refine seq_region tabOk h7 [0, 1, 5] [] [(0, .v (.slice A1 (List.length x0) c2)), (1, .v (g3)), (5, .v (.int .i64 0))] [] (by kernel_rfl) fun β8 a9 w10 h11 => ?_
  clear h7
  refine seq_ctx fun Q12 hn12 hr12 hx12 => ?_
  refine seq_region tabOk h11 [1, 5, 8, 9, 10] [] [(1, .v (g3)), (5, .v (.int .i64 0)), (8, .v (.slice A1 (List.length x0) c2)), (9, .v (.int .i64 (List.length x0 : Int))), (10, .v (.int .i64 0))] [] (by kernel_rfl) fun β13 a14 w15 h16 => ?_
  clear h11
  obtain ⟨out17, hL17, hC17⟩ := bindE hF
  clear hF
  have j19 : ∀ a w', (∃ (i18 : Int), (∃ β, Sb β (cx 21 ok w) [(5, .v (.int .i64 i18))] [] [] [] a w') ∧ api_Post__j19 N i18 = some r) → Q12 .normal a w' := by
    rintro a20 w21 ⟨i18, ⟨β22, h23⟩, hF24⟩
    rw [api_Post__j19] at hF24
    refine hn12 _ _ ?_
    refine seq_region tabOk h23 [4] [] [(4, .v (.int .i64 i18))] [] (by kernel_rfl) fun β25 a26 w27 h28 => ?_
    clear h23
    refine wp_ret ?_
    refine hr _ _ ?_
    obtain rfl := Option.some.inj hF24
    exact ret1_ok h28 rfl rfl (isV_int.2 rfl)
  refine block_ctx fun Qb17 hnb17 hrb17 hbb17 hxb17 => ?_
  have h31 : Sb β13 (cx 21 ok w) [(1, .v (g3)), (5, .v (.int .i64 0)), (8, .v (.slice A1 (List.length x0) c2)), (9, .v (.int .i64 (List.length x0 : Int))), (10, .v (.int .i64 0))] [DF.v (rFn Try.prog rApiPost (rInt .i64)) x1 (g3), DF.v (rSl rApiPost) x0 (.slice A1 (List.length x0) c2)] [] [] a14 w15 := (h16).sel [1, 5, 8, 9, 10] [1, 0] []
  refine loop_ctx (fun m a w' => ∃ (i29 : Int) (i30 : Int), (∃ β, Sb β (cx 21 ok w) [(1, .v (g3)), (5, .v (.int .i64 i29)), (8, .v (.slice A1 (List.length x0) c2)), (9, .v (.int .i64 (List.length x0 : Int))), (10, .v (.int .i64 i30))] [DF.v (rFn Try.prog rApiPost (rInt .i64)) x1 (g3), DF.v (rSl rApiPost) x0 (.slice A1 (List.length x0) c2)] [] [] a w') ∧ api_Post__l17 N x0 x1 m i29 i30 = some out17) N ⟨0, 0, ⟨_, h31⟩, hL17⟩ ?_
  rintro Q17 m32 a33 w34 ⟨i29, i30, ⟨β35, h36⟩, hF37⟩ hn17 hr17 hx17
  obtain _ | m32 := m32
  · exact absurd hF37 (by simp [api_Post__l17])
  rw [api_Post__l17] at hF37
  refine seq_region tabOk h36 [1, 5, 8, 9, 10, 11] [] [(1, .v (g3)), (5, .v (.int .i64 i29)), (8, .v (.slice A1 (List.length x0) c2)), (9, .v (.int .i64 (List.length x0 : Int))), (10, .v (.int .i64 i30)), (11, .v (.bool (decide (i30 < (List.length x0 : Int)))))] [] (by kernel_rfl) fun β38 a39 w40 h41 => ?_
  clear h36
  refine seq_ctx fun Q42 hn42 hr42 hx42 => ?_
  refine wp_if h41 rfl (fun hb43 => ?_) (fun hb43 => ?_)
  · skip
    have hF44 := ifT hb43 hF37
    clear hF37
    refine wp_skip ?_
    refine hn42 _ _ ?_
    refine seq_ctx fun Q45 hn45 hr45 hx45 => ?_
    refine block_ctx fun Q46 hn46 hr46 hb46 hx46 => ?_
    refine seq_list fun Q47 hq47 => ?_
    obtain ⟨x48, hx48, hF49⟩ := bindE hF44
    clear hF44
    refine step_idx tabOk h41 1 rfl rfl rfl rfl rfl hx48 tb22 rfl tb38 rfl fun p50 a51 h52 => ?_
    clear h41
    refine step_load tabOk h52 0 rfl rfl rfl rfl tb38 rfl rfl fun v53 a55 hv54 h56 => ?_
    clear h52
    obtain rfl := ex_ApiPost hv54
    refine evalS_ok tabOk h56 2 [1, 5, 7, 8, 9, 10] [7] [(1, .v (g3)), (5, .v (.int .i64 i29)), (7, .o 7 0), (8, .v (.slice A1 (List.length x0) c2)), (9, .v (.int .i64 (List.length x0 : Int))), (10, .v (.int .i64 i30))] [(7, ⟨[strV x48.Account, .int .i64 x48.Amount], 38⟩)] (by kernel_rfl) fun β57 a58 w59 h60 => ?_
    clear h56
    have h61 : Sb β57 (cx 21 ok w) [(1, .v (g3)), (5, .v (.int .i64 i29)), (7, .o 7 0), (8, .v (.slice A1 (List.length x0) c2)), (9, .v (.int .i64 (List.length x0 : Int))), (10, .v (.int .i64 i30))] [DF.v (rFn Try.prog rApiPost (rInt .i64)) x1 (g3), DF.v (rSl rApiPost) x0 (.slice A1 (List.length x0) c2)] [(7, ⟨[strV x48.Account, .int .i64 x48.Amount], 38⟩)] [] a58 w59 := h60.sel [1, 5, 7, 8, 9, 10] [2, 3] [7]
    clear h60
    refine wpl_end (hq47 _ _ ?_)
    refine region_ok ?_
    refine evalS_ok tabOk h61 3 [1, 5, 8, 9, 10, 14, 15, 16] [] [(1, .v (g3)), (5, .v (.int .i64 i29)), (8, .v (.slice A1 (List.length x0) c2)), (9, .v (.int .i64 (List.length x0 : Int))), (10, .v (.int .i64 i30)), (14, .v (.int .i64 i29)), (15, .v (g3)), (16, .v (.agg ⟨[strV x48.Account, .int .i64 x48.Amount]⟩))] [] (by kernel_rfl) fun β63 a64 w65 h66 => ?_
    clear h61
    obtain ⟨y67, hy67, hF68⟩ := bindE hF49
    clear hF49
    refine step_callFn h66 rfl rfl rfl rfl (h66.d 0 rfl) (im_ApiPost (x := x48)) hy67 fun v69 a72 w73 hR70 hk71 h74 => ?_
    clear h66
    have hv75 := isV.weak hR70 hk71
    obtain rfl := isV_int.1 hv75
    refine evalS_ok tabOk h74 2 [1, 5, 8, 9, 10] [] [(1, .v (g3)), (5, .v (.int .i64 (IntKind.wrap .i64 (i29 + y67)))), (8, .v (.slice A1 (List.length x0) c2)), (9, .v (.int .i64 (List.length x0 : Int))), (10, .v (.int .i64 i30))] [] (by kernel_rfl) fun β76 a77 w78 h79 => ?_
    clear h74
    have h80 : Sb β76 (cx 21 ok w) [(1, .v (g3)), (5, .v (.int .i64 (IntKind.wrap .i64 (i29 + y67)))), (8, .v (.slice A1 (List.length x0) c2)), (9, .v (.int .i64 (List.length x0 : Int))), (10, .v (.int .i64 i30))] [DF.v (rFn Try.prog rApiPost (rInt .i64)) x1 (g3), DF.v (rSl rApiPost) x0 (.slice A1 (List.length x0) c2)] [] [] a77 w78 := h79.sel [1, 5, 8, 9, 10] [0, 1] []
    clear h79
    refine wpl_end ?_
    refine hn46 _ _ ?_
    refine hn45 _ _ ?_
    refine evalR_ok tabOk h80 [1, 5, 8, 9, 10] [] [(1, .v (g3)), (5, .v (.int .i64 (IntKind.wrap .i64 (i29 + y67)))), (8, .v (.slice A1 (List.length x0) c2)), (9, .v (.int .i64 (List.length x0 : Int))), (10, .v (.int .i64 (IntKind.wrap .i64 (i30 + 1))))] [] (by kernel_rfl) fun β81 a82 w83 h84 => ?_
    clear h80
    have h85 : Sb β81 (cx 21 ok w) [(1, .v (g3)), (5, .v (.int .i64 (IntKind.wrap .i64 (i29 + y67)))), (8, .v (.slice A1 (List.length x0) c2)), (9, .v (.int .i64 (List.length x0 : Int))), (10, .v (.int .i64 (IntKind.wrap .i64 (i30 + 1))))] [DF.v (rFn Try.prog rApiPost (rInt .i64)) x1 (g3), DF.v (rSl rApiPost) x0 (.slice A1 (List.length x0) c2)] [] [] a82 w83 := (h84).sel [1, 5, 8, 9, 10] [0, 1] []
    exact hn17 _ _ _ (Nat.lt_succ_self _) ⟨(IntKind.wrap .i64 (i29 + y67)), (IntKind.wrap .i64 (i30 + 1)), ⟨_, h85⟩, hF68⟩
  · skip
    have hF86 := ifF hb43 hF37
    clear hF37
    refine wp_exit ?_
    refine hx42 0 _ _ ?_
    refine hx17 0 _ _ ?_
    refine hbb17 _ _ ?_
    obtain rfl := Option.some.inj hF86
    have h87 : Sb β38 (cx 21 ok w) [(5, .v (.int .i64 i29))] [] [] [] a39 w40 := (h41).sel [5] [] []
    exact j19 _ _ ⟨i29, ⟨_, h87⟩, hC17⟩

theorem c_ledger_value {ok : Ok} {w : World} (hok : ∀ b o, ok b o → b < w.heap.size) (N : Nat) {x0 : ApiPost} {r : Int} (hF : ledger_value N x0 = some r) :
    Calls Try.prog 27 ⟨[.agg ⟨[strV x0.Account, .int .i64 x0.Amount]⟩]⟩ w (Ret w (R1 (rInt .i64) ok w r)) := by
  rw [ledger_value] at hF
  refine enter_ok (n := 5) hok Try.func27 rfl rfl rfl (D := []) trivial (fun a h => ?_)
  simp only [zipG, Nat.zero_add, Nat.reduceAdd] at h
  refine start_ctx fun Q hn hr => ?_
  refine seq_region tabOk h [1] [1] [(1, .o 1 0)] [(1, ⟨[strV x0.Account, .int .i64 x0.Amount], 38⟩)] (by kernel_rfl) fun β1 a2 w3 h4 => ?_
  clear h
  refine seq_region tabOk h4 [2] [] [(2, .v (.int .i64 x0.Amount))] [] (by kernel_rfl) fun β5 a6 w7 h8 => ?_
  clear h4
  refine wp_ret ?_
  refine hr _ _ ?_
  obtain rfl := Option.some.inj hF
  exact ret1_ok h8 rfl rfl (isV_int.2 rfl)
theorem fv_ledger_value (N : Nat) {ok : Ok} {w : World} : fnRep Try.prog rApiPost (rInt .i64) ok w (ledger_value N) (.func (.func 27) ⟨[]⟩ ⟨[]⟩) := by
  refine ⟨27, _, rfl, runs27, fun ok2 w2 hk he hlt x v y hx hy => ?_⟩
  obtain rfl := ex_ApiPost hx
  exact c_ledger_value hlt N hy

theorem c_ledger_Check {ok : Ok} {w : World} (hok : ∀ b o, ok b o → b < w.heap.size) (N : Nat) {x0 : ApiEntry} {A1 : Option Addr} {c2 : Nat} (d0 : isV (rSl rApiPost) ok w x0.Posts (.slice A1 (List.length x0.Posts) c2)) {r : Int} (hF : ledger_Check N x0 = some r) :
    Calls Try.prog 9 ⟨[.agg ⟨[.int .i64 x0.At, strV x0.Text, .slice A1 (List.length x0.Posts) c2]⟩]⟩ w (Ret w (R1 (rInt .i64) ok w r)) := by
  rw [ledger_Check] at hF
  refine enter_ok (n := 90) hok Try.func9 rfl rfl rfl (D := [DF.v (rSl rApiPost) x0.Posts (.slice A1 (List.length x0.Posts) c2)]) ⟨d0, trivial⟩ (fun a h => ?_)
  simp only [zipG, Nat.zero_add, Nat.reduceAdd] at h
  refine start_ctx fun Q hn hr => ?_
  refine seq_region tabOk h [1] [1] [(1, .o 1 0)] [(1, ⟨[.int .i64 x0.At, strV x0.Text, .slice A1 (List.length x0.Posts) c2], 24⟩)] (by kernel_rfl) fun β3 a4 w5 h6 => ?_
  clear h
  refine seq_ctx fun Q7 hn7 hr7 hx7 => ?_
  refine block_ctx fun Q8 hn8 hr8 hb8 hx8 => ?_
  obtain ⟨g10, hg10⟩ : ∃ z, z = ((decide (x0.At < 0)) || (decide (x0.At ≥ 12622780800))) := ⟨_, rfl⟩
  skip
  refine seq_join (J := fun a w' => ∃ β, Sb β (cx 90 ok w) [(1, .o 1 0), (5, .v (.bool g10))] [DF.v (rSl rApiPost) x0.Posts (.slice A1 (List.length x0.Posts) c2)] [(1, ⟨[.int .i64 x0.At, strV x0.Text, .slice A1 (List.length x0.Posts) c2], 24⟩)] [] a w') ?_ ?_
  · skip
    rintro a11 w12 ⟨β13, h14⟩
    subst hg10
    refine wp_if h14 rfl (fun hb15 => ?_) (fun hb15 => ?_)
    · skip
      have hF16 := ifT hb15 hF
      clear hF
      refine seq_region tabOk h14 [2] [] [(2, .v (.int .i64 15))] [] (by kernel_rfl) fun β17 a18 w19 h20 => ?_
      clear h14
      refine wp_ret ?_
      refine hr8 _ _ ?_
      refine hr7 _ _ ?_
      refine hr _ _ ?_
      obtain rfl := Option.some.inj hF16
      exact ret1_ok h20 rfl rfl (isV_int.2 rfl)
    · skip
      have hF21 := ifF hb15 hF
      clear hF
      obtain ⟨g23, hg23⟩ : ∃ z, z = ((decide ((List.length x0.Text : Int) > 200)) || (decide ((List.length x0.Posts : Int) > 64))) := ⟨_, rfl⟩
      skip
      refine seq_join (J := fun a w' => ∃ β, Sb β (cx 90 ok w) [(1, .o 1 0), (14, .v (.bool g23))] [DF.v (rSl rApiPost) x0.Posts (.slice A1 (List.length x0.Posts) c2)] [(1, ⟨[.int .i64 x0.At, strV x0.Text, .slice A1 (List.length x0.Posts) c2], 24⟩)] [] a w') ?_ ?_
      · skip
        rintro a24 w25 ⟨β26, h27⟩
        subst hg23
        refine wp_if h27 rfl (fun hb28 => ?_) (fun hb28 => ?_)
        · skip
          have hF29 := ifT hb28 hF21
          clear hF21
          refine seq_region tabOk h27 [2] [] [(2, .v (.int .i64 5))] [] (by kernel_rfl) fun β30 a31 w32 h33 => ?_
          clear h27
          refine wp_ret ?_
          refine hr8 _ _ ?_
          refine hr7 _ _ ?_
          refine hr _ _ ?_
          obtain rfl := Option.some.inj hF29
          exact ret1_ok h33 rfl rfl (isV_int.2 rfl)
        · skip
          have hF34 := ifF hb28 hF21
          clear hF21
          obtain ⟨g36, hv37, hF38⟩ := bindE hF34
          clear hF34
          refine seq_join (J := fun a w' => ∃ β, Sb β (cx 90 ok w) [(1, .o 1 0), (25, .v (.bool g36))] [DF.v (rSl rApiPost) x0.Posts (.slice A1 (List.length x0.Posts) c2)] [(1, ⟨[.int .i64 x0.At, strV x0.Text, .slice A1 (List.length x0.Posts) c2], 24⟩)] [] a w') ?_ ?_
          · skip
            rintro a39 w40 ⟨β41, h42⟩
            refine wp_if h42 rfl (fun hb43 => ?_) (fun hb43 => ?_)
            · skip
              have hF44 := ifT hb43 hF38
              clear hF38
              refine seq_region tabOk h42 [2] [] [(2, .v (.int .i64 8))] [] (by kernel_rfl) fun β45 a46 w47 h48 => ?_
              clear h42
              refine wp_ret ?_
              refine hr8 _ _ ?_
              refine hr7 _ _ ?_
              refine hr _ _ ?_
              obtain rfl := Option.some.inj hF44
              exact ret1_ok h48 rfl rfl (isV_int.2 rfl)
            · skip
              have hF49 := ifF hb43 hF38
              clear hF38
              refine wp_skip ?_
              refine hn8 _ _ ?_
              refine hn7 _ _ ?_
              refine seq_ctx fun Q50 hn50 hr50 hx50 => ?_
              refine seq_region tabOk h42 [1, 37, 38, 39] [1] [(1, .o 1 0), (37, .v (.slice A1 (List.length x0.Posts) c2)), (38, .v (.int .i64 (List.length x0.Posts : Int))), (39, .v (.int .i64 0))] [(1, ⟨[.int .i64 x0.At, strV x0.Text, .slice A1 (List.length x0.Posts) c2], 24⟩)] (by kernel_rfl) fun β51 a52 w53 h54 => ?_
              clear h42
              obtain ⟨out55, hL55, hC55⟩ := bindE hF49
              clear hF49
              have j56 : ∀ a w', ((∃ β, Sb β (cx 90 ok w) [(1, .o 1 0)] [DF.v (rSl rApiPost) x0.Posts (.slice A1 (List.length x0.Posts) c2)] [(1, ⟨[.int .i64 x0.At, strV x0.Text, .slice A1 (List.length x0.Posts) c2], 24⟩)] [] a w') ∧ ledger_Check_j56 N x0 = some r) → Q50 .normal a w' := by
                rintro a57 w58 ⟨⟨β59, h60⟩, hF61⟩
                rw [ledger_Check_j56] at hF61
                refine hn50 _ _ ?_
                refine seq_ctx fun Q62 hn62 hr62 hx62 => ?_
                refine seq_list fun Q63 hq63 => ?_
                refine evalS_ok tabOk h60 2 [87] [] [(87, .v (.slice A1 (List.length x0.Posts) c2))] [] (by kernel_rfl) fun β64 a65 w66 h67 => ?_
                clear h60
                obtain ⟨y68, hy68, hF69⟩ := bindE hF61
                clear hF61
                refine step_call h67 rfl rfl runs26 (vs := [(.slice A1 (List.length x0.Posts) c2), (.func (.func 27) ⟨[]⟩ ⟨[]⟩)]) (by kernel_rfl) (c_api_Post_ (x0 := x0.Posts) (x1 := (ledger_value N)) h67.okLt N (h67.d 0 rfl) (isV_fn.2 (fv_ledger_value N)) hy68) fun v70 a73 w74 hR71 hk72 h75 => ?_
                clear h67
                have hv76 := isV.weak hR71 hk72
                obtain rfl := isV_int.1 hv76
                refine evalS_ok tabOk h75 1 [89] [] [(89, .v (.bool (y68 != 0)))] [] (by kernel_rfl) fun β77 a78 w79 h80 => ?_
                clear h75
                have h81 : Sb β77 (cx 90 ok w) [(89, .v (.bool (y68 != 0)))] [] [] [] a78 w79 := h80.sel [89] [] []
                clear h80
                refine wpl_end (hq63 _ _ ?_)
                refine wp_if h81 rfl (fun hb82 => ?_) (fun hb82 => ?_)
                · skip
                  have hF83 := ifT hb82 hF69
                  clear hF69
                  refine seq_region tabOk h81 [2] [] [(2, .v (.int .i64 21))] [] (by kernel_rfl) fun β84 a85 w86 h87 => ?_
                  clear h81
                  refine wp_ret ?_
                  refine hr62 _ _ ?_
                  refine hr _ _ ?_
                  obtain rfl := Option.some.inj hF83
                  exact ret1_ok h87 rfl rfl (isV_int.2 rfl)
                · skip
                  have hF88 := ifF hb82 hF69
                  clear hF69
                  refine wp_skip ?_
                  refine hn62 _ _ ?_
                  refine seq_region tabOk h81 [2] [] [(2, .v (.int .i64 0))] [] (by kernel_rfl) fun β89 a90 w91 h92 => ?_
                  clear h81
                  refine wp_ret ?_
                  refine hr _ _ ?_
                  obtain rfl := Option.some.inj hF88
                  exact ret1_ok h92 rfl rfl (isV_int.2 rfl)
              refine block_ctx fun Qb55 hnb55 hrb55 hbb55 hxb55 => ?_
              have h94 : Sb β51 (cx 90 ok w) [(1, .o 1 0), (37, .v (.slice A1 (List.length x0.Posts) c2)), (38, .v (.int .i64 (List.length x0.Posts : Int))), (39, .v (.int .i64 0))] [DF.v (rSl rApiPost) x0.Posts (.slice A1 (List.length x0.Posts) c2)] [(1, ⟨[.int .i64 x0.At, strV x0.Text, .slice A1 (List.length x0.Posts) c2], 24⟩)] [] a52 w53 := (h54).sel [1, 37, 38, 39] [0] [1]
              refine loop_ctx (fun m a w' => ∃ (i93 : Int), (∃ β, Sb β (cx 90 ok w) [(1, .o 1 0), (37, .v (.slice A1 (List.length x0.Posts) c2)), (38, .v (.int .i64 (List.length x0.Posts : Int))), (39, .v (.int .i64 i93))] [DF.v (rSl rApiPost) x0.Posts (.slice A1 (List.length x0.Posts) c2)] [(1, ⟨[.int .i64 x0.At, strV x0.Text, .slice A1 (List.length x0.Posts) c2], 24⟩)] [] a w') ∧ ledger_Check_l55 N x0 m i93 = some out55) N ⟨0, ⟨_, h94⟩, hL55⟩ ?_
              rintro Q55 m95 a96 w97 ⟨i93, ⟨β98, h99⟩, hF100⟩ hn55 hr55 hx55
              obtain _ | m95 := m95
              · exact absurd hF100 (by simp [ledger_Check_l55])
              rw [ledger_Check_l55] at hF100
              refine seq_region tabOk h99 [1, 37, 38, 39, 40] [1] [(1, .o 1 0), (37, .v (.slice A1 (List.length x0.Posts) c2)), (38, .v (.int .i64 (List.length x0.Posts : Int))), (39, .v (.int .i64 i93)), (40, .v (.bool (decide (i93 < (List.length x0.Posts : Int)))))] [(1, ⟨[.int .i64 x0.At, strV x0.Text, .slice A1 (List.length x0.Posts) c2], 24⟩)] (by kernel_rfl) fun β101 a102 w103 h104 => ?_
              clear h99
              refine seq_ctx fun Q105 hn105 hr105 hx105 => ?_
              refine wp_if h104 rfl (fun hb106 => ?_) (fun hb106 => ?_)
              · skip
                have hF107 := ifT hb106 hF100
                clear hF100
                refine wp_skip ?_
                refine hn105 _ _ ?_
                refine seq_ctx fun Q108 hn108 hr108 hx108 => ?_
                refine block_ctx fun Q109 hn109 hr109 hb109 hx109 => ?_
                refine seq_list fun Q110 hq110 => ?_
                refine evalS_ok tabOk h104 1 [1, 37, 38, 39, 41] [1] [(1, .o 1 0), (37, .v (.slice A1 (List.length x0.Posts) c2)), (38, .v (.int .i64 (List.length x0.Posts : Int))), (39, .v (.int .i64 i93)), (41, .v (.int .i64 i93))] [(1, ⟨[.int .i64 x0.At, strV x0.Text, .slice A1 (List.length x0.Posts) c2], 24⟩)] (by kernel_rfl) fun β111 a112 w113 h114 => ?_
                clear h104
                obtain ⟨x115, hx115, hF116⟩ := bindE hF107
                clear hF107
                refine step_idx tabOk h114 0 rfl rfl rfl rfl rfl hx115 tb22 rfl tb38 rfl fun p117 a118 h119 => ?_
                clear h114
                refine step_load tabOk h119 0 rfl rfl rfl rfl tb38 rfl rfl fun v120 a122 hv121 h123 => ?_
                clear h119
                obtain rfl := ex_ApiPost hv121
                refine evalS_ok tabOk h123 3 [1, 3, 4, 37, 38, 39] [1, 4] [(1, .o 1 0), (3, .v (.int .i64 i93)), (4, .o 4 0), (37, .v (.slice A1 (List.length x0.Posts) c2)), (38, .v (.int .i64 (List.length x0.Posts : Int))), (39, .v (.int .i64 i93))] [(1, ⟨[.int .i64 x0.At, strV x0.Text, .slice A1 (List.length x0.Posts) c2], 24⟩), (4, ⟨[strV x115.Account, .int .i64 x115.Amount], 38⟩)] (by kernel_rfl) fun β124 a125 w126 h127 => ?_
                clear h123
                have h128 : Sb β124 (cx 90 ok w) [(1, .o 1 0), (3, .v (.int .i64 i93)), (4, .o 4 0), (37, .v (.slice A1 (List.length x0.Posts) c2)), (38, .v (.int .i64 (List.length x0.Posts : Int))), (39, .v (.int .i64 i93))] [DF.v (rSl rApiPost) x0.Posts (.slice A1 (List.length x0.Posts) c2)] [(1, ⟨[.int .i64 x0.At, strV x0.Text, .slice A1 (List.length x0.Posts) c2], 24⟩), (4, ⟨[strV x115.Account, .int .i64 x115.Amount], 38⟩)] [] a125 w126 := h127.sel [1, 3, 4, 37, 38, 39] [2] [1, 4]
                clear h127
                refine wpl_end (hq110 _ _ ?_)
                refine block_ctx fun Q129 hn129 hr129 hb129 hx129 => ?_
                obtain ⟨g131, hv132, hF133⟩ := bindE hF116
                clear hF116
                refine seq_join (J := fun a w' => ∃ β, Sb β (cx 90 ok w) [(1, .o 1 0), (3, .v (.int .i64 i93)), (4, .o 4 0), (37, .v (.slice A1 (List.length x0.Posts) c2)), (38, .v (.int .i64 (List.length x0.Posts : Int))), (39, .v (.int .i64 i93)), (44, .v (.bool g131))] [DF.v (rSl rApiPost) x0.Posts (.slice A1 (List.length x0.Posts) c2)] [(1, ⟨[.int .i64 x0.At, strV x0.Text, .slice A1 (List.length x0.Posts) c2], 24⟩), (4, ⟨[strV x115.Account, .int .i64 x115.Amount], 38⟩)] [] a w') ?_ ?_
                · skip
                  rintro a134 w135 ⟨β136, h137⟩
                  refine wp_if h137 rfl (fun hb138 => ?_) (fun hb138 => ?_)
                  · skip
                    have hF139 := ifT hb138 hF133
                    clear hF133
                    refine seq_region tabOk h137 [2] [] [(2, .v (.int .i64 8))] [] (by kernel_rfl) fun β140 a141 w142 h143 => ?_
                    clear h137
                    refine wp_ret ?_
                    refine hr129 _ _ ?_
                    refine hr109 _ _ ?_
                    refine hr108 _ _ ?_
                    refine hr55 _ _ ?_
                    refine hrb55 _ _ ?_
                    refine hr50 _ _ ?_
                    refine hr _ _ ?_
                    obtain rfl := Option.some.inj hF139
                    obtain rfl := Option.some.inj hC55
                    exact ret1_ok h143 rfl rfl (isV_int.2 rfl)
                  · skip
                    have hF144 := ifF hb138 hF133
                    clear hF133
                    obtain ⟨g146, hv147, hF148⟩ := bindE hF144
                    clear hF144
                    refine seq_join (J := fun a w' => ∃ β, Sb β (cx 90 ok w) [(1, .o 1 0), (4, .o 4 0), (37, .v (.slice A1 (List.length x0.Posts) c2)), (38, .v (.int .i64 (List.length x0.Posts : Int))), (39, .v (.int .i64 i93)), (60, .v (.bool g146))] [DF.v (rSl rApiPost) x0.Posts (.slice A1 (List.length x0.Posts) c2)] [(1, ⟨[.int .i64 x0.At, strV x0.Text, .slice A1 (List.length x0.Posts) c2], 24⟩), (4, ⟨[strV x115.Account, .int .i64 x115.Amount], 38⟩)] [] a w') ?_ ?_
                    · skip
                      rintro a149 w150 ⟨β151, h152⟩
                      refine wp_if h152 rfl (fun hb153 => ?_) (fun hb153 => ?_)
                      · skip
                        have hF154 := ifT hb153 hF148
                        clear hF148
                        refine seq_region tabOk h152 [2] [] [(2, .v (.int .i64 9))] [] (by kernel_rfl) fun β155 a156 w157 h158 => ?_
                        clear h152
                        refine wp_ret ?_
                        refine hr129 _ _ ?_
                        refine hr109 _ _ ?_
                        refine hr108 _ _ ?_
                        refine hr55 _ _ ?_
                        refine hrb55 _ _ ?_
                        refine hr50 _ _ ?_
                        refine hr _ _ ?_
                        obtain rfl := Option.some.inj hF154
                        obtain rfl := Option.some.inj hC55
                        exact ret1_ok h158 rfl rfl (isV_int.2 rfl)
                      · skip
                        have hF159 := ifF hb153 hF148
                        clear hF148
                        obtain ⟨g161, hv162, hF163⟩ := bindE hF159
                        clear hF159
                        refine seq_join (J := fun a w' => ∃ β, Sb β (cx 90 ok w) [(1, .o 1 0), (37, .v (.slice A1 (List.length x0.Posts) c2)), (38, .v (.int .i64 (List.length x0.Posts : Int))), (39, .v (.int .i64 i93)), (75, .v (.bool g161))] [DF.v (rSl rApiPost) x0.Posts (.slice A1 (List.length x0.Posts) c2)] [(1, ⟨[.int .i64 x0.At, strV x0.Text, .slice A1 (List.length x0.Posts) c2], 24⟩)] [] a w') ?_ ?_
                        · skip
                          rintro a164 w165 ⟨β166, h167⟩
                          refine wp_if h167 rfl (fun hb168 => ?_) (fun hb168 => ?_)
                          · skip
                            have hF169 := ifT hb168 hF163
                            clear hF163
                            refine seq_region tabOk h167 [2] [] [(2, .v (.int .i64 6))] [] (by kernel_rfl) fun β170 a171 w172 h173 => ?_
                            clear h167
                            refine wp_ret ?_
                            refine hr129 _ _ ?_
                            refine hr109 _ _ ?_
                            refine hr108 _ _ ?_
                            refine hr55 _ _ ?_
                            refine hrb55 _ _ ?_
                            refine hr50 _ _ ?_
                            refine hr _ _ ?_
                            obtain rfl := Option.some.inj hF169
                            obtain rfl := Option.some.inj hC55
                            exact ret1_ok h173 rfl rfl (isV_int.2 rfl)
                          · skip
                            have hF174 := ifF hb168 hF163
                            clear hF163
                            refine wp_skip ?_
                            refine hn129 _ _ ?_
                            refine hn109 _ _ ?_
                            refine hn108 _ _ ?_
                            refine evalR_ok tabOk h167 [1, 37, 38, 39] [1] [(1, .o 1 0), (37, .v (.slice A1 (List.length x0.Posts) c2)), (38, .v (.int .i64 (List.length x0.Posts : Int))), (39, .v (.int .i64 (IntKind.wrap .i64 (i93 + 1))))] [(1, ⟨[.int .i64 x0.At, strV x0.Text, .slice A1 (List.length x0.Posts) c2], 24⟩)] (by kernel_rfl) fun β175 a176 w177 h178 => ?_
                            clear h167
                            have h179 : Sb β175 (cx 90 ok w) [(1, .o 1 0), (37, .v (.slice A1 (List.length x0.Posts) c2)), (38, .v (.int .i64 (List.length x0.Posts : Int))), (39, .v (.int .i64 (IntKind.wrap .i64 (i93 + 1))))] [DF.v (rSl rApiPost) x0.Posts (.slice A1 (List.length x0.Posts) c2)] [(1, ⟨[.int .i64 x0.At, strV x0.Text, .slice A1 (List.length x0.Posts) c2], 24⟩)] [] a176 w177 := (h178).sel [1, 37, 38, 39] [0] [1]
                            exact hn55 _ _ _ (Nat.lt_succ_self _) ⟨(IntKind.wrap .i64 (i93 + 1)), ⟨_, h179⟩, hF174⟩
                        · skip
                          refine region_ok ?_
                          refine evalS_ok tabOk h152 4 [1, 4, 37, 38, 39, 79] [1, 4] [(1, .o 1 0), (4, .o 4 0), (37, .v (.slice A1 (List.length x0.Posts) c2)), (38, .v (.int .i64 (List.length x0.Posts : Int))), (39, .v (.int .i64 i93)), (79, .v (.bool (x115.Amount == 0)))] [(1, ⟨[.int .i64 x0.At, strV x0.Text, .slice A1 (List.length x0.Posts) c2], 24⟩), (4, ⟨[strV x115.Account, .int .i64 x115.Amount], 38⟩)] (by kernel_rfl) fun β180 a181 w182 h183 => ?_
                          clear h152
                          refine bcases (b := (x115.Amount == 0)) (fun hb184 => ?_) (fun hb184 => ?_)
                          · skip
                            have hv185 := ifT hb184 hv162
                            clear hv162
                            have h186 := h183.reb (t := 79) rfl hb184
                            clear h183
                            refine evalS_ok tabOk h186 6 [1, 37, 38, 39, 75] [1] [(1, .o 1 0), (37, .v (.slice A1 (List.length x0.Posts) c2)), (38, .v (.int .i64 (List.length x0.Posts : Int))), (39, .v (.int .i64 i93)), (75, .v (.bool true))] [(1, ⟨[.int .i64 x0.At, strV x0.Text, .slice A1 (List.length x0.Posts) c2], 24⟩)] (by kernel_rfl) fun β187 a188 w189 h190 => ?_
                            clear h186
                            obtain rfl := Option.some.inj hv185
                            have h191 : Sb β187 (cx 90 ok w) [(1, .o 1 0), (37, .v (.slice A1 (List.length x0.Posts) c2)), (38, .v (.int .i64 (List.length x0.Posts : Int))), (39, .v (.int .i64 i93)), (75, .v (.bool true))] [DF.v (rSl rApiPost) x0.Posts (.slice A1 (List.length x0.Posts) c2)] [(1, ⟨[.int .i64 x0.At, strV x0.Text, .slice A1 (List.length x0.Posts) c2], 24⟩)] [] a188 w189 := h190.sel [1, 37, 38, 39, 75] [0] [1]
                            clear h190
                            exact wpl_end (then_n ⟨_, h191⟩)
                          · skip
                            have hv192 := ifF hb184 hv162
                            clear hv162
                            have h193 := h183.reb (t := 79) rfl hb184
                            clear h183
                            refine evalS_ok tabOk h193 2 [1, 37, 38, 39, 79, 81] [1] [(1, .o 1 0), (37, .v (.slice A1 (List.length x0.Posts) c2)), (38, .v (.int .i64 (List.length x0.Posts : Int))), (39, .v (.int .i64 i93)), (79, .v (.bool false)), (81, .v (.int .i64 x115.Amount))] [(1, ⟨[.int .i64 x0.At, strV x0.Text, .slice A1 (List.length x0.Posts) c2], 24⟩)] (by kernel_rfl) fun β194 a195 w196 h197 => ?_
                            clear h193
                            obtain ⟨y198, hy198, hv199⟩ := bindE hv192
                            clear hv192
                            refine step_call h197 rfl rfl runs25 (vs := [(.int .i64 x115.Amount)]) (by kernel_rfl) (c_amount_Valid (x0 := x115.Amount) h197.okLt N hy198) fun v200 a203 w204 hR201 hk202 h205 => ?_
                            clear h197
                            have hv206 := isV.weak hR201 hk202
                            obtain rfl := isV_bool.1 hv206
                            refine evalS_ok tabOk h205 3 [1, 37, 38, 39, 75] [1] [(1, .o 1 0), (37, .v (.slice A1 (List.length x0.Posts) c2)), (38, .v (.int .i64 (List.length x0.Posts : Int))), (39, .v (.int .i64 i93)), (75, .v (.bool (!y198)))] [(1, ⟨[.int .i64 x0.At, strV x0.Text, .slice A1 (List.length x0.Posts) c2], 24⟩)] (by kernel_rfl) fun β207 a208 w209 h210 => ?_
                            clear h205
                            obtain rfl := Option.some.inj hv199
                            have h211 : Sb β207 (cx 90 ok w) [(1, .o 1 0), (37, .v (.slice A1 (List.length x0.Posts) c2)), (38, .v (.int .i64 (List.length x0.Posts : Int))), (39, .v (.int .i64 i93)), (75, .v (.bool (!y198)))] [DF.v (rSl rApiPost) x0.Posts (.slice A1 (List.length x0.Posts) c2)] [(1, ⟨[.int .i64 x0.At, strV x0.Text, .slice A1 (List.length x0.Posts) c2], 24⟩)] [] a208 w209 := h210.sel [1, 37, 38, 39, 75] [0] [1]
                            clear h210
                            exact wpl_end (then_n ⟨_, h211⟩)
                    · skip
                      refine bcases (b := (decide (i93 > 0))) (fun hb212 => ?_) (fun hb212 => ?_)
                      · skip
                        have hv213 := ifT hb212 hv147
                        clear hv147
                        obtain ⟨x214, hx214, hv215⟩ := bindE hv213
                        clear hv213
                        have h217 : Sb β136 (cx 90 ok w) [(1, .o 1 0), (3, .v (.int .i64 i93)), (4, .o 4 0), (37, .v (.slice A1 (List.length x0.Posts) c2)), (38, .v (.int .i64 (List.length x0.Posts : Int))), (39, .v (.int .i64 i93))] [DF.v (rSl rApiPost) x0.Posts (.slice A1 (List.length x0.Posts) c2)] [(1, ⟨[.int .i64 x0.At, strV x0.Text, .slice A1 (List.length x0.Posts) c2], 24⟩), (4, ⟨[strV x115.Account, .int .i64 x115.Amount], 38⟩)] [] a134 w135 := h137.sel [1, 3, 4, 37, 38, 39] [0] [1, 4]
                        refine draw_rule h217 rfl (by kernel_rfl) 14 [61, 62, 63, 64, 65, 66, 67, 68, 69, 70, 71, 72, 73, 74] [FV.eq (.int .i64 i93), FV.eq (.bool (decide (i93 > 0))), FV.eq (.bool (decide (i93 > 0))), FV.eq (.pointer (some ⟨β136 1, 2, none⟩)), FV.eq (.slice A1 (List.length x0.Posts) c2), FV.eq (.int .i64 i93), FV.eq (.int .i64 (IntKind.wrap .i64 (i93 - 1))), FV.at rApiPost x214, FV.at rStr x214.Account, FV.eq (strV x214.Account), FV.eq (.pointer (some ⟨β136 4, 0, none⟩)), FV.eq (strV x115.Account), FV.eq (.bool (!(Op.bytesLess x214.Account x115.Account))), FV.eq (.bool (!(Op.bytesLess x214.Account x115.Account)))] rfl rfl rfl (by kernel_rfl) (by kernel_rfl) (by kernel_rfl) (by kernel_rfl) (by kernel_rfl) ?_ ?_
                        · skip
                          refine ⟨⟨⟨⟨⟨⟨⟨⟨⟨⟨⟨⟨⟨⟨trivial, ?_⟩, ?_⟩, ?_⟩, ?_⟩, ?_⟩, ?_⟩, ?_⟩, ?_⟩, ?_⟩, ?_⟩, ?_⟩, ?_⟩, ?_⟩, ?_⟩
                          · skip
                            intro β218 a219 w220 dX221 Ox222 Q223 h224 hq225 hp226 hk227
                            refine evalS_ok tabOk h224 1 [1, 3, 4, 37, 38, 39, 61] [1, 4] [(1, .o 1 0), (3, .v (.int .i64 i93)), (4, .o 4 0), (37, .v (.slice A1 (List.length x0.Posts) c2)), (38, .v (.int .i64 (List.length x0.Posts : Int))), (39, .v (.int .i64 i93)), (61, .v (.int .i64 i93))] [(1, ⟨[.int .i64 x0.At, strV x0.Text, .slice A1 (List.length x0.Posts) c2], 24⟩), (4, ⟨[strV x115.Account, .int .i64 x115.Amount], 38⟩)] (by kernel_rfl) fun β228 a229 w230 h231 => ?_
                            exact wpl_end (hk227 _ _ _ _ (h231.sel [1, 3, 4, 37, 38, 39] [0, 1] [1, 4]) (h231.getD rfl) rfl)
                          · skip
                            intro β232 a233 w234 dX235 Ox236 Q237 h238 hq239 hp240 hk241
                            have h242 := h238.learnE (d := 61) rfl (hp240 0 61 _ rfl rfl rfl)
                            clear h238
                            refine evalS_ok tabOk h242 1 [1, 3, 4, 37, 38, 39, 62] [1, 4] [(1, .o 1 0), (3, .v (.int .i64 i93)), (4, .o 4 0), (37, .v (.slice A1 (List.length x0.Posts) c2)), (38, .v (.int .i64 (List.length x0.Posts : Int))), (39, .v (.int .i64 i93)), (62, .v (.bool (decide (i93 > 0))))] [(1, ⟨[.int .i64 x0.At, strV x0.Text, .slice A1 (List.length x0.Posts) c2], 24⟩), (4, ⟨[strV x115.Account, .int .i64 x115.Amount], 38⟩)] (by kernel_rfl) fun β243 a244 w245 h246 => ?_
                            exact wpl_end (hk241 _ _ _ _ (h246.sel [1, 3, 4, 37, 38, 39] [0, 1] [1, 4]) (h246.getD rfl) rfl)
                          · skip
                            intro β247 a248 w249 dX250 Ox251 Q252 h253 hq254 hp255 hk256
                            have h257 := h253.learnE (d := 62) rfl (hp255 1 62 _ rfl rfl rfl)
                            clear h253
                            refine evalS_ok tabOk h257 1 [1, 3, 4, 37, 38, 39, 63] [1, 4] [(1, .o 1 0), (3, .v (.int .i64 i93)), (4, .o 4 0), (37, .v (.slice A1 (List.length x0.Posts) c2)), (38, .v (.int .i64 (List.length x0.Posts : Int))), (39, .v (.int .i64 i93)), (63, .v (.bool (decide (i93 > 0))))] [(1, ⟨[.int .i64 x0.At, strV x0.Text, .slice A1 (List.length x0.Posts) c2], 24⟩), (4, ⟨[strV x115.Account, .int .i64 x115.Amount], 38⟩)] (by kernel_rfl) fun β258 a259 w260 h261 => ?_
                            exact wpl_end (hk256 _ _ _ _ (h261.sel [1, 3, 4, 37, 38, 39] [0, 1] [1, 4]) (h261.getD rfl) rfl)
                          · skip
                            intro β262 a263 w264 dX265 Ox266 Q267 h268 hq269 hp270 hk271
                            have h272 := h268.learnE (d := 63) rfl (hp270 2 63 _ rfl rfl rfl)
                            clear h268
                            have h273 := h272.reb (t := 63) rfl hb212
                            clear h272
                            refine evalS_ok tabOk h273 1 [1, 3, 4, 37, 38, 39, 64] [1, 4] [(1, .o 1 0), (3, .v (.int .i64 i93)), (4, .o 4 0), (37, .v (.slice A1 (List.length x0.Posts) c2)), (38, .v (.int .i64 (List.length x0.Posts : Int))), (39, .v (.int .i64 i93)), (64, .o 1 2)] [(1, ⟨[.int .i64 x0.At, strV x0.Text, .slice A1 (List.length x0.Posts) c2], 24⟩), (4, ⟨[strV x115.Account, .int .i64 x115.Amount], 38⟩)] (by kernel_rfl) fun β274 a275 w276 h277 => ?_
                            exact wpl_end (hk271 _ _ _ _ (h277.sel [1, 3, 4, 37, 38, 39] [0, 1] [1, 4]) (h277.getO rfl rfl rfl) rfl)
                          · skip
                            intro β278 a279 w280 dX281 Ox282 Q283 h284 hq285 hp286 hk287
                            have h288 := h284.learnE (d := 63) rfl (hp286 2 63 _ rfl rfl rfl)
                            clear h284
                            have h289 := h288.reb (t := 63) rfl hb212
                            clear h288
                            have h290 := h289.learnO (d := 64) (id := 1) (off := 2) rfl rfl rfl (hp286 3 64 _ rfl rfl rfl)
                            clear h289
                            refine evalS_ok tabOk h290 1 [1, 3, 4, 37, 38, 39, 65] [1, 4] [(1, .o 1 0), (3, .v (.int .i64 i93)), (4, .o 4 0), (37, .v (.slice A1 (List.length x0.Posts) c2)), (38, .v (.int .i64 (List.length x0.Posts : Int))), (39, .v (.int .i64 i93)), (65, .v (.slice A1 (List.length x0.Posts) c2))] [(1, ⟨[.int .i64 x0.At, strV x0.Text, .slice A1 (List.length x0.Posts) c2], 24⟩), (4, ⟨[strV x115.Account, .int .i64 x115.Amount], 38⟩)] (by kernel_rfl) fun β291 a292 w293 h294 => ?_
                            exact wpl_end (hk287 _ _ _ _ (h294.sel [1, 3, 4, 37, 38, 39] [0, 1] [1, 4]) (h294.getD rfl) rfl)
                          · skip
                            intro β295 a296 w297 dX298 Ox299 Q300 h301 hq302 hp303 hk304
                            have h305 := h301.learnE (d := 63) rfl (hp303 2 63 _ rfl rfl rfl)
                            clear h301
                            have h306 := h305.reb (t := 63) rfl hb212
                            clear h305
                            refine evalS_ok tabOk h306 1 [1, 3, 4, 37, 38, 39, 66] [1, 4] [(1, .o 1 0), (3, .v (.int .i64 i93)), (4, .o 4 0), (37, .v (.slice A1 (List.length x0.Posts) c2)), (38, .v (.int .i64 (List.length x0.Posts : Int))), (39, .v (.int .i64 i93)), (66, .v (.int .i64 i93))] [(1, ⟨[.int .i64 x0.At, strV x0.Text, .slice A1 (List.length x0.Posts) c2], 24⟩), (4, ⟨[strV x115.Account, .int .i64 x115.Amount], 38⟩)] (by kernel_rfl) fun β307 a308 w309 h310 => ?_
                            exact wpl_end (hk304 _ _ _ _ (h310.sel [1, 3, 4, 37, 38, 39] [0, 1] [1, 4]) (h310.getD rfl) rfl)
                          · skip
                            intro β311 a312 w313 dX314 Ox315 Q316 h317 hq318 hp319 hk320
                            have h321 := h317.learnE (d := 63) rfl (hp319 2 63 _ rfl rfl rfl)
                            clear h317
                            have h322 := h321.reb (t := 63) rfl hb212
                            clear h321
                            have h323 := h322.learnE (d := 66) rfl (hp319 5 66 _ rfl rfl rfl)
                            clear h322
                            refine evalS_ok tabOk h323 1 [1, 3, 4, 37, 38, 39, 67] [1, 4] [(1, .o 1 0), (3, .v (.int .i64 i93)), (4, .o 4 0), (37, .v (.slice A1 (List.length x0.Posts) c2)), (38, .v (.int .i64 (List.length x0.Posts : Int))), (39, .v (.int .i64 i93)), (67, .v (.int .i64 (IntKind.wrap .i64 (i93 - 1))))] [(1, ⟨[.int .i64 x0.At, strV x0.Text, .slice A1 (List.length x0.Posts) c2], 24⟩), (4, ⟨[strV x115.Account, .int .i64 x115.Amount], 38⟩)] (by kernel_rfl) fun β324 a325 w326 h327 => ?_
                            exact wpl_end (hk320 _ _ _ _ (h327.sel [1, 3, 4, 37, 38, 39] [0, 1] [1, 4]) (h327.getD rfl) rfl)
                          · skip
                            intro β328 a329 w330 dX331 Ox332 Q333 h334 hq335 hp336 hk337
                            have h338 := h334.learnE (d := 63) rfl (hp336 2 63 _ rfl rfl rfl)
                            clear h334
                            have h339 := h338.reb (t := 63) rfl hb212
                            clear h338
                            have h340 := h339.learnE (d := 65) rfl (hp336 4 65 _ rfl rfl rfl)
                            clear h339
                            have h341 := h340.learnE (d := 67) rfl (hp336 6 67 _ rfl rfl rfl)
                            clear h340
                            refine step_idx tabOk h341 1 rfl rfl rfl rfl rfl hx214 tb22 rfl tb38 rfl fun p342 a343 h344 => ?_
                            clear h341
                            exact wpl_end (hk337 _ _ _ _ (h344.sel [1, 3, 4, 37, 38, 39] [1, 2] [1, 4]) (h344.getA rfl (h344.d 0 rfl)) rfl)
                          · skip
                            intro β345 a346 w347 dX348 Ox349 Q350 h351 hq352 hp353 hk354
                            have h355 := h351.learnE (d := 63) rfl (hp353 2 63 _ rfl rfl rfl)
                            clear h351
                            have h356 := h355.reb (t := 63) rfl hb212
                            clear h355
                            have h357 := h356.learn (d := 68) rfl
                            clear h356
                            have f358 := hp353 7 68 _ rfl rfl rfl
                            generalize a346.tmps.getD 68 undef = v359 at h357 f358
                            have h360 := h357.addD (d := DF.at rApiPost x214 (v359)) f358
                            clear h357
                            refine step_field tabOk h360 0 rfl rfl rfl rfl tb38 rfl rfl rfl fun p361 a362 (h363 : Sb β345 _ _ (DF.at rStr x214.Account (p361) :: _) _ _ a362 w347) => ?_
                            clear h360
                            exact wpl_end (hk354 _ _ _ _ (h363.sel [1, 3, 4, 37, 38, 39] [2, 3] [1, 4]) (h363.getA rfl (h363.d 0 rfl)) rfl)
                          · skip
                            intro β364 a365 w366 dX367 Ox368 Q369 h370 hq371 hp372 hk373
                            have h374 := h370.learnE (d := 63) rfl (hp372 2 63 _ rfl rfl rfl)
                            clear h370
                            have h375 := h374.reb (t := 63) rfl hb212
                            clear h374
                            have h376 := h375.learn (d := 69) rfl
                            clear h375
                            have f377 := hp372 8 69 _ rfl rfl rfl
                            generalize a365.tmps.getD 69 undef = v378 at h376 f377
                            have h379 := h376.addD (d := DF.at rStr x214.Account (v378)) f377
                            clear h376
                            refine step_load tabOk h379 0 rfl rfl rfl rfl tb9 rfl rfl fun v380 a382 hv381 h383 => ?_
                            clear h379
                            obtain rfl := isV_str.1 hv381
                            exact wpl_end (hk373 _ _ _ _ (h383.sel [1, 3, 4, 37, 38, 39] [2, 3] [1, 4]) (h383.getD rfl) rfl)
                          · skip
                            intro β384 a385 w386 dX387 Ox388 Q389 h390 hq391 hp392 hk393
                            have h394 := h390.learnE (d := 63) rfl (hp392 2 63 _ rfl rfl rfl)
                            clear h390
                            have h395 := h394.reb (t := 63) rfl hb212
                            clear h394
                            refine evalS_ok tabOk h395 1 [1, 3, 4, 37, 38, 39, 71] [1, 4] [(1, .o 1 0), (3, .v (.int .i64 i93)), (4, .o 4 0), (37, .v (.slice A1 (List.length x0.Posts) c2)), (38, .v (.int .i64 (List.length x0.Posts : Int))), (39, .v (.int .i64 i93)), (71, .o 4 0)] [(1, ⟨[.int .i64 x0.At, strV x0.Text, .slice A1 (List.length x0.Posts) c2], 24⟩), (4, ⟨[strV x115.Account, .int .i64 x115.Amount], 38⟩)] (by kernel_rfl) fun β396 a397 w398 h399 => ?_
                            exact wpl_end (hk393 _ _ _ _ (h399.sel [1, 3, 4, 37, 38, 39] [0, 1] [1, 4]) (h399.getO rfl rfl rfl) rfl)
                          · skip
                            intro β400 a401 w402 dX403 Ox404 Q405 h406 hq407 hp408 hk409
                            have h410 := h406.learnE (d := 63) rfl (hp408 2 63 _ rfl rfl rfl)
                            clear h406
                            have h411 := h410.reb (t := 63) rfl hb212
                            clear h410
                            have h412 := h411.learnO (d := 71) (id := 4) (off := 0) rfl rfl rfl (hp408 10 71 _ rfl rfl rfl)
                            clear h411
                            refine evalS_ok tabOk h412 1 [1, 3, 4, 37, 38, 39, 72] [1, 4] [(1, .o 1 0), (3, .v (.int .i64 i93)), (4, .o 4 0), (37, .v (.slice A1 (List.length x0.Posts) c2)), (38, .v (.int .i64 (List.length x0.Posts : Int))), (39, .v (.int .i64 i93)), (72, .v (strV x115.Account))] [(1, ⟨[.int .i64 x0.At, strV x0.Text, .slice A1 (List.length x0.Posts) c2], 24⟩), (4, ⟨[strV x115.Account, .int .i64 x115.Amount], 38⟩)] (by kernel_rfl) fun β413 a414 w415 h416 => ?_
                            exact wpl_end (hk409 _ _ _ _ (h416.sel [1, 3, 4, 37, 38, 39] [0, 1] [1, 4]) (h416.getD rfl) rfl)
                          · skip
                            intro β417 a418 w419 dX420 Ox421 Q422 h423 hq424 hp425 hk426
                            have h427 := h423.learnE (d := 63) rfl (hp425 2 63 _ rfl rfl rfl)
                            clear h423
                            have h428 := h427.reb (t := 63) rfl hb212
                            clear h427
                            have h429 := h428.learnE (d := 70) rfl (hp425 9 70 _ rfl rfl rfl)
                            clear h428
                            have h430 := h429.learnE (d := 72) rfl (hp425 11 72 _ rfl rfl rfl)
                            clear h429
                            refine evalS_ok tabOk h430 1 [1, 3, 4, 37, 38, 39, 73] [1, 4] [(1, .o 1 0), (3, .v (.int .i64 i93)), (4, .o 4 0), (37, .v (.slice A1 (List.length x0.Posts) c2)), (38, .v (.int .i64 (List.length x0.Posts : Int))), (39, .v (.int .i64 i93)), (73, .v (.bool (!(Op.bytesLess x214.Account x115.Account))))] [(1, ⟨[.int .i64 x0.At, strV x0.Text, .slice A1 (List.length x0.Posts) c2], 24⟩), (4, ⟨[strV x115.Account, .int .i64 x115.Amount], 38⟩)] (by kernel_rfl) fun β431 a432 w433 h434 => ?_
                            exact wpl_end (hk426 _ _ _ _ (h434.sel [1, 3, 4, 37, 38, 39] [0, 1] [1, 4]) (h434.getD rfl) rfl)
                          · skip
                            intro β435 a436 w437 dX438 Ox439 Q440 h441 hq442 hp443 hk444
                            have h445 := h441.learnE (d := 63) rfl (hp443 2 63 _ rfl rfl rfl)
                            clear h441
                            have h446 := h445.reb (t := 63) rfl hb212
                            clear h445
                            have h447 := h446.learnE (d := 73) rfl (hp443 12 73 _ rfl rfl rfl)
                            clear h446
                            refine evalS_ok tabOk h447 1 [1, 3, 4, 37, 38, 39, 74] [1, 4] [(1, .o 1 0), (3, .v (.int .i64 i93)), (4, .o 4 0), (37, .v (.slice A1 (List.length x0.Posts) c2)), (38, .v (.int .i64 (List.length x0.Posts : Int))), (39, .v (.int .i64 i93)), (74, .v (.bool (!(Op.bytesLess x214.Account x115.Account))))] [(1, ⟨[.int .i64 x0.At, strV x0.Text, .slice A1 (List.length x0.Posts) c2], 24⟩), (4, ⟨[strV x115.Account, .int .i64 x115.Amount], 38⟩)] (by kernel_rfl) fun β448 a449 w450 h451 => ?_
                            exact wpl_end (hk444 _ _ _ _ (h451.sel [1, 3, 4, 37, 38, 39] [0, 1] [1, 4]) (h451.getD rfl) rfl)
                        · skip
                          intro β452 a453 w454 h455 ha456
                          have h457 := h455.learnE (d := 74) rfl (ha456 13 74 _ rfl rfl)
                          clear h455
                          have h458 := h457.unpin rfl
                          clear h457
                          refine evalS_ok tabOk h458 1 [1, 4, 37, 38, 39, 60] [1, 4] [(1, .o 1 0), (4, .o 4 0), (37, .v (.slice A1 (List.length x0.Posts) c2)), (38, .v (.int .i64 (List.length x0.Posts : Int))), (39, .v (.int .i64 i93)), (60, .v (.bool (!(Op.bytesLess x214.Account x115.Account))))] [(1, ⟨[.int .i64 x0.At, strV x0.Text, .slice A1 (List.length x0.Posts) c2], 24⟩), (4, ⟨[strV x115.Account, .int .i64 x115.Amount], 38⟩)] (by kernel_rfl) fun β459 a460 w461 h462 => ?_
                          clear h458
                          obtain rfl := Option.some.inj hv215
                          have h463 : Sb β459 (cx 90 ok w) [(1, .o 1 0), (4, .o 4 0), (37, .v (.slice A1 (List.length x0.Posts) c2)), (38, .v (.int .i64 (List.length x0.Posts : Int))), (39, .v (.int .i64 i93)), (60, .v (.bool (!(Op.bytesLess x214.Account x115.Account))))] [DF.v (rSl rApiPost) x0.Posts (.slice A1 (List.length x0.Posts) c2)] [(1, ⟨[.int .i64 x0.At, strV x0.Text, .slice A1 (List.length x0.Posts) c2], 24⟩), (4, ⟨[strV x115.Account, .int .i64 x115.Amount], 38⟩)] [] a460 w461 := h462.sel [1, 4, 37, 38, 39, 60] [0] [1, 4]
                          clear h462
                          exact wpl_end (then_n ⟨_, h463⟩)
                      · skip
                        have hv464 := ifF hb212 hv147
                        clear hv147
                        have h466 : Sb β136 (cx 90 ok w) [(1, .o 1 0), (3, .v (.int .i64 i93)), (4, .o 4 0), (37, .v (.slice A1 (List.length x0.Posts) c2)), (38, .v (.int .i64 (List.length x0.Posts : Int))), (39, .v (.int .i64 i93))] [DF.v (rSl rApiPost) x0.Posts (.slice A1 (List.length x0.Posts) c2)] [(1, ⟨[.int .i64 x0.At, strV x0.Text, .slice A1 (List.length x0.Posts) c2], 24⟩), (4, ⟨[strV x115.Account, .int .i64 x115.Amount], 38⟩)] [] a134 w135 := h137.sel [1, 3, 4, 37, 38, 39] [0] [1, 4]
                        refine draw_rule h466 rfl (by kernel_rfl) 14 [61, 62, 63, 64, 65, 66, 67, 68, 69, 70, 71, 72, 73, 74] [FV.eq (.int .i64 i93), FV.eq (.bool (decide (i93 > 0))), FV.eq (.bool (decide (i93 > 0))), FV.any, FV.any, FV.any, FV.any, FV.any, FV.any, FV.any, FV.any, FV.any, FV.any, FV.eq (.bool false)] rfl rfl rfl (by kernel_rfl) (by kernel_rfl) (by kernel_rfl) (by kernel_rfl) (by kernel_rfl) ?_ ?_
                        · skip
                          refine ⟨⟨⟨⟨⟨⟨⟨⟨⟨⟨⟨⟨⟨⟨trivial, ?_⟩, ?_⟩, ?_⟩, ?_⟩, ?_⟩, ?_⟩, ?_⟩, ?_⟩, ?_⟩, ?_⟩, ?_⟩, ?_⟩, ?_⟩, ?_⟩
                          · skip
                            intro β467 a468 w469 dX470 Ox471 Q472 h473 hq474 hp475 hk476
                            refine evalS_ok tabOk h473 1 [1, 3, 4, 37, 38, 39, 61] [1, 4] [(1, .o 1 0), (3, .v (.int .i64 i93)), (4, .o 4 0), (37, .v (.slice A1 (List.length x0.Posts) c2)), (38, .v (.int .i64 (List.length x0.Posts : Int))), (39, .v (.int .i64 i93)), (61, .v (.int .i64 i93))] [(1, ⟨[.int .i64 x0.At, strV x0.Text, .slice A1 (List.length x0.Posts) c2], 24⟩), (4, ⟨[strV x115.Account, .int .i64 x115.Amount], 38⟩)] (by kernel_rfl) fun β477 a478 w479 h480 => ?_
                            exact wpl_end (hk476 _ _ _ _ (h480.sel [1, 3, 4, 37, 38, 39] [0, 1] [1, 4]) (h480.getD rfl) rfl)
                          · skip
                            intro β481 a482 w483 dX484 Ox485 Q486 h487 hq488 hp489 hk490
                            have h491 := h487.learnE (d := 61) rfl (hp489 0 61 _ rfl rfl rfl)
                            clear h487
                            refine evalS_ok tabOk h491 1 [1, 3, 4, 37, 38, 39, 62] [1, 4] [(1, .o 1 0), (3, .v (.int .i64 i93)), (4, .o 4 0), (37, .v (.slice A1 (List.length x0.Posts) c2)), (38, .v (.int .i64 (List.length x0.Posts : Int))), (39, .v (.int .i64 i93)), (62, .v (.bool (decide (i93 > 0))))] [(1, ⟨[.int .i64 x0.At, strV x0.Text, .slice A1 (List.length x0.Posts) c2], 24⟩), (4, ⟨[strV x115.Account, .int .i64 x115.Amount], 38⟩)] (by kernel_rfl) fun β492 a493 w494 h495 => ?_
                            exact wpl_end (hk490 _ _ _ _ (h495.sel [1, 3, 4, 37, 38, 39] [0, 1] [1, 4]) (h495.getD rfl) rfl)
                          · skip
                            intro β496 a497 w498 dX499 Ox500 Q501 h502 hq503 hp504 hk505
                            have h506 := h502.learnE (d := 62) rfl (hp504 1 62 _ rfl rfl rfl)
                            clear h502
                            refine evalS_ok tabOk h506 1 [1, 3, 4, 37, 38, 39, 63] [1, 4] [(1, .o 1 0), (3, .v (.int .i64 i93)), (4, .o 4 0), (37, .v (.slice A1 (List.length x0.Posts) c2)), (38, .v (.int .i64 (List.length x0.Posts : Int))), (39, .v (.int .i64 i93)), (63, .v (.bool (decide (i93 > 0))))] [(1, ⟨[.int .i64 x0.At, strV x0.Text, .slice A1 (List.length x0.Posts) c2], 24⟩), (4, ⟨[strV x115.Account, .int .i64 x115.Amount], 38⟩)] (by kernel_rfl) fun β507 a508 w509 h510 => ?_
                            exact wpl_end (hk505 _ _ _ _ (h510.sel [1, 3, 4, 37, 38, 39] [0, 1] [1, 4]) (h510.getD rfl) rfl)
                          · skip
                            intro β511 a512 w513 dX514 Ox515 Q516 h517 hq518 hp519 hk520
                            have h521 := h517.learnE (d := 63) rfl (hp519 2 63 _ rfl rfl rfl)
                            clear h517
                            have h522 := h521.reb (t := 63) rfl hb212
                            clear h521
                            refine evalS_ok tabOk h522 1 [1, 3, 4, 37, 38, 39] [1, 4] [(1, .o 1 0), (3, .v (.int .i64 i93)), (4, .o 4 0), (37, .v (.slice A1 (List.length x0.Posts) c2)), (38, .v (.int .i64 (List.length x0.Posts : Int))), (39, .v (.int .i64 i93))] [(1, ⟨[.int .i64 x0.At, strV x0.Text, .slice A1 (List.length x0.Posts) c2], 24⟩), (4, ⟨[strV x115.Account, .int .i64 x115.Amount], 38⟩)] (by kernel_rfl) fun β523 a524 w525 h526 => ?_
                            exact wpl_end (hk520 _ _ _ _ (h526.sel [1, 3, 4, 37, 38, 39] [0, 1] [1, 4]) trivial rfl)
                          · skip
                            intro β527 a528 w529 dX530 Ox531 Q532 h533 hq534 hp535 hk536
                            have h537 := h533.learnE (d := 63) rfl (hp535 2 63 _ rfl rfl rfl)
                            clear h533
                            have h538 := h537.reb (t := 63) rfl hb212
                            clear h537
                            refine evalS_ok tabOk h538 1 [1, 3, 4, 37, 38, 39] [1, 4] [(1, .o 1 0), (3, .v (.int .i64 i93)), (4, .o 4 0), (37, .v (.slice A1 (List.length x0.Posts) c2)), (38, .v (.int .i64 (List.length x0.Posts : Int))), (39, .v (.int .i64 i93))] [(1, ⟨[.int .i64 x0.At, strV x0.Text, .slice A1 (List.length x0.Posts) c2], 24⟩), (4, ⟨[strV x115.Account, .int .i64 x115.Amount], 38⟩)] (by kernel_rfl) fun β539 a540 w541 h542 => ?_
                            exact wpl_end (hk536 _ _ _ _ (h542.sel [1, 3, 4, 37, 38, 39] [0, 1] [1, 4]) trivial rfl)
                          · skip
                            intro β543 a544 w545 dX546 Ox547 Q548 h549 hq550 hp551 hk552
                            have h553 := h549.learnE (d := 63) rfl (hp551 2 63 _ rfl rfl rfl)
                            clear h549
                            have h554 := h553.reb (t := 63) rfl hb212
                            clear h553
                            refine evalS_ok tabOk h554 1 [1, 3, 4, 37, 38, 39] [1, 4] [(1, .o 1 0), (3, .v (.int .i64 i93)), (4, .o 4 0), (37, .v (.slice A1 (List.length x0.Posts) c2)), (38, .v (.int .i64 (List.length x0.Posts : Int))), (39, .v (.int .i64 i93))] [(1, ⟨[.int .i64 x0.At, strV x0.Text, .slice A1 (List.length x0.Posts) c2], 24⟩), (4, ⟨[strV x115.Account, .int .i64 x115.Amount], 38⟩)] (by kernel_rfl) fun β555 a556 w557 h558 => ?_
                            exact wpl_end (hk552 _ _ _ _ (h558.sel [1, 3, 4, 37, 38, 39] [0, 1] [1, 4]) trivial rfl)
                          · skip
                            intro β559 a560 w561 dX562 Ox563 Q564 h565 hq566 hp567 hk568
                            have h569 := h565.learnE (d := 63) rfl (hp567 2 63 _ rfl rfl rfl)
                            clear h565
                            have h570 := h569.reb (t := 63) rfl hb212
                            clear h569
                            refine evalS_ok tabOk h570 1 [1, 3, 4, 37, 38, 39] [1, 4] [(1, .o 1 0), (3, .v (.int .i64 i93)), (4, .o 4 0), (37, .v (.slice A1 (List.length x0.Posts) c2)), (38, .v (.int .i64 (List.length x0.Posts : Int))), (39, .v (.int .i64 i93))] [(1, ⟨[.int .i64 x0.At, strV x0.Text, .slice A1 (List.length x0.Posts) c2], 24⟩), (4, ⟨[strV x115.Account, .int .i64 x115.Amount], 38⟩)] (by kernel_rfl) fun β571 a572 w573 h574 => ?_
                            exact wpl_end (hk568 _ _ _ _ (h574.sel [1, 3, 4, 37, 38, 39] [0, 1] [1, 4]) trivial rfl)
                          · skip
                            intro β575 a576 w577 dX578 Ox579 Q580 h581 hq582 hp583 hk584
                            have h585 := h581.learnE (d := 63) rfl (hp583 2 63 _ rfl rfl rfl)
                            clear h581
                            have h586 := h585.reb (t := 63) rfl hb212
                            clear h585
                            refine evalS_ok tabOk h586 1 [1, 3, 4, 37, 38, 39] [1, 4] [(1, .o 1 0), (3, .v (.int .i64 i93)), (4, .o 4 0), (37, .v (.slice A1 (List.length x0.Posts) c2)), (38, .v (.int .i64 (List.length x0.Posts : Int))), (39, .v (.int .i64 i93))] [(1, ⟨[.int .i64 x0.At, strV x0.Text, .slice A1 (List.length x0.Posts) c2], 24⟩), (4, ⟨[strV x115.Account, .int .i64 x115.Amount], 38⟩)] (by kernel_rfl) fun β587 a588 w589 h590 => ?_
                            exact wpl_end (hk584 _ _ _ _ (h590.sel [1, 3, 4, 37, 38, 39] [0, 1] [1, 4]) trivial rfl)
                          · skip
                            intro β591 a592 w593 dX594 Ox595 Q596 h597 hq598 hp599 hk600
                            have h601 := h597.learnE (d := 63) rfl (hp599 2 63 _ rfl rfl rfl)
                            clear h597
                            have h602 := h601.reb (t := 63) rfl hb212
                            clear h601
                            refine evalS_ok tabOk h602 1 [1, 3, 4, 37, 38, 39] [1, 4] [(1, .o 1 0), (3, .v (.int .i64 i93)), (4, .o 4 0), (37, .v (.slice A1 (List.length x0.Posts) c2)), (38, .v (.int .i64 (List.length x0.Posts : Int))), (39, .v (.int .i64 i93))] [(1, ⟨[.int .i64 x0.At, strV x0.Text, .slice A1 (List.length x0.Posts) c2], 24⟩), (4, ⟨[strV x115.Account, .int .i64 x115.Amount], 38⟩)] (by kernel_rfl) fun β603 a604 w605 h606 => ?_
                            exact wpl_end (hk600 _ _ _ _ (h606.sel [1, 3, 4, 37, 38, 39] [0, 1] [1, 4]) trivial rfl)
                          · skip
                            intro β607 a608 w609 dX610 Ox611 Q612 h613 hq614 hp615 hk616
                            have h617 := h613.learnE (d := 63) rfl (hp615 2 63 _ rfl rfl rfl)
                            clear h613
                            have h618 := h617.reb (t := 63) rfl hb212
                            clear h617
                            refine evalS_ok tabOk h618 1 [1, 3, 4, 37, 38, 39] [1, 4] [(1, .o 1 0), (3, .v (.int .i64 i93)), (4, .o 4 0), (37, .v (.slice A1 (List.length x0.Posts) c2)), (38, .v (.int .i64 (List.length x0.Posts : Int))), (39, .v (.int .i64 i93))] [(1, ⟨[.int .i64 x0.At, strV x0.Text, .slice A1 (List.length x0.Posts) c2], 24⟩), (4, ⟨[strV x115.Account, .int .i64 x115.Amount], 38⟩)] (by kernel_rfl) fun β619 a620 w621 h622 => ?_
                            exact wpl_end (hk616 _ _ _ _ (h622.sel [1, 3, 4, 37, 38, 39] [0, 1] [1, 4]) trivial rfl)
                          · skip
                            intro β623 a624 w625 dX626 Ox627 Q628 h629 hq630 hp631 hk632
                            have h633 := h629.learnE (d := 63) rfl (hp631 2 63 _ rfl rfl rfl)
                            clear h629
                            have h634 := h633.reb (t := 63) rfl hb212
                            clear h633
                            refine evalS_ok tabOk h634 1 [1, 3, 4, 37, 38, 39] [1, 4] [(1, .o 1 0), (3, .v (.int .i64 i93)), (4, .o 4 0), (37, .v (.slice A1 (List.length x0.Posts) c2)), (38, .v (.int .i64 (List.length x0.Posts : Int))), (39, .v (.int .i64 i93))] [(1, ⟨[.int .i64 x0.At, strV x0.Text, .slice A1 (List.length x0.Posts) c2], 24⟩), (4, ⟨[strV x115.Account, .int .i64 x115.Amount], 38⟩)] (by kernel_rfl) fun β635 a636 w637 h638 => ?_
                            exact wpl_end (hk632 _ _ _ _ (h638.sel [1, 3, 4, 37, 38, 39] [0, 1] [1, 4]) trivial rfl)
                          · skip
                            intro β639 a640 w641 dX642 Ox643 Q644 h645 hq646 hp647 hk648
                            have h649 := h645.learnE (d := 63) rfl (hp647 2 63 _ rfl rfl rfl)
                            clear h645
                            have h650 := h649.reb (t := 63) rfl hb212
                            clear h649
                            refine evalS_ok tabOk h650 1 [1, 3, 4, 37, 38, 39] [1, 4] [(1, .o 1 0), (3, .v (.int .i64 i93)), (4, .o 4 0), (37, .v (.slice A1 (List.length x0.Posts) c2)), (38, .v (.int .i64 (List.length x0.Posts : Int))), (39, .v (.int .i64 i93))] [(1, ⟨[.int .i64 x0.At, strV x0.Text, .slice A1 (List.length x0.Posts) c2], 24⟩), (4, ⟨[strV x115.Account, .int .i64 x115.Amount], 38⟩)] (by kernel_rfl) fun β651 a652 w653 h654 => ?_
                            exact wpl_end (hk648 _ _ _ _ (h654.sel [1, 3, 4, 37, 38, 39] [0, 1] [1, 4]) trivial rfl)
                          · skip
                            intro β655 a656 w657 dX658 Ox659 Q660 h661 hq662 hp663 hk664
                            have h665 := h661.learnE (d := 63) rfl (hp663 2 63 _ rfl rfl rfl)
                            clear h661
                            have h666 := h665.reb (t := 63) rfl hb212
                            clear h665
                            refine evalS_ok tabOk h666 1 [1, 3, 4, 37, 38, 39] [1, 4] [(1, .o 1 0), (3, .v (.int .i64 i93)), (4, .o 4 0), (37, .v (.slice A1 (List.length x0.Posts) c2)), (38, .v (.int .i64 (List.length x0.Posts : Int))), (39, .v (.int .i64 i93))] [(1, ⟨[.int .i64 x0.At, strV x0.Text, .slice A1 (List.length x0.Posts) c2], 24⟩), (4, ⟨[strV x115.Account, .int .i64 x115.Amount], 38⟩)] (by kernel_rfl) fun β667 a668 w669 h670 => ?_
                            exact wpl_end (hk664 _ _ _ _ (h670.sel [1, 3, 4, 37, 38, 39] [0, 1] [1, 4]) trivial rfl)
                          · skip
                            intro β671 a672 w673 dX674 Ox675 Q676 h677 hq678 hp679 hk680
                            have h681 := h677.learnE (d := 63) rfl (hp679 2 63 _ rfl rfl rfl)
                            clear h677
                            have h682 := h681.reb (t := 63) rfl hb212
                            clear h681
                            refine evalS_ok tabOk h682 1 [1, 3, 4, 37, 38, 39, 74] [1, 4] [(1, .o 1 0), (3, .v (.int .i64 i93)), (4, .o 4 0), (37, .v (.slice A1 (List.length x0.Posts) c2)), (38, .v (.int .i64 (List.length x0.Posts : Int))), (39, .v (.int .i64 i93)), (74, .v (.bool false))] [(1, ⟨[.int .i64 x0.At, strV x0.Text, .slice A1 (List.length x0.Posts) c2], 24⟩), (4, ⟨[strV x115.Account, .int .i64 x115.Amount], 38⟩)] (by kernel_rfl) fun β683 a684 w685 h686 => ?_
                            exact wpl_end (hk680 _ _ _ _ (h686.sel [1, 3, 4, 37, 38, 39] [0, 1] [1, 4]) (h686.getD rfl) rfl)
                        · skip
                          intro β687 a688 w689 h690 ha691
                          have h692 := h690.learnE (d := 74) rfl (ha691 13 74 _ rfl rfl)
                          clear h690
                          have h693 := h692.unpin rfl
                          clear h692
                          refine evalS_ok tabOk h693 1 [1, 4, 37, 38, 39, 60] [1, 4] [(1, .o 1 0), (4, .o 4 0), (37, .v (.slice A1 (List.length x0.Posts) c2)), (38, .v (.int .i64 (List.length x0.Posts : Int))), (39, .v (.int .i64 i93)), (60, .v (.bool false))] [(1, ⟨[.int .i64 x0.At, strV x0.Text, .slice A1 (List.length x0.Posts) c2], 24⟩), (4, ⟨[strV x115.Account, .int .i64 x115.Amount], 38⟩)] (by kernel_rfl) fun β694 a695 w696 h697 => ?_
                          clear h693
                          obtain rfl := Option.some.inj hv464
                          have h698 : Sb β694 (cx 90 ok w) [(1, .o 1 0), (4, .o 4 0), (37, .v (.slice A1 (List.length x0.Posts) c2)), (38, .v (.int .i64 (List.length x0.Posts : Int))), (39, .v (.int .i64 i93)), (60, .v (.bool false))] [DF.v (rSl rApiPost) x0.Posts (.slice A1 (List.length x0.Posts) c2)] [(1, ⟨[.int .i64 x0.At, strV x0.Text, .slice A1 (List.length x0.Posts) c2], 24⟩), (4, ⟨[strV x115.Account, .int .i64 x115.Amount], 38⟩)] [] a695 w696 := h697.sel [1, 4, 37, 38, 39, 60] [0] [1, 4]
                          clear h697
                          exact wpl_end (then_n ⟨_, h698⟩)
                · skip
                  refine region_ok ?_
                  refine evalS_ok tabOk h128 4 [1, 3, 4, 37, 38, 39, 48] [1, 4] [(1, .o 1 0), (3, .v (.int .i64 i93)), (4, .o 4 0), (37, .v (.slice A1 (List.length x0.Posts) c2)), (38, .v (.int .i64 (List.length x0.Posts : Int))), (39, .v (.int .i64 i93)), (48, .v (.bool (x115.Account == ([] : Str))))] [(1, ⟨[.int .i64 x0.At, strV x0.Text, .slice A1 (List.length x0.Posts) c2], 24⟩), (4, ⟨[strV x115.Account, .int .i64 x115.Amount], 38⟩)] (by kernel_rfl) fun β699 a700 w701 h702 => ?_
                  clear h128
                  refine bcases (b := (x115.Account == ([] : Str))) (fun hb703 => ?_) (fun hb703 => ?_)
                  · skip
                    have hv704 := ifT hb703 hv132
                    clear hv132
                    have h705 := h702.reb (t := 48) rfl hb703
                    clear h702
                    refine evalS_ok tabOk h705 12 [1, 3, 4, 37, 38, 39, 44] [1, 4] [(1, .o 1 0), (3, .v (.int .i64 i93)), (4, .o 4 0), (37, .v (.slice A1 (List.length x0.Posts) c2)), (38, .v (.int .i64 (List.length x0.Posts : Int))), (39, .v (.int .i64 i93)), (44, .v (.bool true))] [(1, ⟨[.int .i64 x0.At, strV x0.Text, .slice A1 (List.length x0.Posts) c2], 24⟩), (4, ⟨[strV x115.Account, .int .i64 x115.Amount], 38⟩)] (by kernel_rfl) fun β706 a707 w708 h709 => ?_
                    clear h705
                    obtain rfl := Option.some.inj hv704
                    have h710 : Sb β706 (cx 90 ok w) [(1, .o 1 0), (3, .v (.int .i64 i93)), (4, .o 4 0), (37, .v (.slice A1 (List.length x0.Posts) c2)), (38, .v (.int .i64 (List.length x0.Posts : Int))), (39, .v (.int .i64 i93)), (44, .v (.bool true))] [DF.v (rSl rApiPost) x0.Posts (.slice A1 (List.length x0.Posts) c2)] [(1, ⟨[.int .i64 x0.At, strV x0.Text, .slice A1 (List.length x0.Posts) c2], 24⟩), (4, ⟨[strV x115.Account, .int .i64 x115.Amount], 38⟩)] [] a707 w708 := h709.sel [1, 3, 4, 37, 38, 39, 44] [0] [1, 4]
                    clear h709
                    exact wpl_end (then_n ⟨_, h710⟩)
                  · skip
                    have hv711 := ifF hb703 hv132
                    clear hv132
                    have h712 := h702.reb (t := 48) rfl hb703
                    clear h702
                    refine evalS_ok tabOk h712 6 [1, 3, 4, 37, 38, 39, 54] [1, 4] [(1, .o 1 0), (3, .v (.int .i64 i93)), (4, .o 4 0), (37, .v (.slice A1 (List.length x0.Posts) c2)), (38, .v (.int .i64 (List.length x0.Posts : Int))), (39, .v (.int .i64 i93)), (54, .v (.bool (decide ((List.length x115.Account : Int) > 200))))] [(1, ⟨[.int .i64 x0.At, strV x0.Text, .slice A1 (List.length x0.Posts) c2], 24⟩), (4, ⟨[strV x115.Account, .int .i64 x115.Amount], 38⟩)] (by kernel_rfl) fun β713 a714 w715 h716 => ?_
                    clear h712
                    refine bcases (b := (decide ((List.length x115.Account : Int) > 200))) (fun hb717 => ?_) (fun hb717 => ?_)
                    · skip
                      have hv718 := ifT hb717 hv711
                      clear hv711
                      have h719 := h716.reb (t := 54) rfl hb717
                      clear h716
                      refine evalS_ok tabOk h719 6 [1, 3, 4, 37, 38, 39, 44] [1, 4] [(1, .o 1 0), (3, .v (.int .i64 i93)), (4, .o 4 0), (37, .v (.slice A1 (List.length x0.Posts) c2)), (38, .v (.int .i64 (List.length x0.Posts : Int))), (39, .v (.int .i64 i93)), (44, .v (.bool true))] [(1, ⟨[.int .i64 x0.At, strV x0.Text, .slice A1 (List.length x0.Posts) c2], 24⟩), (4, ⟨[strV x115.Account, .int .i64 x115.Amount], 38⟩)] (by kernel_rfl) fun β720 a721 w722 h723 => ?_
                      clear h719
                      obtain rfl := Option.some.inj hv718
                      have h724 : Sb β720 (cx 90 ok w) [(1, .o 1 0), (3, .v (.int .i64 i93)), (4, .o 4 0), (37, .v (.slice A1 (List.length x0.Posts) c2)), (38, .v (.int .i64 (List.length x0.Posts : Int))), (39, .v (.int .i64 i93)), (44, .v (.bool true))] [DF.v (rSl rApiPost) x0.Posts (.slice A1 (List.length x0.Posts) c2)] [(1, ⟨[.int .i64 x0.At, strV x0.Text, .slice A1 (List.length x0.Posts) c2], 24⟩), (4, ⟨[strV x115.Account, .int .i64 x115.Amount], 38⟩)] [] a721 w722 := h723.sel [1, 3, 4, 37, 38, 39, 44] [0] [1, 4]
                      clear h723
                      exact wpl_end (then_n ⟨_, h724⟩)
                    · skip
                      have hv725 := ifF hb717 hv711
                      clear hv711
                      have h726 := h716.reb (t := 54) rfl hb717
                      clear h716
                      refine evalS_ok tabOk h726 2 [1, 3, 4, 37, 38, 39, 54, 56] [1, 4] [(1, .o 1 0), (3, .v (.int .i64 i93)), (4, .o 4 0), (37, .v (.slice A1 (List.length x0.Posts) c2)), (38, .v (.int .i64 (List.length x0.Posts : Int))), (39, .v (.int .i64 i93)), (54, .v (.bool false)), (56, .v (strV x115.Account))] [(1, ⟨[.int .i64 x0.At, strV x0.Text, .slice A1 (List.length x0.Posts) c2], 24⟩), (4, ⟨[strV x115.Account, .int .i64 x115.Amount], 38⟩)] (by kernel_rfl) fun β727 a728 w729 h730 => ?_
                      clear h726
                      obtain ⟨y731, hy731, hv732⟩ := bindE hv725
                      clear hv725
                      refine step_call h730 rfl rfl runs24 (vs := [(strV x115.Account), (.int .u8 33)]) (by kernel_rfl) (c_ledger_printed (x0 := x115.Account) (x1 := 33) h730.okLt N hy731) fun v733 a736 w737 hR734 hk735 h738 => ?_
                      clear h730
                      have hv739 := isV.weak hR734 hk735
                      obtain rfl := isV_bool.1 hv739
                      refine evalS_ok tabOk h738 3 [1, 3, 4, 37, 38, 39, 44] [1, 4] [(1, .o 1 0), (3, .v (.int .i64 i93)), (4, .o 4 0), (37, .v (.slice A1 (List.length x0.Posts) c2)), (38, .v (.int .i64 (List.length x0.Posts : Int))), (39, .v (.int .i64 i93)), (44, .v (.bool (!y731)))] [(1, ⟨[.int .i64 x0.At, strV x0.Text, .slice A1 (List.length x0.Posts) c2], 24⟩), (4, ⟨[strV x115.Account, .int .i64 x115.Amount], 38⟩)] (by kernel_rfl) fun β740 a741 w742 h743 => ?_
                      clear h738
                      obtain rfl := Option.some.inj hv732
                      have h744 : Sb β740 (cx 90 ok w) [(1, .o 1 0), (3, .v (.int .i64 i93)), (4, .o 4 0), (37, .v (.slice A1 (List.length x0.Posts) c2)), (38, .v (.int .i64 (List.length x0.Posts : Int))), (39, .v (.int .i64 i93)), (44, .v (.bool (!y731)))] [DF.v (rSl rApiPost) x0.Posts (.slice A1 (List.length x0.Posts) c2)] [(1, ⟨[.int .i64 x0.At, strV x0.Text, .slice A1 (List.length x0.Posts) c2], 24⟩), (4, ⟨[strV x115.Account, .int .i64 x115.Amount], 38⟩)] [] a741 w742 := h743.sel [1, 3, 4, 37, 38, 39, 44] [0] [1, 4]
                      clear h743
                      exact wpl_end (then_n ⟨_, h744⟩)
              · skip
                have hF745 := ifF hb106 hF100
                clear hF100
                refine wp_exit ?_
                refine hx105 1 _ _ ?_
                refine hx55 1 _ _ ?_
                refine hbb55 _ _ ?_
                obtain rfl := Option.some.inj hF745
                have h746 : Sb β101 (cx 90 ok w) [(1, .o 1 0)] [DF.v (rSl rApiPost) x0.Posts (.slice A1 (List.length x0.Posts) c2)] [(1, ⟨[.int .i64 x0.At, strV x0.Text, .slice A1 (List.length x0.Posts) c2], 24⟩)] [] a102 w103 := (h104).sel [1] [0] [1]
                exact j56 _ _ ⟨⟨_, h746⟩, hC55⟩
          · skip
            refine region_ok ?_
            refine evalS_ok tabOk h27 2 [1, 27] [1] [(1, .o 1 0), (27, .v (strV x0.Text))] [(1, ⟨[.int .i64 x0.At, strV x0.Text, .slice A1 (List.length x0.Posts) c2], 24⟩)] (by kernel_rfl) fun β748 a749 w750 h751 => ?_
            clear h27
            obtain ⟨y752, hy752, hv753⟩ := bindE hv37
            clear hv37
            refine step_call h751 rfl rfl runs24 (vs := [(strV x0.Text), (.int .u8 32)]) (by kernel_rfl) (c_ledger_printed (x0 := x0.Text) (x1 := 32) h751.okLt N hy752) fun v754 a757 w758 hR755 hk756 h759 => ?_
            clear h751
            have hv760 := isV.weak hR755 hk756
            obtain rfl := isV_bool.1 hv760
            refine evalS_ok tabOk h759 2 [1, 30] [1] [(1, .o 1 0), (30, .v (.bool (!y752)))] [(1, ⟨[.int .i64 x0.At, strV x0.Text, .slice A1 (List.length x0.Posts) c2], 24⟩)] (by kernel_rfl) fun β761 a762 w763 h764 => ?_
            clear h759
            refine bcases (b := (!y752)) (fun hb765 => ?_) (fun hb765 => ?_)
            · skip
              have hv766 := ifT hb765 hv753
              clear hv753
              have h767 := h764.reb (t := 30) rfl hb765
              clear h764
              refine evalS_ok tabOk h767 6 [1, 25] [1] [(1, .o 1 0), (25, .v (.bool true))] [(1, ⟨[.int .i64 x0.At, strV x0.Text, .slice A1 (List.length x0.Posts) c2], 24⟩)] (by kernel_rfl) fun β768 a769 w770 h771 => ?_
              clear h767
              obtain rfl := Option.some.inj hv766
              have h772 : Sb β768 (cx 90 ok w) [(1, .o 1 0), (25, .v (.bool true))] [DF.v (rSl rApiPost) x0.Posts (.slice A1 (List.length x0.Posts) c2)] [(1, ⟨[.int .i64 x0.At, strV x0.Text, .slice A1 (List.length x0.Posts) c2], 24⟩)] [] a769 w770 := h771.sel [1, 25] [0] [1]
              clear h771
              exact wpl_end (then_n ⟨_, h772⟩)
            · skip
              have hv773 := ifF hb765 hv753
              clear hv753
              have h774 := h764.reb (t := 30) rfl hb765
              clear h764
              refine evalS_ok tabOk h774 6 [1, 25] [1] [(1, .o 1 0), (25, .v (.bool (decide ((List.length x0.Posts : Int) < 2))))] [(1, ⟨[.int .i64 x0.At, strV x0.Text, .slice A1 (List.length x0.Posts) c2], 24⟩)] (by kernel_rfl) fun β775 a776 w777 h778 => ?_
              clear h774
              obtain rfl := Option.some.inj hv773
              have h779 : Sb β775 (cx 90 ok w) [(1, .o 1 0), (25, .v (.bool (decide ((List.length x0.Posts : Int) < 2))))] [DF.v (rSl rApiPost) x0.Posts (.slice A1 (List.length x0.Posts) c2)] [(1, ⟨[.int .i64 x0.At, strV x0.Text, .slice A1 (List.length x0.Posts) c2], 24⟩)] [] a776 w777 := h778.sel [1, 25] [0] [1]
              clear h778
              exact wpl_end (then_n ⟨_, h779⟩)
      · skip
        refine region_ok ?_
        refine evalS_ok tabOk h14 5 [1, 19] [1] [(1, .o 1 0), (19, .v (.bool (decide ((List.length x0.Text : Int) > 200))))] [(1, ⟨[.int .i64 x0.At, strV x0.Text, .slice A1 (List.length x0.Posts) c2], 24⟩)] (by kernel_rfl) fun β780 a781 w782 h783 => ?_
        clear h14
        refine bcases (b := (decide ((List.length x0.Text : Int) > 200))) (fun hb784 => ?_) (fun hb784 => ?_)
        · skip
          have h785 := h783.reb (t := 19) rfl hb784
          clear h783
          refine evalS_ok tabOk h785 6 [1, 14] [1] [(1, .o 1 0), (14, .v (.bool true))] [(1, ⟨[.int .i64 x0.At, strV x0.Text, .slice A1 (List.length x0.Posts) c2], 24⟩)] (by kernel_rfl) fun β786 a787 w788 h789 => ?_
          clear h785
          obtain rfl : g23 = true := by rw [hg23]; simp only [*, Bool.and_true, Bool.true_and, Bool.or_true, Bool.true_or, Bool.or_false, Bool.false_or, Bool.and_false, Bool.false_and, cond_true, cond_false]
          have h790 : Sb β786 (cx 90 ok w) [(1, .o 1 0), (14, .v (.bool true))] [DF.v (rSl rApiPost) x0.Posts (.slice A1 (List.length x0.Posts) c2)] [(1, ⟨[.int .i64 x0.At, strV x0.Text, .slice A1 (List.length x0.Posts) c2], 24⟩)] [] a787 w788 := h789.sel [1, 14] [0] [1]
          clear h789
          exact wpl_end (then_n ⟨_, h790⟩)
        · skip
          have h791 := h783.reb (t := 19) rfl hb784
          clear h783
          refine evalS_ok tabOk h791 6 [1, 14] [1] [(1, .o 1 0), (14, .v (.bool (decide ((List.length x0.Posts : Int) > 64))))] [(1, ⟨[.int .i64 x0.At, strV x0.Text, .slice A1 (List.length x0.Posts) c2], 24⟩)] (by kernel_rfl) fun β792 a793 w794 h795 => ?_
          clear h791
          obtain rfl : g23 = (decide ((List.length x0.Posts : Int) > 64)) := by rw [hg23]; simp only [*, Bool.and_true, Bool.true_and, Bool.or_true, Bool.true_or, Bool.or_false, Bool.false_or, Bool.and_false, Bool.false_and, cond_true, cond_false]
          have h796 : Sb β792 (cx 90 ok w) [(1, .o 1 0), (14, .v (.bool (decide ((List.length x0.Posts : Int) > 64))))] [DF.v (rSl rApiPost) x0.Posts (.slice A1 (List.length x0.Posts) c2)] [(1, ⟨[.int .i64 x0.At, strV x0.Text, .slice A1 (List.length x0.Posts) c2], 24⟩)] [] a793 w794 := h795.sel [1, 14] [0] [1]
          clear h795
          exact wpl_end (then_n ⟨_, h796⟩)
  · skip
    refine region_ok ?_
    refine evalS_ok tabOk h6 4 [1, 9] [1] [(1, .o 1 0), (9, .v (.bool (decide (x0.At < 0))))] [(1, ⟨[.int .i64 x0.At, strV x0.Text, .slice A1 (List.length x0.Posts) c2], 24⟩)] (by kernel_rfl) fun β797 a798 w799 h800 => ?_
    clear h6
    refine bcases (b := (decide (x0.At < 0))) (fun hb801 => ?_) (fun hb801 => ?_)
    · skip
      have h802 := h800.reb (t := 9) rfl hb801
      clear h800
      refine evalS_ok tabOk h802 5 [1, 5] [1] [(1, .o 1 0), (5, .v (.bool true))] [(1, ⟨[.int .i64 x0.At, strV x0.Text, .slice A1 (List.length x0.Posts) c2], 24⟩)] (by kernel_rfl) fun β803 a804 w805 h806 => ?_
      clear h802
      obtain rfl : g10 = true := by rw [hg10]; simp only [*, Bool.and_true, Bool.true_and, Bool.or_true, Bool.true_or, Bool.or_false, Bool.false_or, Bool.and_false, Bool.false_and, cond_true, cond_false]
      have h807 : Sb β803 (cx 90 ok w) [(1, .o 1 0), (5, .v (.bool true))] [DF.v (rSl rApiPost) x0.Posts (.slice A1 (List.length x0.Posts) c2)] [(1, ⟨[.int .i64 x0.At, strV x0.Text, .slice A1 (List.length x0.Posts) c2], 24⟩)] [] a804 w805 := h806.sel [1, 5] [0] [1]
      clear h806
      exact wpl_end (then_n ⟨_, h807⟩)
    · skip
      have h808 := h800.reb (t := 9) rfl hb801
      clear h800
      refine evalS_ok tabOk h808 5 [1, 5] [1] [(1, .o 1 0), (5, .v (.bool (decide (x0.At ≥ 12622780800))))] [(1, ⟨[.int .i64 x0.At, strV x0.Text, .slice A1 (List.length x0.Posts) c2], 24⟩)] (by kernel_rfl) fun β809 a810 w811 h812 => ?_
      clear h808
      obtain rfl : g10 = (decide (x0.At ≥ 12622780800)) := by rw [hg10]; simp only [*, Bool.and_true, Bool.true_and, Bool.or_true, Bool.true_or, Bool.or_false, Bool.false_or, Bool.and_false, Bool.false_and, cond_true, cond_false]
      have h813 : Sb β809 (cx 90 ok w) [(1, .o 1 0), (5, .v (.bool (decide (x0.At ≥ 12622780800))))] [DF.v (rSl rApiPost) x0.Posts (.slice A1 (List.length x0.Posts) c2)] [(1, ⟨[.int .i64 x0.At, strV x0.Text, .slice A1 (List.length x0.Posts) c2], 24⟩)] [] a810 w811 := h812.sel [1, 5] [0] [1]
      clear h812
      exact wpl_end (then_n ⟨_, h813⟩)

theorem c_billinglaw47_awake {ok : Ok} {w : World} (hok : ∀ b o, ok b o → b < w.heap.size) (N : Nat) {r : Bool} (hF : billinglaw47_awake N = some r) :
    Calls Try.prog 8 ⟨[]⟩ w (Ret w (R1 rBool ok w r)) := by
  rw [billinglaw47_awake] at hF
  refine enter_ok (n := 54) hok Try.func8 rfl rfl rfl (D := []) trivial (fun a h => ?_)
  simp only [zipG, Nat.zero_add, Nat.reduceAdd] at h
  refine start_ctx fun Q hn hr => ?_
  refine seq_region tabOk h [] [] [] [] (by kernel_rfl) fun β1 a2 w3 h4 => ?_
  clear h
  refine seq_list fun Q5 hq5 => ?_
  obtain ⟨y6, hy6, hF7⟩ := bindE hF
  clear hF
  refine step_call h4 rfl rfl runs22 (vs := [(.int .i64 17), (.int .i64 100), (.int .i64 595)]) (by kernel_rfl) (c_ledger_Payment (x0 := 17) (x1 := 100) (x2 := 595) h4.okLt N hy6) fun v8 a11 w12 hR9 hk10 h13 => ?_
  clear h4
  have hv14 := isV.weak hR9 hk10
  obtain ⟨v17, hs18, rfl⟩ := ex_ApiEntry hv14
  obtain ⟨A15, c16, rfl, hs19⟩ := slForm hs18
  have h20 := h13.addD (d := DF.v (rSl rApiPost) y6.Posts (.slice A15 (List.length y6.Posts) c16)) hs19
  clear h13
  refine evalS_ok tabOk h20 2 [1] [1] [(1, .o 1 0)] [(1, ⟨[.int .i64 y6.At, strV y6.Text, .slice A15 (List.length y6.Posts) c16], 24⟩)] (by kernel_rfl) fun β21 a22 w23 h24 => ?_
  clear h20
  have h25 : Sb β21 (cx 54 ok w) [(1, .o 1 0)] [DF.v (rSl rApiPost) y6.Posts (.slice A15 (List.length y6.Posts) c16)] [(1, ⟨[.int .i64 y6.At, strV y6.Text, .slice A15 (List.length y6.Posts) c16], 24⟩)] [] a22 w23 := h24.sel [1] [0] [1]
  clear h24
  refine wpl_end (hq5 _ _ ?_)
  refine seq_list fun Q26 hq26 => ?_
  refine evalS_ok tabOk h25 2 [1, 6, 7] [1] [(1, .o 1 0), (6, .v (.agg ⟨[.int .i64 0, .int .i64 50]⟩)), (7, .v (.agg ⟨[strV ([118, 111, 105, 99, 101] : Str), .int .i64 0, .int .i64 0, .int .i64 95]⟩))] [(1, ⟨[.int .i64 y6.At, strV y6.Text, .slice A15 (List.length y6.Posts) c16], 24⟩)] (by kernel_rfl) fun β27 a28 w29 h30 => ?_
  clear h25
  refine step_buildSlice tabOk h30 rfl rfl (r := rApiTaxLine) (xs := ([(⟨([118, 111, 105, 99, 101] : Str), 0, 0, 95⟩ : ApiTaxLine)] : List ApiTaxLine)) (vs := [.agg ⟨[strV ([118, 111, 105, 99, 101] : Str), .int .i64 0, .int .i64 0, .int .i64 95]⟩]) (pvs := [(0, .agg ⟨[strV ([118, 111, 105, 99, 101] : Str), .int .i64 0, .int .i64 0, .int .i64 95]⟩)]) (by kernel_rfl) tb49 rfl tb48 rfl rfl rfl rfl rfl (by kernel_rfl) ⟨(im_ApiTaxLine (x := (⟨([118, 111, 105, 99, 101] : Str), 0, 0, 95⟩ : ApiTaxLine))), trivial⟩ fun A31 c32 a34 w35 hv33 h36 => ?_
  clear h30
  have h37 := h36.addD (d := DF.v (rSl rApiTaxLine) ([(⟨([118, 111, 105, 99, 101] : Str), 0, 0, 95⟩ : ApiTaxLine)] : List ApiTaxLine) (.slice A31 (List.length ([(⟨([118, 111, 105, 99, 101] : Str), 0, 0, 95⟩ : ApiTaxLine)] : List ApiTaxLine)) c32)) hv33
  clear h36
  refine evalS_ok tabOk h37 1 [1, 9] [1] [(1, .o 1 0), (9, .v (.agg ⟨[.int .i64 17, .int .i64 0, .int .i64 50, .slice none 0 0, .slice A31 (List.length ([(⟨([118, 111, 105, 99, 101] : Str), 0, 0, 95⟩ : ApiTaxLine)] : List ApiTaxLine)) c32, .int .i64 500, .int .i64 95, .int .i64 595]⟩))] [(1, ⟨[.int .i64 y6.At, strV y6.Text, .slice A15 (List.length y6.Posts) c16], 24⟩)] (by kernel_rfl) fun β38 a39 w40 h41 => ?_
  clear h37
  obtain ⟨y42, hy42, hF43⟩ := bindE hF7
  clear hF7
  refine step_call h41 rfl rfl runs23 (vs := [(.agg ⟨[.int .i64 17, .int .i64 0, .int .i64 50, .slice none 0 0, .slice A31 (List.length ([(⟨([118, 111, 105, 99, 101] : Str), 0, 0, 95⟩ : ApiTaxLine)] : List ApiTaxLine)) c32, .int .i64 500, .int .i64 95, .int .i64 595]⟩)]) (by kernel_rfl) (c_ledger_Invoice (x0 := (⟨17, (⟨0, 50⟩ : ApiPeriod), [], ([(⟨([118, 111, 105, 99, 101] : Str), 0, 0, 95⟩ : ApiTaxLine)] : List ApiTaxLine), 500, 95, 595⟩ : ApiInvoice)) h41.okLt N slNil (h41.d 0 rfl) hy42) fun v44 a47 w48 hR45 hk46 h49 => ?_
  clear h41
  have hv50 := isV.weak hR45 hk46
  obtain ⟨v53, hs54, rfl⟩ := ex_ApiEntry hv50
  obtain ⟨A51, c52, rfl, hs55⟩ := slForm hs54
  have h56 := h49.addD (d := DF.v (rSl rApiPost) y42.Posts (.slice A51 (List.length y42.Posts) c52)) hs55
  clear h49
  refine evalS_ok tabOk h56 2 [1, 2] [1, 2] [(1, .o 1 0), (2, .o 2 0)] [(1, ⟨[.int .i64 y6.At, strV y6.Text, .slice A15 (List.length y6.Posts) c16], 24⟩), (2, ⟨[.int .i64 y42.At, strV y42.Text, .slice A51 (List.length y42.Posts) c52], 24⟩)] (by kernel_rfl) fun β57 a58 w59 h60 => ?_
  clear h56
  have h61 : Sb β57 (cx 54 ok w) [(1, .o 1 0), (2, .o 2 0)] [DF.v (rSl rApiPost) y6.Posts (.slice A15 (List.length y6.Posts) c16), DF.v (rSl rApiPost) y42.Posts (.slice A51 (List.length y42.Posts) c52)] [(1, ⟨[.int .i64 y6.At, strV y6.Text, .slice A15 (List.length y6.Posts) c16], 24⟩), (2, ⟨[.int .i64 y42.At, strV y42.Text, .slice A51 (List.length y42.Posts) c52], 24⟩)] [] a58 w59 := h60.sel [1, 2] [2, 0] [1, 2]
  clear h60
  refine wpl_end (hq26 _ _ ?_)
  refine seq_list fun Q62 hq62 => ?_
  refine evalS_ok tabOk h61 3 [1, 2, 11, 12, 13] [1, 2] [(1, .o 1 0), (2, .o 2 0), (11, .v (.agg ⟨[strV ([114, 101, 99, 101, 105, 118, 97, 98, 108, 101, 58, 49, 55] : Str), .int .i64 595]⟩)), (12, .v (.agg ⟨[strV ([114, 101, 118, 101, 110, 117, 101] : Str), .int .i64 (-500)]⟩)), (13, .v (.agg ⟨[strV ([116, 97, 120, 58, 118, 111, 105, 99, 101] : Str), .int .i64 (-95)]⟩))] [(1, ⟨[.int .i64 y6.At, strV y6.Text, .slice A15 (List.length y6.Posts) c16], 24⟩), (2, ⟨[.int .i64 y42.At, strV y42.Text, .slice A51 (List.length y42.Posts) c52], 24⟩)] (by kernel_rfl) fun β63 a64 w65 h66 => ?_
  clear h61
  refine step_buildSlice tabOk h66 rfl rfl (r := rApiPost) (xs := ([(⟨([114, 101, 99, 101, 105, 118, 97, 98, 108, 101, 58, 49, 55] : Str), 595⟩ : ApiPost), (⟨([114, 101, 118, 101, 110, 117, 101] : Str), (-500)⟩ : ApiPost), (⟨([116, 97, 120, 58, 118, 111, 105, 99, 101] : Str), (-95)⟩ : ApiPost)] : List ApiPost)) (vs := [.agg ⟨[strV ([114, 101, 99, 101, 105, 118, 97, 98, 108, 101, 58, 49, 55] : Str), .int .i64 595]⟩, .agg ⟨[strV ([114, 101, 118, 101, 110, 117, 101] : Str), .int .i64 (-500)]⟩, .agg ⟨[strV ([116, 97, 120, 58, 118, 111, 105, 99, 101] : Str), .int .i64 (-95)]⟩]) (pvs := [(0, .agg ⟨[strV ([114, 101, 99, 101, 105, 118, 97, 98, 108, 101, 58, 49, 55] : Str), .int .i64 595]⟩), (1, .agg ⟨[strV ([114, 101, 118, 101, 110, 117, 101] : Str), .int .i64 (-500)]⟩), (2, .agg ⟨[strV ([116, 97, 120, 58, 118, 111, 105, 99, 101] : Str), .int .i64 (-95)]⟩)]) (by kernel_rfl) tb22 rfl tb38 rfl rfl rfl rfl rfl (by kernel_rfl) ⟨(im_ApiPost (x := (⟨([114, 101, 99, 101, 105, 118, 97, 98, 108, 101, 58, 49, 55] : Str), 595⟩ : ApiPost))), (im_ApiPost (x := (⟨([114, 101, 118, 101, 110, 117, 101] : Str), (-500)⟩ : ApiPost))), (im_ApiPost (x := (⟨([116, 97, 120, 58, 118, 111, 105, 99, 101] : Str), (-95)⟩ : ApiPost))), trivial⟩ fun A67 c68 a70 w71 hv69 h72 => ?_
  clear h66
  have h73 := h72.addD (d := DF.v (rSl rApiPost) ([(⟨([114, 101, 99, 101, 105, 118, 97, 98, 108, 101, 58, 49, 55] : Str), 595⟩ : ApiPost), (⟨([114, 101, 118, 101, 110, 117, 101] : Str), (-500)⟩ : ApiPost), (⟨([116, 97, 120, 58, 118, 111, 105, 99, 101] : Str), (-95)⟩ : ApiPost)] : List ApiPost) (.slice A67 (List.length ([(⟨([114, 101, 99, 101, 105, 118, 97, 98, 108, 101, 58, 49, 55] : Str), 595⟩ : ApiPost), (⟨([114, 101, 118, 101, 110, 117, 101] : Str), (-500)⟩ : ApiPost), (⟨([116, 97, 120, 58, 118, 111, 105, 99, 101] : Str), (-95)⟩ : ApiPost)] : List ApiPost)) c68)) hv69
  clear h72
  refine evalS_ok tabOk h73 1 [1, 2, 3] [1, 2] [(1, .o 1 0), (2, .o 2 0), (3, .v (.slice A67 (List.length ([(⟨([114, 101, 99, 101, 105, 118, 97, 98, 108, 101, 58, 49, 55] : Str), 595⟩ : ApiPost), (⟨([114, 101, 118, 101, 110, 117, 101] : Str), (-500)⟩ : ApiPost), (⟨([116, 97, 120, 58, 118, 111, 105, 99, 101] : Str), (-95)⟩ : ApiPost)] : List ApiPost)) c68))] [(1, ⟨[.int .i64 y6.At, strV y6.Text, .slice A15 (List.length y6.Posts) c16], 24⟩), (2, ⟨[.int .i64 y42.At, strV y42.Text, .slice A51 (List.length y42.Posts) c52], 24⟩)] (by kernel_rfl) fun β74 a75 w76 h77 => ?_
  clear h73
  have h78 : Sb β74 (cx 54 ok w) [(1, .o 1 0), (2, .o 2 0), (3, .v (.slice A67 (List.length ([(⟨([114, 101, 99, 101, 105, 118, 97, 98, 108, 101, 58, 49, 55] : Str), 595⟩ : ApiPost), (⟨([114, 101, 118, 101, 110, 117, 101] : Str), (-500)⟩ : ApiPost), (⟨([116, 97, 120, 58, 118, 111, 105, 99, 101] : Str), (-95)⟩ : ApiPost)] : List ApiPost)) c68))] [DF.v (rSl rApiPost) ([(⟨([114, 101, 99, 101, 105, 118, 97, 98, 108, 101, 58, 49, 55] : Str), 595⟩ : ApiPost), (⟨([114, 101, 118, 101, 110, 117, 101] : Str), (-500)⟩ : ApiPost), (⟨([116, 97, 120, 58, 118, 111, 105, 99, 101] : Str), (-95)⟩ : ApiPost)] : List ApiPost) (.slice A67 (List.length ([(⟨([114, 101, 99, 101, 105, 118, 97, 98, 108, 101, 58, 49, 55] : Str), 595⟩ : ApiPost), (⟨([114, 101, 118, 101, 110, 117, 101] : Str), (-500)⟩ : ApiPost), (⟨([116, 97, 120, 58, 118, 111, 105, 99, 101] : Str), (-95)⟩ : ApiPost)] : List ApiPost)) c68), DF.v (rSl rApiPost) y6.Posts (.slice A15 (List.length y6.Posts) c16), DF.v (rSl rApiPost) y42.Posts (.slice A51 (List.length y42.Posts) c52)] [(1, ⟨[.int .i64 y6.At, strV y6.Text, .slice A15 (List.length y6.Posts) c16], 24⟩), (2, ⟨[.int .i64 y42.At, strV y42.Text, .slice A51 (List.length y42.Posts) c52], 24⟩)] [] a75 w76 := h77.sel [1, 2, 3] [0, 1, 2] [1, 2]
  clear h77
  refine wpl_end (hq62 _ _ ?_)
  refine seq_list fun Q79 hq79 => ?_
  refine evalS_ok tabOk h78 2 [1, 2, 3, 15, 16] [1, 2] [(1, .o 1 0), (2, .o 2 0), (3, .v (.slice A67 (List.length ([(⟨([114, 101, 99, 101, 105, 118, 97, 98, 108, 101, 58, 49, 55] : Str), 595⟩ : ApiPost), (⟨([114, 101, 118, 101, 110, 117, 101] : Str), (-500)⟩ : ApiPost), (⟨([116, 97, 120, 58, 118, 111, 105, 99, 101] : Str), (-95)⟩ : ApiPost)] : List ApiPost)) c68)), (15, .v (.agg ⟨[.int .i64 y42.At, strV y42.Text, .slice A51 (List.length y42.Posts) c52]⟩)), (16, .v (.agg ⟨[.int .i64 y6.At, strV y6.Text, .slice A15 (List.length y6.Posts) c16]⟩))] [(1, ⟨[.int .i64 y6.At, strV y6.Text, .slice A15 (List.length y6.Posts) c16], 24⟩), (2, ⟨[.int .i64 y42.At, strV y42.Text, .slice A51 (List.length y42.Posts) c52], 24⟩)] (by kernel_rfl) fun β80 a81 w82 h83 => ?_
  clear h78
  refine step_buildSlice tabOk h83 rfl rfl (r := rApiEntry) (xs := ([y42, y6] : List ApiEntry)) (vs := [.agg ⟨[.int .i64 y42.At, strV y42.Text, .slice A51 (List.length y42.Posts) c52]⟩, .agg ⟨[.int .i64 y6.At, strV y6.Text, .slice A15 (List.length y6.Posts) c16]⟩]) (pvs := [(0, .agg ⟨[.int .i64 y42.At, strV y42.Text, .slice A51 (List.length y42.Posts) c52]⟩), (1, .agg ⟨[.int .i64 y6.At, strV y6.Text, .slice A15 (List.length y6.Posts) c16]⟩)]) (by kernel_rfl) tb30 rfl tb24 rfl rfl rfl rfl rfl (by kernel_rfl) ⟨(im_ApiEntry (x := y42) (h83.d 2 rfl)), (im_ApiEntry (x := y6) (h83.d 1 rfl)), trivial⟩ fun A84 c85 a87 w88 hv86 h89 => ?_
  clear h83
  have h90 := h89.addD (d := DF.v (rSl rApiEntry) ([y42, y6] : List ApiEntry) (.slice A84 (List.length ([y42, y6] : List ApiEntry)) c85)) hv86
  clear h89
  obtain ⟨y91, hy91, hF92⟩ := bindE hF43
  clear hF43
  refine step_call h90 rfl rfl runs17 (vs := [(.slice A84 (List.length ([y42, y6] : List ApiEntry)) c85)]) (by kernel_rfl) (c_ledger_Trial (x0 := ([y42, y6] : List ApiEntry)) h90.okLt N (h90.d 0 rfl) hy91) fun v93 a96 w97 hR94 hk95 h98 => ?_
  clear h90
  have hv99 := isV.weak hR94 hk95
  obtain ⟨A100, c101, rfl, hs102⟩ := slForm hv99
  have h103 := h98.addD (d := DF.v (rSl rApiPost) y91 (.slice A100 (List.length y91) c101)) hs102
  clear h98
  refine evalS_ok tabOk h103 1 [1, 2, 3, 4] [1, 2] [(1, .o 1 0), (2, .o 2 0), (3, .v (.slice A67 (List.length ([(⟨([114, 101, 99, 101, 105, 118, 97, 98, 108, 101, 58, 49, 55] : Str), 595⟩ : ApiPost), (⟨([114, 101, 118, 101, 110, 117, 101] : Str), (-500)⟩ : ApiPost), (⟨([116, 97, 120, 58, 118, 111, 105, 99, 101] : Str), (-95)⟩ : ApiPost)] : List ApiPost)) c68)), (4, .v (.slice A100 (List.length y91) c101))] [(1, ⟨[.int .i64 y6.At, strV y6.Text, .slice A15 (List.length y6.Posts) c16], 24⟩), (2, ⟨[.int .i64 y42.At, strV y42.Text, .slice A51 (List.length y42.Posts) c52], 24⟩)] (by kernel_rfl) fun β104 a105 w106 h107 => ?_
  clear h103
  have h108 : Sb β104 (cx 54 ok w) [(1, .o 1 0), (2, .o 2 0), (3, .v (.slice A67 (List.length ([(⟨([114, 101, 99, 101, 105, 118, 97, 98, 108, 101, 58, 49, 55] : Str), 595⟩ : ApiPost), (⟨([114, 101, 118, 101, 110, 117, 101] : Str), (-500)⟩ : ApiPost), (⟨([116, 97, 120, 58, 118, 111, 105, 99, 101] : Str), (-95)⟩ : ApiPost)] : List ApiPost)) c68)), (4, .v (.slice A100 (List.length y91) c101))] [DF.v (rSl rApiPost) ([(⟨([114, 101, 99, 101, 105, 118, 97, 98, 108, 101, 58, 49, 55] : Str), 595⟩ : ApiPost), (⟨([114, 101, 118, 101, 110, 117, 101] : Str), (-500)⟩ : ApiPost), (⟨([116, 97, 120, 58, 118, 111, 105, 99, 101] : Str), (-95)⟩ : ApiPost)] : List ApiPost) (.slice A67 (List.length ([(⟨([114, 101, 99, 101, 105, 118, 97, 98, 108, 101, 58, 49, 55] : Str), 595⟩ : ApiPost), (⟨([114, 101, 118, 101, 110, 117, 101] : Str), (-500)⟩ : ApiPost), (⟨([116, 97, 120, 58, 118, 111, 105, 99, 101] : Str), (-95)⟩ : ApiPost)] : List ApiPost)) c68), DF.v (rSl rApiPost) y91 (.slice A100 (List.length y91) c101), DF.v (rSl rApiPost) y6.Posts (.slice A15 (List.length y6.Posts) c16), DF.v (rSl rApiPost) y42.Posts (.slice A51 (List.length y42.Posts) c52)] [(1, ⟨[.int .i64 y6.At, strV y6.Text, .slice A15 (List.length y6.Posts) c16], 24⟩), (2, ⟨[.int .i64 y42.At, strV y42.Text, .slice A51 (List.length y42.Posts) c52], 24⟩)] [] a105 w106 := h107.sel [1, 2, 3, 4] [2, 0, 3, 4] [1, 2]
  clear h107
  refine wpl_end (hq79 _ _ ?_)
  obtain ⟨g110, hv111, hF112⟩ := bindE hF92
  clear hF92
  refine seq_join (J := fun a w' => ∃ β, Sb β (cx 54 ok w) [(0, .v (.bool g110))] [] [] [] a w') ?_ ?_
  · skip
    rintro a113 w114 ⟨β115, h116⟩
    refine wp_ret ?_
    refine hr _ _ ?_
    obtain rfl := Option.some.inj hF112
    exact ret1_ok h116 rfl rfl (isV_bool.2 rfl)
  · skip
    refine region_ok ?_
    refine evalS_ok tabOk h108 4 [1, 2, 3, 4, 20, 21, 22] [1, 2] [(1, .o 1 0), (2, .o 2 0), (3, .v (.slice A67 (List.length ([(⟨([114, 101, 99, 101, 105, 118, 97, 98, 108, 101, 58, 49, 55] : Str), 595⟩ : ApiPost), (⟨([114, 101, 118, 101, 110, 117, 101] : Str), (-500)⟩ : ApiPost), (⟨([116, 97, 120, 58, 118, 111, 105, 99, 101] : Str), (-95)⟩ : ApiPost)] : List ApiPost)) c68)), (4, .v (.slice A100 (List.length y91) c101)), (20, .v (.slice A15 (List.length y6.Posts) c16)), (21, .v (.agg ⟨[strV ([99, 97, 115, 104] : Str), .int .i64 595]⟩)), (22, .v (.agg ⟨[strV ([114, 101, 99, 101, 105, 118, 97, 98, 108, 101, 58, 49, 55] : Str), .int .i64 (-595)]⟩))] [(1, ⟨[.int .i64 y6.At, strV y6.Text, .slice A15 (List.length y6.Posts) c16], 24⟩), (2, ⟨[.int .i64 y42.At, strV y42.Text, .slice A51 (List.length y42.Posts) c52], 24⟩)] (by kernel_rfl) fun β117 a118 w119 h120 => ?_
    clear h108
    refine step_buildSlice tabOk h120 rfl rfl (r := rApiPost) (xs := ([(⟨([99, 97, 115, 104] : Str), 595⟩ : ApiPost), (⟨([114, 101, 99, 101, 105, 118, 97, 98, 108, 101, 58, 49, 55] : Str), (-595)⟩ : ApiPost)] : List ApiPost)) (vs := [.agg ⟨[strV ([99, 97, 115, 104] : Str), .int .i64 595]⟩, .agg ⟨[strV ([114, 101, 99, 101, 105, 118, 97, 98, 108, 101, 58, 49, 55] : Str), .int .i64 (-595)]⟩]) (pvs := [(0, .agg ⟨[strV ([99, 97, 115, 104] : Str), .int .i64 595]⟩), (1, .agg ⟨[strV ([114, 101, 99, 101, 105, 118, 97, 98, 108, 101, 58, 49, 55] : Str), .int .i64 (-595)]⟩)]) (by kernel_rfl) tb22 rfl tb38 rfl rfl rfl rfl rfl (by kernel_rfl) ⟨(im_ApiPost (x := (⟨([99, 97, 115, 104] : Str), 595⟩ : ApiPost))), (im_ApiPost (x := (⟨([114, 101, 99, 101, 105, 118, 97, 98, 108, 101, 58, 49, 55] : Str), (-595)⟩ : ApiPost))), trivial⟩ fun A121 c122 a124 w125 hv123 h126 => ?_
    clear h120
    have h127 := h126.addD (d := DF.v (rSl rApiPost) ([(⟨([99, 97, 115, 104] : Str), 595⟩ : ApiPost), (⟨([114, 101, 99, 101, 105, 118, 97, 98, 108, 101, 58, 49, 55] : Str), (-595)⟩ : ApiPost)] : List ApiPost) (.slice A121 (List.length ([(⟨([99, 97, 115, 104] : Str), 595⟩ : ApiPost), (⟨([114, 101, 99, 101, 105, 118, 97, 98, 108, 101, 58, 49, 55] : Str), (-595)⟩ : ApiPost)] : List ApiPost)) c122)) hv123
    clear h126
    obtain ⟨y128, hy128, hv129⟩ := bindE hv111
    clear hv111
    refine step_call h127 rfl rfl runs16 (vs := [(.slice A15 (List.length y6.Posts) c16), (.slice A121 (List.length ([(⟨([99, 97, 115, 104] : Str), 595⟩ : ApiPost), (⟨([114, 101, 99, 101, 105, 118, 97, 98, 108, 101, 58, 49, 55] : Str), (-595)⟩ : ApiPost)] : List ApiPost)) c122)]) (by kernel_rfl) (c_billingref47_SamePosts (x0 := y6.Posts) (x1 := ([(⟨([99, 97, 115, 104] : Str), 595⟩ : ApiPost), (⟨([114, 101, 99, 101, 105, 118, 97, 98, 108, 101, 58, 49, 55] : Str), (-595)⟩ : ApiPost)] : List ApiPost)) h127.okLt N (h127.d 3 rfl) (h127.d 0 rfl) hy128) fun v130 a133 w134 hR131 hk132 h135 => ?_
    clear h127
    have hv136 := isV.weak hR131 hk132
    obtain rfl := isV_bool.1 hv136
    refine evalS_ok tabOk h135 1 [1, 2, 3, 4, 25] [1, 2] [(1, .o 1 0), (2, .o 2 0), (3, .v (.slice A67 (List.length ([(⟨([114, 101, 99, 101, 105, 118, 97, 98, 108, 101, 58, 49, 55] : Str), 595⟩ : ApiPost), (⟨([114, 101, 118, 101, 110, 117, 101] : Str), (-500)⟩ : ApiPost), (⟨([116, 97, 120, 58, 118, 111, 105, 99, 101] : Str), (-95)⟩ : ApiPost)] : List ApiPost)) c68)), (4, .v (.slice A100 (List.length y91) c101)), (25, .v (.bool y128))] [(1, ⟨[.int .i64 y6.At, strV y6.Text, .slice A15 (List.length y6.Posts) c16], 24⟩), (2, ⟨[.int .i64 y42.At, strV y42.Text, .slice A51 (List.length y42.Posts) c52], 24⟩)] (by kernel_rfl) fun β137 a138 w139 h140 => ?_
    clear h135
    refine bcases (b := y128) (fun hb141 => ?_) (fun hb141 => ?_)
    · skip
      have hv142 := ifT hb141 hv129
      clear hv129
      have h143 := h140.reb (t := 25) rfl hb141
      clear h140
      refine evalS_ok tabOk h143 5 [1, 2, 3, 4, 30] [1, 2] [(1, .o 1 0), (2, .o 2 0), (3, .v (.slice A67 (List.length ([(⟨([114, 101, 99, 101, 105, 118, 97, 98, 108, 101, 58, 49, 55] : Str), 595⟩ : ApiPost), (⟨([114, 101, 118, 101, 110, 117, 101] : Str), (-500)⟩ : ApiPost), (⟨([116, 97, 120, 58, 118, 111, 105, 99, 101] : Str), (-95)⟩ : ApiPost)] : List ApiPost)) c68)), (4, .v (.slice A100 (List.length y91) c101)), (30, .v (.bool (y6.At == 100)))] [(1, ⟨[.int .i64 y6.At, strV y6.Text, .slice A15 (List.length y6.Posts) c16], 24⟩), (2, ⟨[.int .i64 y42.At, strV y42.Text, .slice A51 (List.length y42.Posts) c52], 24⟩)] (by kernel_rfl) fun β144 a145 w146 h147 => ?_
      clear h143
      refine bcases (b := (y6.At == 100)) (fun hb148 => ?_) (fun hb148 => ?_)
      · skip
        have hv149 := ifT hb148 hv142
        clear hv142
        have h150 := h147.reb (t := 30) rfl hb148
        clear h147
        refine evalS_ok tabOk h150 5 [1, 2, 3, 4, 35] [1, 2] [(1, .o 1 0), (2, .o 2 0), (3, .v (.slice A67 (List.length ([(⟨([114, 101, 99, 101, 105, 118, 97, 98, 108, 101, 58, 49, 55] : Str), 595⟩ : ApiPost), (⟨([114, 101, 118, 101, 110, 117, 101] : Str), (-500)⟩ : ApiPost), (⟨([116, 97, 120, 58, 118, 111, 105, 99, 101] : Str), (-95)⟩ : ApiPost)] : List ApiPost)) c68)), (4, .v (.slice A100 (List.length y91) c101)), (35, .v (.bool (y42.At == 49)))] [(1, ⟨[.int .i64 y6.At, strV y6.Text, .slice A15 (List.length y6.Posts) c16], 24⟩), (2, ⟨[.int .i64 y42.At, strV y42.Text, .slice A51 (List.length y42.Posts) c52], 24⟩)] (by kernel_rfl) fun β151 a152 w153 h154 => ?_
        clear h150
        refine bcases (b := (y42.At == 49)) (fun hb155 => ?_) (fun hb155 => ?_)
        · skip
          have hv156 := ifT hb155 hv149
          clear hv149
          have h157 := h154.reb (t := 35) rfl hb155
          clear h154
          refine evalS_ok tabOk h157 3 [1, 4, 35, 37, 38] [1] [(1, .o 1 0), (4, .v (.slice A100 (List.length y91) c101)), (35, .v (.bool true)), (37, .v (.slice A51 (List.length y42.Posts) c52)), (38, .v (.slice A67 (List.length ([(⟨([114, 101, 99, 101, 105, 118, 97, 98, 108, 101, 58, 49, 55] : Str), 595⟩ : ApiPost), (⟨([114, 101, 118, 101, 110, 117, 101] : Str), (-500)⟩ : ApiPost), (⟨([116, 97, 120, 58, 118, 111, 105, 99, 101] : Str), (-95)⟩ : ApiPost)] : List ApiPost)) c68))] [(1, ⟨[.int .i64 y6.At, strV y6.Text, .slice A15 (List.length y6.Posts) c16], 24⟩)] (by kernel_rfl) fun β158 a159 w160 h161 => ?_
          clear h157
          obtain ⟨y162, hy162, hv163⟩ := bindE hv156
          clear hv156
          refine step_call h161 rfl rfl runs16 (vs := [(.slice A51 (List.length y42.Posts) c52), (.slice A67 (List.length ([(⟨([114, 101, 99, 101, 105, 118, 97, 98, 108, 101, 58, 49, 55] : Str), 595⟩ : ApiPost), (⟨([114, 101, 118, 101, 110, 117, 101] : Str), (-500)⟩ : ApiPost), (⟨([116, 97, 120, 58, 118, 111, 105, 99, 101] : Str), (-95)⟩ : ApiPost)] : List ApiPost)) c68)]) (by kernel_rfl) (c_billingref47_SamePosts (x0 := y42.Posts) (x1 := ([(⟨([114, 101, 99, 101, 105, 118, 97, 98, 108, 101, 58, 49, 55] : Str), 595⟩ : ApiPost), (⟨([114, 101, 118, 101, 110, 117, 101] : Str), (-500)⟩ : ApiPost), (⟨([116, 97, 120, 58, 118, 111, 105, 99, 101] : Str), (-95)⟩ : ApiPost)] : List ApiPost)) h161.okLt N (h161.d 4 rfl) (h161.d 1 rfl) hy162) fun v164 a167 w168 hR165 hk166 h169 => ?_
          clear h161
          have hv170 := isV.weak hR165 hk166
          obtain rfl := isV_bool.1 hv170
          refine evalS_ok tabOk h169 2 [1, 4, 41] [1] [(1, .o 1 0), (4, .v (.slice A100 (List.length y91) c101)), (41, .v (.bool y162))] [(1, ⟨[.int .i64 y6.At, strV y6.Text, .slice A15 (List.length y6.Posts) c16], 24⟩)] (by kernel_rfl) fun β171 a172 w173 h174 => ?_
          clear h169
          refine bcases (b := y162) (fun hb175 => ?_) (fun hb175 => ?_)
          · skip
            have hv176 := ifT hb175 hv163
            clear hv163
            have h177 := h174.reb (t := 41) rfl hb175
            clear h174
            refine evalS_ok tabOk h177 4 [1, 41, 42, 43, 44, 45] [1] [(1, .o 1 0), (41, .v (.bool true)), (42, .v (.slice A100 (List.length y91) c101)), (43, .v (.agg ⟨[strV ([99, 97, 115, 104] : Str), .int .i64 595]⟩)), (44, .v (.agg ⟨[strV ([114, 101, 118, 101, 110, 117, 101] : Str), .int .i64 (-500)]⟩)), (45, .v (.agg ⟨[strV ([116, 97, 120, 58, 118, 111, 105, 99, 101] : Str), .int .i64 (-95)]⟩))] [(1, ⟨[.int .i64 y6.At, strV y6.Text, .slice A15 (List.length y6.Posts) c16], 24⟩)] (by kernel_rfl) fun β178 a179 w180 h181 => ?_
            clear h177
            refine step_buildSlice tabOk h181 rfl rfl (r := rApiPost) (xs := ([(⟨([99, 97, 115, 104] : Str), 595⟩ : ApiPost), (⟨([114, 101, 118, 101, 110, 117, 101] : Str), (-500)⟩ : ApiPost), (⟨([116, 97, 120, 58, 118, 111, 105, 99, 101] : Str), (-95)⟩ : ApiPost)] : List ApiPost)) (vs := [.agg ⟨[strV ([99, 97, 115, 104] : Str), .int .i64 595]⟩, .agg ⟨[strV ([114, 101, 118, 101, 110, 117, 101] : Str), .int .i64 (-500)]⟩, .agg ⟨[strV ([116, 97, 120, 58, 118, 111, 105, 99, 101] : Str), .int .i64 (-95)]⟩]) (pvs := [(0, .agg ⟨[strV ([99, 97, 115, 104] : Str), .int .i64 595]⟩), (1, .agg ⟨[strV ([114, 101, 118, 101, 110, 117, 101] : Str), .int .i64 (-500)]⟩), (2, .agg ⟨[strV ([116, 97, 120, 58, 118, 111, 105, 99, 101] : Str), .int .i64 (-95)]⟩)]) (by kernel_rfl) tb22 rfl tb38 rfl rfl rfl rfl rfl (by kernel_rfl) ⟨(im_ApiPost (x := (⟨([99, 97, 115, 104] : Str), 595⟩ : ApiPost))), (im_ApiPost (x := (⟨([114, 101, 118, 101, 110, 117, 101] : Str), (-500)⟩ : ApiPost))), (im_ApiPost (x := (⟨([116, 97, 120, 58, 118, 111, 105, 99, 101] : Str), (-95)⟩ : ApiPost))), trivial⟩ fun A182 c183 a185 w186 hv184 h187 => ?_
            clear h181
            have h188 := h187.addD (d := DF.v (rSl rApiPost) ([(⟨([99, 97, 115, 104] : Str), 595⟩ : ApiPost), (⟨([114, 101, 118, 101, 110, 117, 101] : Str), (-500)⟩ : ApiPost), (⟨([116, 97, 120, 58, 118, 111, 105, 99, 101] : Str), (-95)⟩ : ApiPost)] : List ApiPost) (.slice A182 (List.length ([(⟨([99, 97, 115, 104] : Str), 595⟩ : ApiPost), (⟨([114, 101, 118, 101, 110, 117, 101] : Str), (-500)⟩ : ApiPost), (⟨([116, 97, 120, 58, 118, 111, 105, 99, 101] : Str), (-95)⟩ : ApiPost)] : List ApiPost)) c183)) hv184
            clear h187
            obtain ⟨y189, hy189, hv190⟩ := bindE hv176
            clear hv176
            refine step_call h188 rfl rfl runs16 (vs := [(.slice A100 (List.length y91) c101), (.slice A182 (List.length ([(⟨([99, 97, 115, 104] : Str), 595⟩ : ApiPost), (⟨([114, 101, 118, 101, 110, 117, 101] : Str), (-500)⟩ : ApiPost), (⟨([116, 97, 120, 58, 118, 111, 105, 99, 101] : Str), (-95)⟩ : ApiPost)] : List ApiPost)) c183)]) (by kernel_rfl) (c_billingref47_SamePosts (x0 := y91) (x1 := ([(⟨([99, 97, 115, 104] : Str), 595⟩ : ApiPost), (⟨([114, 101, 118, 101, 110, 117, 101] : Str), (-500)⟩ : ApiPost), (⟨([116, 97, 120, 58, 118, 111, 105, 99, 101] : Str), (-95)⟩ : ApiPost)] : List ApiPost)) h188.okLt N (h188.d 3 rfl) (h188.d 0 rfl) hy189) fun v191 a194 w195 hR192 hk193 h196 => ?_
            clear h188
            have hv197 := isV.weak hR192 hk193
            obtain rfl := isV_bool.1 hv197
            refine evalS_ok tabOk h196 2 [1, 49] [1] [(1, .o 1 0), (49, .v (.bool y189))] [(1, ⟨[.int .i64 y6.At, strV y6.Text, .slice A15 (List.length y6.Posts) c16], 24⟩)] (by kernel_rfl) fun β198 a199 w200 h201 => ?_
            clear h196
            refine bcases (b := y189) (fun hb202 => ?_) (fun hb202 => ?_)
            · skip
              have hv203 := ifT hb202 hv190
              clear hv190
              have h204 := h201.reb (t := 49) rfl hb202
              clear h201
              refine evalS_ok tabOk h204 1 [49, 50] [] [(49, .v (.bool true)), (50, .v (.agg ⟨[.int .i64 y6.At, strV y6.Text, .slice A15 (List.length y6.Posts) c16]⟩))] [] (by kernel_rfl) fun β205 a206 w207 h208 => ?_
              clear h204
              obtain ⟨y209, hy209, hv210⟩ := bindE hv203
              clear hv203
              refine step_call h208 rfl rfl runs9 (vs := [(.agg ⟨[.int .i64 y6.At, strV y6.Text, .slice A15 (List.length y6.Posts) c16]⟩)]) (by kernel_rfl) (c_ledger_Check (x0 := y6) h208.okLt N (h208.d 4 rfl) hy209) fun v211 a214 w215 hR212 hk213 h216 => ?_
              clear h208
              have hv217 := isV.weak hR212 hk213
              obtain rfl := isV_int.1 hv217
              refine evalS_ok tabOk h216 3 [0] [] [(0, .v (.bool (y209 == 0)))] [] (by kernel_rfl) fun β218 a219 w220 h221 => ?_
              clear h216
              obtain rfl := Option.some.inj hv210
              have h222 : Sb β218 (cx 54 ok w) [(0, .v (.bool (y209 == 0)))] [] [] [] a219 w220 := h221.sel [0] [] []
              clear h221
              exact wpl_end (then_n ⟨_, h222⟩)
            · skip
              have hv223 := ifF hb202 hv190
              clear hv190
              have h224 := h201.reb (t := 49) rfl hb202
              clear h201
              refine evalS_ok tabOk h224 5 [0] [] [(0, .v (.bool false))] [] (by kernel_rfl) fun β225 a226 w227 h228 => ?_
              clear h224
              obtain rfl := Option.some.inj hv223
              have h229 : Sb β225 (cx 54 ok w) [(0, .v (.bool false))] [] [] [] a226 w227 := h228.sel [0] [] []
              clear h228
              exact wpl_end (then_n ⟨_, h229⟩)
          · skip
            have hv230 := ifF hb175 hv163
            clear hv163
            have h231 := h174.reb (t := 41) rfl hb175
            clear h174
            refine evalS_ok tabOk h231 13 [0] [] [(0, .v (.bool false))] [] (by kernel_rfl) fun β232 a233 w234 h235 => ?_
            clear h231
            obtain rfl := Option.some.inj hv230
            have h236 : Sb β232 (cx 54 ok w) [(0, .v (.bool false))] [] [] [] a233 w234 := h235.sel [0] [] []
            clear h235
            exact wpl_end (then_n ⟨_, h236⟩)
        · skip
          have hv237 := ifF hb155 hv149
          clear hv149
          have h238 := h154.reb (t := 35) rfl hb155
          clear h154
          refine evalS_ok tabOk h238 19 [0] [] [(0, .v (.bool false))] [] (by kernel_rfl) fun β239 a240 w241 h242 => ?_
          clear h238
          obtain rfl := Option.some.inj hv237
          have h243 : Sb β239 (cx 54 ok w) [(0, .v (.bool false))] [] [] [] a240 w241 := h242.sel [0] [] []
          clear h242
          exact wpl_end (then_n ⟨_, h243⟩)
      · skip
        have hv244 := ifF hb148 hv142
        clear hv142
        have h245 := h147.reb (t := 30) rfl hb148
        clear h147
        refine evalS_ok tabOk h245 24 [0] [] [(0, .v (.bool false))] [] (by kernel_rfl) fun β246 a247 w248 h249 => ?_
        clear h245
        obtain rfl := Option.some.inj hv244
        have h250 : Sb β246 (cx 54 ok w) [(0, .v (.bool false))] [] [] [] a247 w248 := h249.sel [0] [] []
        clear h249
        exact wpl_end (then_n ⟨_, h250⟩)
    · skip
      have hv251 := ifF hb141 hv129
      clear hv129
      have h252 := h140.reb (t := 25) rfl hb141
      clear h140
      refine evalS_ok tabOk h252 29 [0] [] [(0, .v (.bool false))] [] (by kernel_rfl) fun β253 a254 w255 h256 => ?_
      clear h252
      obtain rfl := Option.some.inj hv251
      have h257 : Sb β253 (cx 54 ok w) [(0, .v (.bool false))] [] [] [] a254 w255 := h256.sel [0] [] []
      clear h256
      exact wpl_end (then_n ⟨_, h257⟩)

theorem c_billingref47_Clone {ok : Ok} {w : World} (hok : ∀ b o, ok b o → b < w.heap.size) (N : Nat) {x0 : ApiEntry} {A1 : Option Addr} {c2 : Nat} (d0 : isV (rSl rApiPost) ok w x0.Posts (.slice A1 (List.length x0.Posts) c2)) {r : ApiEntry} (hF : billingref47_Clone N x0 = some r) :
    Calls Try.prog 10 ⟨[.agg ⟨[.int .i64 x0.At, strV x0.Text, .slice A1 (List.length x0.Posts) c2]⟩]⟩ w (Ret w (R1 rApiEntry ok w r)) := by
  rw [billingref47_Clone] at hF
  refine enter_ok (n := 12) hok Try.func10 rfl rfl rfl (D := [DF.v (rSl rApiPost) x0.Posts (.slice A1 (List.length x0.Posts) c2)]) ⟨d0, trivial⟩ (fun a h => ?_)
  simp only [zipG, Nat.zero_add, Nat.reduceAdd] at h
  refine start_ctx fun Q hn hr => ?_
  refine seq_region tabOk h [1, 2] [1, 2] [(1, .o 1 0), (2, .o 2 0)] [(1, ⟨[.int .i64 x0.At, strV x0.Text, .slice A1 (List.length x0.Posts) c2], 24⟩), (2, ⟨[.int .i64 0, strV ([] : Str), .slice none 0 0], 24⟩)] (by kernel_rfl) fun β3 a4 w5 h6 => ?_
  clear h
  refine seq_draw fun Q7 hq7 => ?_
  obtain ⟨z8, hz8, hF9⟩ := bindE hF
  clear hF
  have h11 : Sb β3 (cx 12 ok w) [(1, .o 1 0), (2, .o 2 0)] [DF.v (rSl rApiPost) x0.Posts (.slice A1 (List.length x0.Posts) c2)] [(1, ⟨[.int .i64 x0.At, strV x0.Text, .slice A1 (List.length x0.Posts) c2], 24⟩), (2, ⟨[.int .i64 0, strV ([] : Str), .slice none 0 0], 24⟩)] [] a4 w5 := h6.sel [1, 2] [0] [1, 2]
  refine draw_rule h11 rfl (by kernel_rfl) 9 [3, 4, 5, 6, 7, 8, 9, 10, 11] [FV.eq (.pointer (some ⟨β3 1, 0, none⟩)), FV.eq (.int .i64 x0.At), FV.eq (.pointer (some ⟨β3 1, 1, none⟩)), FV.eq (strV x0.Text), FV.emp (rSl rApiPost) ([] : List ApiPost), FV.eq (.pointer (some ⟨β3 1, 2, none⟩)), FV.eq (.slice A1 (List.length x0.Posts) c2), FV.rep (rSl rApiPost) z8, FV.rep rApiEntry (⟨x0.At, x0.Text, z8⟩ : ApiEntry)] rfl rfl rfl (by kernel_rfl) (by kernel_rfl) (by kernel_rfl) (by kernel_rfl) (by kernel_rfl) ?_ ?_
  · skip
    refine ⟨⟨⟨⟨⟨⟨⟨⟨⟨trivial, ?_⟩, ?_⟩, ?_⟩, ?_⟩, ?_⟩, ?_⟩, ?_⟩, ?_⟩, ?_⟩
    · skip
      intro β12 a13 w14 dX15 Ox16 Q17 h18 hq19 hp20 hk21
      refine evalS_ok tabOk h18 1 [1, 2, 3] [1, 2] [(1, .o 1 0), (2, .o 2 0), (3, .o 1 0)] [(1, ⟨[.int .i64 x0.At, strV x0.Text, .slice A1 (List.length x0.Posts) c2], 24⟩), (2, ⟨[.int .i64 0, strV ([] : Str), .slice none 0 0], 24⟩)] (by kernel_rfl) fun β22 a23 w24 h25 => ?_
      exact wpl_end (hk21 _ _ _ _ (h25.sel [1, 2] [0, 1] [1, 2]) (h25.getO rfl rfl rfl) rfl)
    · skip
      intro β26 a27 w28 dX29 Ox30 Q31 h32 hq33 hp34 hk35
      have h36 := h32.learnO (d := 3) (id := 1) (off := 0) rfl rfl rfl (hp34 0 3 _ rfl rfl rfl)
      clear h32
      refine evalS_ok tabOk h36 1 [1, 2, 4] [1, 2] [(1, .o 1 0), (2, .o 2 0), (4, .v (.int .i64 x0.At))] [(1, ⟨[.int .i64 x0.At, strV x0.Text, .slice A1 (List.length x0.Posts) c2], 24⟩), (2, ⟨[.int .i64 0, strV ([] : Str), .slice none 0 0], 24⟩)] (by kernel_rfl) fun β37 a38 w39 h40 => ?_
      exact wpl_end (hk35 _ _ _ _ (h40.sel [1, 2] [0, 1] [1, 2]) (h40.getD rfl) rfl)
    · skip
      intro β41 a42 w43 dX44 Ox45 Q46 h47 hq48 hp49 hk50
      refine evalS_ok tabOk h47 1 [1, 2, 5] [1, 2] [(1, .o 1 0), (2, .o 2 0), (5, .o 1 1)] [(1, ⟨[.int .i64 x0.At, strV x0.Text, .slice A1 (List.length x0.Posts) c2], 24⟩), (2, ⟨[.int .i64 0, strV ([] : Str), .slice none 0 0], 24⟩)] (by kernel_rfl) fun β51 a52 w53 h54 => ?_
      exact wpl_end (hk50 _ _ _ _ (h54.sel [1, 2] [0, 1] [1, 2]) (h54.getO rfl rfl rfl) rfl)
    · skip
      intro β55 a56 w57 dX58 Ox59 Q60 h61 hq62 hp63 hk64
      have h65 := h61.learnO (d := 5) (id := 1) (off := 1) rfl rfl rfl (hp63 2 5 _ rfl rfl rfl)
      clear h61
      refine evalS_ok tabOk h65 1 [1, 2, 6] [1, 2] [(1, .o 1 0), (2, .o 2 0), (6, .v (strV x0.Text))] [(1, ⟨[.int .i64 x0.At, strV x0.Text, .slice A1 (List.length x0.Posts) c2], 24⟩), (2, ⟨[.int .i64 0, strV ([] : Str), .slice none 0 0], 24⟩)] (by kernel_rfl) fun β66 a67 w68 h69 => ?_
      exact wpl_end (hk64 _ _ _ _ (h69.sel [1, 2] [0, 1] [1, 2]) (h69.getD rfl) rfl)
    · skip
      intro β70 a71 w72 dX73 Ox74 Q75 h76 hq77 hp78 hk79
      refine step_buildOwn0 tabOk h76 rfl rfl (r := rApiPost) tb22 rfl tb38 fun b86 a83 w84 hv82 h85 => ?_
      clear h76
      have h87 := h85.addD (d := DF.v (rSl rApiPost) ([] : List ApiPost) (.slice (some ⟨b86, 0, none⟩) (List.length ([] : List ApiPost)) 0)) hv82
      clear h85
      have h88 := h87.dropO 0
      clear h87
      exact wpl_end (hk79 _ _ _ _ (h88.sel [1, 2] [1, 2] [1, 2]) (by have e := h88.getD (d := 7) rfl; show _ ∧ _; rw [e]; exact ⟨⟨_, rfl⟩, (h88.d 0 rfl)⟩) rfl)
    · skip
      intro β89 a90 w91 dX92 Ox93 Q94 h95 hq96 hp97 hk98
      refine evalS_ok tabOk h95 1 [1, 2, 8] [1, 2] [(1, .o 1 0), (2, .o 2 0), (8, .o 1 2)] [(1, ⟨[.int .i64 x0.At, strV x0.Text, .slice A1 (List.length x0.Posts) c2], 24⟩), (2, ⟨[.int .i64 0, strV ([] : Str), .slice none 0 0], 24⟩)] (by kernel_rfl) fun β99 a100 w101 h102 => ?_
      exact wpl_end (hk98 _ _ _ _ (h102.sel [1, 2] [0, 1] [1, 2]) (h102.getO rfl rfl rfl) rfl)
    · skip
      intro β103 a104 w105 dX106 Ox107 Q108 h109 hq110 hp111 hk112
      have h113 := h109.learnO (d := 8) (id := 1) (off := 2) rfl rfl rfl (hp111 5 8 _ rfl rfl rfl)
      clear h109
      refine evalS_ok tabOk h113 1 [1, 2, 9] [1, 2] [(1, .o 1 0), (2, .o 2 0), (9, .v (.slice A1 (List.length x0.Posts) c2))] [(1, ⟨[.int .i64 x0.At, strV x0.Text, .slice A1 (List.length x0.Posts) c2], 24⟩), (2, ⟨[.int .i64 0, strV ([] : Str), .slice none 0 0], 24⟩)] (by kernel_rfl) fun β114 a115 w116 h117 => ?_
      exact wpl_end (hk112 _ _ _ _ (h117.sel [1, 2] [0, 1] [1, 2]) (h117.getD rfl) rfl)
    · skip
      intro β118 a119 w120 dX121 Ox122 Q123 h124 hq125 hp126 hk127
      have h128 := h124.learn (d := 7) rfl
      clear h124
      have f129 := hp126 4 7 _ rfl rfl rfl
      generalize a119.tmps.getD 7 undef = v130 at h128 f129
      obtain ⟨⟨A131, rfl⟩, hs133⟩ := f129
      have h134 := h128.addD (d := DF.v (rSl rApiPost) ([] : List ApiPost) (.slice (some ⟨A131, 0, none⟩) (List.length ([] : List ApiPost)) 0)) hs133
      clear h128
      have h135 := h134.learnE (d := 9) rfl (hp126 6 9 _ rfl rfl rfl)
      clear h134
      refine step_append0 tabOk h135 rfl rfl (r := rApiPost) tb22 rfl tb38 rfl rfl rfl rfl rfl rfl (h135.d 2 rfl) hz8 fun A136 c137 a139 w140 hv138 h141 => ?_
      clear h135
      have h142 := h141.addD (d := DF.v (rSl rApiPost) z8 (.slice A136 (List.length z8) c137)) hv138
      clear h141
      exact wpl_end (hk127 _ _ _ _ (h142.sel [1, 2] [2, 3] [1, 2]) (h142.getR rfl (h142.d 0 rfl)) rfl)
    · skip
      intro β143 a144 w145 dX146 Ox147 Q148 h149 hq150 hp151 hk152
      have h153 := h149.learnE (d := 4) rfl (hp151 1 4 _ rfl rfl rfl)
      clear h149
      have h154 := h153.learnE (d := 6) rfl (hp151 3 6 _ rfl rfl rfl)
      clear h153
      have h155 := h154.learn (d := 10) rfl
      clear h154
      have f156 := hp151 7 10 _ rfl rfl rfl
      generalize a144.tmps.getD 10 undef = v157 at h155 f156
      obtain ⟨A158, c159, rfl, hs160⟩ := slForm f156
      have h161 := h155.addD (d := DF.v (rSl rApiPost) z8 (.slice A158 (List.length z8) c159)) hs160
      clear h155
      refine evalS_ok tabOk h161 1 [1, 2, 11] [1, 2] [(1, .o 1 0), (2, .o 2 0), (11, .v (.agg ⟨[.int .i64 x0.At, strV x0.Text, .slice A158 (List.length z8) c159]⟩))] [(1, ⟨[.int .i64 x0.At, strV x0.Text, .slice A1 (List.length x0.Posts) c2], 24⟩), (2, ⟨[.int .i64 0, strV ([] : Str), .slice none 0 0], 24⟩)] (by kernel_rfl) fun β162 a163 w164 h165 => ?_
      exact wpl_end (hk152 _ _ _ _ (h165.sel [1, 2] [1, 2] [1, 2]) (h165.getR rfl (im_ApiEntry (x := (⟨x0.At, x0.Text, z8⟩ : ApiEntry)) (h165.d 0 rfl))) rfl)
  · skip
    intro β166 a167 w168 h169 ha170
    have h171 := h169.learn (d := 11) rfl
    clear h169
    have f172 := ha170 8 11 _ rfl rfl
    generalize a167.tmps.getD 11 undef = v173 at h171 f172
    obtain ⟨v176, hs177, rfl⟩ := ex_ApiEntry f172
    obtain ⟨A174, c175, rfl, hs178⟩ := slForm hs177
    have h179 := h171.addD (d := DF.v (rSl rApiPost) ((⟨x0.At, x0.Text, z8⟩ : ApiEntry).Posts) (.slice A174 (List.length ((⟨x0.At, x0.Text, z8⟩ : ApiEntry).Posts)) c175)) hs178
    clear h171
    have h180 := h179.unpin rfl
    clear h179
    refine evalS_ok tabOk h180 1 [2] [2] [(2, .o 2 0)] [(2, ⟨[.int .i64 ((⟨x0.At, x0.Text, z8⟩ : ApiEntry).At), strV ((⟨x0.At, x0.Text, z8⟩ : ApiEntry).Text), .slice A174 (List.length ((⟨x0.At, x0.Text, z8⟩ : ApiEntry).Posts)) c175], 24⟩)] (by kernel_rfl) fun β181 a182 w183 h184 => ?_
    clear h180
    have h185 : Sb β181 (cx 12 ok w) [(2, .o 2 0)] [DF.v (rSl rApiPost) ((⟨x0.At, x0.Text, z8⟩ : ApiEntry).Posts) (.slice A174 (List.length ((⟨x0.At, x0.Text, z8⟩ : ApiEntry).Posts)) c175)] [(2, ⟨[.int .i64 ((⟨x0.At, x0.Text, z8⟩ : ApiEntry).At), strV ((⟨x0.At, x0.Text, z8⟩ : ApiEntry).Text), .slice A174 (List.length ((⟨x0.At, x0.Text, z8⟩ : ApiEntry).Posts)) c175], 24⟩)] [] a182 w183 := h184.sel [2] [0] [2]
    clear h184
    refine wpl_end (hq7 _ _ ?_)
    refine wp_ret ?_
    refine hr _ _ ?_
    obtain rfl := Option.some.inj hF9
    exact ret1c_ok tabOk h185 rfl rfl rfl (v := .agg ⟨[.int .i64 ((⟨x0.At, x0.Text, z8⟩ : ApiEntry).At), strV ((⟨x0.At, x0.Text, z8⟩ : ApiEntry).Text), .slice A174 (List.length ((⟨x0.At, x0.Text, z8⟩ : ApiEntry).Posts)) c175]⟩) (by kernel_rfl) (im_ApiEntry (x := (⟨x0.At, x0.Text, z8⟩ : ApiEntry)) (isV.weak (h185.d 0 rfl) (okOf_out h185 hok)))

theorem co_billingref47_CloneAll {ok : Ok} {w : World} (hok : ∀ b o, ok b o → b < w.heap.size) (N : Nat) {x0 : (List ApiEntry)} {A1 : Option Addr} {c2 : Nat} (d0 : isV (rSl rApiEntry) ok w x0 (.slice A1 (List.length x0) c2)) {r : (List ApiEntry)} (hF : billingref47_CloneAll N x0 = some r) :
    Calls Try.prog 14 ⟨[.slice A1 (List.length x0) c2]⟩ w (Ret w (R1o (rSl rApiEntry) 24 3 ok w r)) := by
  rw [billingref47_CloneAll] at hF
  refine enter_ok (n := 21) hok Try.func14 rfl rfl rfl (D := [DF.v (rSl rApiEntry) x0 (.slice A1 (List.length x0) c2)]) ⟨d0, trivial⟩ (fun a h => ?_)
  simp only [zipG, Nat.zero_add, Nat.reduceAdd] at h
  refine start_ctx fun Q hn hr => ?_
  refine seq_region tabOk h [0] [] [(0, .v (.slice A1 (List.length x0) c2))] [] (by kernel_rfl) fun β3 a4 w5 h6 => ?_
  clear h
  refine seq_list fun Q7 hq7 => ?_
  refine step_buildOwn0 tabOk h6 rfl rfl (r := rApiEntry) tb30 rfl tb24 fun b14 a11 w12 hv10 h13 => ?_
  clear h6
  have h15 := h13.addD (d := DF.v (rSl rApiEntry) ([] : List ApiEntry) (.slice (some ⟨b14, 0, none⟩) (List.length ([] : List ApiEntry)) 0)) hv10
  clear h13
  refine evalS_ok tabOk h15 1 [0, 3] [] [(0, .v (.slice A1 (List.length x0) c2)), (3, .v (.slice (some ⟨b14, 0, none⟩) (List.length ([] : List ApiEntry)) 0))] [] (by kernel_rfl) fun β16 a17 w18 h19 => ?_
  clear h15
  have h20 : Sb β16 (cx 21 ok w) [(0, .v (.slice A1 (List.length x0) c2)), (3, .v (.slice (some ⟨b14, 0, none⟩) (List.length ([] : List ApiEntry)) 0))] [DF.v (rSl rApiEntry) x0 (.slice A1 (List.length x0) c2), DF.v (rSl rApiEntry) ([] : List ApiEntry) (.slice (some ⟨b14, 0, none⟩) (List.length ([] : List ApiEntry)) 0)] [] [⟨.slice (some ⟨b14, 0, none⟩) (List.length ([] : List ApiEntry)) 0, 24, 3⟩] a17 w18 := h19.sel [0, 3] [1, 0] []
  clear h19
  refine wpl_end (hq7 _ _ ?_)
  refine seq_ctx fun Q21 hn21 hr21 hx21 => ?_
  refine seq_region tabOk h20 [0, 3, 4] [] [(0, .v (.slice A1 (List.length x0) c2)), (3, .v (.slice (some ⟨b14, 0, none⟩) (List.length ([] : List ApiEntry)) 0)), (4, .v (.int .i64 0))] [] (by kernel_rfl) fun β22 a23 w24 h25 => ?_
  clear h20
  obtain ⟨out26, hL26, hC26⟩ := bindE hF
  clear hF
  have j30 : ∀ a w', (∃ (l27 : List ApiEntry) (A28 : Option Addr) (c29 : Nat), (∃ β, Sb β (cx 21 ok w) [(3, .v (.slice A28 (List.length l27) c29))] [DF.v (rSl rApiEntry) l27 (.slice A28 (List.length l27) c29)] [] [⟨.slice A28 (List.length l27) c29, 24, 3⟩] a w') ∧ billingref47_CloneAll_j30 N l27 = some r) → Q21 .normal a w' := by
    rintro a31 w32 ⟨l27, A28, c29, ⟨β33, h34⟩, hF35⟩
    rw [billingref47_CloneAll_j30] at hF35
    refine hn21 _ _ ?_
    refine seq_region tabOk h34 [2] [] [(2, .v (.slice A28 (List.length l27) c29))] [] (by kernel_rfl) fun β36 a37 w38 h39 => ?_
    clear h34
    refine wp_ret ?_
    refine hr _ _ ?_
    obtain rfl := Option.some.inj hF35
    exact ret1_ok h39 rfl rfl (own_out h39 hok (.head _) (h39.d 0 rfl))
  refine block_ctx fun Qb26 hnb26 hrb26 hbb26 hxb26 => ?_
  have h44 : Sb β22 (cx 21 ok w) [(0, .v (.slice A1 (List.length x0) c2)), (3, .v (.slice (some ⟨b14, 0, none⟩) (List.length ([] : List ApiEntry)) 0)), (4, .v (.int .i64 0))] [DF.v (rSl rApiEntry) x0 (.slice A1 (List.length x0) c2), DF.v (rSl rApiEntry) ([] : List ApiEntry) (.slice (some ⟨b14, 0, none⟩) (List.length ([] : List ApiEntry)) 0)] [] [⟨.slice (some ⟨b14, 0, none⟩) (List.length ([] : List ApiEntry)) 0, 24, 3⟩] a23 w24 := (h25).sel [0, 3, 4] [0, 1] []
  refine loop_ctx (fun m a w' => ∃ (l40 : List ApiEntry) (i43 : Int) (A41 : Option Addr) (c42 : Nat), (∃ β, Sb β (cx 21 ok w) [(0, .v (.slice A1 (List.length x0) c2)), (3, .v (.slice A41 (List.length l40) c42)), (4, .v (.int .i64 i43))] [DF.v (rSl rApiEntry) x0 (.slice A1 (List.length x0) c2), DF.v (rSl rApiEntry) l40 (.slice A41 (List.length l40) c42)] [] [⟨.slice A41 (List.length l40) c42, 24, 3⟩] a w') ∧ billingref47_CloneAll_l26 N x0 m l40 i43 = some out26) N ⟨([] : List ApiEntry), 0, (some ⟨b14, 0, none⟩), 0, ⟨_, h44⟩, hL26⟩ ?_
  rintro Q26 m45 a46 w47 ⟨l40, i43, A41, c42, ⟨β48, h49⟩, hF50⟩ hn26 hr26 hx26
  obtain _ | m45 := m45
  · exact absurd hF50 (by simp [billingref47_CloneAll_l26])
  rw [billingref47_CloneAll_l26] at hF50
  refine seq_ctx fun Q51 hn51 hr51 hx51 => ?_
  refine seq_region tabOk h49 [0, 3, 4, 9] [] [(0, .v (.slice A1 (List.length x0) c2)), (3, .v (.slice A41 (List.length l40) c42)), (4, .v (.int .i64 i43)), (9, .v (.bool (decide (i43 < (List.length x0 : Int)))))] [] (by kernel_rfl) fun β52 a53 w54 h55 => ?_
  clear h49
  refine wp_if h55 rfl (fun hb56 => ?_) (fun hb56 => ?_)
  · skip
    have hF57 := ifT hb56 hF50
    clear hF50
    refine wp_skip ?_
    refine hn51 _ _ ?_
    refine seq_ctx fun Q58 hn58 hr58 hx58 => ?_
    refine block_ctx fun Q59 hn59 hr59 hb59 hx59 => ?_
    refine region_ok ?_
    refine evalS_ok tabOk h55 3 [0, 3, 4, 12, 13, 14] [] [(0, .v (.slice A1 (List.length x0) c2)), (3, .v (.slice A41 (List.length l40) c42)), (4, .v (.int .i64 i43)), (12, .v (.slice A41 (List.length l40) c42)), (13, .v (.slice A1 (List.length x0) c2)), (14, .v (.int .i64 i43))] [] (by kernel_rfl) fun β61 a62 w63 h64 => ?_
    clear h55
    obtain ⟨x65, hx65, hF66⟩ := bindE hF57
    clear hF57
    refine step_idx tabOk h64 0 rfl rfl rfl rfl rfl hx65 tb30 rfl tb24 rfl fun p67 a68 h69 => ?_
    clear h64
    refine step_load tabOk h69 0 rfl rfl rfl rfl tb24 rfl rfl fun v70 a72 hv71 h73 => ?_
    clear h69
    obtain ⟨v76, hs77, rfl⟩ := ex_ApiEntry hv71
    obtain ⟨A74, c75, rfl, hs78⟩ := slForm hs77
    have h79 := h73.addD (d := DF.v (rSl rApiPost) x65.Posts (.slice A74 (List.length x65.Posts) c75)) hs78
    clear h73
    obtain ⟨y80, hy80, hF81⟩ := bindE hF66
    clear hF66
    refine step_call h79 rfl rfl runs10 (vs := [(.agg ⟨[.int .i64 x65.At, strV x65.Text, .slice A74 (List.length x65.Posts) c75]⟩)]) (by kernel_rfl) (c_billingref47_Clone (x0 := x65) h79.okLt N (h79.d 0 rfl) hy80) fun v82 a85 w86 hR83 hk84 h87 => ?_
    clear h79
    have hv88 := isV.weak hR83 hk84
    obtain ⟨v91, hs92, rfl⟩ := ex_ApiEntry hv88
    obtain ⟨A89, c90, rfl, hs93⟩ := slForm hs92
    have h94 := h87.addD (d := DF.v (rSl rApiPost) y80.Posts (.slice A89 (List.length y80.Posts) c90)) hs93
    clear h87
    refine step_buildSlice tabOk h94 rfl rfl (r := rApiEntry) (xs := ([y80] : List ApiEntry)) (vs := [.agg ⟨[.int .i64 y80.At, strV y80.Text, .slice A89 (List.length y80.Posts) c90]⟩]) (pvs := [(0, .agg ⟨[.int .i64 y80.At, strV y80.Text, .slice A89 (List.length y80.Posts) c90]⟩)]) (by kernel_rfl) tb30 rfl tb24 rfl rfl rfl rfl rfl (by kernel_rfl) ⟨(im_ApiEntry (x := y80) (h94.d 0 rfl)), trivial⟩ fun A95 c96 a98 w99 hv97 h100 => ?_
    clear h94
    have h101 := h100.addD (d := DF.v (rSl rApiEntry) ([y80] : List ApiEntry) (.slice A95 (List.length ([y80] : List ApiEntry)) c96)) hv97
    clear h100
    obtain ⟨z102, hz102, hF103⟩ := bindE hF81
    clear hF81
    refine step_append tabOk h101 6 0 [] [] rfl rfl (r := rApiEntry) (xs := l40) tb30 rfl tb24 rfl rfl rfl rfl rfl rfl rfl rfl (h101.d 0 rfl) hz102 fun A104 c105 a107 w108 hv106 h109 => ?_
    clear h101
    have h110 := h109.addD (d := DF.v (rSl rApiEntry) z102 (.slice A104 (List.length z102) c105)) hv106
    clear h109
    refine evalS_ok tabOk h110 1 [0, 3, 4] [] [(0, .v (.slice A1 (List.length x0) c2)), (3, .v (.slice A104 (List.length z102) c105)), (4, .v (.int .i64 i43))] [] (by kernel_rfl) fun β111 a112 w113 h114 => ?_
    clear h110
    have h115 : Sb β111 (cx 21 ok w) [(0, .v (.slice A1 (List.length x0) c2)), (3, .v (.slice A104 (List.length z102) c105)), (4, .v (.int .i64 i43))] [DF.v (rSl rApiEntry) x0 (.slice A1 (List.length x0) c2), DF.v (rSl rApiEntry) z102 (.slice A104 (List.length z102) c105)] [] [⟨.slice A104 (List.length z102) c105, 24, 3⟩] a112 w113 := h114.sel [0, 3, 4] [6, 0] []
    clear h114
    refine wpl_end ?_
    refine hn59 _ _ ?_
    refine hn58 _ _ ?_
    refine evalR_ok tabOk h115 [0, 3, 4] [] [(0, .v (.slice A1 (List.length x0) c2)), (3, .v (.slice A104 (List.length z102) c105)), (4, .v (.int .i64 (IntKind.wrap .i64 (i43 + 1))))] [] (by kernel_rfl) fun β116 a117 w118 h119 => ?_
    clear h115
    have h120 : Sb β116 (cx 21 ok w) [(0, .v (.slice A1 (List.length x0) c2)), (3, .v (.slice A104 (List.length z102) c105)), (4, .v (.int .i64 (IntKind.wrap .i64 (i43 + 1))))] [DF.v (rSl rApiEntry) x0 (.slice A1 (List.length x0) c2), DF.v (rSl rApiEntry) z102 (.slice A104 (List.length z102) c105)] [] [⟨.slice A104 (List.length z102) c105, 24, 3⟩] a117 w118 := (h119).sel [0, 3, 4] [0, 1] []
    exact hn26 _ _ _ (Nat.lt_succ_self _) ⟨z102, (IntKind.wrap .i64 (i43 + 1)), A104, c105, ⟨_, h120⟩, hF103⟩
  · skip
    have hF121 := ifF hb56 hF50
    clear hF50
    refine wp_exit ?_
    refine hx51 0 _ _ ?_
    refine hx26 0 _ _ ?_
    refine hbb26 _ _ ?_
    obtain rfl := Option.some.inj hF121
    have h122 : Sb β52 (cx 21 ok w) [(3, .v (.slice A41 (List.length l40) c42))] [DF.v (rSl rApiEntry) l40 (.slice A41 (List.length l40) c42)] [] [⟨.slice A41 (List.length l40) c42, 24, 3⟩] a53 w54 := (h55).sel [3] [1] []
    exact j30 _ _ ⟨l40, A41, c42, ⟨_, h122⟩, hC26⟩
theorem c_billingref47_CloneAll {ok : Ok} {w : World} (hok : ∀ b o, ok b o → b < w.heap.size) (N : Nat) {x0 : (List ApiEntry)} {A1 : Option Addr} {c2 : Nat} (d0 : isV (rSl rApiEntry) ok w x0 (.slice A1 (List.length x0) c2)) {r : (List ApiEntry)} (hF : billingref47_CloneAll N x0 = some r) :
    Calls Try.prog 14 ⟨[.slice A1 (List.length x0) c2]⟩ w (Ret w (R1 (rSl rApiEntry) ok w r)) :=
  Calls.own1 (co_billingref47_CloneAll hok N d0 hF)

theorem c_ledger_Balance_c1_c1 {ok : Ok} {w : World} (hok : ∀ b o, ok b o → b < w.heap.size) (N : Nat) {x0 : ApiPost} {x1 : Str} {p1 : Value} (e0 : isAt rStr ok w x1 p1) {r : Int} (hF : ledger_Balance_c1_c1 N x0 x1 = some r) :
    Calls Try.prog 32 ⟨[.agg ⟨[strV x0.Account, .int .i64 x0.Amount]⟩, p1]⟩ w (Ret w (R1 (rInt .i64) ok w r)) := by
  rw [ledger_Balance_c1_c1] at hF
  refine enter_ok (n := 10) hok Try.func32 rfl rfl rfl (D := [DF.at rStr x1 (p1)]) ⟨e0, trivial⟩ (fun a h => ?_)
  simp only [zipG, Nat.zero_add, Nat.reduceAdd] at h
  refine start_ctx fun Q hn hr => ?_
  refine seq_region tabOk h [1, 2] [2] [(1, .v (p1)), (2, .o 2 0)] [(2, ⟨[strV x0.Account, .int .i64 x0.Amount], 38⟩)] (by kernel_rfl) fun β2 a3 w4 h5 => ?_
  clear h
  refine seq_ctx fun Q6 hn6 hr6 hx6 => ?_
  refine seq_list fun Q7 hq7 => ?_
  refine evalS_ok tabOk h5 2 [1, 2, 5] [2] [(1, .v (p1)), (2, .o 2 0), (5, .v (strV x0.Account))] [(2, ⟨[strV x0.Account, .int .i64 x0.Amount], 38⟩)] (by kernel_rfl) fun β8 a9 w10 h11 => ?_
  clear h5
  refine step_load tabOk h11 0 rfl rfl rfl rfl tb9 rfl rfl fun v12 a14 hv13 h15 => ?_
  clear h11
  obtain rfl := isV_str.1 hv13
  refine evalS_ok tabOk h15 1 [2, 7] [2] [(2, .o 2 0), (7, .v (.bool (!(x0.Account == x1))))] [(2, ⟨[strV x0.Account, .int .i64 x0.Amount], 38⟩)] (by kernel_rfl) fun β16 a17 w18 h19 => ?_
  clear h15
  have h20 : Sb β16 (cx 10 ok w) [(2, .o 2 0), (7, .v (.bool (!(x0.Account == x1))))] [] [(2, ⟨[strV x0.Account, .int .i64 x0.Amount], 38⟩)] [] a17 w18 := h19.sel [2, 7] [] [2]
  clear h19
  refine wpl_end (hq7 _ _ ?_)
  refine wp_if h20 rfl (fun hb21 => ?_) (fun hb21 => ?_)
  · skip
    have hF22 := ifT hb21 hF
    clear hF
    refine seq_region tabOk h20 [3] [] [(3, .v (.int .i64 0))] [] (by kernel_rfl) fun β23 a24 w25 h26 => ?_
    clear h20
    refine wp_ret ?_
    refine hr6 _ _ ?_
    refine hr _ _ ?_
    obtain rfl := Option.some.inj hF22
    exact ret1_ok h26 rfl rfl (isV_int.2 rfl)
  · skip
    have hF27 := ifF hb21 hF
    clear hF
    refine wp_skip ?_
    refine hn6 _ _ ?_
    refine seq_region tabOk h20 [3] [] [(3, .v (.int .i64 x0.Amount))] [] (by kernel_rfl) fun β28 a29 w30 h31 => ?_
    clear h20
    refine wp_ret ?_
    refine hr _ _ ?_
    obtain rfl := Option.some.inj hF27
    exact ret1_ok h31 rfl rfl (isV_int.2 rfl)
theorem fv_ledger_Balance_c1_c1 (N : Nat) {ok : Ok} {w : World} {x1 : Str} {p1 : Value} (e0 : isAt rStr ok w x1 p1) : fnRep Try.prog rApiPost (rInt .i64) ok w (fun z => ledger_Balance_c1_c1 N z x1) (.func (.func 32) ⟨[]⟩ ⟨[p1]⟩) := by
  refine ⟨32, _, rfl, runs32, fun ok2 w2 hk he hlt x v y hx hy => ?_⟩
  obtain rfl := ex_ApiPost hx
  exact c_ledger_Balance_c1_c1 hlt N ((e0.evo he).weak hk) hy

theorem c_ledger_Balance_c1 {ok : Ok} {w : World} (hok : ∀ b o, ok b o → b < w.heap.size) (N : Nat) {x0 : ApiEntry} {x1 : Str} {A1 : Option Addr} {c2 : Nat} {p3 : Value} (d0 : isV (rSl rApiPost) ok w x0.Posts (.slice A1 (List.length x0.Posts) c2)) (e0 : isAt rStr ok w x1 p3) {r : Int} (hF : ledger_Balance_c1 N x0 x1 = some r) :
    Calls Try.prog 31 ⟨[.agg ⟨[.int .i64 x0.At, strV x0.Text, .slice A1 (List.length x0.Posts) c2]⟩, p3]⟩ w (Ret w (R1 (rInt .i64) ok w r)) := by
  rw [ledger_Balance_c1] at hF
  refine enter_ok (n := 8) hok Try.func31 rfl rfl rfl (D := [DF.v (rSl rApiPost) x0.Posts (.slice A1 (List.length x0.Posts) c2), DF.at rStr x1 (p3)]) ⟨d0, e0, trivial⟩ (fun a h => ?_)
  simp only [zipG, Nat.zero_add, Nat.reduceAdd] at h
  refine start_ctx fun Q hn hr => ?_
  refine seq_region tabOk h [1, 2] [2] [(1, .v (p3)), (2, .o 2 0)] [(2, ⟨[.int .i64 x0.At, strV x0.Text, .slice A1 (List.length x0.Posts) c2], 24⟩)] (by kernel_rfl) fun β4 a5 w6 h7 => ?_
  clear h
  refine seq_list fun Q8 hq8 => ?_
  refine evalS_ok tabOk h7 2 [1, 5] [] [(1, .v (p3)), (5, .v (.slice A1 (List.length x0.Posts) c2))] [] (by kernel_rfl) fun β9 a10 w11 h12 => ?_
  clear h7
  refine step_makeFunc h12 rfl rfl (vs := [p3]) (by kernel_rfl) fun a13 h14 => ?_
  clear h12
  obtain ⟨y15, hy15, hF16⟩ := bindE hF
  clear hF
  refine step_call h14 rfl rfl runs26 (vs := [(.slice A1 (List.length x0.Posts) c2), (.func (.func 32) ⟨[]⟩ ⟨[p3]⟩)]) (by kernel_rfl) (c_api_Post_ (x0 := x0.Posts) (x1 := (fun z => ledger_Balance_c1_c1 N z x1)) h14.okLt N (h14.d 0 rfl) (isV_fn.2 (fv_ledger_Balance_c1_c1 N (h14.d 1 rfl))) hy15) fun v17 a20 w21 hR18 hk19 h22 => ?_
  clear h14
  have hv23 := isV.weak hR18 hk19
  obtain rfl := isV_int.1 hv23
  refine evalS_ok tabOk h22 1 [3] [] [(3, .v (.int .i64 y15))] [] (by kernel_rfl) fun β24 a25 w26 h27 => ?_
  clear h22
  have h28 : Sb β24 (cx 8 ok w) [(3, .v (.int .i64 y15))] [] [] [] a25 w26 := h27.sel [3] [] []
  clear h27
  refine wpl_end (hq8 _ _ ?_)
  refine wp_ret ?_
  refine hr _ _ ?_
  obtain rfl := Option.some.inj hF16
  exact ret1_ok h28 rfl rfl (isV_int.2 rfl)
theorem fv_ledger_Balance_c1 (N : Nat) {ok : Ok} {w : World} {x1 : Str} {p3 : Value} (e0 : isAt rStr ok w x1 p3) : fnRep Try.prog rApiEntry (rInt .i64) ok w (fun z => ledger_Balance_c1 N z x1) (.func (.func 31) ⟨[]⟩ ⟨[p3]⟩) := by
  refine ⟨31, _, rfl, runs31, fun ok2 w2 hk he hlt x v y hx hy => ?_⟩
  obtain ⟨v36, hs37, rfl⟩ := ex_ApiEntry hx
  obtain ⟨A34, c35, rfl, hs38⟩ := slForm hs37
  exact c_ledger_Balance_c1 hlt N hs38 ((e0.evo he).weak hk) hy

theorem c_api_Entry_ {ok : Ok} {w : World} (hok : ∀ b o, ok b o → b < w.heap.size) (N : Nat) {x0 : (List ApiEntry)} {x1 : (ApiEntry → Option Int)} {A1 : Option Addr} {c2 : Nat} {g3 : Value} (d0 : isV (rSl rApiEntry) ok w x0 (.slice A1 (List.length x0) c2)) (d1 : isV (rFn Try.prog rApiEntry (rInt .i64)) ok w x1 (g3)) {r : Int} (hF : api_Entry_ N x0 x1 = some r) :
    Calls Try.prog 30 ⟨[.slice A1 (List.length x0) c2, g3]⟩ w (Ret w (R1 (rInt .i64) ok w r)) := by
  rw [api_Entry_] at hF
  refine enter_ok (n := 21) hok Try.func30 rfl rfl rfl (D := [DF.v (rSl rApiEntry) x0 (.slice A1 (List.length x0) c2), DF.v (rFn Try.prog rApiEntry (rInt .i64)) x1 (g3)]) ⟨d0, d1, trivial⟩ (fun a h => ?_)
  simp only [zipG, Nat.zero_add, Nat.reduceAdd] at h
  refine start_ctx fun Q hn hr => ?_
  refine seq_region tabOk h [0, 1] [] [(0, .v (.slice A1 (List.length x0) c2)), (1, .v (g3))] [] (by kernel_rfl) fun β4 a5 w6 h7 => ?_
  clear h
  refine seq_region tabOk h7 [0, 1, 5] [] [(0, .v (.slice A1 (List.length x0) c2)), (1, .v (g3)), (5, .v (.int .i64 0))] [] (by kernel_rfl) fun β8 a9 w10 h11 => ?_
  clear h7
  refine seq_ctx fun Q12 hn12 hr12 hx12 => ?_
  refine seq_region tabOk h11 [1, 5, 8, 9, 10] [] [(1, .v (g3)), (5, .v (.int .i64 0)), (8, .v (.slice A1 (List.length x0) c2)), (9, .v (.int .i64 (List.length x0 : Int))), (10, .v (.int .i64 0))] [] (by kernel_rfl) fun β13 a14 w15 h16 => ?_
  clear h11
  obtain ⟨out17, hL17, hC17⟩ := bindE hF
  clear hF
  have j19 : ∀ a w', (∃ (i18 : Int), (∃ β, Sb β (cx 21 ok w) [(5, .v (.int .i64 i18))] [] [] [] a w') ∧ api_Entry__j19 N i18 = some r) → Q12 .normal a w' := by
    rintro a20 w21 ⟨i18, ⟨β22, h23⟩, hF24⟩
    rw [api_Entry__j19] at hF24
    refine hn12 _ _ ?_
    refine seq_region tabOk h23 [4] [] [(4, .v (.int .i64 i18))] [] (by kernel_rfl) fun β25 a26 w27 h28 => ?_
    clear h23
    refine wp_ret ?_
    refine hr _ _ ?_
    obtain rfl := Option.some.inj hF24
    exact ret1_ok h28 rfl rfl (isV_int.2 rfl)
  refine block_ctx fun Qb17 hnb17 hrb17 hbb17 hxb17 => ?_
  have h31 : Sb β13 (cx 21 ok w) [(1, .v (g3)), (5, .v (.int .i64 0)), (8, .v (.slice A1 (List.length x0) c2)), (9, .v (.int .i64 (List.length x0 : Int))), (10, .v (.int .i64 0))] [DF.v (rFn Try.prog rApiEntry (rInt .i64)) x1 (g3), DF.v (rSl rApiEntry) x0 (.slice A1 (List.length x0) c2)] [] [] a14 w15 := (h16).sel [1, 5, 8, 9, 10] [1, 0] []
  refine loop_ctx (fun m a w' => ∃ (i29 : Int) (i30 : Int), (∃ β, Sb β (cx 21 ok w) [(1, .v (g3)), (5, .v (.int .i64 i29)), (8, .v (.slice A1 (List.length x0) c2)), (9, .v (.int .i64 (List.length x0 : Int))), (10, .v (.int .i64 i30))] [DF.v (rFn Try.prog rApiEntry (rInt .i64)) x1 (g3), DF.v (rSl rApiEntry) x0 (.slice A1 (List.length x0) c2)] [] [] a w') ∧ api_Entry__l17 N x0 x1 m i29 i30 = some out17) N ⟨0, 0, ⟨_, h31⟩, hL17⟩ ?_
  rintro Q17 m32 a33 w34 ⟨i29, i30, ⟨β35, h36⟩, hF37⟩ hn17 hr17 hx17
  obtain _ | m32 := m32
  · exact absurd hF37 (by simp [api_Entry__l17])
  rw [api_Entry__l17] at hF37
  refine seq_region tabOk h36 [1, 5, 8, 9, 10, 11] [] [(1, .v (g3)), (5, .v (.int .i64 i29)), (8, .v (.slice A1 (List.length x0) c2)), (9, .v (.int .i64 (List.length x0 : Int))), (10, .v (.int .i64 i30)), (11, .v (.bool (decide (i30 < (List.length x0 : Int)))))] [] (by kernel_rfl) fun β38 a39 w40 h41 => ?_
  clear h36
  refine seq_ctx fun Q42 hn42 hr42 hx42 => ?_
  refine wp_if h41 rfl (fun hb43 => ?_) (fun hb43 => ?_)
  · skip
    have hF44 := ifT hb43 hF37
    clear hF37
    refine wp_skip ?_
    refine hn42 _ _ ?_
    refine seq_ctx fun Q45 hn45 hr45 hx45 => ?_
    refine block_ctx fun Q46 hn46 hr46 hb46 hx46 => ?_
    refine seq_list fun Q47 hq47 => ?_
    obtain ⟨x48, hx48, hF49⟩ := bindE hF44
    clear hF44
    refine step_idx tabOk h41 1 rfl rfl rfl rfl rfl hx48 tb30 rfl tb24 rfl fun p50 a51 h52 => ?_
    clear h41
    refine step_load tabOk h52 0 rfl rfl rfl rfl tb24 rfl rfl fun v53 a55 hv54 h56 => ?_
    clear h52
    obtain ⟨v59, hs60, rfl⟩ := ex_ApiEntry hv54
    obtain ⟨A57, c58, rfl, hs61⟩ := slForm hs60
    have h62 := h56.addD (d := DF.v (rSl rApiPost) x48.Posts (.slice A57 (List.length x48.Posts) c58)) hs61
    clear h56
    refine evalS_ok tabOk h62 2 [1, 5, 7, 8, 9, 10] [7] [(1, .v (g3)), (5, .v (.int .i64 i29)), (7, .o 7 0), (8, .v (.slice A1 (List.length x0) c2)), (9, .v (.int .i64 (List.length x0 : Int))), (10, .v (.int .i64 i30))] [(7, ⟨[.int .i64 x48.At, strV x48.Text, .slice A57 (List.length x48.Posts) c58], 24⟩)] (by kernel_rfl) fun β63 a64 w65 h66 => ?_
    clear h62
    have h67 : Sb β63 (cx 21 ok w) [(1, .v (g3)), (5, .v (.int .i64 i29)), (7, .o 7 0), (8, .v (.slice A1 (List.length x0) c2)), (9, .v (.int .i64 (List.length x0 : Int))), (10, .v (.int .i64 i30))] [DF.v (rFn Try.prog rApiEntry (rInt .i64)) x1 (g3), DF.v (rSl rApiEntry) x0 (.slice A1 (List.length x0) c2), DF.v (rSl rApiPost) x48.Posts (.slice A57 (List.length x48.Posts) c58)] [(7, ⟨[.int .i64 x48.At, strV x48.Text, .slice A57 (List.length x48.Posts) c58], 24⟩)] [] a64 w65 := h66.sel [1, 5, 7, 8, 9, 10] [3, 4, 0] [7]
    clear h66
    refine wpl_end (hq47 _ _ ?_)
    refine region_ok ?_
    refine evalS_ok tabOk h67 3 [1, 5, 8, 9, 10, 14, 15, 16] [] [(1, .v (g3)), (5, .v (.int .i64 i29)), (8, .v (.slice A1 (List.length x0) c2)), (9, .v (.int .i64 (List.length x0 : Int))), (10, .v (.int .i64 i30)), (14, .v (.int .i64 i29)), (15, .v (g3)), (16, .v (.agg ⟨[.int .i64 x48.At, strV x48.Text, .slice A57 (List.length x48.Posts) c58]⟩))] [] (by kernel_rfl) fun β69 a70 w71 h72 => ?_
    clear h67
    obtain ⟨y73, hy73, hF74⟩ := bindE hF49
    clear hF49
    refine step_callFn h72 rfl rfl rfl rfl (h72.d 0 rfl) (im_ApiEntry (x := x48) (h72.d 2 rfl)) hy73 fun v75 a78 w79 hR76 hk77 h80 => ?_
    clear h72
    have hv81 := isV.weak hR76 hk77
    obtain rfl := isV_int.1 hv81
    refine evalS_ok tabOk h80 2 [1, 5, 8, 9, 10] [] [(1, .v (g3)), (5, .v (.int .i64 (IntKind.wrap .i64 (i29 + y73)))), (8, .v (.slice A1 (List.length x0) c2)), (9, .v (.int .i64 (List.length x0 : Int))), (10, .v (.int .i64 i30))] [] (by kernel_rfl) fun β82 a83 w84 h85 => ?_
    clear h80
    have h86 : Sb β82 (cx 21 ok w) [(1, .v (g3)), (5, .v (.int .i64 (IntKind.wrap .i64 (i29 + y73)))), (8, .v (.slice A1 (List.length x0) c2)), (9, .v (.int .i64 (List.length x0 : Int))), (10, .v (.int .i64 i30))] [DF.v (rFn Try.prog rApiEntry (rInt .i64)) x1 (g3), DF.v (rSl rApiEntry) x0 (.slice A1 (List.length x0) c2)] [] [] a83 w84 := h85.sel [1, 5, 8, 9, 10] [0, 1] []
    clear h85
    refine wpl_end ?_
    refine hn46 _ _ ?_
    refine hn45 _ _ ?_
    refine evalR_ok tabOk h86 [1, 5, 8, 9, 10] [] [(1, .v (g3)), (5, .v (.int .i64 (IntKind.wrap .i64 (i29 + y73)))), (8, .v (.slice A1 (List.length x0) c2)), (9, .v (.int .i64 (List.length x0 : Int))), (10, .v (.int .i64 (IntKind.wrap .i64 (i30 + 1))))] [] (by kernel_rfl) fun β87 a88 w89 h90 => ?_
    clear h86
    have h91 : Sb β87 (cx 21 ok w) [(1, .v (g3)), (5, .v (.int .i64 (IntKind.wrap .i64 (i29 + y73)))), (8, .v (.slice A1 (List.length x0) c2)), (9, .v (.int .i64 (List.length x0 : Int))), (10, .v (.int .i64 (IntKind.wrap .i64 (i30 + 1))))] [DF.v (rFn Try.prog rApiEntry (rInt .i64)) x1 (g3), DF.v (rSl rApiEntry) x0 (.slice A1 (List.length x0) c2)] [] [] a88 w89 := (h90).sel [1, 5, 8, 9, 10] [0, 1] []
    exact hn17 _ _ _ (Nat.lt_succ_self _) ⟨(IntKind.wrap .i64 (i29 + y73)), (IntKind.wrap .i64 (i30 + 1)), ⟨_, h91⟩, hF74⟩
  · skip
    have hF92 := ifF hb43 hF37
    clear hF37
    refine wp_exit ?_
    refine hx42 0 _ _ ?_
    refine hx17 0 _ _ ?_
    refine hbb17 _ _ ?_
    obtain rfl := Option.some.inj hF92
    have h93 : Sb β38 (cx 21 ok w) [(5, .v (.int .i64 i29))] [] [] [] a39 w40 := (h41).sel [5] [] []
    exact j19 _ _ ⟨i29, ⟨_, h93⟩, hC17⟩

theorem c_ledger_Balance {ok : Ok} {w : World} (hok : ∀ b o, ok b o → b < w.heap.size) (N : Nat) {x0 : (List ApiEntry)} {x1 : Str} {A1 : Option Addr} {c2 : Nat} (d0 : isV (rSl rApiEntry) ok w x0 (.slice A1 (List.length x0) c2)) {r : Int} (hF : ledger_Balance N x0 x1 = some r) :
    Calls Try.prog 13 ⟨[.slice A1 (List.length x0) c2, strV x1]⟩ w (Ret w (R1 (rInt .i64) ok w r)) := by
  rw [ledger_Balance] at hF
  refine enter_ok (n := 8) hok Try.func13 rfl rfl rfl (D := [DF.v (rSl rApiEntry) x0 (.slice A1 (List.length x0) c2)]) ⟨d0, trivial⟩ (fun a h => ?_)
  simp only [zipG, Nat.zero_add, Nat.reduceAdd] at h
  refine start_ctx fun Q hn hr => ?_
  refine seq_region tabOk h [0, 3] [3] [(0, .v (.slice A1 (List.length x0) c2)), (3, .o 3 0)] [(3, ⟨[strV x1], 9⟩)] (by kernel_rfl) fun β3 a4 w5 h6 => ?_
  clear h
  refine seq_list fun Q7 hq7 => ?_
  refine evalS_ok tabOk h6 1 [3, 5] [3] [(3, .o 3 0), (5, .v (.slice A1 (List.length x0) c2))] [(3, ⟨[strV x1], 9⟩)] (by kernel_rfl) fun β8 a9 w10 h11 => ?_
  clear h6
  obtain ⟨p12, h13, _⟩ := h11.thaw (id := 3) rfl (r := rStr) (x := x1) (cellsL_rep (v := strV x1) (isV_str.2 rfl))
  clear h11
  refine step_makeFunc h13 rfl rfl (vs := [p12]) (by kernel_rfl) fun a14 h15 => ?_
  clear h13
  obtain ⟨y16, hy16, hF17⟩ := bindE hF
  clear hF
  refine step_call h15 rfl rfl runs30 (vs := [(.slice A1 (List.length x0) c2), (.func (.func 31) ⟨[]⟩ ⟨[p12]⟩)]) (by kernel_rfl) (c_api_Entry_ (x0 := x0) (x1 := (fun z => ledger_Balance_c1 N z x1)) h15.okLt N (h15.d 1 rfl) (isV_fn.2 (fv_ledger_Balance_c1 N (h15.d 0 rfl))) hy16) fun v18 a21 w22 hR19 hk20 h23 => ?_
  clear h15
  have hv24 := isV.weak hR19 hk20
  obtain rfl := isV_int.1 hv24
  refine evalS_ok tabOk h23 1 [4] [] [(4, .v (.int .i64 y16))] [] (by kernel_rfl) fun β25 a26 w27 h28 => ?_
  clear h23
  have h29 : Sb β25 (cx 8 ok w) [(4, .v (.int .i64 y16))] [] [] [] a26 w27 := h28.sel [4] [] []
  clear h28
  refine wpl_end (hq7 _ _ ?_)
  refine wp_ret ?_
  refine hr _ _ ?_
  obtain rfl := Option.some.inj hF17
  exact ret1_ok h29 rfl rfl (isV_int.2 rfl)

theorem c_billinglaw47_LedgerZero {ok : Ok} {w : World} (hok : ∀ b o, ok b o → b < w.heap.size) (N : Nat) {x0 : (List ApiEntry)} {x1 : (List ApiEntry)} {A1 : Option Addr} {c2 : Nat} {A3 : Option Addr} {c4 : Nat} (d0 : isV (rSl rApiEntry) ok w x0 (.slice A1 (List.length x0) c2)) (d1 : isV (rSl rApiEntry) ok w x1 (.slice A3 (List.length x1) c4)) {r : Bool} (hF : billinglaw47_LedgerZero N x0 x1 = some r) :
    Calls Try.prog 5 ⟨[.slice A1 (List.length x0) c2, .slice A3 (List.length x1) c4]⟩ w (Ret w (R1 rBool ok w r)) := by
  rw [billinglaw47_LedgerZero] at hF
  refine enter_ok (n := 67) hok Try.func5 rfl rfl rfl (D := [DF.v (rSl rApiEntry) x0 (.slice A1 (List.length x0) c2), DF.v (rSl rApiEntry) x1 (.slice A3 (List.length x1) c4)]) ⟨d0, d1, trivial⟩ (fun a h => ?_)
  simp only [zipG, Nat.zero_add, Nat.reduceAdd] at h
  refine start_ctx fun Q hn hr => ?_
  refine seq_region tabOk h [0, 1] [] [(0, .v (.slice A1 (List.length x0) c2)), (1, .v (.slice A3 (List.length x1) c4))] [] (by kernel_rfl) fun β5 a6 w7 h8 => ?_
  clear h
  refine seq_ctx fun Q9 hn9 hr9 hx9 => ?_
  obtain ⟨g11, hv12, hF13⟩ := bindE hF
  clear hF
  refine seq_join (J := fun a w' => ∃ β, Sb β (cx 67 ok w) [(0, .v (.slice A1 (List.length x0) c2)), (1, .v (.slice A3 (List.length x1) c4)), (16, .v (.bool g11))] [DF.v (rSl rApiEntry) x0 (.slice A1 (List.length x0) c2), DF.v (rSl rApiEntry) x1 (.slice A3 (List.length x1) c4)] [] [] a w') ?_ ?_
  · skip
    rintro a14 w15 ⟨β16, h17⟩
    refine wp_if h17 rfl (fun hb18 => ?_) (fun hb18 => ?_)
    · skip
      have hF19 := ifT hb18 hF13
      clear hF13
      refine seq_list fun Q20 hq20 => ?_
      obtain ⟨y21, hy21, hF22⟩ := bindE hF19
      clear hF19
      refine step_call h17 rfl rfl runs8 (vs := []) (by kernel_rfl) (c_billinglaw47_awake h17.okLt N hy21) fun v23 a26 w27 hR24 hk25 h28 => ?_
      clear h17
      have hv29 := isV.weak hR24 hk25
      obtain rfl := isV_bool.1 hv29
      refine evalS_ok tabOk h28 1 [4] [] [(4, .v (.bool y21))] [] (by kernel_rfl) fun β30 a31 w32 h33 => ?_
      clear h28
      have h34 : Sb β30 (cx 67 ok w) [(4, .v (.bool y21))] [] [] [] a31 w32 := h33.sel [4] [] []
      clear h33
      refine wpl_end (hq20 _ _ ?_)
      refine wp_ret ?_
      refine hr9 _ _ ?_
      refine hr _ _ ?_
      obtain rfl := Option.some.inj hF22
      exact ret1_ok h34 rfl rfl (isV_bool.2 rfl)
    · skip
      have hF35 := ifF hb18 hF13
      clear hF13
      refine wp_skip ?_
      refine hn9 _ _ ?_
      refine seq_list fun Q36 hq36 => ?_
      refine evalS_ok tabOk h17 1 [0, 1, 18] [] [(0, .v (.slice A1 (List.length x0) c2)), (1, .v (.slice A3 (List.length x1) c4)), (18, .v (.slice A1 (List.length x0) c2))] [] (by kernel_rfl) fun β37 a38 w39 h40 => ?_
      clear h17
      obtain ⟨y41, hy41, hF42⟩ := bindE hF35
      clear hF35
      refine step_callOwn h40 rfl rfl runs14 (vs := [(.slice A1 (List.length x0) c2)]) (by kernel_rfl) rfl (co_billingref47_CloneAll (x0 := x0) h40.okLt N (h40.d 0 rfl) hy41) fun A43 c44 a46 w47 hv45 h48 => ?_
      clear h40
      have h49 := h48.addD (d := DF.v (rSl rApiEntry) y41 (.slice A43 (List.length y41) c44)) hv45
      clear h48
      refine evalS_ok tabOk h49 1 [0, 1, 19, 20] [] [(0, .v (.slice A1 (List.length x0) c2)), (1, .v (.slice A3 (List.length x1) c4)), (19, .v (.slice A43 (List.length y41) c44)), (20, .v (.slice A3 (List.length x1) c4))] [] (by kernel_rfl) fun β50 a51 w52 h53 => ?_
      clear h49
      obtain ⟨y54, hy54, hF55⟩ := bindE hF42
      clear hF42
      refine step_call h53 rfl rfl runs14 (vs := [(.slice A3 (List.length x1) c4)]) (by kernel_rfl) (c_billingref47_CloneAll (x0 := x1) h53.okLt N (h53.d 2 rfl) hy54) fun v56 a59 w60 hR57 hk58 h61 => ?_
      clear h53
      have hv62 := isV.weak hR57 hk58
      obtain ⟨A63, c64, rfl, hs65⟩ := slForm hv62
      have h66 := h61.addD (d := DF.v (rSl rApiEntry) y54 (.slice A63 (List.length y54) c64)) hs65
      clear h61
      obtain ⟨z67, hz67, hF68⟩ := bindE hF55
      clear hF55
      refine step_append tabOk h66 1 0 [] [] rfl rfl (r := rApiEntry) (xs := y41) tb30 rfl tb24 rfl rfl rfl rfl rfl rfl rfl rfl (h66.d 0 rfl) hz67 fun A69 c70 a72 w73 hv71 h74 => ?_
      clear h66
      have h75 := h74.addD (d := DF.v (rSl rApiEntry) z67 (.slice A69 (List.length z67) c70)) hv71
      clear h74
      refine evalS_ok tabOk h75 1 [0, 1, 5] [] [(0, .v (.slice A1 (List.length x0) c2)), (1, .v (.slice A3 (List.length x1) c4)), (5, .v (.slice A69 (List.length z67) c70))] [] (by kernel_rfl) fun β76 a77 w78 h79 => ?_
      clear h75
      have h80 : Sb β76 (cx 67 ok w) [(0, .v (.slice A1 (List.length x0) c2)), (1, .v (.slice A3 (List.length x1) c4)), (5, .v (.slice A69 (List.length z67) c70))] [DF.v (rSl rApiEntry) x0 (.slice A1 (List.length x0) c2), DF.v (rSl rApiEntry) x1 (.slice A3 (List.length x1) c4), DF.v (rSl rApiEntry) z67 (.slice A69 (List.length z67) c70)] [] [⟨.slice A69 (List.length z67) c70, 24, 3⟩] a77 w78 := h79.sel [0, 1, 5] [3, 4, 0] []
      clear h79
      refine wpl_end (hq36 _ _ ?_)
      refine seq_region tabOk h80 [0, 1, 5, 6] [] [(0, .v (.slice A1 (List.length x0) c2)), (1, .v (.slice A3 (List.length x1) c4)), (5, .v (.slice A69 (List.length z67) c70)), (6, .v (.int .i64 0))] [] (by kernel_rfl) fun β81 a82 w83 h84 => ?_
      clear h80
      refine seq_list fun Q85 hq85 => ?_
      refine evalS_ok tabOk h84 1 [0, 1, 6, 23] [] [(0, .v (.slice A1 (List.length x0) c2)), (1, .v (.slice A3 (List.length x1) c4)), (6, .v (.int .i64 0)), (23, .v (.slice A69 (List.length z67) c70))] [] (by kernel_rfl) fun β86 a87 w88 h89 => ?_
      clear h84
      obtain ⟨y90, hy90, hF91⟩ := bindE hF68
      clear hF68
      refine step_call h89 rfl rfl runs17 (vs := [(.slice A69 (List.length z67) c70)]) (by kernel_rfl) (c_ledger_Trial (x0 := z67) h89.okLt N (h89.d 2 rfl) hy90) fun v92 a95 w96 hR93 hk94 h97 => ?_
      clear h89
      have hv98 := isV.weak hR93 hk94
      obtain ⟨A99, c100, rfl, hs101⟩ := slForm hv98
      have h102 := h97.addD (d := DF.v (rSl rApiPost) y90 (.slice A99 (List.length y90) c100)) hs101
      clear h97
      refine evalS_ok tabOk h102 1 [0, 1, 6, 7] [] [(0, .v (.slice A1 (List.length x0) c2)), (1, .v (.slice A3 (List.length x1) c4)), (6, .v (.int .i64 0)), (7, .v (.slice A99 (List.length y90) c100))] [] (by kernel_rfl) fun β103 a104 w105 h106 => ?_
      clear h102
      have h107 : Sb β103 (cx 67 ok w) [(0, .v (.slice A1 (List.length x0) c2)), (1, .v (.slice A3 (List.length x1) c4)), (6, .v (.int .i64 0)), (7, .v (.slice A99 (List.length y90) c100))] [DF.v (rSl rApiEntry) x0 (.slice A1 (List.length x0) c2), DF.v (rSl rApiEntry) x1 (.slice A3 (List.length x1) c4), DF.v (rSl rApiPost) y90 (.slice A99 (List.length y90) c100)] [] [⟨.slice A69 (List.length z67) c70, 24, 3⟩] a104 w105 := h106.sel [0, 1, 6, 7] [1, 2, 0] []
      clear h106
      refine wpl_end (hq85 _ _ ?_)
      refine seq_ctx fun Q108 hn108 hr108 hx108 => ?_
      refine seq_region tabOk h107 [0, 1, 6, 7, 27] [] [(0, .v (.slice A1 (List.length x0) c2)), (1, .v (.slice A3 (List.length x1) c4)), (6, .v (.int .i64 0)), (7, .v (.slice A99 (List.length y90) c100)), (27, .v (.bool (decide ((List.length y90 : Int) > 5120))))] [] (by kernel_rfl) fun β109 a110 w111 h112 => ?_
      clear h107
      refine wp_if h112 rfl (fun hb113 => ?_) (fun hb113 => ?_)
      · skip
        have hF114 := ifT hb113 hF91
        clear hF91
        refine seq_region tabOk h112 [4] [] [(4, .v (.bool false))] [] (by kernel_rfl) fun β115 a116 w117 h118 => ?_
        clear h112
        refine wp_ret ?_
        refine hr108 _ _ ?_
        refine hr _ _ ?_
        obtain rfl := Option.some.inj hF114
        exact ret1_ok h118 rfl rfl (isV_bool.2 rfl)
      · skip
        have hF119 := ifF hb113 hF91
        clear hF91
        refine wp_skip ?_
        refine hn108 _ _ ?_
        refine seq_ctx fun Q120 hn120 hr120 hx120 => ?_
        refine seq_region tabOk h112 [0, 1, 6, 7, 8] [] [(0, .v (.slice A1 (List.length x0) c2)), (1, .v (.slice A3 (List.length x1) c4)), (6, .v (.int .i64 0)), (7, .v (.slice A99 (List.length y90) c100)), (8, .v (.int .i64 0))] [] (by kernel_rfl) fun β121 a122 w123 h124 => ?_
        clear h112
        obtain ⟨out125, hL125, hC125⟩ := bindE hF119
        clear hF119
        have j127 : ∀ a w', (∃ (i126 : Int), (∃ β, Sb β (cx 67 ok w) [(6, .v (.int .i64 i126))] [] [] [] a w') ∧ billinglaw47_LedgerZero_j127 N i126 = some r) → Q120 .normal a w' := by
          rintro a128 w129 ⟨i126, ⟨β130, h131⟩, hF132⟩
          rw [billinglaw47_LedgerZero_j127] at hF132
          refine hn120 _ _ ?_
          obtain ⟨g134, hv135, hF136⟩ := bindE hF132
          clear hF132
          refine seq_join (J := fun a w' => ∃ β, Sb β (cx 67 ok w) [(4, .v (.bool g134))] [] [] [] a w') ?_ ?_
          · skip
            rintro a137 w138 ⟨β139, h140⟩
            refine wp_ret ?_
            refine hr _ _ ?_
            obtain rfl := Option.some.inj hF136
            exact ret1_ok h140 rfl rfl (isV_bool.2 rfl)
          · skip
            refine region_ok ?_
            refine evalS_ok tabOk h131 3 [64] [] [(64, .v (.bool (i126 == 0)))] [] (by kernel_rfl) fun β141 a142 w143 h144 => ?_
            clear h131
            refine bcases (b := (i126 == 0)) (fun hb145 => ?_) (fun hb145 => ?_)
            · skip
              have hv146 := ifT hb145 hv135
              clear hv135
              have h147 := h144.reb (t := 64) rfl hb145
              clear h144
              obtain ⟨y148, hy148, hv149⟩ := bindE hv146
              clear hv146
              refine step_call h147 rfl rfl runs8 (vs := []) (by kernel_rfl) (c_billinglaw47_awake h147.okLt N hy148) fun v150 a153 w154 hR151 hk152 h155 => ?_
              clear h147
              have hv156 := isV.weak hR151 hk152
              obtain rfl := isV_bool.1 hv156
              refine evalS_ok tabOk h155 2 [4] [] [(4, .v (.bool y148))] [] (by kernel_rfl) fun β157 a158 w159 h160 => ?_
              clear h155
              obtain rfl := Option.some.inj hv149
              have h161 : Sb β157 (cx 67 ok w) [(4, .v (.bool y148))] [] [] [] a158 w159 := h160.sel [4] [] []
              clear h160
              exact wpl_end (then_n ⟨_, h161⟩)
            · skip
              have hv162 := ifF hb145 hv135
              clear hv135
              have h163 := h144.reb (t := 64) rfl hb145
              clear h144
              refine evalS_ok tabOk h163 3 [4] [] [(4, .v (.bool false))] [] (by kernel_rfl) fun β164 a165 w166 h167 => ?_
              clear h163
              obtain rfl := Option.some.inj hv162
              have h168 : Sb β164 (cx 67 ok w) [(4, .v (.bool false))] [] [] [] a165 w166 := h167.sel [4] [] []
              clear h167
              exact wpl_end (then_n ⟨_, h168⟩)
        refine block_ctx fun Qb125 hnb125 hrb125 hbb125 hxb125 => ?_
        have h171 : Sb β121 (cx 67 ok w) [(0, .v (.slice A1 (List.length x0) c2)), (1, .v (.slice A3 (List.length x1) c4)), (6, .v (.int .i64 0)), (7, .v (.slice A99 (List.length y90) c100)), (8, .v (.int .i64 0))] [DF.v (rSl rApiEntry) x0 (.slice A1 (List.length x0) c2), DF.v (rSl rApiEntry) x1 (.slice A3 (List.length x1) c4), DF.v (rSl rApiPost) y90 (.slice A99 (List.length y90) c100)] [] [] a122 w123 := (h124.dropO 0).sel [0, 1, 6, 7, 8] [0, 1, 2] []
        refine loop_ctx (fun m a w' => ∃ (i169 : Int) (i170 : Int), (∃ β, Sb β (cx 67 ok w) [(0, .v (.slice A1 (List.length x0) c2)), (1, .v (.slice A3 (List.length x1) c4)), (6, .v (.int .i64 i169)), (7, .v (.slice A99 (List.length y90) c100)), (8, .v (.int .i64 i170))] [DF.v (rSl rApiEntry) x0 (.slice A1 (List.length x0) c2), DF.v (rSl rApiEntry) x1 (.slice A3 (List.length x1) c4), DF.v (rSl rApiPost) y90 (.slice A99 (List.length y90) c100)] [] [] a w') ∧ billinglaw47_LedgerZero_l125 N x0 x1 y90 m i169 i170 = some out125) N ⟨0, 0, ⟨_, h171⟩, hL125⟩ ?_
        rintro Q125 m172 a173 w174 ⟨i169, i170, ⟨β175, h176⟩, hF177⟩ hn125 hr125 hx125
        obtain _ | m172 := m172
        · exact absurd hF177 (by simp [billinglaw47_LedgerZero_l125])
        rw [billinglaw47_LedgerZero_l125] at hF177
        refine seq_ctx fun Q178 hn178 hr178 hx178 => ?_
        refine seq_region tabOk h176 [0, 1, 6, 7, 8, 31] [] [(0, .v (.slice A1 (List.length x0) c2)), (1, .v (.slice A3 (List.length x1) c4)), (6, .v (.int .i64 i169)), (7, .v (.slice A99 (List.length y90) c100)), (8, .v (.int .i64 i170)), (31, .v (.bool (decide (i170 < (List.length y90 : Int)))))] [] (by kernel_rfl) fun β179 a180 w181 h182 => ?_
        clear h176
        refine wp_if h182 rfl (fun hb183 => ?_) (fun hb183 => ?_)
        · skip
          have hF184 := ifT hb183 hF177
          clear hF177
          refine wp_skip ?_
          refine hn178 _ _ ?_
          refine seq_ctx fun Q185 hn185 hr185 hx185 => ?_
          refine block_ctx fun Q186 hn186 hr186 hb186 hx186 => ?_
          refine seq_list fun Q187 hq187 => ?_
          refine evalS_ok tabOk h182 3 [0, 1, 6, 7, 8, 34, 35, 36] [] [(0, .v (.slice A1 (List.length x0) c2)), (1, .v (.slice A3 (List.length x1) c4)), (6, .v (.int .i64 i169)), (7, .v (.slice A99 (List.length y90) c100)), (8, .v (.int .i64 i170)), (34, .v (.int .i64 i169)), (35, .v (.slice A99 (List.length y90) c100)), (36, .v (.int .i64 i170))] [] (by kernel_rfl) fun β188 a189 w190 h191 => ?_
          clear h182
          obtain ⟨x192, hx192, hF193⟩ := bindE hF184
          clear hF184
          refine step_idx tabOk h191 2 rfl rfl rfl rfl rfl hx192 tb22 rfl tb38 rfl fun p194 a195 h196 => ?_
          clear h191
          refine step_field tabOk h196 0 rfl rfl rfl rfl tb38 rfl rfl rfl fun p197 a198 (h199 : Sb β188 _ _ (DF.at (rInt .i64) x192.Amount (p197) :: _) _ _ a198 w190) => ?_
          clear h196
          refine step_load tabOk h199 0 rfl rfl rfl rfl tb3 rfl rfl fun v200 a202 hv201 h203 => ?_
          clear h199
          obtain rfl := isV_int.1 hv201
          refine evalS_ok tabOk h203 2 [0, 1, 6, 7, 8] [] [(0, .v (.slice A1 (List.length x0) c2)), (1, .v (.slice A3 (List.length x1) c4)), (6, .v (.int .i64 (IntKind.wrap .i64 (i169 + x192.Amount)))), (7, .v (.slice A99 (List.length y90) c100)), (8, .v (.int .i64 i170))] [] (by kernel_rfl) fun β204 a205 w206 h207 => ?_
          clear h203
          have h208 : Sb β204 (cx 67 ok w) [(0, .v (.slice A1 (List.length x0) c2)), (1, .v (.slice A3 (List.length x1) c4)), (6, .v (.int .i64 (IntKind.wrap .i64 (i169 + x192.Amount)))), (7, .v (.slice A99 (List.length y90) c100)), (8, .v (.int .i64 i170))] [DF.v (rSl rApiEntry) x0 (.slice A1 (List.length x0) c2), DF.v (rSl rApiEntry) x1 (.slice A3 (List.length x1) c4), DF.v (rSl rApiPost) y90 (.slice A99 (List.length y90) c100)] [] [] a205 w206 := h207.sel [0, 1, 6, 7, 8] [3, 4, 5] []
          clear h207
          refine wpl_end (hq187 _ _ ?_)
          refine seq_draw fun Q209 hq209 => ?_
          obtain ⟨x210, hx210, hF211⟩ := bindE hF193
          clear hF193
          obtain ⟨x212, hx212, hF213⟩ := bindE hF211
          clear hF211
          obtain ⟨y214, hy214, hF215⟩ := bindE hF213
          clear hF213
          obtain ⟨x216, hx216, hF217⟩ := bindE hF215
          clear hF215
          obtain ⟨y218, hy218, hF219⟩ := bindE hF217
          clear hF217
          have h221 : Sb β204 (cx 67 ok w) [(0, .v (.slice A1 (List.length x0) c2)), (1, .v (.slice A3 (List.length x1) c4)), (6, .v (.int .i64 (IntKind.wrap .i64 (i169 + x192.Amount)))), (7, .v (.slice A99 (List.length y90) c100)), (8, .v (.int .i64 i170))] [DF.v (rSl rApiEntry) x0 (.slice A1 (List.length x0) c2), DF.v (rSl rApiEntry) x1 (.slice A3 (List.length x1) c4), DF.v (rSl rApiPost) y90 (.slice A99 (List.length y90) c100)] [] [] a205 w206 := h208.sel [0, 1, 6, 7, 8] [0, 1, 2] []
          refine draw_rule h221 rfl (by kernel_rfl) 21 [41, 42, 43, 44, 45, 46, 47, 48, 49, 50, 51, 52, 53, 54, 55, 56, 57, 58, 59, 60, 61] [FV.eq (.slice A99 (List.length y90) c100), FV.eq (.int .i64 i170), FV.at rApiPost x210, FV.at (rInt .i64) x210.Amount, FV.eq (.int .i64 x210.Amount), FV.eq (.slice A1 (List.length x0) c2), FV.eq (.slice A99 (List.length y90) c100), FV.eq (.int .i64 i170), FV.at rApiPost x212, FV.at rStr x212.Account, FV.eq (strV x212.Account), FV.eq (.int .i64 y214), FV.eq (.slice A3 (List.length x1) c4), FV.eq (.slice A99 (List.length y90) c100), FV.eq (.int .i64 i170), FV.at rApiPost x216, FV.at rStr x216.Account, FV.eq (strV x216.Account), FV.eq (.int .i64 y218), FV.eq (.int .i64 (IntKind.wrap .i64 (y214 + y218))), FV.eq (.bool (x210.Amount != (IntKind.wrap .i64 (y214 + y218))))] rfl rfl rfl (by kernel_rfl) (by kernel_rfl) (by kernel_rfl) (by kernel_rfl) (by kernel_rfl) ?_ ?_
          · skip
            refine ⟨⟨⟨⟨⟨⟨⟨⟨⟨⟨⟨⟨⟨⟨⟨⟨⟨⟨⟨⟨⟨trivial, ?_⟩, ?_⟩, ?_⟩, ?_⟩, ?_⟩, ?_⟩, ?_⟩, ?_⟩, ?_⟩, ?_⟩, ?_⟩, ?_⟩, ?_⟩, ?_⟩, ?_⟩, ?_⟩, ?_⟩, ?_⟩, ?_⟩, ?_⟩, ?_⟩
            · skip
              intro β222 a223 w224 dX225 Ox226 Q227 h228 hq229 hp230 hk231
              refine evalS_ok tabOk h228 1 [0, 1, 6, 7, 8, 41] [] [(0, .v (.slice A1 (List.length x0) c2)), (1, .v (.slice A3 (List.length x1) c4)), (6, .v (.int .i64 (IntKind.wrap .i64 (i169 + x192.Amount)))), (7, .v (.slice A99 (List.length y90) c100)), (8, .v (.int .i64 i170)), (41, .v (.slice A99 (List.length y90) c100))] [] (by kernel_rfl) fun β232 a233 w234 h235 => ?_
              exact wpl_end (hk231 _ _ _ _ (h235.sel [0, 1, 6, 7, 8] [0, 1, 2, 3] []) (h235.getD rfl) rfl)
            · skip
              intro β236 a237 w238 dX239 Ox240 Q241 h242 hq243 hp244 hk245
              refine evalS_ok tabOk h242 1 [0, 1, 6, 7, 8, 42] [] [(0, .v (.slice A1 (List.length x0) c2)), (1, .v (.slice A3 (List.length x1) c4)), (6, .v (.int .i64 (IntKind.wrap .i64 (i169 + x192.Amount)))), (7, .v (.slice A99 (List.length y90) c100)), (8, .v (.int .i64 i170)), (42, .v (.int .i64 i170))] [] (by kernel_rfl) fun β246 a247 w248 h249 => ?_
              exact wpl_end (hk245 _ _ _ _ (h249.sel [0, 1, 6, 7, 8] [0, 1, 2, 3] []) (h249.getD rfl) rfl)
            · skip
              intro β250 a251 w252 dX253 Ox254 Q255 h256 hq257 hp258 hk259
              have h260 := h256.learnE (d := 41) rfl (hp258 0 41 _ rfl rfl rfl)
              clear h256
              have h261 := h260.learnE (d := 42) rfl (hp258 1 42 _ rfl rfl rfl)
              clear h260
              refine step_idx tabOk h261 3 rfl rfl rfl rfl rfl hx210 tb22 rfl tb38 rfl fun p262 a263 h264 => ?_
              clear h261
              exact wpl_end (hk259 _ _ _ _ (h264.sel [0, 1, 6, 7, 8] [1, 2, 3, 4] []) (h264.getA rfl (h264.d 0 rfl)) rfl)
            · skip
              intro β265 a266 w267 dX268 Ox269 Q270 h271 hq272 hp273 hk274
              have h275 := h271.learn (d := 43) rfl
              clear h271
              have f276 := hp273 2 43 _ rfl rfl rfl
              generalize a266.tmps.getD 43 undef = v277 at h275 f276
              have h278 := h275.addD (d := DF.at rApiPost x210 (v277)) f276
              clear h275
              refine step_field tabOk h278 0 rfl rfl rfl rfl tb38 rfl rfl rfl fun p279 a280 (h281 : Sb β265 _ _ (DF.at (rInt .i64) x210.Amount (p279) :: _) _ _ a280 w267) => ?_
              clear h278
              exact wpl_end (hk274 _ _ _ _ (h281.sel [0, 1, 6, 7, 8] [2, 3, 4, 5] []) (h281.getA rfl (h281.d 0 rfl)) rfl)
            · skip
              intro β282 a283 w284 dX285 Ox286 Q287 h288 hq289 hp290 hk291
              have h292 := h288.learn (d := 44) rfl
              clear h288
              have f293 := hp290 3 44 _ rfl rfl rfl
              generalize a283.tmps.getD 44 undef = v294 at h292 f293
              have h295 := h292.addD (d := DF.at (rInt .i64) x210.Amount (v294)) f293
              clear h292
              refine step_load tabOk h295 0 rfl rfl rfl rfl tb3 rfl rfl fun v296 a298 hv297 h299 => ?_
              clear h295
              obtain rfl := isV_int.1 hv297
              exact wpl_end (hk291 _ _ _ _ (h299.sel [0, 1, 6, 7, 8] [2, 3, 4, 5] []) (h299.getD rfl) rfl)
            · skip
              intro β300 a301 w302 dX303 Ox304 Q305 h306 hq307 hp308 hk309
              refine evalS_ok tabOk h306 1 [0, 1, 6, 7, 8, 46] [] [(0, .v (.slice A1 (List.length x0) c2)), (1, .v (.slice A3 (List.length x1) c4)), (6, .v (.int .i64 (IntKind.wrap .i64 (i169 + x192.Amount)))), (7, .v (.slice A99 (List.length y90) c100)), (8, .v (.int .i64 i170)), (46, .v (.slice A1 (List.length x0) c2))] [] (by kernel_rfl) fun β310 a311 w312 h313 => ?_
              exact wpl_end (hk309 _ _ _ _ (h313.sel [0, 1, 6, 7, 8] [0, 1, 2, 3] []) (h313.getD rfl) rfl)
            · skip
              intro β314 a315 w316 dX317 Ox318 Q319 h320 hq321 hp322 hk323
              refine evalS_ok tabOk h320 1 [0, 1, 6, 7, 8, 47] [] [(0, .v (.slice A1 (List.length x0) c2)), (1, .v (.slice A3 (List.length x1) c4)), (6, .v (.int .i64 (IntKind.wrap .i64 (i169 + x192.Amount)))), (7, .v (.slice A99 (List.length y90) c100)), (8, .v (.int .i64 i170)), (47, .v (.slice A99 (List.length y90) c100))] [] (by kernel_rfl) fun β324 a325 w326 h327 => ?_
              exact wpl_end (hk323 _ _ _ _ (h327.sel [0, 1, 6, 7, 8] [0, 1, 2, 3] []) (h327.getD rfl) rfl)
            · skip
              intro β328 a329 w330 dX331 Ox332 Q333 h334 hq335 hp336 hk337
              refine evalS_ok tabOk h334 1 [0, 1, 6, 7, 8, 48] [] [(0, .v (.slice A1 (List.length x0) c2)), (1, .v (.slice A3 (List.length x1) c4)), (6, .v (.int .i64 (IntKind.wrap .i64 (i169 + x192.Amount)))), (7, .v (.slice A99 (List.length y90) c100)), (8, .v (.int .i64 i170)), (48, .v (.int .i64 i170))] [] (by kernel_rfl) fun β338 a339 w340 h341 => ?_
              exact wpl_end (hk337 _ _ _ _ (h341.sel [0, 1, 6, 7, 8] [0, 1, 2, 3] []) (h341.getD rfl) rfl)
            · skip
              intro β342 a343 w344 dX345 Ox346 Q347 h348 hq349 hp350 hk351
              have h352 := h348.learnE (d := 47) rfl (hp350 6 47 _ rfl rfl rfl)
              clear h348
              have h353 := h352.learnE (d := 48) rfl (hp350 7 48 _ rfl rfl rfl)
              clear h352
              refine step_idx tabOk h353 3 rfl rfl rfl rfl rfl hx212 tb22 rfl tb38 rfl fun p354 a355 h356 => ?_
              clear h353
              exact wpl_end (hk351 _ _ _ _ (h356.sel [0, 1, 6, 7, 8] [1, 2, 3, 4] []) (h356.getA rfl (h356.d 0 rfl)) rfl)
            · skip
              intro β357 a358 w359 dX360 Ox361 Q362 h363 hq364 hp365 hk366
              have h367 := h363.learn (d := 49) rfl
              clear h363
              have f368 := hp365 8 49 _ rfl rfl rfl
              generalize a358.tmps.getD 49 undef = v369 at h367 f368
              have h370 := h367.addD (d := DF.at rApiPost x212 (v369)) f368
              clear h367
              refine step_field tabOk h370 0 rfl rfl rfl rfl tb38 rfl rfl rfl fun p371 a372 (h373 : Sb β357 _ _ (DF.at rStr x212.Account (p371) :: _) _ _ a372 w359) => ?_
              clear h370
              exact wpl_end (hk366 _ _ _ _ (h373.sel [0, 1, 6, 7, 8] [2, 3, 4, 5] []) (h373.getA rfl (h373.d 0 rfl)) rfl)
            · skip
              intro β374 a375 w376 dX377 Ox378 Q379 h380 hq381 hp382 hk383
              have h384 := h380.learn (d := 50) rfl
              clear h380
              have f385 := hp382 9 50 _ rfl rfl rfl
              generalize a375.tmps.getD 50 undef = v386 at h384 f385
              have h387 := h384.addD (d := DF.at rStr x212.Account (v386)) f385
              clear h384
              refine step_load tabOk h387 0 rfl rfl rfl rfl tb9 rfl rfl fun v388 a390 hv389 h391 => ?_
              clear h387
              obtain rfl := isV_str.1 hv389
              exact wpl_end (hk383 _ _ _ _ (h391.sel [0, 1, 6, 7, 8] [2, 3, 4, 5] []) (h391.getD rfl) rfl)
            · skip
              intro β392 a393 w394 dX395 Ox396 Q397 h398 hq399 hp400 hk401
              have h402 := h398.learnE (d := 46) rfl (hp400 5 46 _ rfl rfl rfl)
              clear h398
              have h403 := h402.learnE (d := 51) rfl (hp400 10 51 _ rfl rfl rfl)
              clear h402
              refine step_call h403 rfl rfl runs13 (vs := [(.slice A1 (List.length x0) c2), (strV x212.Account)]) (by kernel_rfl) (c_ledger_Balance (x0 := x0) (x1 := x212.Account) h403.okLt N (h403.d 1 rfl) hy214) fun v404 a407 w408 hR405 hk406 h409 => ?_
              clear h403
              have hv410 := isV.weak hR405 hk406
              obtain rfl := isV_int.1 hv410
              exact wpl_end (hk401 _ _ _ _ (h409.sel [0, 1, 6, 7, 8] [0, 1, 2, 3] []) (h409.getD rfl) rfl)
            · skip
              intro β411 a412 w413 dX414 Ox415 Q416 h417 hq418 hp419 hk420
              refine evalS_ok tabOk h417 1 [0, 1, 6, 7, 8, 53] [] [(0, .v (.slice A1 (List.length x0) c2)), (1, .v (.slice A3 (List.length x1) c4)), (6, .v (.int .i64 (IntKind.wrap .i64 (i169 + x192.Amount)))), (7, .v (.slice A99 (List.length y90) c100)), (8, .v (.int .i64 i170)), (53, .v (.slice A3 (List.length x1) c4))] [] (by kernel_rfl) fun β421 a422 w423 h424 => ?_
              exact wpl_end (hk420 _ _ _ _ (h424.sel [0, 1, 6, 7, 8] [0, 1, 2, 3] []) (h424.getD rfl) rfl)
            · skip
              intro β425 a426 w427 dX428 Ox429 Q430 h431 hq432 hp433 hk434
              refine evalS_ok tabOk h431 1 [0, 1, 6, 7, 8, 54] [] [(0, .v (.slice A1 (List.length x0) c2)), (1, .v (.slice A3 (List.length x1) c4)), (6, .v (.int .i64 (IntKind.wrap .i64 (i169 + x192.Amount)))), (7, .v (.slice A99 (List.length y90) c100)), (8, .v (.int .i64 i170)), (54, .v (.slice A99 (List.length y90) c100))] [] (by kernel_rfl) fun β435 a436 w437 h438 => ?_
              exact wpl_end (hk434 _ _ _ _ (h438.sel [0, 1, 6, 7, 8] [0, 1, 2, 3] []) (h438.getD rfl) rfl)
            · skip
              intro β439 a440 w441 dX442 Ox443 Q444 h445 hq446 hp447 hk448
              refine evalS_ok tabOk h445 1 [0, 1, 6, 7, 8, 55] [] [(0, .v (.slice A1 (List.length x0) c2)), (1, .v (.slice A3 (List.length x1) c4)), (6, .v (.int .i64 (IntKind.wrap .i64 (i169 + x192.Amount)))), (7, .v (.slice A99 (List.length y90) c100)), (8, .v (.int .i64 i170)), (55, .v (.int .i64 i170))] [] (by kernel_rfl) fun β449 a450 w451 h452 => ?_
              exact wpl_end (hk448 _ _ _ _ (h452.sel [0, 1, 6, 7, 8] [0, 1, 2, 3] []) (h452.getD rfl) rfl)
            · skip
              intro β453 a454 w455 dX456 Ox457 Q458 h459 hq460 hp461 hk462
              have h463 := h459.learnE (d := 54) rfl (hp461 13 54 _ rfl rfl rfl)
              clear h459
              have h464 := h463.learnE (d := 55) rfl (hp461 14 55 _ rfl rfl rfl)
              clear h463
              refine step_idx tabOk h464 3 rfl rfl rfl rfl rfl hx216 tb22 rfl tb38 rfl fun p465 a466 h467 => ?_
              clear h464
              exact wpl_end (hk462 _ _ _ _ (h467.sel [0, 1, 6, 7, 8] [1, 2, 3, 4] []) (h467.getA rfl (h467.d 0 rfl)) rfl)
            · skip
              intro β468 a469 w470 dX471 Ox472 Q473 h474 hq475 hp476 hk477
              have h478 := h474.learn (d := 56) rfl
              clear h474
              have f479 := hp476 15 56 _ rfl rfl rfl
              generalize a469.tmps.getD 56 undef = v480 at h478 f479
              have h481 := h478.addD (d := DF.at rApiPost x216 (v480)) f479
              clear h478
              refine step_field tabOk h481 0 rfl rfl rfl rfl tb38 rfl rfl rfl fun p482 a483 (h484 : Sb β468 _ _ (DF.at rStr x216.Account (p482) :: _) _ _ a483 w470) => ?_
              clear h481
              exact wpl_end (hk477 _ _ _ _ (h484.sel [0, 1, 6, 7, 8] [2, 3, 4, 5] []) (h484.getA rfl (h484.d 0 rfl)) rfl)
            · skip
              intro β485 a486 w487 dX488 Ox489 Q490 h491 hq492 hp493 hk494
              have h495 := h491.learn (d := 57) rfl
              clear h491
              have f496 := hp493 16 57 _ rfl rfl rfl
              generalize a486.tmps.getD 57 undef = v497 at h495 f496
              have h498 := h495.addD (d := DF.at rStr x216.Account (v497)) f496
              clear h495
              refine step_load tabOk h498 0 rfl rfl rfl rfl tb9 rfl rfl fun v499 a501 hv500 h502 => ?_
              clear h498
              obtain rfl := isV_str.1 hv500
              exact wpl_end (hk494 _ _ _ _ (h502.sel [0, 1, 6, 7, 8] [2, 3, 4, 5] []) (h502.getD rfl) rfl)
            · skip
              intro β503 a504 w505 dX506 Ox507 Q508 h509 hq510 hp511 hk512
              have h513 := h509.learnE (d := 53) rfl (hp511 12 53 _ rfl rfl rfl)
              clear h509
              have h514 := h513.learnE (d := 58) rfl (hp511 17 58 _ rfl rfl rfl)
              clear h513
              refine step_call h514 rfl rfl runs13 (vs := [(.slice A3 (List.length x1) c4), (strV x216.Account)]) (by kernel_rfl) (c_ledger_Balance (x0 := x1) (x1 := x216.Account) h514.okLt N (h514.d 2 rfl) hy218) fun v515 a518 w519 hR516 hk517 h520 => ?_
              clear h514
              have hv521 := isV.weak hR516 hk517
              obtain rfl := isV_int.1 hv521
              exact wpl_end (hk512 _ _ _ _ (h520.sel [0, 1, 6, 7, 8] [0, 1, 2, 3] []) (h520.getD rfl) rfl)
            · skip
              intro β522 a523 w524 dX525 Ox526 Q527 h528 hq529 hp530 hk531
              have h532 := h528.learnE (d := 52) rfl (hp530 11 52 _ rfl rfl rfl)
              clear h528
              have h533 := h532.learnE (d := 59) rfl (hp530 18 59 _ rfl rfl rfl)
              clear h532
              refine evalS_ok tabOk h533 1 [0, 1, 6, 7, 8, 60] [] [(0, .v (.slice A1 (List.length x0) c2)), (1, .v (.slice A3 (List.length x1) c4)), (6, .v (.int .i64 (IntKind.wrap .i64 (i169 + x192.Amount)))), (7, .v (.slice A99 (List.length y90) c100)), (8, .v (.int .i64 i170)), (60, .v (.int .i64 (IntKind.wrap .i64 (y214 + y218))))] [] (by kernel_rfl) fun β534 a535 w536 h537 => ?_
              exact wpl_end (hk531 _ _ _ _ (h537.sel [0, 1, 6, 7, 8] [0, 1, 2, 3] []) (h537.getD rfl) rfl)
            · skip
              intro β538 a539 w540 dX541 Ox542 Q543 h544 hq545 hp546 hk547
              have h548 := h544.learnE (d := 45) rfl (hp546 4 45 _ rfl rfl rfl)
              clear h544
              have h549 := h548.learnE (d := 60) rfl (hp546 19 60 _ rfl rfl rfl)
              clear h548
              refine evalS_ok tabOk h549 1 [0, 1, 6, 7, 8, 61] [] [(0, .v (.slice A1 (List.length x0) c2)), (1, .v (.slice A3 (List.length x1) c4)), (6, .v (.int .i64 (IntKind.wrap .i64 (i169 + x192.Amount)))), (7, .v (.slice A99 (List.length y90) c100)), (8, .v (.int .i64 i170)), (61, .v (.bool (x210.Amount != (IntKind.wrap .i64 (y214 + y218)))))] [] (by kernel_rfl) fun β550 a551 w552 h553 => ?_
              exact wpl_end (hk547 _ _ _ _ (h553.sel [0, 1, 6, 7, 8] [0, 1, 2, 3] []) (h553.getD rfl) rfl)
          · skip
            intro β554 a555 w556 h557 ha558
            have h559 := h557.learnE (d := 61) rfl (ha558 20 61 _ rfl rfl)
            clear h557
            have h560 := h559.unpin rfl
            clear h559
            have h561 : Sb β554 (cx 67 ok w) [(0, .v (.slice A1 (List.length x0) c2)), (1, .v (.slice A3 (List.length x1) c4)), (6, .v (.int .i64 (IntKind.wrap .i64 (i169 + x192.Amount)))), (7, .v (.slice A99 (List.length y90) c100)), (8, .v (.int .i64 i170)), (61, .v (.bool (x210.Amount != (IntKind.wrap .i64 (y214 + y218)))))] [DF.v (rSl rApiEntry) x0 (.slice A1 (List.length x0) c2), DF.v (rSl rApiEntry) x1 (.slice A3 (List.length x1) c4), DF.v (rSl rApiPost) y90 (.slice A99 (List.length y90) c100)] [] [] a555 w556 := h560.sel [0, 1, 6, 7, 8, 61] [0, 1, 2] []
            clear h560
            refine wpl_end (hq209 _ _ ?_)
            refine wp_if h561 rfl (fun hb562 => ?_) (fun hb562 => ?_)
            · skip
              have hF563 := ifT hb562 hF219
              clear hF219
              refine seq_region tabOk h561 [4] [] [(4, .v (.bool false))] [] (by kernel_rfl) fun β564 a565 w566 h567 => ?_
              clear h561
              refine wp_ret ?_
              refine hr186 _ _ ?_
              refine hr185 _ _ ?_
              refine hr125 _ _ ?_
              refine hrb125 _ _ ?_
              refine hr120 _ _ ?_
              refine hr _ _ ?_
              obtain rfl := Option.some.inj hF563
              obtain rfl := Option.some.inj hC125
              exact ret1_ok h567 rfl rfl (isV_bool.2 rfl)
            · skip
              have hF568 := ifF hb562 hF219
              clear hF219
              refine wp_skip ?_
              refine hn186 _ _ ?_
              refine hn185 _ _ ?_
              refine evalR_ok tabOk h561 [0, 1, 6, 7, 8] [] [(0, .v (.slice A1 (List.length x0) c2)), (1, .v (.slice A3 (List.length x1) c4)), (6, .v (.int .i64 (IntKind.wrap .i64 (i169 + x192.Amount)))), (7, .v (.slice A99 (List.length y90) c100)), (8, .v (.int .i64 (IntKind.wrap .i64 (i170 + 1))))] [] (by kernel_rfl) fun β569 a570 w571 h572 => ?_
              clear h561
              have h573 : Sb β569 (cx 67 ok w) [(0, .v (.slice A1 (List.length x0) c2)), (1, .v (.slice A3 (List.length x1) c4)), (6, .v (.int .i64 (IntKind.wrap .i64 (i169 + x192.Amount)))), (7, .v (.slice A99 (List.length y90) c100)), (8, .v (.int .i64 (IntKind.wrap .i64 (i170 + 1))))] [DF.v (rSl rApiEntry) x0 (.slice A1 (List.length x0) c2), DF.v (rSl rApiEntry) x1 (.slice A3 (List.length x1) c4), DF.v (rSl rApiPost) y90 (.slice A99 (List.length y90) c100)] [] [] a570 w571 := (h572).sel [0, 1, 6, 7, 8] [0, 1, 2] []
              exact hn125 _ _ _ (Nat.lt_succ_self _) ⟨(IntKind.wrap .i64 (i169 + x192.Amount)), (IntKind.wrap .i64 (i170 + 1)), ⟨_, h573⟩, hF568⟩
        · skip
          have hF574 := ifF hb183 hF177
          clear hF177
          refine wp_exit ?_
          refine hx178 0 _ _ ?_
          refine hx125 0 _ _ ?_
          refine hbb125 _ _ ?_
          obtain rfl := Option.some.inj hF574
          have h575 : Sb β179 (cx 67 ok w) [(6, .v (.int .i64 i169))] [] [] [] a180 w181 := (h182).sel [6] [] []
          exact j127 _ _ ⟨i169, ⟨_, h575⟩, hC125⟩
  · skip
    refine region_ok ?_
    refine evalS_ok tabOk h8 1 [0, 1, 9] [] [(0, .v (.slice A1 (List.length x0) c2)), (1, .v (.slice A3 (List.length x1) c4)), (9, .v (.slice A1 (List.length x0) c2))] [] (by kernel_rfl) fun β577 a578 w579 h580 => ?_
    clear h8
    obtain ⟨y581, hy581, hv582⟩ := bindE hv12
    clear hv12
    refine step_call h580 rfl rfl runs12 (vs := [(.slice A1 (List.length x0) c2), (.int .i64 40)]) (by kernel_rfl) (c_billingref47_ValidAll (x0 := x0) (x1 := 40) h580.okLt N (h580.d 0 rfl) hy581) fun v583 a586 w587 hR584 hk585 h588 => ?_
    clear h580
    have hv589 := isV.weak hR584 hk585
    obtain rfl := isV_bool.1 hv589
    refine evalS_ok tabOk h588 2 [0, 1, 12] [] [(0, .v (.slice A1 (List.length x0) c2)), (1, .v (.slice A3 (List.length x1) c4)), (12, .v (.bool (!y581)))] [] (by kernel_rfl) fun β590 a591 w592 h593 => ?_
    clear h588
    refine bcases (b := (!y581)) (fun hb594 => ?_) (fun hb594 => ?_)
    · skip
      have hv595 := ifT hb594 hv582
      clear hv582
      have h596 := h593.reb (t := 12) rfl hb594
      clear h593
      refine evalS_ok tabOk h596 4 [0, 1, 16] [] [(0, .v (.slice A1 (List.length x0) c2)), (1, .v (.slice A3 (List.length x1) c4)), (16, .v (.bool true))] [] (by kernel_rfl) fun β597 a598 w599 h600 => ?_
      clear h596
      obtain rfl := Option.some.inj hv595
      have h601 : Sb β597 (cx 67 ok w) [(0, .v (.slice A1 (List.length x0) c2)), (1, .v (.slice A3 (List.length x1) c4)), (16, .v (.bool true))] [DF.v (rSl rApiEntry) x0 (.slice A1 (List.length x0) c2), DF.v (rSl rApiEntry) x1 (.slice A3 (List.length x1) c4)] [] [] a598 w599 := h600.sel [0, 1, 16] [0, 1] []
      clear h600
      exact wpl_end (then_n ⟨_, h601⟩)
    · skip
      have hv602 := ifF hb594 hv582
      clear hv582
      have h603 := h593.reb (t := 12) rfl hb594
      clear h593
      refine evalS_ok tabOk h603 1 [0, 1, 12, 13] [] [(0, .v (.slice A1 (List.length x0) c2)), (1, .v (.slice A3 (List.length x1) c4)), (12, .v (.bool false)), (13, .v (.slice A3 (List.length x1) c4))] [] (by kernel_rfl) fun β604 a605 w606 h607 => ?_
      clear h603
      obtain ⟨y608, hy608, hv609⟩ := bindE hv602
      clear hv602
      refine step_call h607 rfl rfl runs12 (vs := [(.slice A3 (List.length x1) c4), (.int .i64 40)]) (by kernel_rfl) (c_billingref47_ValidAll (x0 := x1) (x1 := 40) h607.okLt N (h607.d 1 rfl) hy608) fun v610 a613 w614 hR611 hk612 h615 => ?_
      clear h607
      have hv616 := isV.weak hR611 hk612
      obtain rfl := isV_bool.1 hv616
      refine evalS_ok tabOk h615 2 [0, 1, 16] [] [(0, .v (.slice A1 (List.length x0) c2)), (1, .v (.slice A3 (List.length x1) c4)), (16, .v (.bool (!y608)))] [] (by kernel_rfl) fun β617 a618 w619 h620 => ?_
      clear h615
      obtain rfl := Option.some.inj hv609
      have h621 : Sb β617 (cx 67 ok w) [(0, .v (.slice A1 (List.length x0) c2)), (1, .v (.slice A3 (List.length x1) c4)), (16, .v (.bool (!y608)))] [DF.v (rSl rApiEntry) x0 (.slice A1 (List.length x0) c2), DF.v (rSl rApiEntry) x1 (.slice A3 (List.length x1) c4)] [] [] a618 w619 := h620.sel [0, 1, 16] [0, 1] []
      clear h620
      exact wpl_end (then_n ⟨_, h621⟩)

end Gd

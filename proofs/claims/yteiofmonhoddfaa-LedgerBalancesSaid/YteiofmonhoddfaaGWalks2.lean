/- The walks, part 3. -/
import Derived.Test.YteiofmonhoddfaaGWalks1
namespace Gd
open Go Go.Proofs
set_option linter.unusedVariables false
set_option linter.unusedSimpArgs false
theorem co_billingref47_Nonzero {ok : Ok} {w : World} (hok : ∀ b o, ok b o → b < w.heap.size) (N : Nat) {x0 : (List ApiPost)} {A1 : Option Addr} {c2 : Nat} (d0 : isV (rSl rApiPost) ok w x0 (.slice A1 (List.length x0) c2)) {r : (List ApiPost)} (hF : billingref47_Nonzero N x0 = some r) :
    Calls Try.prog 36 ⟨[.slice A1 (List.length x0) c2]⟩ w (Ret w (R1o (rSl rApiPost) 38 2 ok w r)) := by
  rw [billingref47_Nonzero] at hF
  refine enter_ok (n := 26) hok Try.func36 rfl rfl rfl (D := [DF.v (rSl rApiPost) x0 (.slice A1 (List.length x0) c2)]) ⟨d0, trivial⟩ (fun a h => ?_)
  simp only [zipG, Nat.zero_add, Nat.reduceAdd] at h
  refine start_ctx fun Q hn hr => ?_
  refine seq_region tabOk h [0] [] [(0, .v (.slice A1 (List.length x0) c2))] [] (by kernel_rfl) fun β3 a4 w5 h6 => ?_
  clear h
  refine seq_list fun Q7 hq7 => ?_
  refine step_buildOwn0 tabOk h6 rfl rfl (r := rApiPost) tb22 rfl tb38 fun b14 a11 w12 hv10 h13 => ?_
  clear h6
  have h15 := h13.addD (d := DF.v (rSl rApiPost) ([] : List ApiPost) (.slice (some ⟨b14, 0, none⟩) (List.length ([] : List ApiPost)) 0)) hv10
  clear h13
  refine evalS_ok tabOk h15 1 [0, 3] [] [(0, .v (.slice A1 (List.length x0) c2)), (3, .v (.slice (some ⟨b14, 0, none⟩) (List.length ([] : List ApiPost)) 0))] [] (by kernel_rfl) fun β16 a17 w18 h19 => ?_
  clear h15
  have h20 : Sb β16 (cx 26 ok w) [(0, .v (.slice A1 (List.length x0) c2)), (3, .v (.slice (some ⟨b14, 0, none⟩) (List.length ([] : List ApiPost)) 0))] [DF.v (rSl rApiPost) x0 (.slice A1 (List.length x0) c2), DF.v (rSl rApiPost) ([] : List ApiPost) (.slice (some ⟨b14, 0, none⟩) (List.length ([] : List ApiPost)) 0)] [] [⟨.slice (some ⟨b14, 0, none⟩) (List.length ([] : List ApiPost)) 0, 38, 2⟩] a17 w18 := h19.sel [0, 3] [1, 0] []
  clear h19
  refine wpl_end (hq7 _ _ ?_)
  refine seq_ctx fun Q21 hn21 hr21 hx21 => ?_
  refine seq_region tabOk h20 [0, 3, 4] [] [(0, .v (.slice A1 (List.length x0) c2)), (3, .v (.slice (some ⟨b14, 0, none⟩) (List.length ([] : List ApiPost)) 0)), (4, .v (.int .i64 0))] [] (by kernel_rfl) fun β22 a23 w24 h25 => ?_
  clear h20
  obtain ⟨out26, hL26, hC26⟩ := bindE hF
  clear hF
  have j30 : ∀ a w', (∃ (l27 : List ApiPost) (A28 : Option Addr) (c29 : Nat), (∃ β, Sb β (cx 26 ok w) [(3, .v (.slice A28 (List.length l27) c29))] [DF.v (rSl rApiPost) l27 (.slice A28 (List.length l27) c29)] [] [⟨.slice A28 (List.length l27) c29, 38, 2⟩] a w') ∧ billingref47_Nonzero_j30 N l27 = some r) → Q21 .normal a w' := by
    rintro a31 w32 ⟨l27, A28, c29, ⟨β33, h34⟩, hF35⟩
    rw [billingref47_Nonzero_j30] at hF35
    refine hn21 _ _ ?_
    refine seq_region tabOk h34 [2] [] [(2, .v (.slice A28 (List.length l27) c29))] [] (by kernel_rfl) fun β36 a37 w38 h39 => ?_
    clear h34
    refine wp_ret ?_
    refine hr _ _ ?_
    obtain rfl := Option.some.inj hF35
    exact ret1_ok h39 rfl rfl (own_out h39 hok (.head _) (h39.d 0 rfl))
  refine block_ctx fun Qb26 hnb26 hrb26 hbb26 hxb26 => ?_
  have h44 : Sb β22 (cx 26 ok w) [(0, .v (.slice A1 (List.length x0) c2)), (3, .v (.slice (some ⟨b14, 0, none⟩) (List.length ([] : List ApiPost)) 0)), (4, .v (.int .i64 0))] [DF.v (rSl rApiPost) x0 (.slice A1 (List.length x0) c2), DF.v (rSl rApiPost) ([] : List ApiPost) (.slice (some ⟨b14, 0, none⟩) (List.length ([] : List ApiPost)) 0)] [] [⟨.slice (some ⟨b14, 0, none⟩) (List.length ([] : List ApiPost)) 0, 38, 2⟩] a23 w24 := (h25).sel [0, 3, 4] [0, 1] []
  refine loop_ctx (fun m a w' => ∃ (l40 : List ApiPost) (i43 : Int) (A41 : Option Addr) (c42 : Nat), (∃ β, Sb β (cx 26 ok w) [(0, .v (.slice A1 (List.length x0) c2)), (3, .v (.slice A41 (List.length l40) c42)), (4, .v (.int .i64 i43))] [DF.v (rSl rApiPost) x0 (.slice A1 (List.length x0) c2), DF.v (rSl rApiPost) l40 (.slice A41 (List.length l40) c42)] [] [⟨.slice A41 (List.length l40) c42, 38, 2⟩] a w') ∧ billingref47_Nonzero_l26 N x0 m l40 i43 = some out26) N ⟨([] : List ApiPost), 0, (some ⟨b14, 0, none⟩), 0, ⟨_, h44⟩, hL26⟩ ?_
  rintro Q26 m45 a46 w47 ⟨l40, i43, A41, c42, ⟨β48, h49⟩, hF50⟩ hn26 hr26 hx26
  obtain _ | m45 := m45
  · exact absurd hF50 (by simp [billingref47_Nonzero_l26])
  rw [billingref47_Nonzero_l26] at hF50
  refine seq_ctx fun Q51 hn51 hr51 hx51 => ?_
  refine seq_region tabOk h49 [0, 3, 4, 9] [] [(0, .v (.slice A1 (List.length x0) c2)), (3, .v (.slice A41 (List.length l40) c42)), (4, .v (.int .i64 i43)), (9, .v (.bool (decide (i43 < (List.length x0 : Int)))))] [] (by kernel_rfl) fun β52 a53 w54 h55 => ?_
  clear h49
  refine wp_if h55 rfl (fun hb56 => ?_) (fun hb56 => ?_)
  · skip
    have hF57 := ifT hb56 hF50
    clear hF50
    refine wp_skip ?_
    refine hn51 _ _ ?_
    refine seq_ctx fun Q58 hn58 hr58 hx58 => ?_
    refine block_ctx fun Q59 hn59 hr59 hb59 hx59 => ?_
    refine seq_list fun Q60 hq60 => ?_
    refine evalS_ok tabOk h55 2 [0, 3, 4, 12, 13] [] [(0, .v (.slice A1 (List.length x0) c2)), (3, .v (.slice A41 (List.length l40) c42)), (4, .v (.int .i64 i43)), (12, .v (.slice A1 (List.length x0) c2)), (13, .v (.int .i64 i43))] [] (by kernel_rfl) fun β61 a62 w63 h64 => ?_
    clear h55
    obtain ⟨x65, hx65, hF66⟩ := bindE hF57
    clear hF57
    refine step_idx tabOk h64 0 rfl rfl rfl rfl rfl hx65 tb22 rfl tb38 rfl fun p67 a68 h69 => ?_
    clear h64
    refine step_field tabOk h69 0 rfl rfl rfl rfl tb38 rfl rfl rfl fun p70 a71 (h72 : Sb β61 _ _ (DF.at (rInt .i64) x65.Amount (p70) :: _) _ _ a71 w63) => ?_
    clear h69
    refine step_load tabOk h72 0 rfl rfl rfl rfl tb3 rfl rfl fun v73 a75 hv74 h76 => ?_
    clear h72
    obtain rfl := isV_int.1 hv74
    refine evalS_ok tabOk h76 1 [0, 3, 4, 17] [] [(0, .v (.slice A1 (List.length x0) c2)), (3, .v (.slice A41 (List.length l40) c42)), (4, .v (.int .i64 i43)), (17, .v (.bool (x65.Amount != 0)))] [] (by kernel_rfl) fun β77 a78 w79 h80 => ?_
    clear h76
    have h81 : Sb β77 (cx 26 ok w) [(0, .v (.slice A1 (List.length x0) c2)), (3, .v (.slice A41 (List.length l40) c42)), (4, .v (.int .i64 i43)), (17, .v (.bool (x65.Amount != 0)))] [DF.v (rSl rApiPost) x0 (.slice A1 (List.length x0) c2), DF.v (rSl rApiPost) l40 (.slice A41 (List.length l40) c42)] [] [⟨.slice A41 (List.length l40) c42, 38, 2⟩] a78 w79 := h80.sel [0, 3, 4, 17] [3, 4] []
    clear h80
    refine wpl_end (hq60 _ _ ?_)
    refine wp_if h81 rfl (fun hb82 => ?_) (fun hb82 => ?_)
    · skip
      have hF83 := ifT hb82 hF66
      clear hF66
      refine region_ok ?_
      refine evalS_ok tabOk h81 3 [0, 3, 4, 18, 19, 20] [] [(0, .v (.slice A1 (List.length x0) c2)), (3, .v (.slice A41 (List.length l40) c42)), (4, .v (.int .i64 i43)), (18, .v (.slice A41 (List.length l40) c42)), (19, .v (.slice A1 (List.length x0) c2)), (20, .v (.int .i64 i43))] [] (by kernel_rfl) fun β85 a86 w87 h88 => ?_
      clear h81
      obtain ⟨x89, hx89, hF90⟩ := bindE hF83
      clear hF83
      refine step_idx tabOk h88 0 rfl rfl rfl rfl rfl hx89 tb22 rfl tb38 rfl fun p91 a92 h93 => ?_
      clear h88
      refine step_load tabOk h93 0 rfl rfl rfl rfl tb38 rfl rfl fun v94 a96 hv95 h97 => ?_
      clear h93
      obtain rfl := ex_ApiPost hv95
      refine step_buildSlice tabOk h97 rfl rfl (r := rApiPost) (xs := ([x89] : List ApiPost)) (vs := [.agg ⟨[strV x89.Account, .int .i64 x89.Amount]⟩]) (pvs := [(0, .agg ⟨[strV x89.Account, .int .i64 x89.Amount]⟩)]) (by kernel_rfl) tb22 rfl tb38 rfl rfl rfl rfl rfl (by kernel_rfl) ⟨(im_ApiPost (x := x89)), trivial⟩ fun A98 c99 a101 w102 hv100 h103 => ?_
      clear h97
      have h104 := h103.addD (d := DF.v (rSl rApiPost) ([x89] : List ApiPost) (.slice A98 (List.length ([x89] : List ApiPost)) c99)) hv100
      clear h103
      obtain ⟨z105, hz105, hF106⟩ := bindE hF90
      clear hF90
      refine step_append tabOk h104 4 0 [] [] rfl rfl (r := rApiPost) (xs := l40) tb22 rfl tb38 rfl rfl rfl rfl rfl rfl rfl rfl (h104.d 0 rfl) hz105 fun A107 c108 a110 w111 hv109 h112 => ?_
      clear h104
      have h113 := h112.addD (d := DF.v (rSl rApiPost) z105 (.slice A107 (List.length z105) c108)) hv109
      clear h112
      refine evalS_ok tabOk h113 1 [0, 3, 4] [] [(0, .v (.slice A1 (List.length x0) c2)), (3, .v (.slice A107 (List.length z105) c108)), (4, .v (.int .i64 i43))] [] (by kernel_rfl) fun β114 a115 w116 h117 => ?_
      clear h113
      have h118 : Sb β114 (cx 26 ok w) [(0, .v (.slice A1 (List.length x0) c2)), (3, .v (.slice A107 (List.length z105) c108)), (4, .v (.int .i64 i43))] [DF.v (rSl rApiPost) x0 (.slice A1 (List.length x0) c2), DF.v (rSl rApiPost) z105 (.slice A107 (List.length z105) c108)] [] [⟨.slice A107 (List.length z105) c108, 38, 2⟩] a115 w116 := h117.sel [0, 3, 4] [4, 0] []
      clear h117
      refine wpl_end ?_
      refine hn59 _ _ ?_
      refine hn58 _ _ ?_
      refine evalR_ok tabOk h118 [0, 3, 4] [] [(0, .v (.slice A1 (List.length x0) c2)), (3, .v (.slice A107 (List.length z105) c108)), (4, .v (.int .i64 (IntKind.wrap .i64 (i43 + 1))))] [] (by kernel_rfl) fun β119 a120 w121 h122 => ?_
      clear h118
      have h123 : Sb β119 (cx 26 ok w) [(0, .v (.slice A1 (List.length x0) c2)), (3, .v (.slice A107 (List.length z105) c108)), (4, .v (.int .i64 (IntKind.wrap .i64 (i43 + 1))))] [DF.v (rSl rApiPost) x0 (.slice A1 (List.length x0) c2), DF.v (rSl rApiPost) z105 (.slice A107 (List.length z105) c108)] [] [⟨.slice A107 (List.length z105) c108, 38, 2⟩] a120 w121 := (h122).sel [0, 3, 4] [0, 1] []
      exact hn26 _ _ _ (Nat.lt_succ_self _) ⟨z105, (IntKind.wrap .i64 (i43 + 1)), A107, c108, ⟨_, h123⟩, hF106⟩
    · skip
      have hF124 := ifF hb82 hF66
      clear hF66
      refine wp_skip ?_
      refine hn59 _ _ ?_
      refine hn58 _ _ ?_
      refine evalR_ok tabOk h81 [0, 3, 4] [] [(0, .v (.slice A1 (List.length x0) c2)), (3, .v (.slice A41 (List.length l40) c42)), (4, .v (.int .i64 (IntKind.wrap .i64 (i43 + 1))))] [] (by kernel_rfl) fun β125 a126 w127 h128 => ?_
      clear h81
      have h129 : Sb β125 (cx 26 ok w) [(0, .v (.slice A1 (List.length x0) c2)), (3, .v (.slice A41 (List.length l40) c42)), (4, .v (.int .i64 (IntKind.wrap .i64 (i43 + 1))))] [DF.v (rSl rApiPost) x0 (.slice A1 (List.length x0) c2), DF.v (rSl rApiPost) l40 (.slice A41 (List.length l40) c42)] [] [⟨.slice A41 (List.length l40) c42, 38, 2⟩] a126 w127 := (h128).sel [0, 3, 4] [0, 1] []
      exact hn26 _ _ _ (Nat.lt_succ_self _) ⟨l40, (IntKind.wrap .i64 (i43 + 1)), A41, c42, ⟨_, h129⟩, hF124⟩
  · skip
    have hF130 := ifF hb56 hF50
    clear hF50
    refine wp_exit ?_
    refine hx51 0 _ _ ?_
    refine hx26 0 _ _ ?_
    refine hbb26 _ _ ?_
    obtain rfl := Option.some.inj hF130
    have h131 : Sb β52 (cx 26 ok w) [(3, .v (.slice A41 (List.length l40) c42))] [DF.v (rSl rApiPost) l40 (.slice A41 (List.length l40) c42)] [] [⟨.slice A41 (List.length l40) c42, 38, 2⟩] a53 w54 := (h55).sel [3] [1] []
    exact j30 _ _ ⟨l40, A41, c42, ⟨_, h131⟩, hC26⟩
theorem c_billingref47_Nonzero {ok : Ok} {w : World} (hok : ∀ b o, ok b o → b < w.heap.size) (N : Nat) {x0 : (List ApiPost)} {A1 : Option Addr} {c2 : Nat} (d0 : isV (rSl rApiPost) ok w x0 (.slice A1 (List.length x0) c2)) {r : (List ApiPost)} (hF : billingref47_Nonzero N x0 = some r) :
    Calls Try.prog 36 ⟨[.slice A1 (List.length x0) c2]⟩ w (Ret w (R1 (rSl rApiPost) ok w r)) :=
  Calls.own1 (co_billingref47_Nonzero hok N d0 hF)

theorem c_billingref47_Trial {ok : Ok} {w : World} (hok : ∀ b o, ok b o → b < w.heap.size) (N : Nat) {x0 : (List ApiEntry)} {A1 : Option Addr} {c2 : Nat} (d0 : isV (rSl rApiEntry) ok w x0 (.slice A1 (List.length x0) c2)) {r : (List ApiPost)} (hF : billingref47_Trial N x0 = some r) :
    Calls Try.prog 18 ⟨[.slice A1 (List.length x0) c2]⟩ w (Ret w (R1 (rSl rApiPost) ok w r)) := by
  rw [billingref47_Trial] at hF
  refine enter_ok (n := 35) hok Try.func18 rfl rfl rfl (D := [DF.v (rSl rApiEntry) x0 (.slice A1 (List.length x0) c2)]) ⟨d0, trivial⟩ (fun a h => ?_)
  simp only [zipG, Nat.zero_add, Nat.reduceAdd] at h
  refine start_ctx fun Q hn hr => ?_
  refine seq_region tabOk h [0] [] [(0, .v (.slice A1 (List.length x0) c2))] [] (by kernel_rfl) fun β3 a4 w5 h6 => ?_
  clear h
  refine seq_list fun Q7 hq7 => ?_
  refine step_buildOwn0 tabOk h6 rfl rfl (r := rApiPost) tb22 rfl tb38 fun b14 a11 w12 hv10 h13 => ?_
  clear h6
  have h15 := h13.addD (d := DF.v (rSl rApiPost) ([] : List ApiPost) (.slice (some ⟨b14, 0, none⟩) (List.length ([] : List ApiPost)) 0)) hv10
  clear h13
  have h16 := h15.dropO 0
  clear h15
  refine evalS_ok tabOk h16 1 [0, 3] [] [(0, .v (.slice A1 (List.length x0) c2)), (3, .v (.slice (some ⟨b14, 0, none⟩) (List.length ([] : List ApiPost)) 0))] [] (by kernel_rfl) fun β17 a18 w19 h20 => ?_
  clear h16
  have h21 : Sb β17 (cx 35 ok w) [(0, .v (.slice A1 (List.length x0) c2)), (3, .v (.slice (some ⟨b14, 0, none⟩) (List.length ([] : List ApiPost)) 0))] [DF.v (rSl rApiEntry) x0 (.slice A1 (List.length x0) c2), DF.v (rSl rApiPost) ([] : List ApiPost) (.slice (some ⟨b14, 0, none⟩) (List.length ([] : List ApiPost)) 0)] [] [] a18 w19 := h20.sel [0, 3] [1, 0] []
  clear h20
  refine wpl_end (hq7 _ _ ?_)
  refine seq_ctx fun Q22 hn22 hr22 hx22 => ?_
  refine seq_region tabOk h21 [0, 3, 4] [] [(0, .v (.slice A1 (List.length x0) c2)), (3, .v (.slice (some ⟨b14, 0, none⟩) (List.length ([] : List ApiPost)) 0)), (4, .v (.int .i64 0))] [] (by kernel_rfl) fun β23 a24 w25 h26 => ?_
  clear h21
  obtain ⟨out27, hL27, hC27⟩ := bindE hF
  clear hF
  have j31 : ∀ a w', (∃ (l28 : List ApiPost) (A29 : Option Addr) (c30 : Nat), (∃ β, Sb β (cx 35 ok w) [(3, .v (.slice A29 (List.length l28) c30))] [DF.v (rSl rApiPost) l28 (.slice A29 (List.length l28) c30)] [] [] a w') ∧ billingref47_Trial_j31 N l28 = some r) → Q22 .normal a w' := by
    rintro a32 w33 ⟨l28, A29, c30, ⟨β34, h35⟩, hF36⟩
    rw [billingref47_Trial_j31] at hF36
    refine hn22 _ _ ?_
    refine seq_list fun Q37 hq37 => ?_
    refine evalS_ok tabOk h35 1 [33] [] [(33, .v (.slice A29 (List.length l28) c30))] [] (by kernel_rfl) fun β38 a39 w40 h41 => ?_
    clear h35
    obtain ⟨y42, hy42, hF43⟩ := bindE hF36
    clear hF36
    refine step_call h41 rfl rfl runs36 (vs := [(.slice A29 (List.length l28) c30)]) (by kernel_rfl) (c_billingref47_Nonzero (x0 := l28) h41.okLt N (h41.d 0 rfl) hy42) fun v44 a47 w48 hR45 hk46 h49 => ?_
    clear h41
    have hv50 := isV.weak hR45 hk46
    obtain ⟨A51, c52, rfl, hs53⟩ := slForm hv50
    have h54 := h49.addD (d := DF.v (rSl rApiPost) y42 (.slice A51 (List.length y42) c52)) hs53
    clear h49
    refine evalS_ok tabOk h54 1 [2] [] [(2, .v (.slice A51 (List.length y42) c52))] [] (by kernel_rfl) fun β55 a56 w57 h58 => ?_
    clear h54
    have h59 : Sb β55 (cx 35 ok w) [(2, .v (.slice A51 (List.length y42) c52))] [DF.v (rSl rApiPost) y42 (.slice A51 (List.length y42) c52)] [] [] a56 w57 := h58.sel [2] [0] []
    clear h58
    refine wpl_end (hq37 _ _ ?_)
    refine wp_ret ?_
    refine hr _ _ ?_
    obtain rfl := Option.some.inj hF43
    exact ret1_ok h59 rfl rfl (isV.weak (h59.d 0 rfl) (okOf_out h59 hok))
  refine block_ctx fun Qb27 hnb27 hrb27 hbb27 hxb27 => ?_
  have h64 : Sb β23 (cx 35 ok w) [(0, .v (.slice A1 (List.length x0) c2)), (3, .v (.slice (some ⟨b14, 0, none⟩) (List.length ([] : List ApiPost)) 0)), (4, .v (.int .i64 0))] [DF.v (rSl rApiEntry) x0 (.slice A1 (List.length x0) c2), DF.v (rSl rApiPost) ([] : List ApiPost) (.slice (some ⟨b14, 0, none⟩) (List.length ([] : List ApiPost)) 0)] [] [] a24 w25 := (h26).sel [0, 3, 4] [0, 1] []
  refine loop_ctx (fun m a w' => ∃ (l60 : List ApiPost) (i63 : Int) (A61 : Option Addr) (c62 : Nat), (∃ β, Sb β (cx 35 ok w) [(0, .v (.slice A1 (List.length x0) c2)), (3, .v (.slice A61 (List.length l60) c62)), (4, .v (.int .i64 i63))] [DF.v (rSl rApiEntry) x0 (.slice A1 (List.length x0) c2), DF.v (rSl rApiPost) l60 (.slice A61 (List.length l60) c62)] [] [] a w') ∧ billingref47_Trial_l27 N x0 m l60 i63 = some out27) N ⟨([] : List ApiPost), 0, (some ⟨b14, 0, none⟩), 0, ⟨_, h64⟩, hL27⟩ ?_
  rintro Q27 m65 a66 w67 ⟨l60, i63, A61, c62, ⟨β68, h69⟩, hF70⟩ hn27 hr27 hx27
  obtain _ | m65 := m65
  · exact absurd hF70 (by simp [billingref47_Trial_l27])
  rw [billingref47_Trial_l27] at hF70
  refine seq_ctx fun Q71 hn71 hr71 hx71 => ?_
  refine seq_region tabOk h69 [0, 3, 4, 10] [] [(0, .v (.slice A1 (List.length x0) c2)), (3, .v (.slice A61 (List.length l60) c62)), (4, .v (.int .i64 i63)), (10, .v (.bool (decide (i63 < (List.length x0 : Int)))))] [] (by kernel_rfl) fun β72 a73 w74 h75 => ?_
  clear h69
  refine wp_if h75 rfl (fun hb76 => ?_) (fun hb76 => ?_)
  · skip
    have hF77 := ifT hb76 hF70
    clear hF70
    refine wp_skip ?_
    refine hn71 _ _ ?_
    refine seq_ctx fun Q78 hn78 hr78 hx78 => ?_
    refine block_ctx fun Q79 hn79 hr79 hb79 hx79 => ?_
    refine seq_region tabOk h75 [0, 3, 4, 5] [] [(0, .v (.slice A1 (List.length x0) c2)), (3, .v (.slice A61 (List.length l60) c62)), (4, .v (.int .i64 i63)), (5, .v (.int .i64 0))] [] (by kernel_rfl) fun β80 a81 w82 h83 => ?_
    clear h75
    obtain ⟨out84, hL84, hC84⟩ := bindE hF77
    clear hF77
    have j88 : ∀ a w', (∃ (l85 : List ApiPost) (A86 : Option Addr) (c87 : Nat), (∃ β, Sb β (cx 35 ok w) [(0, .v (.slice A1 (List.length x0) c2)), (3, .v (.slice A86 (List.length l85) c87)), (4, .v (.int .i64 i63))] [DF.v (rSl rApiEntry) x0 (.slice A1 (List.length x0) c2), DF.v (rSl rApiPost) l85 (.slice A86 (List.length l85) c87)] [] [] a w') ∧ billingref47_Trial_j88 N (billingref47_Trial_l27 N x0 m65) i63 l85 = some out27) → Q79 .normal a w' := by
      rintro a89 w90 ⟨l85, A86, c87, ⟨β91, h92⟩, hF93⟩
      rw [billingref47_Trial_j88] at hF93
      refine hn79 _ _ ?_
      refine hn78 _ _ ?_
      refine evalR_ok tabOk h92 [0, 3, 4] [] [(0, .v (.slice A1 (List.length x0) c2)), (3, .v (.slice A86 (List.length l85) c87)), (4, .v (.int .i64 (IntKind.wrap .i64 (i63 + 1))))] [] (by kernel_rfl) fun β94 a95 w96 h97 => ?_
      clear h92
      have h98 : Sb β94 (cx 35 ok w) [(0, .v (.slice A1 (List.length x0) c2)), (3, .v (.slice A86 (List.length l85) c87)), (4, .v (.int .i64 (IntKind.wrap .i64 (i63 + 1))))] [DF.v (rSl rApiEntry) x0 (.slice A1 (List.length x0) c2), DF.v (rSl rApiPost) l85 (.slice A86 (List.length l85) c87)] [] [] a95 w96 := (h97).sel [0, 3, 4] [0, 1] []
      exact hn27 _ _ _ (Nat.lt_succ_self _) ⟨l85, (IntKind.wrap .i64 (i63 + 1)), A86, c87, ⟨_, h98⟩, hF93⟩
    refine block_ctx fun Qb84 hnb84 hrb84 hbb84 hxb84 => ?_
    have h103 : Sb β80 (cx 35 ok w) [(0, .v (.slice A1 (List.length x0) c2)), (3, .v (.slice A61 (List.length l60) c62)), (4, .v (.int .i64 i63)), (5, .v (.int .i64 0))] [DF.v (rSl rApiEntry) x0 (.slice A1 (List.length x0) c2), DF.v (rSl rApiPost) l60 (.slice A61 (List.length l60) c62)] [] [] a81 w82 := (h83).sel [0, 3, 4, 5] [0, 1] []
    refine loop_ctx (fun m a w' => ∃ (l99 : List ApiPost) (i102 : Int) (A100 : Option Addr) (c101 : Nat), (∃ β, Sb β (cx 35 ok w) [(0, .v (.slice A1 (List.length x0) c2)), (3, .v (.slice A100 (List.length l99) c101)), (4, .v (.int .i64 i63)), (5, .v (.int .i64 i102))] [DF.v (rSl rApiEntry) x0 (.slice A1 (List.length x0) c2), DF.v (rSl rApiPost) l99 (.slice A100 (List.length l99) c101)] [] [] a w') ∧ billingref47_Trial_l84 N x0 i63 m l99 i102 = some out84) N ⟨l60, 0, A61, c62, ⟨_, h103⟩, hL84⟩ ?_
    rintro Q84 m104 a105 w106 ⟨l99, i102, A100, c101, ⟨β107, h108⟩, hF109⟩ hn84 hr84 hx84
    obtain _ | m104 := m104
    · exact absurd hF109 (by simp [billingref47_Trial_l84])
    rw [billingref47_Trial_l84] at hF109
    refine seq_ctx fun Q110 hn110 hr110 hx110 => ?_
    refine seq_list fun Q111 hq111 => ?_
    refine evalS_ok tabOk h108 3 [0, 3, 4, 5, 13, 14, 15] [] [(0, .v (.slice A1 (List.length x0) c2)), (3, .v (.slice A100 (List.length l99) c101)), (4, .v (.int .i64 i63)), (5, .v (.int .i64 i102)), (13, .v (.int .i64 i102)), (14, .v (.slice A1 (List.length x0) c2)), (15, .v (.int .i64 i63))] [] (by kernel_rfl) fun β112 a113 w114 h115 => ?_
    clear h108
    obtain ⟨x116, hx116, hF117⟩ := bindE hF109
    clear hF109
    refine step_idx tabOk h115 0 rfl rfl rfl rfl rfl hx116 tb30 rfl tb24 rfl fun p118 a119 h120 => ?_
    clear h115
    refine step_field tabOk h120 0 rfl rfl rfl rfl tb24 rfl rfl rfl fun p121 a122 (h123 : Sb β112 _ _ (DF.at (rSl rApiPost) x116.Posts (p121) :: _) _ _ a122 w114) => ?_
    clear h120
    refine step_load tabOk h123 0 rfl rfl rfl rfl tb22 rfl rfl fun v124 a126 hv125 h127 => ?_
    clear h123
    obtain ⟨A128, c129, rfl, hs130⟩ := slForm hv125
    refine evalS_ok tabOk h127 2 [0, 3, 4, 5, 20] [] [(0, .v (.slice A1 (List.length x0) c2)), (3, .v (.slice A100 (List.length l99) c101)), (4, .v (.int .i64 i63)), (5, .v (.int .i64 i102)), (20, .v (.bool (decide (i102 < (List.length x116.Posts : Int)))))] [] (by kernel_rfl) fun β131 a132 w133 h134 => ?_
    clear h127
    have h135 : Sb β131 (cx 35 ok w) [(0, .v (.slice A1 (List.length x0) c2)), (3, .v (.slice A100 (List.length l99) c101)), (4, .v (.int .i64 i63)), (5, .v (.int .i64 i102)), (20, .v (.bool (decide (i102 < (List.length x116.Posts : Int)))))] [DF.v (rSl rApiEntry) x0 (.slice A1 (List.length x0) c2), DF.v (rSl rApiPost) l99 (.slice A100 (List.length l99) c101)] [] [] a132 w133 := h134.sel [0, 3, 4, 5, 20] [3, 4] []
    clear h134
    refine wpl_end (hq111 _ _ ?_)
    refine wp_if h135 rfl (fun hb136 => ?_) (fun hb136 => ?_)
    · skip
      have hF137 := ifT hb136 hF117
      clear hF117
      refine wp_skip ?_
      refine hn110 _ _ ?_
      refine seq_ctx fun Q138 hn138 hr138 hx138 => ?_
      refine block_ctx fun Q139 hn139 hr139 hb139 hx139 => ?_
      refine region_ok ?_
      refine evalS_ok tabOk h135 3 [0, 3, 4, 5, 23, 24, 25] [] [(0, .v (.slice A1 (List.length x0) c2)), (3, .v (.slice A100 (List.length l99) c101)), (4, .v (.int .i64 i63)), (5, .v (.int .i64 i102)), (23, .v (.slice A100 (List.length l99) c101)), (24, .v (.slice A1 (List.length x0) c2)), (25, .v (.int .i64 i63))] [] (by kernel_rfl) fun β141 a142 w143 h144 => ?_
      clear h135
      obtain ⟨x145, hx145, hF146⟩ := bindE hF137
      clear hF137
      refine step_idx tabOk h144 0 rfl rfl rfl rfl rfl hx145 tb30 rfl tb24 rfl fun p147 a148 h149 => ?_
      clear h144
      refine step_field tabOk h149 0 rfl rfl rfl rfl tb24 rfl rfl rfl fun p150 a151 (h152 : Sb β141 _ _ (DF.at (rSl rApiPost) x145.Posts (p150) :: _) _ _ a151 w143) => ?_
      clear h149
      refine step_load tabOk h152 0 rfl rfl rfl rfl tb22 rfl rfl fun v153 a155 hv154 h156 => ?_
      clear h152
      obtain ⟨A157, c158, rfl, hs159⟩ := slForm hv154
      refine evalS_ok tabOk h156 1 [0, 3, 4, 5, 23, 28, 29] [] [(0, .v (.slice A1 (List.length x0) c2)), (3, .v (.slice A100 (List.length l99) c101)), (4, .v (.int .i64 i63)), (5, .v (.int .i64 i102)), (23, .v (.slice A100 (List.length l99) c101)), (28, .v (.slice A157 (List.length x145.Posts) c158)), (29, .v (.int .i64 i102))] [] (by kernel_rfl) fun β160 a161 w162 h163 => ?_
      clear h156
      obtain ⟨x164, hx164, hF165⟩ := bindE hF146
      clear hF146
      refine step_idx tabOk h163 0 rfl rfl rfl rfl rfl hx164 tb22 rfl tb38 rfl fun p166 a167 h168 => ?_
      clear h163
      refine step_load tabOk h168 0 rfl rfl rfl rfl tb38 rfl rfl fun v169 a171 hv170 h172 => ?_
      clear h168
      obtain rfl := ex_ApiPost hv170
      obtain ⟨y173, hy173, hF174⟩ := bindE hF165
      clear hF165
      refine step_call h172 rfl rfl runs35 (vs := [(.slice A100 (List.length l99) c101), (.agg ⟨[strV x164.Account, .int .i64 x164.Amount]⟩)]) (by kernel_rfl) (c_billingref47_Put (x0 := l99) (x1 := x164) h172.okLt N (h172.d 6 rfl) hy173) fun v175 a178 w179 hR176 hk177 h180 => ?_
      clear h172
      have hv181 := isV.weak hR176 hk177
      obtain ⟨A182, c183, rfl, hs184⟩ := slForm hv181
      have h185 := h180.addD (d := DF.v (rSl rApiPost) y173 (.slice A182 (List.length y173) c183)) hs184
      clear h180
      refine evalS_ok tabOk h185 1 [0, 3, 4, 5] [] [(0, .v (.slice A1 (List.length x0) c2)), (3, .v (.slice A182 (List.length y173) c183)), (4, .v (.int .i64 i63)), (5, .v (.int .i64 i102))] [] (by kernel_rfl) fun β186 a187 w188 h189 => ?_
      clear h185
      have h190 : Sb β186 (cx 35 ok w) [(0, .v (.slice A1 (List.length x0) c2)), (3, .v (.slice A182 (List.length y173) c183)), (4, .v (.int .i64 i63)), (5, .v (.int .i64 i102))] [DF.v (rSl rApiEntry) x0 (.slice A1 (List.length x0) c2), DF.v (rSl rApiPost) y173 (.slice A182 (List.length y173) c183)] [] [] a187 w188 := h189.sel [0, 3, 4, 5] [6, 0] []
      clear h189
      refine wpl_end ?_
      refine hn139 _ _ ?_
      refine hn138 _ _ ?_
      refine evalR_ok tabOk h190 [0, 3, 4, 5] [] [(0, .v (.slice A1 (List.length x0) c2)), (3, .v (.slice A182 (List.length y173) c183)), (4, .v (.int .i64 i63)), (5, .v (.int .i64 (IntKind.wrap .i64 (i102 + 1))))] [] (by kernel_rfl) fun β191 a192 w193 h194 => ?_
      clear h190
      have h195 : Sb β191 (cx 35 ok w) [(0, .v (.slice A1 (List.length x0) c2)), (3, .v (.slice A182 (List.length y173) c183)), (4, .v (.int .i64 i63)), (5, .v (.int .i64 (IntKind.wrap .i64 (i102 + 1))))] [DF.v (rSl rApiEntry) x0 (.slice A1 (List.length x0) c2), DF.v (rSl rApiPost) y173 (.slice A182 (List.length y173) c183)] [] [] a192 w193 := (h194).sel [0, 3, 4, 5] [0, 1] []
      exact hn84 _ _ _ (Nat.lt_succ_self _) ⟨y173, (IntKind.wrap .i64 (i102 + 1)), A182, c183, ⟨_, h195⟩, hF174⟩
    · skip
      have hF196 := ifF hb136 hF117
      clear hF117
      refine wp_exit ?_
      refine hx110 2 _ _ ?_
      refine hx84 2 _ _ ?_
      refine hbb84 _ _ ?_
      obtain rfl := Option.some.inj hF196
      have h197 : Sb β131 (cx 35 ok w) [(0, .v (.slice A1 (List.length x0) c2)), (3, .v (.slice A100 (List.length l99) c101)), (4, .v (.int .i64 i63))] [DF.v (rSl rApiEntry) x0 (.slice A1 (List.length x0) c2), DF.v (rSl rApiPost) l99 (.slice A100 (List.length l99) c101)] [] [] a132 w133 := (h135).sel [0, 3, 4] [0, 1] []
      exact j88 _ _ ⟨l99, A100, c101, ⟨_, h197⟩, hC84⟩
  · skip
    have hF199 := ifF hb76 hF70
    clear hF70
    refine wp_exit ?_
    refine hx71 0 _ _ ?_
    refine hx27 0 _ _ ?_
    refine hbb27 _ _ ?_
    obtain rfl := Option.some.inj hF199
    have h200 : Sb β72 (cx 35 ok w) [(3, .v (.slice A61 (List.length l60) c62))] [DF.v (rSl rApiPost) l60 (.slice A61 (List.length l60) c62)] [] [] a73 w74 := (h75).sel [3] [1] []
    exact j31 _ _ ⟨l60, A61, c62, ⟨_, h200⟩, hC27⟩

theorem c_billinglaw47_LedgerBalances {ok : Ok} {w : World} (hok : ∀ b o, ok b o → b < w.heap.size) (N : Nat) {x0 : (List ApiEntry)} {x1 : Str} {A1 : Option Addr} {c2 : Nat} (d0 : isV (rSl rApiEntry) ok w x0 (.slice A1 (List.length x0) c2)) {r : Bool} (hF : billinglaw47_LedgerBalances N x0 x1 = some r) :
    Calls Try.prog 4 ⟨[.slice A1 (List.length x0) c2, strV x1]⟩ w (Ret w (R1 rBool ok w r)) := by
  rw [billinglaw47_LedgerBalances] at hF
  refine enter_ok (n := 33) hok Try.func4 rfl rfl rfl (D := [DF.v (rSl rApiEntry) x0 (.slice A1 (List.length x0) c2)]) ⟨d0, trivial⟩ (fun a h => ?_)
  simp only [zipG, Nat.zero_add, Nat.reduceAdd] at h
  refine start_ctx fun Q hn hr => ?_
  refine seq_region tabOk h [0, 1] [] [(0, .v (.slice A1 (List.length x0) c2)), (1, .v (strV x1))] [] (by kernel_rfl) fun β3 a4 w5 h6 => ?_
  clear h
  refine seq_ctx fun Q7 hn7 hr7 hx7 => ?_
  obtain ⟨g9, hv10, hF11⟩ := bindE hF
  clear hF
  refine seq_join (J := fun a w' => ∃ β, Sb β (cx 33 ok w) [(0, .v (.slice A1 (List.length x0) c2)), (1, .v (strV x1)), (12, .v (.bool g9))] [DF.v (rSl rApiEntry) x0 (.slice A1 (List.length x0) c2)] [] [] a w') ?_ ?_
  · skip
    rintro a12 w13 ⟨β14, h15⟩
    refine wp_if h15 rfl (fun hb16 => ?_) (fun hb16 => ?_)
    · skip
      have hF17 := ifT hb16 hF11
      clear hF11
      refine seq_list fun Q18 hq18 => ?_
      obtain ⟨y19, hy19, hF20⟩ := bindE hF17
      clear hF17
      refine step_call h15 rfl rfl runs8 (vs := []) (by kernel_rfl) (c_billinglaw47_awake h15.okLt N hy19) fun v21 a24 w25 hR22 hk23 h26 => ?_
      clear h15
      have hv27 := isV.weak hR22 hk23
      obtain rfl := isV_bool.1 hv27
      refine evalS_ok tabOk h26 1 [4] [] [(4, .v (.bool y19))] [] (by kernel_rfl) fun β28 a29 w30 h31 => ?_
      clear h26
      have h32 : Sb β28 (cx 33 ok w) [(4, .v (.bool y19))] [] [] [] a29 w30 := h31.sel [4] [] []
      clear h31
      refine wpl_end (hq18 _ _ ?_)
      refine wp_ret ?_
      refine hr7 _ _ ?_
      refine hr _ _ ?_
      obtain rfl := Option.some.inj hF20
      exact ret1_ok h32 rfl rfl (isV_bool.2 rfl)
    · skip
      have hF33 := ifF hb16 hF11
      clear hF11
      refine wp_skip ?_
      refine hn7 _ _ ?_
      obtain ⟨g35, hv36, hF37⟩ := bindE hF33
      clear hF33
      refine seq_join (J := fun a w' => ∃ β, Sb β (cx 33 ok w) [(4, .v (.bool g35))] [] [] [] a w') ?_ ?_
      · skip
        rintro a38 w39 ⟨β40, h41⟩
        refine wp_ret ?_
        refine hr _ _ ?_
        obtain rfl := Option.some.inj hF37
        exact ret1_ok h41 rfl rfl (isV_bool.2 rfl)
      · skip
        refine region_ok ?_
        refine evalS_ok tabOk h15 1 [0, 1, 14] [] [(0, .v (.slice A1 (List.length x0) c2)), (1, .v (strV x1)), (14, .v (.slice A1 (List.length x0) c2))] [] (by kernel_rfl) fun β42 a43 w44 h45 => ?_
        clear h15
        obtain ⟨y46, hy46, hv47⟩ := bindE hv36
        clear hv36
        refine step_call h45 rfl rfl runs14 (vs := [(.slice A1 (List.length x0) c2)]) (by kernel_rfl) (c_billingref47_CloneAll (x0 := x0) h45.okLt N (h45.d 0 rfl) hy46) fun v48 a51 w52 hR49 hk50 h53 => ?_
        clear h45
        have hv54 := isV.weak hR49 hk50
        obtain ⟨A55, c56, rfl, hs57⟩ := slForm hv54
        have h58 := h53.addD (d := DF.v (rSl rApiEntry) y46 (.slice A55 (List.length y46) c56)) hs57
        clear h53
        refine evalS_ok tabOk h58 1 [0, 1, 15, 16] [] [(0, .v (.slice A1 (List.length x0) c2)), (1, .v (strV x1)), (15, .v (.slice A55 (List.length y46) c56)), (16, .v (strV x1))] [] (by kernel_rfl) fun β59 a60 w61 h62 => ?_
        clear h58
        obtain ⟨y63, hy63, hv64⟩ := bindE hv47
        clear hv47
        refine step_call h62 rfl rfl runs13 (vs := [(.slice A55 (List.length y46) c56), (strV x1)]) (by kernel_rfl) (c_ledger_Balance (x0 := y46) (x1 := x1) h62.okLt N (h62.d 0 rfl) hy63) fun v65 a68 w69 hR66 hk67 h70 => ?_
        clear h62
        have hv71 := isV.weak hR66 hk67
        obtain rfl := isV_int.1 hv71
        refine evalS_ok tabOk h70 2 [0, 17, 18, 19] [] [(0, .v (.slice A1 (List.length x0) c2)), (17, .v (.int .i64 y63)), (18, .v (.slice A1 (List.length x0) c2)), (19, .v (strV x1))] [] (by kernel_rfl) fun β72 a73 w74 h75 => ?_
        clear h70
        obtain ⟨y76, hy76, hv77⟩ := bindE hv64
        clear hv64
        refine step_call h75 rfl rfl runs15 (vs := [(.slice A1 (List.length x0) c2), (strV x1)]) (by kernel_rfl) (c_billingref47_Balance (x0 := x0) (x1 := x1) h75.okLt N (h75.d 1 rfl) hy76) fun v78 a81 w82 hR79 hk80 h83 => ?_
        clear h75
        have hv84 := isV.weak hR79 hk80
        obtain rfl := isV_int.1 hv84
        refine evalS_ok tabOk h83 2 [0, 22] [] [(0, .v (.slice A1 (List.length x0) c2)), (22, .v (.bool (y63 == y76)))] [] (by kernel_rfl) fun β85 a86 w87 h88 => ?_
        clear h83
        refine bcases (b := (y63 == y76)) (fun hb89 => ?_) (fun hb89 => ?_)
        · skip
          have hv90 := ifT hb89 hv77
          clear hv77
          have h91 := h88.reb (t := 22) rfl hb89
          clear h88
          refine evalS_ok tabOk h91 1 [0, 22, 23] [] [(0, .v (.slice A1 (List.length x0) c2)), (22, .v (.bool true)), (23, .v (.slice A1 (List.length x0) c2))] [] (by kernel_rfl) fun β92 a93 w94 h95 => ?_
          clear h91
          obtain ⟨y96, hy96, hv97⟩ := bindE hv90
          clear hv90
          refine step_call h95 rfl rfl runs14 (vs := [(.slice A1 (List.length x0) c2)]) (by kernel_rfl) (c_billingref47_CloneAll (x0 := x0) h95.okLt N (h95.d 1 rfl) hy96) fun v98 a101 w102 hR99 hk100 h103 => ?_
          clear h95
          have hv104 := isV.weak hR99 hk100
          obtain ⟨A105, c106, rfl, hs107⟩ := slForm hv104
          have h108 := h103.addD (d := DF.v (rSl rApiEntry) y96 (.slice A105 (List.length y96) c106)) hs107
          clear h103
          obtain ⟨y109, hy109, hv110⟩ := bindE hv97
          clear hv97
          refine step_call h108 rfl rfl runs17 (vs := [(.slice A105 (List.length y96) c106)]) (by kernel_rfl) (c_ledger_Trial (x0 := y96) h108.okLt N (h108.d 0 rfl) hy109) fun v111 a114 w115 hR112 hk113 h116 => ?_
          clear h108
          have hv117 := isV.weak hR112 hk113
          obtain ⟨A118, c119, rfl, hs120⟩ := slForm hv117
          have h121 := h116.addD (d := DF.v (rSl rApiPost) y109 (.slice A118 (List.length y109) c119)) hs120
          clear h116
          refine evalS_ok tabOk h121 1 [22, 25, 26] [] [(22, .v (.bool true)), (25, .v (.slice A118 (List.length y109) c119)), (26, .v (.slice A1 (List.length x0) c2))] [] (by kernel_rfl) fun β122 a123 w124 h125 => ?_
          clear h121
          obtain ⟨y126, hy126, hv127⟩ := bindE hv110
          clear hv110
          refine step_call h125 rfl rfl runs18 (vs := [(.slice A1 (List.length x0) c2)]) (by kernel_rfl) (c_billingref47_Trial (x0 := x0) h125.okLt N (h125.d 3 rfl) hy126) fun v128 a131 w132 hR129 hk130 h133 => ?_
          clear h125
          have hv134 := isV.weak hR129 hk130
          obtain ⟨A135, c136, rfl, hs137⟩ := slForm hv134
          have h138 := h133.addD (d := DF.v (rSl rApiPost) y126 (.slice A135 (List.length y126) c136)) hs137
          clear h133
          obtain ⟨y139, hy139, hv140⟩ := bindE hv127
          clear hv127
          refine step_call h138 rfl rfl runs16 (vs := [(.slice A118 (List.length y109) c119), (.slice A135 (List.length y126) c136)]) (by kernel_rfl) (c_billingref47_SamePosts (x0 := y109) (x1 := y126) h138.okLt N (h138.d 1 rfl) (h138.d 0 rfl) hy139) fun v141 a144 w145 hR142 hk143 h146 => ?_
          clear h138
          have hv147 := isV.weak hR142 hk143
          obtain rfl := isV_bool.1 hv147
          refine evalS_ok tabOk h146 2 [30] [] [(30, .v (.bool y139))] [] (by kernel_rfl) fun β148 a149 w150 h151 => ?_
          clear h146
          refine bcases (b := y139) (fun hb152 => ?_) (fun hb152 => ?_)
          · skip
            have hv153 := ifT hb152 hv140
            clear hv140
            have h154 := h151.reb (t := 30) rfl hb152
            clear h151
            obtain ⟨y155, hy155, hv156⟩ := bindE hv153
            clear hv153
            refine step_call h154 rfl rfl runs8 (vs := []) (by kernel_rfl) (c_billinglaw47_awake h154.okLt N hy155) fun v157 a160 w161 hR158 hk159 h162 => ?_
            clear h154
            have hv163 := isV.weak hR158 hk159
            obtain rfl := isV_bool.1 hv163
            refine evalS_ok tabOk h162 2 [4] [] [(4, .v (.bool y155))] [] (by kernel_rfl) fun β164 a165 w166 h167 => ?_
            clear h162
            obtain rfl := Option.some.inj hv156
            have h168 : Sb β164 (cx 33 ok w) [(4, .v (.bool y155))] [] [] [] a165 w166 := h167.sel [4] [] []
            clear h167
            exact wpl_end (then_n ⟨_, h168⟩)
          · skip
            have hv169 := ifF hb152 hv140
            clear hv140
            have h170 := h151.reb (t := 30) rfl hb152
            clear h151
            refine evalS_ok tabOk h170 3 [4] [] [(4, .v (.bool false))] [] (by kernel_rfl) fun β171 a172 w173 h174 => ?_
            clear h170
            obtain rfl := Option.some.inj hv169
            have h175 : Sb β171 (cx 33 ok w) [(4, .v (.bool false))] [] [] [] a172 w173 := h174.sel [4] [] []
            clear h174
            exact wpl_end (then_n ⟨_, h175⟩)
        · skip
          have hv176 := ifF hb89 hv77
          clear hv77
          have h177 := h88.reb (t := 22) rfl hb89
          clear h88
          refine evalS_ok tabOk h177 11 [4] [] [(4, .v (.bool false))] [] (by kernel_rfl) fun β178 a179 w180 h181 => ?_
          clear h177
          obtain rfl := Option.some.inj hv176
          have h182 : Sb β178 (cx 33 ok w) [(4, .v (.bool false))] [] [] [] a179 w180 := h181.sel [4] [] []
          clear h181
          exact wpl_end (then_n ⟨_, h182⟩)
  · skip
    refine region_ok ?_
    refine evalS_ok tabOk h6 1 [0, 1, 5] [] [(0, .v (.slice A1 (List.length x0) c2)), (1, .v (strV x1)), (5, .v (.slice A1 (List.length x0) c2))] [] (by kernel_rfl) fun β183 a184 w185 h186 => ?_
    clear h6
    obtain ⟨y187, hy187, hv188⟩ := bindE hv10
    clear hv10
    refine step_call h186 rfl rfl runs12 (vs := [(.slice A1 (List.length x0) c2), (.int .i64 40)]) (by kernel_rfl) (c_billingref47_ValidAll (x0 := x0) (x1 := 40) h186.okLt N (h186.d 0 rfl) hy187) fun v189 a192 w193 hR190 hk191 h194 => ?_
    clear h186
    have hv195 := isV.weak hR190 hk191
    obtain rfl := isV_bool.1 hv195
    refine evalS_ok tabOk h194 2 [0, 1, 8] [] [(0, .v (.slice A1 (List.length x0) c2)), (1, .v (strV x1)), (8, .v (.bool (!y187)))] [] (by kernel_rfl) fun β196 a197 w198 h199 => ?_
    clear h194
    refine bcases (b := (!y187)) (fun hb200 => ?_) (fun hb200 => ?_)
    · skip
      have hv201 := ifT hb200 hv188
      clear hv188
      have h202 := h199.reb (t := 8) rfl hb200
      clear h199
      refine evalS_ok tabOk h202 4 [0, 1, 12] [] [(0, .v (.slice A1 (List.length x0) c2)), (1, .v (strV x1)), (12, .v (.bool true))] [] (by kernel_rfl) fun β203 a204 w205 h206 => ?_
      clear h202
      obtain rfl := Option.some.inj hv201
      have h207 : Sb β203 (cx 33 ok w) [(0, .v (.slice A1 (List.length x0) c2)), (1, .v (strV x1)), (12, .v (.bool true))] [DF.v (rSl rApiEntry) x0 (.slice A1 (List.length x0) c2)] [] [] a204 w205 := h206.sel [0, 1, 12] [0] []
      clear h206
      exact wpl_end (then_n ⟨_, h207⟩)
    · skip
      have hv208 := ifF hb200 hv188
      clear hv188
      have h209 := h199.reb (t := 8) rfl hb200
      clear h199
      refine evalS_ok tabOk h209 4 [0, 1, 12] [] [(0, .v (.slice A1 (List.length x0) c2)), (1, .v (strV x1)), (12, .v (.bool (decide ((List.length x1 : Int) > 400))))] [] (by kernel_rfl) fun β210 a211 w212 h213 => ?_
      clear h209
      obtain rfl := Option.some.inj hv208
      have h214 : Sb β210 (cx 33 ok w) [(0, .v (.slice A1 (List.length x0) c2)), (1, .v (strV x1)), (12, .v (.bool (decide ((List.length x1 : Int) > 400))))] [DF.v (rSl rApiEntry) x0 (.slice A1 (List.length x0) c2)] [] [] a211 w212 := h213.sel [0, 1, 12] [0] []
      clear h213
      exact wpl_end (then_n ⟨_, h214⟩)

end Gd

/- The walks, part 2. -/
import Derived.Test.YteiofmonhoddfaaGWalks0
namespace Gd
open Go Go.Proofs
set_option linter.unusedVariables false
set_option linter.unusedSimpArgs false
theorem c_ledger_Check {ok : Ok} {w : World} (hok : ∀ b o, ok b o → b < w.heap.size) (N : Nat) {x0 : ApiEntry} {A1 : Option Addr} {c2 : Nat} (d0 : isV (rSl rApiPost) ok w x0.Posts (.slice A1 (List.length x0.Posts) c2)) {r : Int} (hF : ledger_Check N x0 = some r) :
    Calls Try.prog 9 ⟨[.agg ⟨[.int .i64 x0.At, strV x0.Text, .slice A1 (List.length x0.Posts) c2]⟩]⟩ w (Ret w (R1 (rInt .i64) ok w r)) := by
  rw [ledger_Check] at hF
  refine enter_ok (n := 90) hok Try.func9 rfl rfl rfl (D := [DF.v (rSl rApiPost) x0.Posts (.slice A1 (List.length x0.Posts) c2)]) ⟨d0, trivial⟩ (fun a h => ?_)
  simp only [zipG, Nat.zero_add, Nat.reduceAdd] at h
  refine start_ctx fun Q hn hr => ?_
  refine seq_region tabOk h [1] [1] [(1, .o 1 0)] [(1, ⟨[.int .i64 x0.At, strV x0.Text, .slice A1 (List.length x0.Posts) c2], 24⟩)] (by kernel_rfl) fun β3 a4 w5 h6 => ?_
  clear h
  refine seq_ctx fun Q7 hn7 hr7 hx7 => ?_
  refine block_ctx fun Q8 hn8 hr8 hb8 hx8 => ?_
  obtain ⟨g10, hg10⟩ : ∃ z, z = ((decide (x0.At < 0)) || (decide (x0.At ≥ 12622780800))) := ⟨_, rfl⟩
  skip
  refine seq_join (J := fun a w' => ∃ β, Sb β (cx 90 ok w) [(1, .o 1 0), (5, .v (.bool g10))] [DF.v (rSl rApiPost) x0.Posts (.slice A1 (List.length x0.Posts) c2)] [(1, ⟨[.int .i64 x0.At, strV x0.Text, .slice A1 (List.length x0.Posts) c2], 24⟩)] [] a w') ?_ ?_
  · skip
    rintro a11 w12 ⟨β13, h14⟩
    subst hg10
    refine wp_if h14 rfl (fun hb15 => ?_) (fun hb15 => ?_)
    · skip
      have hF16 := ifT hb15 hF
      clear hF
      refine seq_region tabOk h14 [2] [] [(2, .v (.int .i64 15))] [] (by kernel_rfl) fun β17 a18 w19 h20 => ?_
      clear h14
      refine wp_ret ?_
      refine hr8 _ _ ?_
      refine hr7 _ _ ?_
      refine hr _ _ ?_
      obtain rfl := Option.some.inj hF16
      exact ret1_ok h20 rfl rfl (isV_int.2 rfl)
    · skip
      have hF21 := ifF hb15 hF
      clear hF
      obtain ⟨g23, hg23⟩ : ∃ z, z = ((decide ((List.length x0.Text : Int) > 200)) || (decide ((List.length x0.Posts : Int) > 64))) := ⟨_, rfl⟩
      skip
      refine seq_join (J := fun a w' => ∃ β, Sb β (cx 90 ok w) [(1, .o 1 0), (14, .v (.bool g23))] [DF.v (rSl rApiPost) x0.Posts (.slice A1 (List.length x0.Posts) c2)] [(1, ⟨[.int .i64 x0.At, strV x0.Text, .slice A1 (List.length x0.Posts) c2], 24⟩)] [] a w') ?_ ?_
      · skip
        rintro a24 w25 ⟨β26, h27⟩
        subst hg23
        refine wp_if h27 rfl (fun hb28 => ?_) (fun hb28 => ?_)
        · skip
          have hF29 := ifT hb28 hF21
          clear hF21
          refine seq_region tabOk h27 [2] [] [(2, .v (.int .i64 5))] [] (by kernel_rfl) fun β30 a31 w32 h33 => ?_
          clear h27
          refine wp_ret ?_
          refine hr8 _ _ ?_
          refine hr7 _ _ ?_
          refine hr _ _ ?_
          obtain rfl := Option.some.inj hF29
          exact ret1_ok h33 rfl rfl (isV_int.2 rfl)
        · skip
          have hF34 := ifF hb28 hF21
          clear hF21
          obtain ⟨g36, hv37, hF38⟩ := bindE hF34
          clear hF34
          refine seq_join (J := fun a w' => ∃ β, Sb β (cx 90 ok w) [(1, .o 1 0), (25, .v (.bool g36))] [DF.v (rSl rApiPost) x0.Posts (.slice A1 (List.length x0.Posts) c2)] [(1, ⟨[.int .i64 x0.At, strV x0.Text, .slice A1 (List.length x0.Posts) c2], 24⟩)] [] a w') ?_ ?_
          · skip
            rintro a39 w40 ⟨β41, h42⟩
            refine wp_if h42 rfl (fun hb43 => ?_) (fun hb43 => ?_)
            · skip
              have hF44 := ifT hb43 hF38
              clear hF38
              refine seq_region tabOk h42 [2] [] [(2, .v (.int .i64 8))] [] (by kernel_rfl) fun β45 a46 w47 h48 => ?_
              clear h42
              refine wp_ret ?_
              refine hr8 _ _ ?_
              refine hr7 _ _ ?_
              refine hr _ _ ?_
              obtain rfl := Option.some.inj hF44
              exact ret1_ok h48 rfl rfl (isV_int.2 rfl)
            · skip
              have hF49 := ifF hb43 hF38
              clear hF38
              refine wp_skip ?_
              refine hn8 _ _ ?_
              refine hn7 _ _ ?_
              refine seq_ctx fun Q50 hn50 hr50 hx50 => ?_
              refine seq_region tabOk h42 [1, 37, 38, 39] [1] [(1, .o 1 0), (37, .v (.slice A1 (List.length x0.Posts) c2)), (38, .v (.int .i64 (List.length x0.Posts : Int))), (39, .v (.int .i64 0))] [(1, ⟨[.int .i64 x0.At, strV x0.Text, .slice A1 (List.length x0.Posts) c2], 24⟩)] (by kernel_rfl) fun β51 a52 w53 h54 => ?_
              clear h42
              obtain ⟨out55, hL55, hC55⟩ := bindE hF49
              clear hF49
              have j56 : ∀ a w', ((∃ β, Sb β (cx 90 ok w) [(1, .o 1 0)] [DF.v (rSl rApiPost) x0.Posts (.slice A1 (List.length x0.Posts) c2)] [(1, ⟨[.int .i64 x0.At, strV x0.Text, .slice A1 (List.length x0.Posts) c2], 24⟩)] [] a w') ∧ ledger_Check_j56 N x0 = some r) → Q50 .normal a w' := by
                rintro a57 w58 ⟨⟨β59, h60⟩, hF61⟩
                rw [ledger_Check_j56] at hF61
                refine hn50 _ _ ?_
                refine seq_ctx fun Q62 hn62 hr62 hx62 => ?_
                refine seq_list fun Q63 hq63 => ?_
                refine evalS_ok tabOk h60 2 [87] [] [(87, .v (.slice A1 (List.length x0.Posts) c2))] [] (by kernel_rfl) fun β64 a65 w66 h67 => ?_
                clear h60
                obtain ⟨y68, hy68, hF69⟩ := bindE hF61
                clear hF61
                refine step_call h67 rfl rfl runs26 (vs := [(.slice A1 (List.length x0.Posts) c2), (.func (.func 27) ⟨[]⟩ ⟨[]⟩)]) (by kernel_rfl) (c_api_Post_ (x0 := x0.Posts) (x1 := (ledger_value N)) h67.okLt N (h67.d 0 rfl) (isV_fn.2 (fv_ledger_value N)) hy68) fun v70 a73 w74 hR71 hk72 h75 => ?_
                clear h67
                have hv76 := isV.weak hR71 hk72
                obtain rfl := isV_int.1 hv76
                refine evalS_ok tabOk h75 1 [89] [] [(89, .v (.bool (y68 != 0)))] [] (by kernel_rfl) fun β77 a78 w79 h80 => ?_
                clear h75
                have h81 : Sb β77 (cx 90 ok w) [(89, .v (.bool (y68 != 0)))] [] [] [] a78 w79 := h80.sel [89] [] []
                clear h80
                refine wpl_end (hq63 _ _ ?_)
                refine wp_if h81 rfl (fun hb82 => ?_) (fun hb82 => ?_)
                · skip
                  have hF83 := ifT hb82 hF69
                  clear hF69
                  refine seq_region tabOk h81 [2] [] [(2, .v (.int .i64 21))] [] (by kernel_rfl) fun β84 a85 w86 h87 => ?_
                  clear h81
                  refine wp_ret ?_
                  refine hr62 _ _ ?_
                  refine hr _ _ ?_
                  obtain rfl := Option.some.inj hF83
                  exact ret1_ok h87 rfl rfl (isV_int.2 rfl)
                · skip
                  have hF88 := ifF hb82 hF69
                  clear hF69
                  refine wp_skip ?_
                  refine hn62 _ _ ?_
                  refine seq_region tabOk h81 [2] [] [(2, .v (.int .i64 0))] [] (by kernel_rfl) fun β89 a90 w91 h92 => ?_
                  clear h81
                  refine wp_ret ?_
                  refine hr _ _ ?_
                  obtain rfl := Option.some.inj hF88
                  exact ret1_ok h92 rfl rfl (isV_int.2 rfl)
              refine block_ctx fun Qb55 hnb55 hrb55 hbb55 hxb55 => ?_
              have h94 : Sb β51 (cx 90 ok w) [(1, .o 1 0), (37, .v (.slice A1 (List.length x0.Posts) c2)), (38, .v (.int .i64 (List.length x0.Posts : Int))), (39, .v (.int .i64 0))] [DF.v (rSl rApiPost) x0.Posts (.slice A1 (List.length x0.Posts) c2)] [(1, ⟨[.int .i64 x0.At, strV x0.Text, .slice A1 (List.length x0.Posts) c2], 24⟩)] [] a52 w53 := (h54).sel [1, 37, 38, 39] [0] [1]
              refine loop_ctx (fun m a w' => ∃ (i93 : Int), (∃ β, Sb β (cx 90 ok w) [(1, .o 1 0), (37, .v (.slice A1 (List.length x0.Posts) c2)), (38, .v (.int .i64 (List.length x0.Posts : Int))), (39, .v (.int .i64 i93))] [DF.v (rSl rApiPost) x0.Posts (.slice A1 (List.length x0.Posts) c2)] [(1, ⟨[.int .i64 x0.At, strV x0.Text, .slice A1 (List.length x0.Posts) c2], 24⟩)] [] a w') ∧ ledger_Check_l55 N x0 m i93 = some out55) N ⟨0, ⟨_, h94⟩, hL55⟩ ?_
              rintro Q55 m95 a96 w97 ⟨i93, ⟨β98, h99⟩, hF100⟩ hn55 hr55 hx55
              obtain _ | m95 := m95
              · exact absurd hF100 (by simp [ledger_Check_l55])
              rw [ledger_Check_l55] at hF100
              refine seq_region tabOk h99 [1, 37, 38, 39, 40] [1] [(1, .o 1 0), (37, .v (.slice A1 (List.length x0.Posts) c2)), (38, .v (.int .i64 (List.length x0.Posts : Int))), (39, .v (.int .i64 i93)), (40, .v (.bool (decide (i93 < (List.length x0.Posts : Int)))))] [(1, ⟨[.int .i64 x0.At, strV x0.Text, .slice A1 (List.length x0.Posts) c2], 24⟩)] (by kernel_rfl) fun β101 a102 w103 h104 => ?_
              clear h99
              refine seq_ctx fun Q105 hn105 hr105 hx105 => ?_
              refine wp_if h104 rfl (fun hb106 => ?_) (fun hb106 => ?_)
              · skip
                have hF107 := ifT hb106 hF100
                clear hF100
                refine wp_skip ?_
                refine hn105 _ _ ?_
                refine seq_ctx fun Q108 hn108 hr108 hx108 => ?_
                refine block_ctx fun Q109 hn109 hr109 hb109 hx109 => ?_
                refine seq_list fun Q110 hq110 => ?_
                refine evalS_ok tabOk h104 1 [1, 37, 38, 39, 41] [1] [(1, .o 1 0), (37, .v (.slice A1 (List.length x0.Posts) c2)), (38, .v (.int .i64 (List.length x0.Posts : Int))), (39, .v (.int .i64 i93)), (41, .v (.int .i64 i93))] [(1, ⟨[.int .i64 x0.At, strV x0.Text, .slice A1 (List.length x0.Posts) c2], 24⟩)] (by kernel_rfl) fun β111 a112 w113 h114 => ?_
                clear h104
                obtain ⟨x115, hx115, hF116⟩ := bindE hF107
                clear hF107
                refine step_idx tabOk h114 0 rfl rfl rfl rfl rfl hx115 tb22 rfl tb38 rfl fun p117 a118 h119 => ?_
                clear h114
                refine step_load tabOk h119 0 rfl rfl rfl rfl tb38 rfl rfl fun v120 a122 hv121 h123 => ?_
                clear h119
                obtain rfl := ex_ApiPost hv121
                refine evalS_ok tabOk h123 3 [1, 3, 4, 37, 38, 39] [1, 4] [(1, .o 1 0), (3, .v (.int .i64 i93)), (4, .o 4 0), (37, .v (.slice A1 (List.length x0.Posts) c2)), (38, .v (.int .i64 (List.length x0.Posts : Int))), (39, .v (.int .i64 i93))] [(1, ⟨[.int .i64 x0.At, strV x0.Text, .slice A1 (List.length x0.Posts) c2], 24⟩), (4, ⟨[strV x115.Account, .int .i64 x115.Amount], 38⟩)] (by kernel_rfl) fun β124 a125 w126 h127 => ?_
                clear h123
                have h128 : Sb β124 (cx 90 ok w) [(1, .o 1 0), (3, .v (.int .i64 i93)), (4, .o 4 0), (37, .v (.slice A1 (List.length x0.Posts) c2)), (38, .v (.int .i64 (List.length x0.Posts : Int))), (39, .v (.int .i64 i93))] [DF.v (rSl rApiPost) x0.Posts (.slice A1 (List.length x0.Posts) c2)] [(1, ⟨[.int .i64 x0.At, strV x0.Text, .slice A1 (List.length x0.Posts) c2], 24⟩), (4, ⟨[strV x115.Account, .int .i64 x115.Amount], 38⟩)] [] a125 w126 := h127.sel [1, 3, 4, 37, 38, 39] [2] [1, 4]
                clear h127
                refine wpl_end (hq110 _ _ ?_)
                refine block_ctx fun Q129 hn129 hr129 hb129 hx129 => ?_
                obtain ⟨g131, hv132, hF133⟩ := bindE hF116
                clear hF116
                refine seq_join (J := fun a w' => ∃ β, Sb β (cx 90 ok w) [(1, .o 1 0), (3, .v (.int .i64 i93)), (4, .o 4 0), (37, .v (.slice A1 (List.length x0.Posts) c2)), (38, .v (.int .i64 (List.length x0.Posts : Int))), (39, .v (.int .i64 i93)), (44, .v (.bool g131))] [DF.v (rSl rApiPost) x0.Posts (.slice A1 (List.length x0.Posts) c2)] [(1, ⟨[.int .i64 x0.At, strV x0.Text, .slice A1 (List.length x0.Posts) c2], 24⟩), (4, ⟨[strV x115.Account, .int .i64 x115.Amount], 38⟩)] [] a w') ?_ ?_
                · skip
                  rintro a134 w135 ⟨β136, h137⟩
                  refine wp_if h137 rfl (fun hb138 => ?_) (fun hb138 => ?_)
                  · skip
                    have hF139 := ifT hb138 hF133
                    clear hF133
                    refine seq_region tabOk h137 [2] [] [(2, .v (.int .i64 8))] [] (by kernel_rfl) fun β140 a141 w142 h143 => ?_
                    clear h137
                    refine wp_ret ?_
                    refine hr129 _ _ ?_
                    refine hr109 _ _ ?_
                    refine hr108 _ _ ?_
                    refine hr55 _ _ ?_
                    refine hrb55 _ _ ?_
                    refine hr50 _ _ ?_
                    refine hr _ _ ?_
                    obtain rfl := Option.some.inj hF139
                    obtain rfl := Option.some.inj hC55
                    exact ret1_ok h143 rfl rfl (isV_int.2 rfl)
                  · skip
                    have hF144 := ifF hb138 hF133
                    clear hF133
                    obtain ⟨g146, hv147, hF148⟩ := bindE hF144
                    clear hF144
                    refine seq_join (J := fun a w' => ∃ β, Sb β (cx 90 ok w) [(1, .o 1 0), (4, .o 4 0), (37, .v (.slice A1 (List.length x0.Posts) c2)), (38, .v (.int .i64 (List.length x0.Posts : Int))), (39, .v (.int .i64 i93)), (60, .v (.bool g146))] [DF.v (rSl rApiPost) x0.Posts (.slice A1 (List.length x0.Posts) c2)] [(1, ⟨[.int .i64 x0.At, strV x0.Text, .slice A1 (List.length x0.Posts) c2], 24⟩), (4, ⟨[strV x115.Account, .int .i64 x115.Amount], 38⟩)] [] a w') ?_ ?_
                    · skip
                      rintro a149 w150 ⟨β151, h152⟩
                      refine wp_if h152 rfl (fun hb153 => ?_) (fun hb153 => ?_)
                      · skip
                        have hF154 := ifT hb153 hF148
                        clear hF148
                        refine seq_region tabOk h152 [2] [] [(2, .v (.int .i64 9))] [] (by kernel_rfl) fun β155 a156 w157 h158 => ?_
                        clear h152
                        refine wp_ret ?_
                        refine hr129 _ _ ?_
                        refine hr109 _ _ ?_
                        refine hr108 _ _ ?_
                        refine hr55 _ _ ?_
                        refine hrb55 _ _ ?_
                        refine hr50 _ _ ?_
                        refine hr _ _ ?_
                        obtain rfl := Option.some.inj hF154
                        obtain rfl := Option.some.inj hC55
                        exact ret1_ok h158 rfl rfl (isV_int.2 rfl)
                      · skip
                        have hF159 := ifF hb153 hF148
                        clear hF148
                        obtain ⟨g161, hv162, hF163⟩ := bindE hF159
                        clear hF159
                        refine seq_join (J := fun a w' => ∃ β, Sb β (cx 90 ok w) [(1, .o 1 0), (37, .v (.slice A1 (List.length x0.Posts) c2)), (38, .v (.int .i64 (List.length x0.Posts : Int))), (39, .v (.int .i64 i93)), (75, .v (.bool g161))] [DF.v (rSl rApiPost) x0.Posts (.slice A1 (List.length x0.Posts) c2)] [(1, ⟨[.int .i64 x0.At, strV x0.Text, .slice A1 (List.length x0.Posts) c2], 24⟩)] [] a w') ?_ ?_
                        · skip
                          rintro a164 w165 ⟨β166, h167⟩
                          refine wp_if h167 rfl (fun hb168 => ?_) (fun hb168 => ?_)
                          · skip
                            have hF169 := ifT hb168 hF163
                            clear hF163
                            refine seq_region tabOk h167 [2] [] [(2, .v (.int .i64 6))] [] (by kernel_rfl) fun β170 a171 w172 h173 => ?_
                            clear h167
                            refine wp_ret ?_
                            refine hr129 _ _ ?_
                            refine hr109 _ _ ?_
                            refine hr108 _ _ ?_
                            refine hr55 _ _ ?_
                            refine hrb55 _ _ ?_
                            refine hr50 _ _ ?_
                            refine hr _ _ ?_
                            obtain rfl := Option.some.inj hF169
                            obtain rfl := Option.some.inj hC55
                            exact ret1_ok h173 rfl rfl (isV_int.2 rfl)
                          · skip
                            have hF174 := ifF hb168 hF163
                            clear hF163
                            refine wp_skip ?_
                            refine hn129 _ _ ?_
                            refine hn109 _ _ ?_
                            refine hn108 _ _ ?_
                            refine evalR_ok tabOk h167 [1, 37, 38, 39] [1] [(1, .o 1 0), (37, .v (.slice A1 (List.length x0.Posts) c2)), (38, .v (.int .i64 (List.length x0.Posts : Int))), (39, .v (.int .i64 (IntKind.wrap .i64 (i93 + 1))))] [(1, ⟨[.int .i64 x0.At, strV x0.Text, .slice A1 (List.length x0.Posts) c2], 24⟩)] (by kernel_rfl) fun β175 a176 w177 h178 => ?_
                            clear h167
                            have h179 : Sb β175 (cx 90 ok w) [(1, .o 1 0), (37, .v (.slice A1 (List.length x0.Posts) c2)), (38, .v (.int .i64 (List.length x0.Posts : Int))), (39, .v (.int .i64 (IntKind.wrap .i64 (i93 + 1))))] [DF.v (rSl rApiPost) x0.Posts (.slice A1 (List.length x0.Posts) c2)] [(1, ⟨[.int .i64 x0.At, strV x0.Text, .slice A1 (List.length x0.Posts) c2], 24⟩)] [] a176 w177 := (h178).sel [1, 37, 38, 39] [0] [1]
                            exact hn55 _ _ _ (Nat.lt_succ_self _) ⟨(IntKind.wrap .i64 (i93 + 1)), ⟨_, h179⟩, hF174⟩
                        · skip
                          refine region_ok ?_
                          refine evalS_ok tabOk h152 4 [1, 4, 37, 38, 39, 79] [1, 4] [(1, .o 1 0), (4, .o 4 0), (37, .v (.slice A1 (List.length x0.Posts) c2)), (38, .v (.int .i64 (List.length x0.Posts : Int))), (39, .v (.int .i64 i93)), (79, .v (.bool (x115.Amount == 0)))] [(1, ⟨[.int .i64 x0.At, strV x0.Text, .slice A1 (List.length x0.Posts) c2], 24⟩), (4, ⟨[strV x115.Account, .int .i64 x115.Amount], 38⟩)] (by kernel_rfl) fun β180 a181 w182 h183 => ?_
                          clear h152
                          refine bcases (b := (x115.Amount == 0)) (fun hb184 => ?_) (fun hb184 => ?_)
                          · skip
                            have hv185 := ifT hb184 hv162
                            clear hv162
                            have h186 := h183.reb (t := 79) rfl hb184
                            clear h183
                            refine evalS_ok tabOk h186 6 [1, 37, 38, 39, 75] [1] [(1, .o 1 0), (37, .v (.slice A1 (List.length x0.Posts) c2)), (38, .v (.int .i64 (List.length x0.Posts : Int))), (39, .v (.int .i64 i93)), (75, .v (.bool true))] [(1, ⟨[.int .i64 x0.At, strV x0.Text, .slice A1 (List.length x0.Posts) c2], 24⟩)] (by kernel_rfl) fun β187 a188 w189 h190 => ?_
                            clear h186
                            obtain rfl := Option.some.inj hv185
                            have h191 : Sb β187 (cx 90 ok w) [(1, .o 1 0), (37, .v (.slice A1 (List.length x0.Posts) c2)), (38, .v (.int .i64 (List.length x0.Posts : Int))), (39, .v (.int .i64 i93)), (75, .v (.bool true))] [DF.v (rSl rApiPost) x0.Posts (.slice A1 (List.length x0.Posts) c2)] [(1, ⟨[.int .i64 x0.At, strV x0.Text, .slice A1 (List.length x0.Posts) c2], 24⟩)] [] a188 w189 := h190.sel [1, 37, 38, 39, 75] [0] [1]
                            clear h190
                            exact wpl_end (then_n ⟨_, h191⟩)
                          · skip
                            have hv192 := ifF hb184 hv162
                            clear hv162
                            have h193 := h183.reb (t := 79) rfl hb184
                            clear h183
                            refine evalS_ok tabOk h193 2 [1, 37, 38, 39, 79, 81] [1] [(1, .o 1 0), (37, .v (.slice A1 (List.length x0.Posts) c2)), (38, .v (.int .i64 (List.length x0.Posts : Int))), (39, .v (.int .i64 i93)), (79, .v (.bool false)), (81, .v (.int .i64 x115.Amount))] [(1, ⟨[.int .i64 x0.At, strV x0.Text, .slice A1 (List.length x0.Posts) c2], 24⟩)] (by kernel_rfl) fun β194 a195 w196 h197 => ?_
                            clear h193
                            obtain ⟨y198, hy198, hv199⟩ := bindE hv192
                            clear hv192
                            refine step_call h197 rfl rfl runs25 (vs := [(.int .i64 x115.Amount)]) (by kernel_rfl) (c_amount_Valid (x0 := x115.Amount) h197.okLt N hy198) fun v200 a203 w204 hR201 hk202 h205 => ?_
                            clear h197
                            have hv206 := isV.weak hR201 hk202
                            obtain rfl := isV_bool.1 hv206
                            refine evalS_ok tabOk h205 3 [1, 37, 38, 39, 75] [1] [(1, .o 1 0), (37, .v (.slice A1 (List.length x0.Posts) c2)), (38, .v (.int .i64 (List.length x0.Posts : Int))), (39, .v (.int .i64 i93)), (75, .v (.bool (!y198)))] [(1, ⟨[.int .i64 x0.At, strV x0.Text, .slice A1 (List.length x0.Posts) c2], 24⟩)] (by kernel_rfl) fun β207 a208 w209 h210 => ?_
                            clear h205
                            obtain rfl := Option.some.inj hv199
                            have h211 : Sb β207 (cx 90 ok w) [(1, .o 1 0), (37, .v (.slice A1 (List.length x0.Posts) c2)), (38, .v (.int .i64 (List.length x0.Posts : Int))), (39, .v (.int .i64 i93)), (75, .v (.bool (!y198)))] [DF.v (rSl rApiPost) x0.Posts (.slice A1 (List.length x0.Posts) c2)] [(1, ⟨[.int .i64 x0.At, strV x0.Text, .slice A1 (List.length x0.Posts) c2], 24⟩)] [] a208 w209 := h210.sel [1, 37, 38, 39, 75] [0] [1]
                            clear h210
                            exact wpl_end (then_n ⟨_, h211⟩)
                    · skip
                      refine bcases (b := (decide (i93 > 0))) (fun hb212 => ?_) (fun hb212 => ?_)
                      · skip
                        have hv213 := ifT hb212 hv147
                        clear hv147
                        obtain ⟨x214, hx214, hv215⟩ := bindE hv213
                        clear hv213
                        have h217 : Sb β136 (cx 90 ok w) [(1, .o 1 0), (3, .v (.int .i64 i93)), (4, .o 4 0), (37, .v (.slice A1 (List.length x0.Posts) c2)), (38, .v (.int .i64 (List.length x0.Posts : Int))), (39, .v (.int .i64 i93))] [DF.v (rSl rApiPost) x0.Posts (.slice A1 (List.length x0.Posts) c2)] [(1, ⟨[.int .i64 x0.At, strV x0.Text, .slice A1 (List.length x0.Posts) c2], 24⟩), (4, ⟨[strV x115.Account, .int .i64 x115.Amount], 38⟩)] [] a134 w135 := h137.sel [1, 3, 4, 37, 38, 39] [0] [1, 4]
                        refine draw_rule h217 rfl (by kernel_rfl) 14 [61, 62, 63, 64, 65, 66, 67, 68, 69, 70, 71, 72, 73, 74] [FV.eq (.int .i64 i93), FV.eq (.bool (decide (i93 > 0))), FV.eq (.bool (decide (i93 > 0))), FV.eq (.pointer (some ⟨β136 1, 2, none⟩)), FV.eq (.slice A1 (List.length x0.Posts) c2), FV.eq (.int .i64 i93), FV.eq (.int .i64 (IntKind.wrap .i64 (i93 - 1))), FV.at rApiPost x214, FV.at rStr x214.Account, FV.eq (strV x214.Account), FV.eq (.pointer (some ⟨β136 4, 0, none⟩)), FV.eq (strV x115.Account), FV.eq (.bool (!(Op.bytesLess x214.Account x115.Account))), FV.eq (.bool (!(Op.bytesLess x214.Account x115.Account)))] rfl rfl rfl (by kernel_rfl) (by kernel_rfl) (by kernel_rfl) (by kernel_rfl) (by kernel_rfl) ?_ ?_
                        · skip
                          refine ⟨⟨⟨⟨⟨⟨⟨⟨⟨⟨⟨⟨⟨⟨trivial, ?_⟩, ?_⟩, ?_⟩, ?_⟩, ?_⟩, ?_⟩, ?_⟩, ?_⟩, ?_⟩, ?_⟩, ?_⟩, ?_⟩, ?_⟩, ?_⟩
                          · skip
                            intro β218 a219 w220 dX221 Ox222 Q223 h224 hq225 hp226 hk227
                            refine evalS_ok tabOk h224 1 [1, 3, 4, 37, 38, 39, 61] [1, 4] [(1, .o 1 0), (3, .v (.int .i64 i93)), (4, .o 4 0), (37, .v (.slice A1 (List.length x0.Posts) c2)), (38, .v (.int .i64 (List.length x0.Posts : Int))), (39, .v (.int .i64 i93)), (61, .v (.int .i64 i93))] [(1, ⟨[.int .i64 x0.At, strV x0.Text, .slice A1 (List.length x0.Posts) c2], 24⟩), (4, ⟨[strV x115.Account, .int .i64 x115.Amount], 38⟩)] (by kernel_rfl) fun β228 a229 w230 h231 => ?_
                            exact wpl_end (hk227 _ _ _ _ (h231.sel [1, 3, 4, 37, 38, 39] [0, 1] [1, 4]) (h231.getD rfl) rfl)
                          · skip
                            intro β232 a233 w234 dX235 Ox236 Q237 h238 hq239 hp240 hk241
                            have h242 := h238.learnE (d := 61) rfl (hp240 0 61 _ rfl rfl rfl)
                            clear h238
                            refine evalS_ok tabOk h242 1 [1, 3, 4, 37, 38, 39, 62] [1, 4] [(1, .o 1 0), (3, .v (.int .i64 i93)), (4, .o 4 0), (37, .v (.slice A1 (List.length x0.Posts) c2)), (38, .v (.int .i64 (List.length x0.Posts : Int))), (39, .v (.int .i64 i93)), (62, .v (.bool (decide (i93 > 0))))] [(1, ⟨[.int .i64 x0.At, strV x0.Text, .slice A1 (List.length x0.Posts) c2], 24⟩), (4, ⟨[strV x115.Account, .int .i64 x115.Amount], 38⟩)] (by kernel_rfl) fun β243 a244 w245 h246 => ?_
                            exact wpl_end (hk241 _ _ _ _ (h246.sel [1, 3, 4, 37, 38, 39] [0, 1] [1, 4]) (h246.getD rfl) rfl)
                          · skip
                            intro β247 a248 w249 dX250 Ox251 Q252 h253 hq254 hp255 hk256
                            have h257 := h253.learnE (d := 62) rfl (hp255 1 62 _ rfl rfl rfl)
                            clear h253
                            refine evalS_ok tabOk h257 1 [1, 3, 4, 37, 38, 39, 63] [1, 4] [(1, .o 1 0), (3, .v (.int .i64 i93)), (4, .o 4 0), (37, .v (.slice A1 (List.length x0.Posts) c2)), (38, .v (.int .i64 (List.length x0.Posts : Int))), (39, .v (.int .i64 i93)), (63, .v (.bool (decide (i93 > 0))))] [(1, ⟨[.int .i64 x0.At, strV x0.Text, .slice A1 (List.length x0.Posts) c2], 24⟩), (4, ⟨[strV x115.Account, .int .i64 x115.Amount], 38⟩)] (by kernel_rfl) fun β258 a259 w260 h261 => ?_
                            exact wpl_end (hk256 _ _ _ _ (h261.sel [1, 3, 4, 37, 38, 39] [0, 1] [1, 4]) (h261.getD rfl) rfl)
                          · skip
                            intro β262 a263 w264 dX265 Ox266 Q267 h268 hq269 hp270 hk271
                            have h272 := h268.learnE (d := 63) rfl (hp270 2 63 _ rfl rfl rfl)
                            clear h268
                            have h273 := h272.reb (t := 63) rfl hb212
                            clear h272
                            refine evalS_ok tabOk h273 1 [1, 3, 4, 37, 38, 39, 64] [1, 4] [(1, .o 1 0), (3, .v (.int .i64 i93)), (4, .o 4 0), (37, .v (.slice A1 (List.length x0.Posts) c2)), (38, .v (.int .i64 (List.length x0.Posts : Int))), (39, .v (.int .i64 i93)), (64, .o 1 2)] [(1, ⟨[.int .i64 x0.At, strV x0.Text, .slice A1 (List.length x0.Posts) c2], 24⟩), (4, ⟨[strV x115.Account, .int .i64 x115.Amount], 38⟩)] (by kernel_rfl) fun β274 a275 w276 h277 => ?_
                            exact wpl_end (hk271 _ _ _ _ (h277.sel [1, 3, 4, 37, 38, 39] [0, 1] [1, 4]) (h277.getO rfl rfl rfl) rfl)
                          · skip
                            intro β278 a279 w280 dX281 Ox282 Q283 h284 hq285 hp286 hk287
                            have h288 := h284.learnE (d := 63) rfl (hp286 2 63 _ rfl rfl rfl)
                            clear h284
                            have h289 := h288.reb (t := 63) rfl hb212
                            clear h288
                            have h290 := h289.learnO (d := 64) (id := 1) (off := 2) rfl rfl rfl (hp286 3 64 _ rfl rfl rfl)
                            clear h289
                            refine evalS_ok tabOk h290 1 [1, 3, 4, 37, 38, 39, 65] [1, 4] [(1, .o 1 0), (3, .v (.int .i64 i93)), (4, .o 4 0), (37, .v (.slice A1 (List.length x0.Posts) c2)), (38, .v (.int .i64 (List.length x0.Posts : Int))), (39, .v (.int .i64 i93)), (65, .v (.slice A1 (List.length x0.Posts) c2))] [(1, ⟨[.int .i64 x0.At, strV x0.Text, .slice A1 (List.length x0.Posts) c2], 24⟩), (4, ⟨[strV x115.Account, .int .i64 x115.Amount], 38⟩)] (by kernel_rfl) fun β291 a292 w293 h294 => ?_
                            exact wpl_end (hk287 _ _ _ _ (h294.sel [1, 3, 4, 37, 38, 39] [0, 1] [1, 4]) (h294.getD rfl) rfl)
                          · skip
                            intro β295 a296 w297 dX298 Ox299 Q300 h301 hq302 hp303 hk304
                            have h305 := h301.learnE (d := 63) rfl (hp303 2 63 _ rfl rfl rfl)
                            clear h301
                            have h306 := h305.reb (t := 63) rfl hb212
                            clear h305
                            refine evalS_ok tabOk h306 1 [1, 3, 4, 37, 38, 39, 66] [1, 4] [(1, .o 1 0), (3, .v (.int .i64 i93)), (4, .o 4 0), (37, .v (.slice A1 (List.length x0.Posts) c2)), (38, .v (.int .i64 (List.length x0.Posts : Int))), (39, .v (.int .i64 i93)), (66, .v (.int .i64 i93))] [(1, ⟨[.int .i64 x0.At, strV x0.Text, .slice A1 (List.length x0.Posts) c2], 24⟩), (4, ⟨[strV x115.Account, .int .i64 x115.Amount], 38⟩)] (by kernel_rfl) fun β307 a308 w309 h310 => ?_
                            exact wpl_end (hk304 _ _ _ _ (h310.sel [1, 3, 4, 37, 38, 39] [0, 1] [1, 4]) (h310.getD rfl) rfl)
                          · skip
                            intro β311 a312 w313 dX314 Ox315 Q316 h317 hq318 hp319 hk320
                            have h321 := h317.learnE (d := 63) rfl (hp319 2 63 _ rfl rfl rfl)
                            clear h317
                            have h322 := h321.reb (t := 63) rfl hb212
                            clear h321
                            have h323 := h322.learnE (d := 66) rfl (hp319 5 66 _ rfl rfl rfl)
                            clear h322
                            refine evalS_ok tabOk h323 1 [1, 3, 4, 37, 38, 39, 67] [1, 4] [(1, .o 1 0), (3, .v (.int .i64 i93)), (4, .o 4 0), (37, .v (.slice A1 (List.length x0.Posts) c2)), (38, .v (.int .i64 (List.length x0.Posts : Int))), (39, .v (.int .i64 i93)), (67, .v (.int .i64 (IntKind.wrap .i64 (i93 - 1))))] [(1, ⟨[.int .i64 x0.At, strV x0.Text, .slice A1 (List.length x0.Posts) c2], 24⟩), (4, ⟨[strV x115.Account, .int .i64 x115.Amount], 38⟩)] (by kernel_rfl) fun β324 a325 w326 h327 => ?_
                            exact wpl_end (hk320 _ _ _ _ (h327.sel [1, 3, 4, 37, 38, 39] [0, 1] [1, 4]) (h327.getD rfl) rfl)
                          · skip
                            intro β328 a329 w330 dX331 Ox332 Q333 h334 hq335 hp336 hk337
                            have h338 := h334.learnE (d := 63) rfl (hp336 2 63 _ rfl rfl rfl)
                            clear h334
                            have h339 := h338.reb (t := 63) rfl hb212
                            clear h338
                            have h340 := h339.learnE (d := 65) rfl (hp336 4 65 _ rfl rfl rfl)
                            clear h339
                            have h341 := h340.learnE (d := 67) rfl (hp336 6 67 _ rfl rfl rfl)
                            clear h340
                            refine step_idx tabOk h341 1 rfl rfl rfl rfl rfl hx214 tb22 rfl tb38 rfl fun p342 a343 h344 => ?_
                            clear h341
                            exact wpl_end (hk337 _ _ _ _ (h344.sel [1, 3, 4, 37, 38, 39] [1, 2] [1, 4]) (h344.getA rfl (h344.d 0 rfl)) rfl)
                          · skip
                            intro β345 a346 w347 dX348 Ox349 Q350 h351 hq352 hp353 hk354
                            have h355 := h351.learnE (d := 63) rfl (hp353 2 63 _ rfl rfl rfl)
                            clear h351
                            have h356 := h355.reb (t := 63) rfl hb212
                            clear h355
                            have h357 := h356.learn (d := 68) rfl
                            clear h356
                            have f358 := hp353 7 68 _ rfl rfl rfl
                            generalize a346.tmps.getD 68 undef = v359 at h357 f358
                            have h360 := h357.addD (d := DF.at rApiPost x214 (v359)) f358
                            clear h357
                            refine step_field tabOk h360 0 rfl rfl rfl rfl tb38 rfl rfl rfl fun p361 a362 (h363 : Sb β345 _ _ (DF.at rStr x214.Account (p361) :: _) _ _ a362 w347) => ?_
                            clear h360
                            exact wpl_end (hk354 _ _ _ _ (h363.sel [1, 3, 4, 37, 38, 39] [2, 3] [1, 4]) (h363.getA rfl (h363.d 0 rfl)) rfl)
                          · skip
                            intro β364 a365 w366 dX367 Ox368 Q369 h370 hq371 hp372 hk373
                            have h374 := h370.learnE (d := 63) rfl (hp372 2 63 _ rfl rfl rfl)
                            clear h370
                            have h375 := h374.reb (t := 63) rfl hb212
                            clear h374
                            have h376 := h375.learn (d := 69) rfl
                            clear h375
                            have f377 := hp372 8 69 _ rfl rfl rfl
                            generalize a365.tmps.getD 69 undef = v378 at h376 f377
                            have h379 := h376.addD (d := DF.at rStr x214.Account (v378)) f377
                            clear h376
                            refine step_load tabOk h379 0 rfl rfl rfl rfl tb9 rfl rfl fun v380 a382 hv381 h383 => ?_
                            clear h379
                            obtain rfl := isV_str.1 hv381
                            exact wpl_end (hk373 _ _ _ _ (h383.sel [1, 3, 4, 37, 38, 39] [2, 3] [1, 4]) (h383.getD rfl) rfl)
                          · skip
                            intro β384 a385 w386 dX387 Ox388 Q389 h390 hq391 hp392 hk393
                            have h394 := h390.learnE (d := 63) rfl (hp392 2 63 _ rfl rfl rfl)
                            clear h390
                            have h395 := h394.reb (t := 63) rfl hb212
                            clear h394
                            refine evalS_ok tabOk h395 1 [1, 3, 4, 37, 38, 39, 71] [1, 4] [(1, .o 1 0), (3, .v (.int .i64 i93)), (4, .o 4 0), (37, .v (.slice A1 (List.length x0.Posts) c2)), (38, .v (.int .i64 (List.length x0.Posts : Int))), (39, .v (.int .i64 i93)), (71, .o 4 0)] [(1, ⟨[.int .i64 x0.At, strV x0.Text, .slice A1 (List.length x0.Posts) c2], 24⟩), (4, ⟨[strV x115.Account, .int .i64 x115.Amount], 38⟩)] (by kernel_rfl) fun β396 a397 w398 h399 => ?_
                            exact wpl_end (hk393 _ _ _ _ (h399.sel [1, 3, 4, 37, 38, 39] [0, 1] [1, 4]) (h399.getO rfl rfl rfl) rfl)
                          · skip
                            intro β400 a401 w402 dX403 Ox404 Q405 h406 hq407 hp408 hk409
                            have h410 := h406.learnE (d := 63) rfl (hp408 2 63 _ rfl rfl rfl)
                            clear h406
                            have h411 := h410.reb (t := 63) rfl hb212
                            clear h410
                            have h412 := h411.learnO (d := 71) (id := 4) (off := 0) rfl rfl rfl (hp408 10 71 _ rfl rfl rfl)
                            clear h411
                            refine evalS_ok tabOk h412 1 [1, 3, 4, 37, 38, 39, 72] [1, 4] [(1, .o 1 0), (3, .v (.int .i64 i93)), (4, .o 4 0), (37, .v (.slice A1 (List.length x0.Posts) c2)), (38, .v (.int .i64 (List.length x0.Posts : Int))), (39, .v (.int .i64 i93)), (72, .v (strV x115.Account))] [(1, ⟨[.int .i64 x0.At, strV x0.Text, .slice A1 (List.length x0.Posts) c2], 24⟩), (4, ⟨[strV x115.Account, .int .i64 x115.Amount], 38⟩)] (by kernel_rfl) fun β413 a414 w415 h416 => ?_
                            exact wpl_end (hk409 _ _ _ _ (h416.sel [1, 3, 4, 37, 38, 39] [0, 1] [1, 4]) (h416.getD rfl) rfl)
                          · skip
                            intro β417 a418 w419 dX420 Ox421 Q422 h423 hq424 hp425 hk426
                            have h427 := h423.learnE (d := 63) rfl (hp425 2 63 _ rfl rfl rfl)
                            clear h423
                            have h428 := h427.reb (t := 63) rfl hb212
                            clear h427
                            have h429 := h428.learnE (d := 70) rfl (hp425 9 70 _ rfl rfl rfl)
                            clear h428
                            have h430 := h429.learnE (d := 72) rfl (hp425 11 72 _ rfl rfl rfl)
                            clear h429
                            refine evalS_ok tabOk h430 1 [1, 3, 4, 37, 38, 39, 73] [1, 4] [(1, .o 1 0), (3, .v (.int .i64 i93)), (4, .o 4 0), (37, .v (.slice A1 (List.length x0.Posts) c2)), (38, .v (.int .i64 (List.length x0.Posts : Int))), (39, .v (.int .i64 i93)), (73, .v (.bool (!(Op.bytesLess x214.Account x115.Account))))] [(1, ⟨[.int .i64 x0.At, strV x0.Text, .slice A1 (List.length x0.Posts) c2], 24⟩), (4, ⟨[strV x115.Account, .int .i64 x115.Amount], 38⟩)] (by kernel_rfl) fun β431 a432 w433 h434 => ?_
                            exact wpl_end (hk426 _ _ _ _ (h434.sel [1, 3, 4, 37, 38, 39] [0, 1] [1, 4]) (h434.getD rfl) rfl)
                          · skip
                            intro β435 a436 w437 dX438 Ox439 Q440 h441 hq442 hp443 hk444
                            have h445 := h441.learnE (d := 63) rfl (hp443 2 63 _ rfl rfl rfl)
                            clear h441
                            have h446 := h445.reb (t := 63) rfl hb212
                            clear h445
                            have h447 := h446.learnE (d := 73) rfl (hp443 12 73 _ rfl rfl rfl)
                            clear h446
                            refine evalS_ok tabOk h447 1 [1, 3, 4, 37, 38, 39, 74] [1, 4] [(1, .o 1 0), (3, .v (.int .i64 i93)), (4, .o 4 0), (37, .v (.slice A1 (List.length x0.Posts) c2)), (38, .v (.int .i64 (List.length x0.Posts : Int))), (39, .v (.int .i64 i93)), (74, .v (.bool (!(Op.bytesLess x214.Account x115.Account))))] [(1, ⟨[.int .i64 x0.At, strV x0.Text, .slice A1 (List.length x0.Posts) c2], 24⟩), (4, ⟨[strV x115.Account, .int .i64 x115.Amount], 38⟩)] (by kernel_rfl) fun β448 a449 w450 h451 => ?_
                            exact wpl_end (hk444 _ _ _ _ (h451.sel [1, 3, 4, 37, 38, 39] [0, 1] [1, 4]) (h451.getD rfl) rfl)
                        · skip
                          intro β452 a453 w454 h455 ha456
                          have h457 := h455.learnE (d := 74) rfl (ha456 13 74 _ rfl rfl)
                          clear h455
                          have h458 := h457.unpin rfl
                          clear h457
                          refine evalS_ok tabOk h458 1 [1, 4, 37, 38, 39, 60] [1, 4] [(1, .o 1 0), (4, .o 4 0), (37, .v (.slice A1 (List.length x0.Posts) c2)), (38, .v (.int .i64 (List.length x0.Posts : Int))), (39, .v (.int .i64 i93)), (60, .v (.bool (!(Op.bytesLess x214.Account x115.Account))))] [(1, ⟨[.int .i64 x0.At, strV x0.Text, .slice A1 (List.length x0.Posts) c2], 24⟩), (4, ⟨[strV x115.Account, .int .i64 x115.Amount], 38⟩)] (by kernel_rfl) fun β459 a460 w461 h462 => ?_
                          clear h458
                          obtain rfl := Option.some.inj hv215
                          have h463 : Sb β459 (cx 90 ok w) [(1, .o 1 0), (4, .o 4 0), (37, .v (.slice A1 (List.length x0.Posts) c2)), (38, .v (.int .i64 (List.length x0.Posts : Int))), (39, .v (.int .i64 i93)), (60, .v (.bool (!(Op.bytesLess x214.Account x115.Account))))] [DF.v (rSl rApiPost) x0.Posts (.slice A1 (List.length x0.Posts) c2)] [(1, ⟨[.int .i64 x0.At, strV x0.Text, .slice A1 (List.length x0.Posts) c2], 24⟩), (4, ⟨[strV x115.Account, .int .i64 x115.Amount], 38⟩)] [] a460 w461 := h462.sel [1, 4, 37, 38, 39, 60] [0] [1, 4]
                          clear h462
                          exact wpl_end (then_n ⟨_, h463⟩)
                      · skip
                        have hv464 := ifF hb212 hv147
                        clear hv147
                        have h466 : Sb β136 (cx 90 ok w) [(1, .o 1 0), (3, .v (.int .i64 i93)), (4, .o 4 0), (37, .v (.slice A1 (List.length x0.Posts) c2)), (38, .v (.int .i64 (List.length x0.Posts : Int))), (39, .v (.int .i64 i93))] [DF.v (rSl rApiPost) x0.Posts (.slice A1 (List.length x0.Posts) c2)] [(1, ⟨[.int .i64 x0.At, strV x0.Text, .slice A1 (List.length x0.Posts) c2], 24⟩), (4, ⟨[strV x115.Account, .int .i64 x115.Amount], 38⟩)] [] a134 w135 := h137.sel [1, 3, 4, 37, 38, 39] [0] [1, 4]
                        refine draw_rule h466 rfl (by kernel_rfl) 14 [61, 62, 63, 64, 65, 66, 67, 68, 69, 70, 71, 72, 73, 74] [FV.eq (.int .i64 i93), FV.eq (.bool (decide (i93 > 0))), FV.eq (.bool (decide (i93 > 0))), FV.any, FV.any, FV.any, FV.any, FV.any, FV.any, FV.any, FV.any, FV.any, FV.any, FV.eq (.bool false)] rfl rfl rfl (by kernel_rfl) (by kernel_rfl) (by kernel_rfl) (by kernel_rfl) (by kernel_rfl) ?_ ?_
                        · skip
                          refine ⟨⟨⟨⟨⟨⟨⟨⟨⟨⟨⟨⟨⟨⟨trivial, ?_⟩, ?_⟩, ?_⟩, ?_⟩, ?_⟩, ?_⟩, ?_⟩, ?_⟩, ?_⟩, ?_⟩, ?_⟩, ?_⟩, ?_⟩, ?_⟩
                          · skip
                            intro β467 a468 w469 dX470 Ox471 Q472 h473 hq474 hp475 hk476
                            refine evalS_ok tabOk h473 1 [1, 3, 4, 37, 38, 39, 61] [1, 4] [(1, .o 1 0), (3, .v (.int .i64 i93)), (4, .o 4 0), (37, .v (.slice A1 (List.length x0.Posts) c2)), (38, .v (.int .i64 (List.length x0.Posts : Int))), (39, .v (.int .i64 i93)), (61, .v (.int .i64 i93))] [(1, ⟨[.int .i64 x0.At, strV x0.Text, .slice A1 (List.length x0.Posts) c2], 24⟩), (4, ⟨[strV x115.Account, .int .i64 x115.Amount], 38⟩)] (by kernel_rfl) fun β477 a478 w479 h480 => ?_
                            exact wpl_end (hk476 _ _ _ _ (h480.sel [1, 3, 4, 37, 38, 39] [0, 1] [1, 4]) (h480.getD rfl) rfl)
                          · skip
                            intro β481 a482 w483 dX484 Ox485 Q486 h487 hq488 hp489 hk490
                            have h491 := h487.learnE (d := 61) rfl (hp489 0 61 _ rfl rfl rfl)
                            clear h487
                            refine evalS_ok tabOk h491 1 [1, 3, 4, 37, 38, 39, 62] [1, 4] [(1, .o 1 0), (3, .v (.int .i64 i93)), (4, .o 4 0), (37, .v (.slice A1 (List.length x0.Posts) c2)), (38, .v (.int .i64 (List.length x0.Posts : Int))), (39, .v (.int .i64 i93)), (62, .v (.bool (decide (i93 > 0))))] [(1, ⟨[.int .i64 x0.At, strV x0.Text, .slice A1 (List.length x0.Posts) c2], 24⟩), (4, ⟨[strV x115.Account, .int .i64 x115.Amount], 38⟩)] (by kernel_rfl) fun β492 a493 w494 h495 => ?_
                            exact wpl_end (hk490 _ _ _ _ (h495.sel [1, 3, 4, 37, 38, 39] [0, 1] [1, 4]) (h495.getD rfl) rfl)
                          · skip
                            intro β496 a497 w498 dX499 Ox500 Q501 h502 hq503 hp504 hk505
                            have h506 := h502.learnE (d := 62) rfl (hp504 1 62 _ rfl rfl rfl)
                            clear h502
                            refine evalS_ok tabOk h506 1 [1, 3, 4, 37, 38, 39, 63] [1, 4] [(1, .o 1 0), (3, .v (.int .i64 i93)), (4, .o 4 0), (37, .v (.slice A1 (List.length x0.Posts) c2)), (38, .v (.int .i64 (List.length x0.Posts : Int))), (39, .v (.int .i64 i93)), (63, .v (.bool (decide (i93 > 0))))] [(1, ⟨[.int .i64 x0.At, strV x0.Text, .slice A1 (List.length x0.Posts) c2], 24⟩), (4, ⟨[strV x115.Account, .int .i64 x115.Amount], 38⟩)] (by kernel_rfl) fun β507 a508 w509 h510 => ?_
                            exact wpl_end (hk505 _ _ _ _ (h510.sel [1, 3, 4, 37, 38, 39] [0, 1] [1, 4]) (h510.getD rfl) rfl)
                          · skip
                            intro β511 a512 w513 dX514 Ox515 Q516 h517 hq518 hp519 hk520
                            have h521 := h517.learnE (d := 63) rfl (hp519 2 63 _ rfl rfl rfl)
                            clear h517
                            have h522 := h521.reb (t := 63) rfl hb212
                            clear h521
                            refine evalS_ok tabOk h522 1 [1, 3, 4, 37, 38, 39] [1, 4] [(1, .o 1 0), (3, .v (.int .i64 i93)), (4, .o 4 0), (37, .v (.slice A1 (List.length x0.Posts) c2)), (38, .v (.int .i64 (List.length x0.Posts : Int))), (39, .v (.int .i64 i93))] [(1, ⟨[.int .i64 x0.At, strV x0.Text, .slice A1 (List.length x0.Posts) c2], 24⟩), (4, ⟨[strV x115.Account, .int .i64 x115.Amount], 38⟩)] (by kernel_rfl) fun β523 a524 w525 h526 => ?_
                            exact wpl_end (hk520 _ _ _ _ (h526.sel [1, 3, 4, 37, 38, 39] [0, 1] [1, 4]) trivial rfl)
                          · skip
                            intro β527 a528 w529 dX530 Ox531 Q532 h533 hq534 hp535 hk536
                            have h537 := h533.learnE (d := 63) rfl (hp535 2 63 _ rfl rfl rfl)
                            clear h533
                            have h538 := h537.reb (t := 63) rfl hb212
                            clear h537
                            refine evalS_ok tabOk h538 1 [1, 3, 4, 37, 38, 39] [1, 4] [(1, .o 1 0), (3, .v (.int .i64 i93)), (4, .o 4 0), (37, .v (.slice A1 (List.length x0.Posts) c2)), (38, .v (.int .i64 (List.length x0.Posts : Int))), (39, .v (.int .i64 i93))] [(1, ⟨[.int .i64 x0.At, strV x0.Text, .slice A1 (List.length x0.Posts) c2], 24⟩), (4, ⟨[strV x115.Account, .int .i64 x115.Amount], 38⟩)] (by kernel_rfl) fun β539 a540 w541 h542 => ?_
                            exact wpl_end (hk536 _ _ _ _ (h542.sel [1, 3, 4, 37, 38, 39] [0, 1] [1, 4]) trivial rfl)
                          · skip
                            intro β543 a544 w545 dX546 Ox547 Q548 h549 hq550 hp551 hk552
                            have h553 := h549.learnE (d := 63) rfl (hp551 2 63 _ rfl rfl rfl)
                            clear h549
                            have h554 := h553.reb (t := 63) rfl hb212
                            clear h553
                            refine evalS_ok tabOk h554 1 [1, 3, 4, 37, 38, 39] [1, 4] [(1, .o 1 0), (3, .v (.int .i64 i93)), (4, .o 4 0), (37, .v (.slice A1 (List.length x0.Posts) c2)), (38, .v (.int .i64 (List.length x0.Posts : Int))), (39, .v (.int .i64 i93))] [(1, ⟨[.int .i64 x0.At, strV x0.Text, .slice A1 (List.length x0.Posts) c2], 24⟩), (4, ⟨[strV x115.Account, .int .i64 x115.Amount], 38⟩)] (by kernel_rfl) fun β555 a556 w557 h558 => ?_
                            exact wpl_end (hk552 _ _ _ _ (h558.sel [1, 3, 4, 37, 38, 39] [0, 1] [1, 4]) trivial rfl)
                          · skip
                            intro β559 a560 w561 dX562 Ox563 Q564 h565 hq566 hp567 hk568
                            have h569 := h565.learnE (d := 63) rfl (hp567 2 63 _ rfl rfl rfl)
                            clear h565
                            have h570 := h569.reb (t := 63) rfl hb212
                            clear h569
                            refine evalS_ok tabOk h570 1 [1, 3, 4, 37, 38, 39] [1, 4] [(1, .o 1 0), (3, .v (.int .i64 i93)), (4, .o 4 0), (37, .v (.slice A1 (List.length x0.Posts) c2)), (38, .v (.int .i64 (List.length x0.Posts : Int))), (39, .v (.int .i64 i93))] [(1, ⟨[.int .i64 x0.At, strV x0.Text, .slice A1 (List.length x0.Posts) c2], 24⟩), (4, ⟨[strV x115.Account, .int .i64 x115.Amount], 38⟩)] (by kernel_rfl) fun β571 a572 w573 h574 => ?_
                            exact wpl_end (hk568 _ _ _ _ (h574.sel [1, 3, 4, 37, 38, 39] [0, 1] [1, 4]) trivial rfl)
                          · skip
                            intro β575 a576 w577 dX578 Ox579 Q580 h581 hq582 hp583 hk584
                            have h585 := h581.learnE (d := 63) rfl (hp583 2 63 _ rfl rfl rfl)
                            clear h581
                            have h586 := h585.reb (t := 63) rfl hb212
                            clear h585
                            refine evalS_ok tabOk h586 1 [1, 3, 4, 37, 38, 39] [1, 4] [(1, .o 1 0), (3, .v (.int .i64 i93)), (4, .o 4 0), (37, .v (.slice A1 (List.length x0.Posts) c2)), (38, .v (.int .i64 (List.length x0.Posts : Int))), (39, .v (.int .i64 i93))] [(1, ⟨[.int .i64 x0.At, strV x0.Text, .slice A1 (List.length x0.Posts) c2], 24⟩), (4, ⟨[strV x115.Account, .int .i64 x115.Amount], 38⟩)] (by kernel_rfl) fun β587 a588 w589 h590 => ?_
                            exact wpl_end (hk584 _ _ _ _ (h590.sel [1, 3, 4, 37, 38, 39] [0, 1] [1, 4]) trivial rfl)
                          · skip
                            intro β591 a592 w593 dX594 Ox595 Q596 h597 hq598 hp599 hk600
                            have h601 := h597.learnE (d := 63) rfl (hp599 2 63 _ rfl rfl rfl)
                            clear h597
                            have h602 := h601.reb (t := 63) rfl hb212
                            clear h601
                            refine evalS_ok tabOk h602 1 [1, 3, 4, 37, 38, 39] [1, 4] [(1, .o 1 0), (3, .v (.int .i64 i93)), (4, .o 4 0), (37, .v (.slice A1 (List.length x0.Posts) c2)), (38, .v (.int .i64 (List.length x0.Posts : Int))), (39, .v (.int .i64 i93))] [(1, ⟨[.int .i64 x0.At, strV x0.Text, .slice A1 (List.length x0.Posts) c2], 24⟩), (4, ⟨[strV x115.Account, .int .i64 x115.Amount], 38⟩)] (by kernel_rfl) fun β603 a604 w605 h606 => ?_
                            exact wpl_end (hk600 _ _ _ _ (h606.sel [1, 3, 4, 37, 38, 39] [0, 1] [1, 4]) trivial rfl)
                          · skip
                            intro β607 a608 w609 dX610 Ox611 Q612 h613 hq614 hp615 hk616
                            have h617 := h613.learnE (d := 63) rfl (hp615 2 63 _ rfl rfl rfl)
                            clear h613
                            have h618 := h617.reb (t := 63) rfl hb212
                            clear h617
                            refine evalS_ok tabOk h618 1 [1, 3, 4, 37, 38, 39] [1, 4] [(1, .o 1 0), (3, .v (.int .i64 i93)), (4, .o 4 0), (37, .v (.slice A1 (List.length x0.Posts) c2)), (38, .v (.int .i64 (List.length x0.Posts : Int))), (39, .v (.int .i64 i93))] [(1, ⟨[.int .i64 x0.At, strV x0.Text, .slice A1 (List.length x0.Posts) c2], 24⟩), (4, ⟨[strV x115.Account, .int .i64 x115.Amount], 38⟩)] (by kernel_rfl) fun β619 a620 w621 h622 => ?_
                            exact wpl_end (hk616 _ _ _ _ (h622.sel [1, 3, 4, 37, 38, 39] [0, 1] [1, 4]) trivial rfl)
                          · skip
                            intro β623 a624 w625 dX626 Ox627 Q628 h629 hq630 hp631 hk632
                            have h633 := h629.learnE (d := 63) rfl (hp631 2 63 _ rfl rfl rfl)
                            clear h629
                            have h634 := h633.reb (t := 63) rfl hb212
                            clear h633
                            refine evalS_ok tabOk h634 1 [1, 3, 4, 37, 38, 39] [1, 4] [(1, .o 1 0), (3, .v (.int .i64 i93)), (4, .o 4 0), (37, .v (.slice A1 (List.length x0.Posts) c2)), (38, .v (.int .i64 (List.length x0.Posts : Int))), (39, .v (.int .i64 i93))] [(1, ⟨[.int .i64 x0.At, strV x0.Text, .slice A1 (List.length x0.Posts) c2], 24⟩), (4, ⟨[strV x115.Account, .int .i64 x115.Amount], 38⟩)] (by kernel_rfl) fun β635 a636 w637 h638 => ?_
                            exact wpl_end (hk632 _ _ _ _ (h638.sel [1, 3, 4, 37, 38, 39] [0, 1] [1, 4]) trivial rfl)
                          · skip
                            intro β639 a640 w641 dX642 Ox643 Q644 h645 hq646 hp647 hk648
                            have h649 := h645.learnE (d := 63) rfl (hp647 2 63 _ rfl rfl rfl)
                            clear h645
                            have h650 := h649.reb (t := 63) rfl hb212
                            clear h649
                            refine evalS_ok tabOk h650 1 [1, 3, 4, 37, 38, 39] [1, 4] [(1, .o 1 0), (3, .v (.int .i64 i93)), (4, .o 4 0), (37, .v (.slice A1 (List.length x0.Posts) c2)), (38, .v (.int .i64 (List.length x0.Posts : Int))), (39, .v (.int .i64 i93))] [(1, ⟨[.int .i64 x0.At, strV x0.Text, .slice A1 (List.length x0.Posts) c2], 24⟩), (4, ⟨[strV x115.Account, .int .i64 x115.Amount], 38⟩)] (by kernel_rfl) fun β651 a652 w653 h654 => ?_
                            exact wpl_end (hk648 _ _ _ _ (h654.sel [1, 3, 4, 37, 38, 39] [0, 1] [1, 4]) trivial rfl)
                          · skip
                            intro β655 a656 w657 dX658 Ox659 Q660 h661 hq662 hp663 hk664
                            have h665 := h661.learnE (d := 63) rfl (hp663 2 63 _ rfl rfl rfl)
                            clear h661
                            have h666 := h665.reb (t := 63) rfl hb212
                            clear h665
                            refine evalS_ok tabOk h666 1 [1, 3, 4, 37, 38, 39] [1, 4] [(1, .o 1 0), (3, .v (.int .i64 i93)), (4, .o 4 0), (37, .v (.slice A1 (List.length x0.Posts) c2)), (38, .v (.int .i64 (List.length x0.Posts : Int))), (39, .v (.int .i64 i93))] [(1, ⟨[.int .i64 x0.At, strV x0.Text, .slice A1 (List.length x0.Posts) c2], 24⟩), (4, ⟨[strV x115.Account, .int .i64 x115.Amount], 38⟩)] (by kernel_rfl) fun β667 a668 w669 h670 => ?_
                            exact wpl_end (hk664 _ _ _ _ (h670.sel [1, 3, 4, 37, 38, 39] [0, 1] [1, 4]) trivial rfl)
                          · skip
                            intro β671 a672 w673 dX674 Ox675 Q676 h677 hq678 hp679 hk680
                            have h681 := h677.learnE (d := 63) rfl (hp679 2 63 _ rfl rfl rfl)
                            clear h677
                            have h682 := h681.reb (t := 63) rfl hb212
                            clear h681
                            refine evalS_ok tabOk h682 1 [1, 3, 4, 37, 38, 39, 74] [1, 4] [(1, .o 1 0), (3, .v (.int .i64 i93)), (4, .o 4 0), (37, .v (.slice A1 (List.length x0.Posts) c2)), (38, .v (.int .i64 (List.length x0.Posts : Int))), (39, .v (.int .i64 i93)), (74, .v (.bool false))] [(1, ⟨[.int .i64 x0.At, strV x0.Text, .slice A1 (List.length x0.Posts) c2], 24⟩), (4, ⟨[strV x115.Account, .int .i64 x115.Amount], 38⟩)] (by kernel_rfl) fun β683 a684 w685 h686 => ?_
                            exact wpl_end (hk680 _ _ _ _ (h686.sel [1, 3, 4, 37, 38, 39] [0, 1] [1, 4]) (h686.getD rfl) rfl)
                        · skip
                          intro β687 a688 w689 h690 ha691
                          have h692 := h690.learnE (d := 74) rfl (ha691 13 74 _ rfl rfl)
                          clear h690
                          have h693 := h692.unpin rfl
                          clear h692
                          refine evalS_ok tabOk h693 1 [1, 4, 37, 38, 39, 60] [1, 4] [(1, .o 1 0), (4, .o 4 0), (37, .v (.slice A1 (List.length x0.Posts) c2)), (38, .v (.int .i64 (List.length x0.Posts : Int))), (39, .v (.int .i64 i93)), (60, .v (.bool false))] [(1, ⟨[.int .i64 x0.At, strV x0.Text, .slice A1 (List.length x0.Posts) c2], 24⟩), (4, ⟨[strV x115.Account, .int .i64 x115.Amount], 38⟩)] (by kernel_rfl) fun β694 a695 w696 h697 => ?_
                          clear h693
                          obtain rfl := Option.some.inj hv464
                          have h698 : Sb β694 (cx 90 ok w) [(1, .o 1 0), (4, .o 4 0), (37, .v (.slice A1 (List.length x0.Posts) c2)), (38, .v (.int .i64 (List.length x0.Posts : Int))), (39, .v (.int .i64 i93)), (60, .v (.bool false))] [DF.v (rSl rApiPost) x0.Posts (.slice A1 (List.length x0.Posts) c2)] [(1, ⟨[.int .i64 x0.At, strV x0.Text, .slice A1 (List.length x0.Posts) c2], 24⟩), (4, ⟨[strV x115.Account, .int .i64 x115.Amount], 38⟩)] [] a695 w696 := h697.sel [1, 4, 37, 38, 39, 60] [0] [1, 4]
                          clear h697
                          exact wpl_end (then_n ⟨_, h698⟩)
                · skip
                  refine region_ok ?_
                  refine evalS_ok tabOk h128 4 [1, 3, 4, 37, 38, 39, 48] [1, 4] [(1, .o 1 0), (3, .v (.int .i64 i93)), (4, .o 4 0), (37, .v (.slice A1 (List.length x0.Posts) c2)), (38, .v (.int .i64 (List.length x0.Posts : Int))), (39, .v (.int .i64 i93)), (48, .v (.bool (x115.Account == ([] : Str))))] [(1, ⟨[.int .i64 x0.At, strV x0.Text, .slice A1 (List.length x0.Posts) c2], 24⟩), (4, ⟨[strV x115.Account, .int .i64 x115.Amount], 38⟩)] (by kernel_rfl) fun β699 a700 w701 h702 => ?_
                  clear h128
                  refine bcases (b := (x115.Account == ([] : Str))) (fun hb703 => ?_) (fun hb703 => ?_)
                  · skip
                    have hv704 := ifT hb703 hv132
                    clear hv132
                    have h705 := h702.reb (t := 48) rfl hb703
                    clear h702
                    refine evalS_ok tabOk h705 12 [1, 3, 4, 37, 38, 39, 44] [1, 4] [(1, .o 1 0), (3, .v (.int .i64 i93)), (4, .o 4 0), (37, .v (.slice A1 (List.length x0.Posts) c2)), (38, .v (.int .i64 (List.length x0.Posts : Int))), (39, .v (.int .i64 i93)), (44, .v (.bool true))] [(1, ⟨[.int .i64 x0.At, strV x0.Text, .slice A1 (List.length x0.Posts) c2], 24⟩), (4, ⟨[strV x115.Account, .int .i64 x115.Amount], 38⟩)] (by kernel_rfl) fun β706 a707 w708 h709 => ?_
                    clear h705
                    obtain rfl := Option.some.inj hv704
                    have h710 : Sb β706 (cx 90 ok w) [(1, .o 1 0), (3, .v (.int .i64 i93)), (4, .o 4 0), (37, .v (.slice A1 (List.length x0.Posts) c2)), (38, .v (.int .i64 (List.length x0.Posts : Int))), (39, .v (.int .i64 i93)), (44, .v (.bool true))] [DF.v (rSl rApiPost) x0.Posts (.slice A1 (List.length x0.Posts) c2)] [(1, ⟨[.int .i64 x0.At, strV x0.Text, .slice A1 (List.length x0.Posts) c2], 24⟩), (4, ⟨[strV x115.Account, .int .i64 x115.Amount], 38⟩)] [] a707 w708 := h709.sel [1, 3, 4, 37, 38, 39, 44] [0] [1, 4]
                    clear h709
                    exact wpl_end (then_n ⟨_, h710⟩)
                  · skip
                    have hv711 := ifF hb703 hv132
                    clear hv132
                    have h712 := h702.reb (t := 48) rfl hb703
                    clear h702
                    refine evalS_ok tabOk h712 6 [1, 3, 4, 37, 38, 39, 54] [1, 4] [(1, .o 1 0), (3, .v (.int .i64 i93)), (4, .o 4 0), (37, .v (.slice A1 (List.length x0.Posts) c2)), (38, .v (.int .i64 (List.length x0.Posts : Int))), (39, .v (.int .i64 i93)), (54, .v (.bool (decide ((List.length x115.Account : Int) > 200))))] [(1, ⟨[.int .i64 x0.At, strV x0.Text, .slice A1 (List.length x0.Posts) c2], 24⟩), (4, ⟨[strV x115.Account, .int .i64 x115.Amount], 38⟩)] (by kernel_rfl) fun β713 a714 w715 h716 => ?_
                    clear h712
                    refine bcases (b := (decide ((List.length x115.Account : Int) > 200))) (fun hb717 => ?_) (fun hb717 => ?_)
                    · skip
                      have hv718 := ifT hb717 hv711
                      clear hv711
                      have h719 := h716.reb (t := 54) rfl hb717
                      clear h716
                      refine evalS_ok tabOk h719 6 [1, 3, 4, 37, 38, 39, 44] [1, 4] [(1, .o 1 0), (3, .v (.int .i64 i93)), (4, .o 4 0), (37, .v (.slice A1 (List.length x0.Posts) c2)), (38, .v (.int .i64 (List.length x0.Posts : Int))), (39, .v (.int .i64 i93)), (44, .v (.bool true))] [(1, ⟨[.int .i64 x0.At, strV x0.Text, .slice A1 (List.length x0.Posts) c2], 24⟩), (4, ⟨[strV x115.Account, .int .i64 x115.Amount], 38⟩)] (by kernel_rfl) fun β720 a721 w722 h723 => ?_
                      clear h719
                      obtain rfl := Option.some.inj hv718
                      have h724 : Sb β720 (cx 90 ok w) [(1, .o 1 0), (3, .v (.int .i64 i93)), (4, .o 4 0), (37, .v (.slice A1 (List.length x0.Posts) c2)), (38, .v (.int .i64 (List.length x0.Posts : Int))), (39, .v (.int .i64 i93)), (44, .v (.bool true))] [DF.v (rSl rApiPost) x0.Posts (.slice A1 (List.length x0.Posts) c2)] [(1, ⟨[.int .i64 x0.At, strV x0.Text, .slice A1 (List.length x0.Posts) c2], 24⟩), (4, ⟨[strV x115.Account, .int .i64 x115.Amount], 38⟩)] [] a721 w722 := h723.sel [1, 3, 4, 37, 38, 39, 44] [0] [1, 4]
                      clear h723
                      exact wpl_end (then_n ⟨_, h724⟩)
                    · skip
                      have hv725 := ifF hb717 hv711
                      clear hv711
                      have h726 := h716.reb (t := 54) rfl hb717
                      clear h716
                      refine evalS_ok tabOk h726 2 [1, 3, 4, 37, 38, 39, 54, 56] [1, 4] [(1, .o 1 0), (3, .v (.int .i64 i93)), (4, .o 4 0), (37, .v (.slice A1 (List.length x0.Posts) c2)), (38, .v (.int .i64 (List.length x0.Posts : Int))), (39, .v (.int .i64 i93)), (54, .v (.bool false)), (56, .v (strV x115.Account))] [(1, ⟨[.int .i64 x0.At, strV x0.Text, .slice A1 (List.length x0.Posts) c2], 24⟩), (4, ⟨[strV x115.Account, .int .i64 x115.Amount], 38⟩)] (by kernel_rfl) fun β727 a728 w729 h730 => ?_
                      clear h726
                      obtain ⟨y731, hy731, hv732⟩ := bindE hv725
                      clear hv725
                      refine step_call h730 rfl rfl runs24 (vs := [(strV x115.Account), (.int .u8 33)]) (by kernel_rfl) (c_ledger_printed (x0 := x115.Account) (x1 := 33) h730.okLt N hy731) fun v733 a736 w737 hR734 hk735 h738 => ?_
                      clear h730
                      have hv739 := isV.weak hR734 hk735
                      obtain rfl := isV_bool.1 hv739
                      refine evalS_ok tabOk h738 3 [1, 3, 4, 37, 38, 39, 44] [1, 4] [(1, .o 1 0), (3, .v (.int .i64 i93)), (4, .o 4 0), (37, .v (.slice A1 (List.length x0.Posts) c2)), (38, .v (.int .i64 (List.length x0.Posts : Int))), (39, .v (.int .i64 i93)), (44, .v (.bool (!y731)))] [(1, ⟨[.int .i64 x0.At, strV x0.Text, .slice A1 (List.length x0.Posts) c2], 24⟩), (4, ⟨[strV x115.Account, .int .i64 x115.Amount], 38⟩)] (by kernel_rfl) fun β740 a741 w742 h743 => ?_
                      clear h738
                      obtain rfl := Option.some.inj hv732
                      have h744 : Sb β740 (cx 90 ok w) [(1, .o 1 0), (3, .v (.int .i64 i93)), (4, .o 4 0), (37, .v (.slice A1 (List.length x0.Posts) c2)), (38, .v (.int .i64 (List.length x0.Posts : Int))), (39, .v (.int .i64 i93)), (44, .v (.bool (!y731)))] [DF.v (rSl rApiPost) x0.Posts (.slice A1 (List.length x0.Posts) c2)] [(1, ⟨[.int .i64 x0.At, strV x0.Text, .slice A1 (List.length x0.Posts) c2], 24⟩), (4, ⟨[strV x115.Account, .int .i64 x115.Amount], 38⟩)] [] a741 w742 := h743.sel [1, 3, 4, 37, 38, 39, 44] [0] [1, 4]
                      clear h743
                      exact wpl_end (then_n ⟨_, h744⟩)
              · skip
                have hF745 := ifF hb106 hF100
                clear hF100
                refine wp_exit ?_
                refine hx105 1 _ _ ?_
                refine hx55 1 _ _ ?_
                refine hbb55 _ _ ?_
                obtain rfl := Option.some.inj hF745
                have h746 : Sb β101 (cx 90 ok w) [(1, .o 1 0)] [DF.v (rSl rApiPost) x0.Posts (.slice A1 (List.length x0.Posts) c2)] [(1, ⟨[.int .i64 x0.At, strV x0.Text, .slice A1 (List.length x0.Posts) c2], 24⟩)] [] a102 w103 := (h104).sel [1] [0] [1]
                exact j56 _ _ ⟨⟨_, h746⟩, hC55⟩
          · skip
            refine region_ok ?_
            refine evalS_ok tabOk h27 2 [1, 27] [1] [(1, .o 1 0), (27, .v (strV x0.Text))] [(1, ⟨[.int .i64 x0.At, strV x0.Text, .slice A1 (List.length x0.Posts) c2], 24⟩)] (by kernel_rfl) fun β748 a749 w750 h751 => ?_
            clear h27
            obtain ⟨y752, hy752, hv753⟩ := bindE hv37
            clear hv37
            refine step_call h751 rfl rfl runs24 (vs := [(strV x0.Text), (.int .u8 32)]) (by kernel_rfl) (c_ledger_printed (x0 := x0.Text) (x1 := 32) h751.okLt N hy752) fun v754 a757 w758 hR755 hk756 h759 => ?_
            clear h751
            have hv760 := isV.weak hR755 hk756
            obtain rfl := isV_bool.1 hv760
            refine evalS_ok tabOk h759 2 [1, 30] [1] [(1, .o 1 0), (30, .v (.bool (!y752)))] [(1, ⟨[.int .i64 x0.At, strV x0.Text, .slice A1 (List.length x0.Posts) c2], 24⟩)] (by kernel_rfl) fun β761 a762 w763 h764 => ?_
            clear h759
            refine bcases (b := (!y752)) (fun hb765 => ?_) (fun hb765 => ?_)
            · skip
              have hv766 := ifT hb765 hv753
              clear hv753
              have h767 := h764.reb (t := 30) rfl hb765
              clear h764
              refine evalS_ok tabOk h767 6 [1, 25] [1] [(1, .o 1 0), (25, .v (.bool true))] [(1, ⟨[.int .i64 x0.At, strV x0.Text, .slice A1 (List.length x0.Posts) c2], 24⟩)] (by kernel_rfl) fun β768 a769 w770 h771 => ?_
              clear h767
              obtain rfl := Option.some.inj hv766
              have h772 : Sb β768 (cx 90 ok w) [(1, .o 1 0), (25, .v (.bool true))] [DF.v (rSl rApiPost) x0.Posts (.slice A1 (List.length x0.Posts) c2)] [(1, ⟨[.int .i64 x0.At, strV x0.Text, .slice A1 (List.length x0.Posts) c2], 24⟩)] [] a769 w770 := h771.sel [1, 25] [0] [1]
              clear h771
              exact wpl_end (then_n ⟨_, h772⟩)
            · skip
              have hv773 := ifF hb765 hv753
              clear hv753
              have h774 := h764.reb (t := 30) rfl hb765
              clear h764
              refine evalS_ok tabOk h774 6 [1, 25] [1] [(1, .o 1 0), (25, .v (.bool (decide ((List.length x0.Posts : Int) < 2))))] [(1, ⟨[.int .i64 x0.At, strV x0.Text, .slice A1 (List.length x0.Posts) c2], 24⟩)] (by kernel_rfl) fun β775 a776 w777 h778 => ?_
              clear h774
              obtain rfl := Option.some.inj hv773
              have h779 : Sb β775 (cx 90 ok w) [(1, .o 1 0), (25, .v (.bool (decide ((List.length x0.Posts : Int) < 2))))] [DF.v (rSl rApiPost) x0.Posts (.slice A1 (List.length x0.Posts) c2)] [(1, ⟨[.int .i64 x0.At, strV x0.Text, .slice A1 (List.length x0.Posts) c2], 24⟩)] [] a776 w777 := h778.sel [1, 25] [0] [1]
              clear h778
              exact wpl_end (then_n ⟨_, h779⟩)
      · skip
        refine region_ok ?_
        refine evalS_ok tabOk h14 5 [1, 19] [1] [(1, .o 1 0), (19, .v (.bool (decide ((List.length x0.Text : Int) > 200))))] [(1, ⟨[.int .i64 x0.At, strV x0.Text, .slice A1 (List.length x0.Posts) c2], 24⟩)] (by kernel_rfl) fun β780 a781 w782 h783 => ?_
        clear h14
        refine bcases (b := (decide ((List.length x0.Text : Int) > 200))) (fun hb784 => ?_) (fun hb784 => ?_)
        · skip
          have h785 := h783.reb (t := 19) rfl hb784
          clear h783
          refine evalS_ok tabOk h785 6 [1, 14] [1] [(1, .o 1 0), (14, .v (.bool true))] [(1, ⟨[.int .i64 x0.At, strV x0.Text, .slice A1 (List.length x0.Posts) c2], 24⟩)] (by kernel_rfl) fun β786 a787 w788 h789 => ?_
          clear h785
          obtain rfl : g23 = true := by rw [hg23]; simp only [*, Bool.and_true, Bool.true_and, Bool.or_true, Bool.true_or, Bool.or_false, Bool.false_or, Bool.and_false, Bool.false_and, cond_true, cond_false]
          have h790 : Sb β786 (cx 90 ok w) [(1, .o 1 0), (14, .v (.bool true))] [DF.v (rSl rApiPost) x0.Posts (.slice A1 (List.length x0.Posts) c2)] [(1, ⟨[.int .i64 x0.At, strV x0.Text, .slice A1 (List.length x0.Posts) c2], 24⟩)] [] a787 w788 := h789.sel [1, 14] [0] [1]
          clear h789
          exact wpl_end (then_n ⟨_, h790⟩)
        · skip
          have h791 := h783.reb (t := 19) rfl hb784
          clear h783
          refine evalS_ok tabOk h791 6 [1, 14] [1] [(1, .o 1 0), (14, .v (.bool (decide ((List.length x0.Posts : Int) > 64))))] [(1, ⟨[.int .i64 x0.At, strV x0.Text, .slice A1 (List.length x0.Posts) c2], 24⟩)] (by kernel_rfl) fun β792 a793 w794 h795 => ?_
          clear h791
          obtain rfl : g23 = (decide ((List.length x0.Posts : Int) > 64)) := by rw [hg23]; simp only [*, Bool.and_true, Bool.true_and, Bool.or_true, Bool.true_or, Bool.or_false, Bool.false_or, Bool.and_false, Bool.false_and, cond_true, cond_false]
          have h796 : Sb β792 (cx 90 ok w) [(1, .o 1 0), (14, .v (.bool (decide ((List.length x0.Posts : Int) > 64))))] [DF.v (rSl rApiPost) x0.Posts (.slice A1 (List.length x0.Posts) c2)] [(1, ⟨[.int .i64 x0.At, strV x0.Text, .slice A1 (List.length x0.Posts) c2], 24⟩)] [] a793 w794 := h795.sel [1, 14] [0] [1]
          clear h795
          exact wpl_end (then_n ⟨_, h796⟩)
  · skip
    refine region_ok ?_
    refine evalS_ok tabOk h6 4 [1, 9] [1] [(1, .o 1 0), (9, .v (.bool (decide (x0.At < 0))))] [(1, ⟨[.int .i64 x0.At, strV x0.Text, .slice A1 (List.length x0.Posts) c2], 24⟩)] (by kernel_rfl) fun β797 a798 w799 h800 => ?_
    clear h6
    refine bcases (b := (decide (x0.At < 0))) (fun hb801 => ?_) (fun hb801 => ?_)
    · skip
      have h802 := h800.reb (t := 9) rfl hb801
      clear h800
      refine evalS_ok tabOk h802 5 [1, 5] [1] [(1, .o 1 0), (5, .v (.bool true))] [(1, ⟨[.int .i64 x0.At, strV x0.Text, .slice A1 (List.length x0.Posts) c2], 24⟩)] (by kernel_rfl) fun β803 a804 w805 h806 => ?_
      clear h802
      obtain rfl : g10 = true := by rw [hg10]; simp only [*, Bool.and_true, Bool.true_and, Bool.or_true, Bool.true_or, Bool.or_false, Bool.false_or, Bool.and_false, Bool.false_and, cond_true, cond_false]
      have h807 : Sb β803 (cx 90 ok w) [(1, .o 1 0), (5, .v (.bool true))] [DF.v (rSl rApiPost) x0.Posts (.slice A1 (List.length x0.Posts) c2)] [(1, ⟨[.int .i64 x0.At, strV x0.Text, .slice A1 (List.length x0.Posts) c2], 24⟩)] [] a804 w805 := h806.sel [1, 5] [0] [1]
      clear h806
      exact wpl_end (then_n ⟨_, h807⟩)
    · skip
      have h808 := h800.reb (t := 9) rfl hb801
      clear h800
      refine evalS_ok tabOk h808 5 [1, 5] [1] [(1, .o 1 0), (5, .v (.bool (decide (x0.At ≥ 12622780800))))] [(1, ⟨[.int .i64 x0.At, strV x0.Text, .slice A1 (List.length x0.Posts) c2], 24⟩)] (by kernel_rfl) fun β809 a810 w811 h812 => ?_
      clear h808
      obtain rfl : g10 = (decide (x0.At ≥ 12622780800)) := by rw [hg10]; simp only [*, Bool.and_true, Bool.true_and, Bool.or_true, Bool.true_or, Bool.or_false, Bool.false_or, Bool.and_false, Bool.false_and, cond_true, cond_false]
      have h813 : Sb β809 (cx 90 ok w) [(1, .o 1 0), (5, .v (.bool (decide (x0.At ≥ 12622780800))))] [DF.v (rSl rApiPost) x0.Posts (.slice A1 (List.length x0.Posts) c2)] [(1, ⟨[.int .i64 x0.At, strV x0.Text, .slice A1 (List.length x0.Posts) c2], 24⟩)] [] a810 w811 := h812.sel [1, 5] [0] [1]
      clear h812
      exact wpl_end (then_n ⟨_, h813⟩)

theorem c_billinglaw47_awake {ok : Ok} {w : World} (hok : ∀ b o, ok b o → b < w.heap.size) (N : Nat) {r : Bool} (hF : billinglaw47_awake N = some r) :
    Calls Try.prog 8 ⟨[]⟩ w (Ret w (R1 rBool ok w r)) := by
  rw [billinglaw47_awake] at hF
  refine enter_ok (n := 54) hok Try.func8 rfl rfl rfl (D := []) trivial (fun a h => ?_)
  simp only [zipG, Nat.zero_add, Nat.reduceAdd] at h
  refine start_ctx fun Q hn hr => ?_
  refine seq_region tabOk h [] [] [] [] (by kernel_rfl) fun β1 a2 w3 h4 => ?_
  clear h
  refine seq_list fun Q5 hq5 => ?_
  obtain ⟨y6, hy6, hF7⟩ := bindE hF
  clear hF
  refine step_call h4 rfl rfl runs22 (vs := [(.int .i64 17), (.int .i64 100), (.int .i64 595)]) (by kernel_rfl) (c_ledger_Payment (x0 := 17) (x1 := 100) (x2 := 595) h4.okLt N hy6) fun v8 a11 w12 hR9 hk10 h13 => ?_
  clear h4
  have hv14 := isV.weak hR9 hk10
  obtain ⟨v17, hs18, rfl⟩ := ex_ApiEntry hv14
  obtain ⟨A15, c16, rfl, hs19⟩ := slForm hs18
  have h20 := h13.addD (d := DF.v (rSl rApiPost) y6.Posts (.slice A15 (List.length y6.Posts) c16)) hs19
  clear h13
  refine evalS_ok tabOk h20 2 [1] [1] [(1, .o 1 0)] [(1, ⟨[.int .i64 y6.At, strV y6.Text, .slice A15 (List.length y6.Posts) c16], 24⟩)] (by kernel_rfl) fun β21 a22 w23 h24 => ?_
  clear h20
  have h25 : Sb β21 (cx 54 ok w) [(1, .o 1 0)] [DF.v (rSl rApiPost) y6.Posts (.slice A15 (List.length y6.Posts) c16)] [(1, ⟨[.int .i64 y6.At, strV y6.Text, .slice A15 (List.length y6.Posts) c16], 24⟩)] [] a22 w23 := h24.sel [1] [0] [1]
  clear h24
  refine wpl_end (hq5 _ _ ?_)
  refine seq_list fun Q26 hq26 => ?_
  refine evalS_ok tabOk h25 2 [1, 6, 7] [1] [(1, .o 1 0), (6, .v (.agg ⟨[.int .i64 0, .int .i64 50]⟩)), (7, .v (.agg ⟨[strV ([118, 111, 105, 99, 101] : Str), .int .i64 0, .int .i64 0, .int .i64 95]⟩))] [(1, ⟨[.int .i64 y6.At, strV y6.Text, .slice A15 (List.length y6.Posts) c16], 24⟩)] (by kernel_rfl) fun β27 a28 w29 h30 => ?_
  clear h25
  refine step_buildSlice tabOk h30 rfl rfl (r := rApiTaxLine) (xs := ([(⟨([118, 111, 105, 99, 101] : Str), 0, 0, 95⟩ : ApiTaxLine)] : List ApiTaxLine)) (vs := [.agg ⟨[strV ([118, 111, 105, 99, 101] : Str), .int .i64 0, .int .i64 0, .int .i64 95]⟩]) (pvs := [(0, .agg ⟨[strV ([118, 111, 105, 99, 101] : Str), .int .i64 0, .int .i64 0, .int .i64 95]⟩)]) (by kernel_rfl) tb49 rfl tb48 rfl rfl rfl rfl rfl (by kernel_rfl) ⟨(im_ApiTaxLine (x := (⟨([118, 111, 105, 99, 101] : Str), 0, 0, 95⟩ : ApiTaxLine))), trivial⟩ fun A31 c32 a34 w35 hv33 h36 => ?_
  clear h30
  have h37 := h36.addD (d := DF.v (rSl rApiTaxLine) ([(⟨([118, 111, 105, 99, 101] : Str), 0, 0, 95⟩ : ApiTaxLine)] : List ApiTaxLine) (.slice A31 (List.length ([(⟨([118, 111, 105, 99, 101] : Str), 0, 0, 95⟩ : ApiTaxLine)] : List ApiTaxLine)) c32)) hv33
  clear h36
  refine evalS_ok tabOk h37 1 [1, 9] [1] [(1, .o 1 0), (9, .v (.agg ⟨[.int .i64 17, .int .i64 0, .int .i64 50, .slice none 0 0, .slice A31 (List.length ([(⟨([118, 111, 105, 99, 101] : Str), 0, 0, 95⟩ : ApiTaxLine)] : List ApiTaxLine)) c32, .int .i64 500, .int .i64 95, .int .i64 595]⟩))] [(1, ⟨[.int .i64 y6.At, strV y6.Text, .slice A15 (List.length y6.Posts) c16], 24⟩)] (by kernel_rfl) fun β38 a39 w40 h41 => ?_
  clear h37
  obtain ⟨y42, hy42, hF43⟩ := bindE hF7
  clear hF7
  refine step_call h41 rfl rfl runs23 (vs := [(.agg ⟨[.int .i64 17, .int .i64 0, .int .i64 50, .slice none 0 0, .slice A31 (List.length ([(⟨([118, 111, 105, 99, 101] : Str), 0, 0, 95⟩ : ApiTaxLine)] : List ApiTaxLine)) c32, .int .i64 500, .int .i64 95, .int .i64 595]⟩)]) (by kernel_rfl) (c_ledger_Invoice (x0 := (⟨17, (⟨0, 50⟩ : ApiPeriod), [], ([(⟨([118, 111, 105, 99, 101] : Str), 0, 0, 95⟩ : ApiTaxLine)] : List ApiTaxLine), 500, 95, 595⟩ : ApiInvoice)) h41.okLt N slNil (h41.d 0 rfl) hy42) fun v44 a47 w48 hR45 hk46 h49 => ?_
  clear h41
  have hv50 := isV.weak hR45 hk46
  obtain ⟨v53, hs54, rfl⟩ := ex_ApiEntry hv50
  obtain ⟨A51, c52, rfl, hs55⟩ := slForm hs54
  have h56 := h49.addD (d := DF.v (rSl rApiPost) y42.Posts (.slice A51 (List.length y42.Posts) c52)) hs55
  clear h49
  refine evalS_ok tabOk h56 2 [1, 2] [1, 2] [(1, .o 1 0), (2, .o 2 0)] [(1, ⟨[.int .i64 y6.At, strV y6.Text, .slice A15 (List.length y6.Posts) c16], 24⟩), (2, ⟨[.int .i64 y42.At, strV y42.Text, .slice A51 (List.length y42.Posts) c52], 24⟩)] (by kernel_rfl) fun β57 a58 w59 h60 => ?_
  clear h56
  have h61 : Sb β57 (cx 54 ok w) [(1, .o 1 0), (2, .o 2 0)] [DF.v (rSl rApiPost) y6.Posts (.slice A15 (List.length y6.Posts) c16), DF.v (rSl rApiPost) y42.Posts (.slice A51 (List.length y42.Posts) c52)] [(1, ⟨[.int .i64 y6.At, strV y6.Text, .slice A15 (List.length y6.Posts) c16], 24⟩), (2, ⟨[.int .i64 y42.At, strV y42.Text, .slice A51 (List.length y42.Posts) c52], 24⟩)] [] a58 w59 := h60.sel [1, 2] [2, 0] [1, 2]
  clear h60
  refine wpl_end (hq26 _ _ ?_)
  refine seq_list fun Q62 hq62 => ?_
  refine evalS_ok tabOk h61 3 [1, 2, 11, 12, 13] [1, 2] [(1, .o 1 0), (2, .o 2 0), (11, .v (.agg ⟨[strV ([114, 101, 99, 101, 105, 118, 97, 98, 108, 101, 58, 49, 55] : Str), .int .i64 595]⟩)), (12, .v (.agg ⟨[strV ([114, 101, 118, 101, 110, 117, 101] : Str), .int .i64 (-500)]⟩)), (13, .v (.agg ⟨[strV ([116, 97, 120, 58, 118, 111, 105, 99, 101] : Str), .int .i64 (-95)]⟩))] [(1, ⟨[.int .i64 y6.At, strV y6.Text, .slice A15 (List.length y6.Posts) c16], 24⟩), (2, ⟨[.int .i64 y42.At, strV y42.Text, .slice A51 (List.length y42.Posts) c52], 24⟩)] (by kernel_rfl) fun β63 a64 w65 h66 => ?_
  clear h61
  refine step_buildSlice tabOk h66 rfl rfl (r := rApiPost) (xs := ([(⟨([114, 101, 99, 101, 105, 118, 97, 98, 108, 101, 58, 49, 55] : Str), 595⟩ : ApiPost), (⟨([114, 101, 118, 101, 110, 117, 101] : Str), (-500)⟩ : ApiPost), (⟨([116, 97, 120, 58, 118, 111, 105, 99, 101] : Str), (-95)⟩ : ApiPost)] : List ApiPost)) (vs := [.agg ⟨[strV ([114, 101, 99, 101, 105, 118, 97, 98, 108, 101, 58, 49, 55] : Str), .int .i64 595]⟩, .agg ⟨[strV ([114, 101, 118, 101, 110, 117, 101] : Str), .int .i64 (-500)]⟩, .agg ⟨[strV ([116, 97, 120, 58, 118, 111, 105, 99, 101] : Str), .int .i64 (-95)]⟩]) (pvs := [(0, .agg ⟨[strV ([114, 101, 99, 101, 105, 118, 97, 98, 108, 101, 58, 49, 55] : Str), .int .i64 595]⟩), (1, .agg ⟨[strV ([114, 101, 118, 101, 110, 117, 101] : Str), .int .i64 (-500)]⟩), (2, .agg ⟨[strV ([116, 97, 120, 58, 118, 111, 105, 99, 101] : Str), .int .i64 (-95)]⟩)]) (by kernel_rfl) tb22 rfl tb38 rfl rfl rfl rfl rfl (by kernel_rfl) ⟨(im_ApiPost (x := (⟨([114, 101, 99, 101, 105, 118, 97, 98, 108, 101, 58, 49, 55] : Str), 595⟩ : ApiPost))), (im_ApiPost (x := (⟨([114, 101, 118, 101, 110, 117, 101] : Str), (-500)⟩ : ApiPost))), (im_ApiPost (x := (⟨([116, 97, 120, 58, 118, 111, 105, 99, 101] : Str), (-95)⟩ : ApiPost))), trivial⟩ fun A67 c68 a70 w71 hv69 h72 => ?_
  clear h66
  have h73 := h72.addD (d := DF.v (rSl rApiPost) ([(⟨([114, 101, 99, 101, 105, 118, 97, 98, 108, 101, 58, 49, 55] : Str), 595⟩ : ApiPost), (⟨([114, 101, 118, 101, 110, 117, 101] : Str), (-500)⟩ : ApiPost), (⟨([116, 97, 120, 58, 118, 111, 105, 99, 101] : Str), (-95)⟩ : ApiPost)] : List ApiPost) (.slice A67 (List.length ([(⟨([114, 101, 99, 101, 105, 118, 97, 98, 108, 101, 58, 49, 55] : Str), 595⟩ : ApiPost), (⟨([114, 101, 118, 101, 110, 117, 101] : Str), (-500)⟩ : ApiPost), (⟨([116, 97, 120, 58, 118, 111, 105, 99, 101] : Str), (-95)⟩ : ApiPost)] : List ApiPost)) c68)) hv69
  clear h72
  refine evalS_ok tabOk h73 1 [1, 2, 3] [1, 2] [(1, .o 1 0), (2, .o 2 0), (3, .v (.slice A67 (List.length ([(⟨([114, 101, 99, 101, 105, 118, 97, 98, 108, 101, 58, 49, 55] : Str), 595⟩ : ApiPost), (⟨([114, 101, 118, 101, 110, 117, 101] : Str), (-500)⟩ : ApiPost), (⟨([116, 97, 120, 58, 118, 111, 105, 99, 101] : Str), (-95)⟩ : ApiPost)] : List ApiPost)) c68))] [(1, ⟨[.int .i64 y6.At, strV y6.Text, .slice A15 (List.length y6.Posts) c16], 24⟩), (2, ⟨[.int .i64 y42.At, strV y42.Text, .slice A51 (List.length y42.Posts) c52], 24⟩)] (by kernel_rfl) fun β74 a75 w76 h77 => ?_
  clear h73
  have h78 : Sb β74 (cx 54 ok w) [(1, .o 1 0), (2, .o 2 0), (3, .v (.slice A67 (List.length ([(⟨([114, 101, 99, 101, 105, 118, 97, 98, 108, 101, 58, 49, 55] : Str), 595⟩ : ApiPost), (⟨([114, 101, 118, 101, 110, 117, 101] : Str), (-500)⟩ : ApiPost), (⟨([116, 97, 120, 58, 118, 111, 105, 99, 101] : Str), (-95)⟩ : ApiPost)] : List ApiPost)) c68))] [DF.v (rSl rApiPost) ([(⟨([114, 101, 99, 101, 105, 118, 97, 98, 108, 101, 58, 49, 55] : Str), 595⟩ : ApiPost), (⟨([114, 101, 118, 101, 110, 117, 101] : Str), (-500)⟩ : ApiPost), (⟨([116, 97, 120, 58, 118, 111, 105, 99, 101] : Str), (-95)⟩ : ApiPost)] : List ApiPost) (.slice A67 (List.length ([(⟨([114, 101, 99, 101, 105, 118, 97, 98, 108, 101, 58, 49, 55] : Str), 595⟩ : ApiPost), (⟨([114, 101, 118, 101, 110, 117, 101] : Str), (-500)⟩ : ApiPost), (⟨([116, 97, 120, 58, 118, 111, 105, 99, 101] : Str), (-95)⟩ : ApiPost)] : List ApiPost)) c68), DF.v (rSl rApiPost) y6.Posts (.slice A15 (List.length y6.Posts) c16), DF.v (rSl rApiPost) y42.Posts (.slice A51 (List.length y42.Posts) c52)] [(1, ⟨[.int .i64 y6.At, strV y6.Text, .slice A15 (List.length y6.Posts) c16], 24⟩), (2, ⟨[.int .i64 y42.At, strV y42.Text, .slice A51 (List.length y42.Posts) c52], 24⟩)] [] a75 w76 := h77.sel [1, 2, 3] [0, 1, 2] [1, 2]
  clear h77
  refine wpl_end (hq62 _ _ ?_)
  refine seq_list fun Q79 hq79 => ?_
  refine evalS_ok tabOk h78 2 [1, 2, 3, 15, 16] [1, 2] [(1, .o 1 0), (2, .o 2 0), (3, .v (.slice A67 (List.length ([(⟨([114, 101, 99, 101, 105, 118, 97, 98, 108, 101, 58, 49, 55] : Str), 595⟩ : ApiPost), (⟨([114, 101, 118, 101, 110, 117, 101] : Str), (-500)⟩ : ApiPost), (⟨([116, 97, 120, 58, 118, 111, 105, 99, 101] : Str), (-95)⟩ : ApiPost)] : List ApiPost)) c68)), (15, .v (.agg ⟨[.int .i64 y42.At, strV y42.Text, .slice A51 (List.length y42.Posts) c52]⟩)), (16, .v (.agg ⟨[.int .i64 y6.At, strV y6.Text, .slice A15 (List.length y6.Posts) c16]⟩))] [(1, ⟨[.int .i64 y6.At, strV y6.Text, .slice A15 (List.length y6.Posts) c16], 24⟩), (2, ⟨[.int .i64 y42.At, strV y42.Text, .slice A51 (List.length y42.Posts) c52], 24⟩)] (by kernel_rfl) fun β80 a81 w82 h83 => ?_
  clear h78
  refine step_buildSlice tabOk h83 rfl rfl (r := rApiEntry) (xs := ([y42, y6] : List ApiEntry)) (vs := [.agg ⟨[.int .i64 y42.At, strV y42.Text, .slice A51 (List.length y42.Posts) c52]⟩, .agg ⟨[.int .i64 y6.At, strV y6.Text, .slice A15 (List.length y6.Posts) c16]⟩]) (pvs := [(0, .agg ⟨[.int .i64 y42.At, strV y42.Text, .slice A51 (List.length y42.Posts) c52]⟩), (1, .agg ⟨[.int .i64 y6.At, strV y6.Text, .slice A15 (List.length y6.Posts) c16]⟩)]) (by kernel_rfl) tb30 rfl tb24 rfl rfl rfl rfl rfl (by kernel_rfl) ⟨(im_ApiEntry (x := y42) (h83.d 2 rfl)), (im_ApiEntry (x := y6) (h83.d 1 rfl)), trivial⟩ fun A84 c85 a87 w88 hv86 h89 => ?_
  clear h83
  have h90 := h89.addD (d := DF.v (rSl rApiEntry) ([y42, y6] : List ApiEntry) (.slice A84 (List.length ([y42, y6] : List ApiEntry)) c85)) hv86
  clear h89
  obtain ⟨y91, hy91, hF92⟩ := bindE hF43
  clear hF43
  refine step_call h90 rfl rfl runs17 (vs := [(.slice A84 (List.length ([y42, y6] : List ApiEntry)) c85)]) (by kernel_rfl) (c_ledger_Trial (x0 := ([y42, y6] : List ApiEntry)) h90.okLt N (h90.d 0 rfl) hy91) fun v93 a96 w97 hR94 hk95 h98 => ?_
  clear h90
  have hv99 := isV.weak hR94 hk95
  obtain ⟨A100, c101, rfl, hs102⟩ := slForm hv99
  have h103 := h98.addD (d := DF.v (rSl rApiPost) y91 (.slice A100 (List.length y91) c101)) hs102
  clear h98
  refine evalS_ok tabOk h103 1 [1, 2, 3, 4] [1, 2] [(1, .o 1 0), (2, .o 2 0), (3, .v (.slice A67 (List.length ([(⟨([114, 101, 99, 101, 105, 118, 97, 98, 108, 101, 58, 49, 55] : Str), 595⟩ : ApiPost), (⟨([114, 101, 118, 101, 110, 117, 101] : Str), (-500)⟩ : ApiPost), (⟨([116, 97, 120, 58, 118, 111, 105, 99, 101] : Str), (-95)⟩ : ApiPost)] : List ApiPost)) c68)), (4, .v (.slice A100 (List.length y91) c101))] [(1, ⟨[.int .i64 y6.At, strV y6.Text, .slice A15 (List.length y6.Posts) c16], 24⟩), (2, ⟨[.int .i64 y42.At, strV y42.Text, .slice A51 (List.length y42.Posts) c52], 24⟩)] (by kernel_rfl) fun β104 a105 w106 h107 => ?_
  clear h103
  have h108 : Sb β104 (cx 54 ok w) [(1, .o 1 0), (2, .o 2 0), (3, .v (.slice A67 (List.length ([(⟨([114, 101, 99, 101, 105, 118, 97, 98, 108, 101, 58, 49, 55] : Str), 595⟩ : ApiPost), (⟨([114, 101, 118, 101, 110, 117, 101] : Str), (-500)⟩ : ApiPost), (⟨([116, 97, 120, 58, 118, 111, 105, 99, 101] : Str), (-95)⟩ : ApiPost)] : List ApiPost)) c68)), (4, .v (.slice A100 (List.length y91) c101))] [DF.v (rSl rApiPost) ([(⟨([114, 101, 99, 101, 105, 118, 97, 98, 108, 101, 58, 49, 55] : Str), 595⟩ : ApiPost), (⟨([114, 101, 118, 101, 110, 117, 101] : Str), (-500)⟩ : ApiPost), (⟨([116, 97, 120, 58, 118, 111, 105, 99, 101] : Str), (-95)⟩ : ApiPost)] : List ApiPost) (.slice A67 (List.length ([(⟨([114, 101, 99, 101, 105, 118, 97, 98, 108, 101, 58, 49, 55] : Str), 595⟩ : ApiPost), (⟨([114, 101, 118, 101, 110, 117, 101] : Str), (-500)⟩ : ApiPost), (⟨([116, 97, 120, 58, 118, 111, 105, 99, 101] : Str), (-95)⟩ : ApiPost)] : List ApiPost)) c68), DF.v (rSl rApiPost) y91 (.slice A100 (List.length y91) c101), DF.v (rSl rApiPost) y6.Posts (.slice A15 (List.length y6.Posts) c16), DF.v (rSl rApiPost) y42.Posts (.slice A51 (List.length y42.Posts) c52)] [(1, ⟨[.int .i64 y6.At, strV y6.Text, .slice A15 (List.length y6.Posts) c16], 24⟩), (2, ⟨[.int .i64 y42.At, strV y42.Text, .slice A51 (List.length y42.Posts) c52], 24⟩)] [] a105 w106 := h107.sel [1, 2, 3, 4] [2, 0, 3, 4] [1, 2]
  clear h107
  refine wpl_end (hq79 _ _ ?_)
  obtain ⟨g110, hv111, hF112⟩ := bindE hF92
  clear hF92
  refine seq_join (J := fun a w' => ∃ β, Sb β (cx 54 ok w) [(0, .v (.bool g110))] [] [] [] a w') ?_ ?_
  · skip
    rintro a113 w114 ⟨β115, h116⟩
    refine wp_ret ?_
    refine hr _ _ ?_
    obtain rfl := Option.some.inj hF112
    exact ret1_ok h116 rfl rfl (isV_bool.2 rfl)
  · skip
    refine region_ok ?_
    refine evalS_ok tabOk h108 4 [1, 2, 3, 4, 20, 21, 22] [1, 2] [(1, .o 1 0), (2, .o 2 0), (3, .v (.slice A67 (List.length ([(⟨([114, 101, 99, 101, 105, 118, 97, 98, 108, 101, 58, 49, 55] : Str), 595⟩ : ApiPost), (⟨([114, 101, 118, 101, 110, 117, 101] : Str), (-500)⟩ : ApiPost), (⟨([116, 97, 120, 58, 118, 111, 105, 99, 101] : Str), (-95)⟩ : ApiPost)] : List ApiPost)) c68)), (4, .v (.slice A100 (List.length y91) c101)), (20, .v (.slice A15 (List.length y6.Posts) c16)), (21, .v (.agg ⟨[strV ([99, 97, 115, 104] : Str), .int .i64 595]⟩)), (22, .v (.agg ⟨[strV ([114, 101, 99, 101, 105, 118, 97, 98, 108, 101, 58, 49, 55] : Str), .int .i64 (-595)]⟩))] [(1, ⟨[.int .i64 y6.At, strV y6.Text, .slice A15 (List.length y6.Posts) c16], 24⟩), (2, ⟨[.int .i64 y42.At, strV y42.Text, .slice A51 (List.length y42.Posts) c52], 24⟩)] (by kernel_rfl) fun β117 a118 w119 h120 => ?_
    clear h108
    refine step_buildSlice tabOk h120 rfl rfl (r := rApiPost) (xs := ([(⟨([99, 97, 115, 104] : Str), 595⟩ : ApiPost), (⟨([114, 101, 99, 101, 105, 118, 97, 98, 108, 101, 58, 49, 55] : Str), (-595)⟩ : ApiPost)] : List ApiPost)) (vs := [.agg ⟨[strV ([99, 97, 115, 104] : Str), .int .i64 595]⟩, .agg ⟨[strV ([114, 101, 99, 101, 105, 118, 97, 98, 108, 101, 58, 49, 55] : Str), .int .i64 (-595)]⟩]) (pvs := [(0, .agg ⟨[strV ([99, 97, 115, 104] : Str), .int .i64 595]⟩), (1, .agg ⟨[strV ([114, 101, 99, 101, 105, 118, 97, 98, 108, 101, 58, 49, 55] : Str), .int .i64 (-595)]⟩)]) (by kernel_rfl) tb22 rfl tb38 rfl rfl rfl rfl rfl (by kernel_rfl) ⟨(im_ApiPost (x := (⟨([99, 97, 115, 104] : Str), 595⟩ : ApiPost))), (im_ApiPost (x := (⟨([114, 101, 99, 101, 105, 118, 97, 98, 108, 101, 58, 49, 55] : Str), (-595)⟩ : ApiPost))), trivial⟩ fun A121 c122 a124 w125 hv123 h126 => ?_
    clear h120
    have h127 := h126.addD (d := DF.v (rSl rApiPost) ([(⟨([99, 97, 115, 104] : Str), 595⟩ : ApiPost), (⟨([114, 101, 99, 101, 105, 118, 97, 98, 108, 101, 58, 49, 55] : Str), (-595)⟩ : ApiPost)] : List ApiPost) (.slice A121 (List.length ([(⟨([99, 97, 115, 104] : Str), 595⟩ : ApiPost), (⟨([114, 101, 99, 101, 105, 118, 97, 98, 108, 101, 58, 49, 55] : Str), (-595)⟩ : ApiPost)] : List ApiPost)) c122)) hv123
    clear h126
    obtain ⟨y128, hy128, hv129⟩ := bindE hv111
    clear hv111
    refine step_call h127 rfl rfl runs16 (vs := [(.slice A15 (List.length y6.Posts) c16), (.slice A121 (List.length ([(⟨([99, 97, 115, 104] : Str), 595⟩ : ApiPost), (⟨([114, 101, 99, 101, 105, 118, 97, 98, 108, 101, 58, 49, 55] : Str), (-595)⟩ : ApiPost)] : List ApiPost)) c122)]) (by kernel_rfl) (c_billingref47_SamePosts (x0 := y6.Posts) (x1 := ([(⟨([99, 97, 115, 104] : Str), 595⟩ : ApiPost), (⟨([114, 101, 99, 101, 105, 118, 97, 98, 108, 101, 58, 49, 55] : Str), (-595)⟩ : ApiPost)] : List ApiPost)) h127.okLt N (h127.d 3 rfl) (h127.d 0 rfl) hy128) fun v130 a133 w134 hR131 hk132 h135 => ?_
    clear h127
    have hv136 := isV.weak hR131 hk132
    obtain rfl := isV_bool.1 hv136
    refine evalS_ok tabOk h135 1 [1, 2, 3, 4, 25] [1, 2] [(1, .o 1 0), (2, .o 2 0), (3, .v (.slice A67 (List.length ([(⟨([114, 101, 99, 101, 105, 118, 97, 98, 108, 101, 58, 49, 55] : Str), 595⟩ : ApiPost), (⟨([114, 101, 118, 101, 110, 117, 101] : Str), (-500)⟩ : ApiPost), (⟨([116, 97, 120, 58, 118, 111, 105, 99, 101] : Str), (-95)⟩ : ApiPost)] : List ApiPost)) c68)), (4, .v (.slice A100 (List.length y91) c101)), (25, .v (.bool y128))] [(1, ⟨[.int .i64 y6.At, strV y6.Text, .slice A15 (List.length y6.Posts) c16], 24⟩), (2, ⟨[.int .i64 y42.At, strV y42.Text, .slice A51 (List.length y42.Posts) c52], 24⟩)] (by kernel_rfl) fun β137 a138 w139 h140 => ?_
    clear h135
    refine bcases (b := y128) (fun hb141 => ?_) (fun hb141 => ?_)
    · skip
      have hv142 := ifT hb141 hv129
      clear hv129
      have h143 := h140.reb (t := 25) rfl hb141
      clear h140
      refine evalS_ok tabOk h143 5 [1, 2, 3, 4, 30] [1, 2] [(1, .o 1 0), (2, .o 2 0), (3, .v (.slice A67 (List.length ([(⟨([114, 101, 99, 101, 105, 118, 97, 98, 108, 101, 58, 49, 55] : Str), 595⟩ : ApiPost), (⟨([114, 101, 118, 101, 110, 117, 101] : Str), (-500)⟩ : ApiPost), (⟨([116, 97, 120, 58, 118, 111, 105, 99, 101] : Str), (-95)⟩ : ApiPost)] : List ApiPost)) c68)), (4, .v (.slice A100 (List.length y91) c101)), (30, .v (.bool (y6.At == 100)))] [(1, ⟨[.int .i64 y6.At, strV y6.Text, .slice A15 (List.length y6.Posts) c16], 24⟩), (2, ⟨[.int .i64 y42.At, strV y42.Text, .slice A51 (List.length y42.Posts) c52], 24⟩)] (by kernel_rfl) fun β144 a145 w146 h147 => ?_
      clear h143
      refine bcases (b := (y6.At == 100)) (fun hb148 => ?_) (fun hb148 => ?_)
      · skip
        have hv149 := ifT hb148 hv142
        clear hv142
        have h150 := h147.reb (t := 30) rfl hb148
        clear h147
        refine evalS_ok tabOk h150 5 [1, 2, 3, 4, 35] [1, 2] [(1, .o 1 0), (2, .o 2 0), (3, .v (.slice A67 (List.length ([(⟨([114, 101, 99, 101, 105, 118, 97, 98, 108, 101, 58, 49, 55] : Str), 595⟩ : ApiPost), (⟨([114, 101, 118, 101, 110, 117, 101] : Str), (-500)⟩ : ApiPost), (⟨([116, 97, 120, 58, 118, 111, 105, 99, 101] : Str), (-95)⟩ : ApiPost)] : List ApiPost)) c68)), (4, .v (.slice A100 (List.length y91) c101)), (35, .v (.bool (y42.At == 49)))] [(1, ⟨[.int .i64 y6.At, strV y6.Text, .slice A15 (List.length y6.Posts) c16], 24⟩), (2, ⟨[.int .i64 y42.At, strV y42.Text, .slice A51 (List.length y42.Posts) c52], 24⟩)] (by kernel_rfl) fun β151 a152 w153 h154 => ?_
        clear h150
        refine bcases (b := (y42.At == 49)) (fun hb155 => ?_) (fun hb155 => ?_)
        · skip
          have hv156 := ifT hb155 hv149
          clear hv149
          have h157 := h154.reb (t := 35) rfl hb155
          clear h154
          refine evalS_ok tabOk h157 3 [1, 4, 35, 37, 38] [1] [(1, .o 1 0), (4, .v (.slice A100 (List.length y91) c101)), (35, .v (.bool true)), (37, .v (.slice A51 (List.length y42.Posts) c52)), (38, .v (.slice A67 (List.length ([(⟨([114, 101, 99, 101, 105, 118, 97, 98, 108, 101, 58, 49, 55] : Str), 595⟩ : ApiPost), (⟨([114, 101, 118, 101, 110, 117, 101] : Str), (-500)⟩ : ApiPost), (⟨([116, 97, 120, 58, 118, 111, 105, 99, 101] : Str), (-95)⟩ : ApiPost)] : List ApiPost)) c68))] [(1, ⟨[.int .i64 y6.At, strV y6.Text, .slice A15 (List.length y6.Posts) c16], 24⟩)] (by kernel_rfl) fun β158 a159 w160 h161 => ?_
          clear h157
          obtain ⟨y162, hy162, hv163⟩ := bindE hv156
          clear hv156
          refine step_call h161 rfl rfl runs16 (vs := [(.slice A51 (List.length y42.Posts) c52), (.slice A67 (List.length ([(⟨([114, 101, 99, 101, 105, 118, 97, 98, 108, 101, 58, 49, 55] : Str), 595⟩ : ApiPost), (⟨([114, 101, 118, 101, 110, 117, 101] : Str), (-500)⟩ : ApiPost), (⟨([116, 97, 120, 58, 118, 111, 105, 99, 101] : Str), (-95)⟩ : ApiPost)] : List ApiPost)) c68)]) (by kernel_rfl) (c_billingref47_SamePosts (x0 := y42.Posts) (x1 := ([(⟨([114, 101, 99, 101, 105, 118, 97, 98, 108, 101, 58, 49, 55] : Str), 595⟩ : ApiPost), (⟨([114, 101, 118, 101, 110, 117, 101] : Str), (-500)⟩ : ApiPost), (⟨([116, 97, 120, 58, 118, 111, 105, 99, 101] : Str), (-95)⟩ : ApiPost)] : List ApiPost)) h161.okLt N (h161.d 4 rfl) (h161.d 1 rfl) hy162) fun v164 a167 w168 hR165 hk166 h169 => ?_
          clear h161
          have hv170 := isV.weak hR165 hk166
          obtain rfl := isV_bool.1 hv170
          refine evalS_ok tabOk h169 2 [1, 4, 41] [1] [(1, .o 1 0), (4, .v (.slice A100 (List.length y91) c101)), (41, .v (.bool y162))] [(1, ⟨[.int .i64 y6.At, strV y6.Text, .slice A15 (List.length y6.Posts) c16], 24⟩)] (by kernel_rfl) fun β171 a172 w173 h174 => ?_
          clear h169
          refine bcases (b := y162) (fun hb175 => ?_) (fun hb175 => ?_)
          · skip
            have hv176 := ifT hb175 hv163
            clear hv163
            have h177 := h174.reb (t := 41) rfl hb175
            clear h174
            refine evalS_ok tabOk h177 4 [1, 41, 42, 43, 44, 45] [1] [(1, .o 1 0), (41, .v (.bool true)), (42, .v (.slice A100 (List.length y91) c101)), (43, .v (.agg ⟨[strV ([99, 97, 115, 104] : Str), .int .i64 595]⟩)), (44, .v (.agg ⟨[strV ([114, 101, 118, 101, 110, 117, 101] : Str), .int .i64 (-500)]⟩)), (45, .v (.agg ⟨[strV ([116, 97, 120, 58, 118, 111, 105, 99, 101] : Str), .int .i64 (-95)]⟩))] [(1, ⟨[.int .i64 y6.At, strV y6.Text, .slice A15 (List.length y6.Posts) c16], 24⟩)] (by kernel_rfl) fun β178 a179 w180 h181 => ?_
            clear h177
            refine step_buildSlice tabOk h181 rfl rfl (r := rApiPost) (xs := ([(⟨([99, 97, 115, 104] : Str), 595⟩ : ApiPost), (⟨([114, 101, 118, 101, 110, 117, 101] : Str), (-500)⟩ : ApiPost), (⟨([116, 97, 120, 58, 118, 111, 105, 99, 101] : Str), (-95)⟩ : ApiPost)] : List ApiPost)) (vs := [.agg ⟨[strV ([99, 97, 115, 104] : Str), .int .i64 595]⟩, .agg ⟨[strV ([114, 101, 118, 101, 110, 117, 101] : Str), .int .i64 (-500)]⟩, .agg ⟨[strV ([116, 97, 120, 58, 118, 111, 105, 99, 101] : Str), .int .i64 (-95)]⟩]) (pvs := [(0, .agg ⟨[strV ([99, 97, 115, 104] : Str), .int .i64 595]⟩), (1, .agg ⟨[strV ([114, 101, 118, 101, 110, 117, 101] : Str), .int .i64 (-500)]⟩), (2, .agg ⟨[strV ([116, 97, 120, 58, 118, 111, 105, 99, 101] : Str), .int .i64 (-95)]⟩)]) (by kernel_rfl) tb22 rfl tb38 rfl rfl rfl rfl rfl (by kernel_rfl) ⟨(im_ApiPost (x := (⟨([99, 97, 115, 104] : Str), 595⟩ : ApiPost))), (im_ApiPost (x := (⟨([114, 101, 118, 101, 110, 117, 101] : Str), (-500)⟩ : ApiPost))), (im_ApiPost (x := (⟨([116, 97, 120, 58, 118, 111, 105, 99, 101] : Str), (-95)⟩ : ApiPost))), trivial⟩ fun A182 c183 a185 w186 hv184 h187 => ?_
            clear h181
            have h188 := h187.addD (d := DF.v (rSl rApiPost) ([(⟨([99, 97, 115, 104] : Str), 595⟩ : ApiPost), (⟨([114, 101, 118, 101, 110, 117, 101] : Str), (-500)⟩ : ApiPost), (⟨([116, 97, 120, 58, 118, 111, 105, 99, 101] : Str), (-95)⟩ : ApiPost)] : List ApiPost) (.slice A182 (List.length ([(⟨([99, 97, 115, 104] : Str), 595⟩ : ApiPost), (⟨([114, 101, 118, 101, 110, 117, 101] : Str), (-500)⟩ : ApiPost), (⟨([116, 97, 120, 58, 118, 111, 105, 99, 101] : Str), (-95)⟩ : ApiPost)] : List ApiPost)) c183)) hv184
            clear h187
            obtain ⟨y189, hy189, hv190⟩ := bindE hv176
            clear hv176
            refine step_call h188 rfl rfl runs16 (vs := [(.slice A100 (List.length y91) c101), (.slice A182 (List.length ([(⟨([99, 97, 115, 104] : Str), 595⟩ : ApiPost), (⟨([114, 101, 118, 101, 110, 117, 101] : Str), (-500)⟩ : ApiPost), (⟨([116, 97, 120, 58, 118, 111, 105, 99, 101] : Str), (-95)⟩ : ApiPost)] : List ApiPost)) c183)]) (by kernel_rfl) (c_billingref47_SamePosts (x0 := y91) (x1 := ([(⟨([99, 97, 115, 104] : Str), 595⟩ : ApiPost), (⟨([114, 101, 118, 101, 110, 117, 101] : Str), (-500)⟩ : ApiPost), (⟨([116, 97, 120, 58, 118, 111, 105, 99, 101] : Str), (-95)⟩ : ApiPost)] : List ApiPost)) h188.okLt N (h188.d 3 rfl) (h188.d 0 rfl) hy189) fun v191 a194 w195 hR192 hk193 h196 => ?_
            clear h188
            have hv197 := isV.weak hR192 hk193
            obtain rfl := isV_bool.1 hv197
            refine evalS_ok tabOk h196 2 [1, 49] [1] [(1, .o 1 0), (49, .v (.bool y189))] [(1, ⟨[.int .i64 y6.At, strV y6.Text, .slice A15 (List.length y6.Posts) c16], 24⟩)] (by kernel_rfl) fun β198 a199 w200 h201 => ?_
            clear h196
            refine bcases (b := y189) (fun hb202 => ?_) (fun hb202 => ?_)
            · skip
              have hv203 := ifT hb202 hv190
              clear hv190
              have h204 := h201.reb (t := 49) rfl hb202
              clear h201
              refine evalS_ok tabOk h204 1 [49, 50] [] [(49, .v (.bool true)), (50, .v (.agg ⟨[.int .i64 y6.At, strV y6.Text, .slice A15 (List.length y6.Posts) c16]⟩))] [] (by kernel_rfl) fun β205 a206 w207 h208 => ?_
              clear h204
              obtain ⟨y209, hy209, hv210⟩ := bindE hv203
              clear hv203
              refine step_call h208 rfl rfl runs9 (vs := [(.agg ⟨[.int .i64 y6.At, strV y6.Text, .slice A15 (List.length y6.Posts) c16]⟩)]) (by kernel_rfl) (c_ledger_Check (x0 := y6) h208.okLt N (h208.d 4 rfl) hy209) fun v211 a214 w215 hR212 hk213 h216 => ?_
              clear h208
              have hv217 := isV.weak hR212 hk213
              obtain rfl := isV_int.1 hv217
              refine evalS_ok tabOk h216 3 [0] [] [(0, .v (.bool (y209 == 0)))] [] (by kernel_rfl) fun β218 a219 w220 h221 => ?_
              clear h216
              obtain rfl := Option.some.inj hv210
              have h222 : Sb β218 (cx 54 ok w) [(0, .v (.bool (y209 == 0)))] [] [] [] a219 w220 := h221.sel [0] [] []
              clear h221
              exact wpl_end (then_n ⟨_, h222⟩)
            · skip
              have hv223 := ifF hb202 hv190
              clear hv190
              have h224 := h201.reb (t := 49) rfl hb202
              clear h201
              refine evalS_ok tabOk h224 5 [0] [] [(0, .v (.bool false))] [] (by kernel_rfl) fun β225 a226 w227 h228 => ?_
              clear h224
              obtain rfl := Option.some.inj hv223
              have h229 : Sb β225 (cx 54 ok w) [(0, .v (.bool false))] [] [] [] a226 w227 := h228.sel [0] [] []
              clear h228
              exact wpl_end (then_n ⟨_, h229⟩)
          · skip
            have hv230 := ifF hb175 hv163
            clear hv163
            have h231 := h174.reb (t := 41) rfl hb175
            clear h174
            refine evalS_ok tabOk h231 13 [0] [] [(0, .v (.bool false))] [] (by kernel_rfl) fun β232 a233 w234 h235 => ?_
            clear h231
            obtain rfl := Option.some.inj hv230
            have h236 : Sb β232 (cx 54 ok w) [(0, .v (.bool false))] [] [] [] a233 w234 := h235.sel [0] [] []
            clear h235
            exact wpl_end (then_n ⟨_, h236⟩)
        · skip
          have hv237 := ifF hb155 hv149
          clear hv149
          have h238 := h154.reb (t := 35) rfl hb155
          clear h154
          refine evalS_ok tabOk h238 19 [0] [] [(0, .v (.bool false))] [] (by kernel_rfl) fun β239 a240 w241 h242 => ?_
          clear h238
          obtain rfl := Option.some.inj hv237
          have h243 : Sb β239 (cx 54 ok w) [(0, .v (.bool false))] [] [] [] a240 w241 := h242.sel [0] [] []
          clear h242
          exact wpl_end (then_n ⟨_, h243⟩)
      · skip
        have hv244 := ifF hb148 hv142
        clear hv142
        have h245 := h147.reb (t := 30) rfl hb148
        clear h147
        refine evalS_ok tabOk h245 24 [0] [] [(0, .v (.bool false))] [] (by kernel_rfl) fun β246 a247 w248 h249 => ?_
        clear h245
        obtain rfl := Option.some.inj hv244
        have h250 : Sb β246 (cx 54 ok w) [(0, .v (.bool false))] [] [] [] a247 w248 := h249.sel [0] [] []
        clear h249
        exact wpl_end (then_n ⟨_, h250⟩)
    · skip
      have hv251 := ifF hb141 hv129
      clear hv129
      have h252 := h140.reb (t := 25) rfl hb141
      clear h140
      refine evalS_ok tabOk h252 29 [0] [] [(0, .v (.bool false))] [] (by kernel_rfl) fun β253 a254 w255 h256 => ?_
      clear h252
      obtain rfl := Option.some.inj hv251
      have h257 : Sb β253 (cx 54 ok w) [(0, .v (.bool false))] [] [] [] a254 w255 := h256.sel [0] [] []
      clear h256
      exact wpl_end (then_n ⟨_, h257⟩)

theorem c_billingref47_Clone {ok : Ok} {w : World} (hok : ∀ b o, ok b o → b < w.heap.size) (N : Nat) {x0 : ApiEntry} {A1 : Option Addr} {c2 : Nat} (d0 : isV (rSl rApiPost) ok w x0.Posts (.slice A1 (List.length x0.Posts) c2)) {r : ApiEntry} (hF : billingref47_Clone N x0 = some r) :
    Calls Try.prog 10 ⟨[.agg ⟨[.int .i64 x0.At, strV x0.Text, .slice A1 (List.length x0.Posts) c2]⟩]⟩ w (Ret w (R1 rApiEntry ok w r)) := by
  rw [billingref47_Clone] at hF
  refine enter_ok (n := 12) hok Try.func10 rfl rfl rfl (D := [DF.v (rSl rApiPost) x0.Posts (.slice A1 (List.length x0.Posts) c2)]) ⟨d0, trivial⟩ (fun a h => ?_)
  simp only [zipG, Nat.zero_add, Nat.reduceAdd] at h
  refine start_ctx fun Q hn hr => ?_
  refine seq_region tabOk h [1, 2] [1, 2] [(1, .o 1 0), (2, .o 2 0)] [(1, ⟨[.int .i64 x0.At, strV x0.Text, .slice A1 (List.length x0.Posts) c2], 24⟩), (2, ⟨[.int .i64 0, strV ([] : Str), .slice none 0 0], 24⟩)] (by kernel_rfl) fun β3 a4 w5 h6 => ?_
  clear h
  refine seq_draw fun Q7 hq7 => ?_
  obtain ⟨z8, hz8, hF9⟩ := bindE hF
  clear hF
  have h11 : Sb β3 (cx 12 ok w) [(1, .o 1 0), (2, .o 2 0)] [DF.v (rSl rApiPost) x0.Posts (.slice A1 (List.length x0.Posts) c2)] [(1, ⟨[.int .i64 x0.At, strV x0.Text, .slice A1 (List.length x0.Posts) c2], 24⟩), (2, ⟨[.int .i64 0, strV ([] : Str), .slice none 0 0], 24⟩)] [] a4 w5 := h6.sel [1, 2] [0] [1, 2]
  refine draw_rule h11 rfl (by kernel_rfl) 9 [3, 4, 5, 6, 7, 8, 9, 10, 11] [FV.eq (.pointer (some ⟨β3 1, 0, none⟩)), FV.eq (.int .i64 x0.At), FV.eq (.pointer (some ⟨β3 1, 1, none⟩)), FV.eq (strV x0.Text), FV.emp (rSl rApiPost) ([] : List ApiPost), FV.eq (.pointer (some ⟨β3 1, 2, none⟩)), FV.eq (.slice A1 (List.length x0.Posts) c2), FV.rep (rSl rApiPost) z8, FV.rep rApiEntry (⟨x0.At, x0.Text, z8⟩ : ApiEntry)] rfl rfl rfl (by kernel_rfl) (by kernel_rfl) (by kernel_rfl) (by kernel_rfl) (by kernel_rfl) ?_ ?_
  · skip
    refine ⟨⟨⟨⟨⟨⟨⟨⟨⟨trivial, ?_⟩, ?_⟩, ?_⟩, ?_⟩, ?_⟩, ?_⟩, ?_⟩, ?_⟩, ?_⟩
    · skip
      intro β12 a13 w14 dX15 Ox16 Q17 h18 hq19 hp20 hk21
      refine evalS_ok tabOk h18 1 [1, 2, 3] [1, 2] [(1, .o 1 0), (2, .o 2 0), (3, .o 1 0)] [(1, ⟨[.int .i64 x0.At, strV x0.Text, .slice A1 (List.length x0.Posts) c2], 24⟩), (2, ⟨[.int .i64 0, strV ([] : Str), .slice none 0 0], 24⟩)] (by kernel_rfl) fun β22 a23 w24 h25 => ?_
      exact wpl_end (hk21 _ _ _ _ (h25.sel [1, 2] [0, 1] [1, 2]) (h25.getO rfl rfl rfl) rfl)
    · skip
      intro β26 a27 w28 dX29 Ox30 Q31 h32 hq33 hp34 hk35
      have h36 := h32.learnO (d := 3) (id := 1) (off := 0) rfl rfl rfl (hp34 0 3 _ rfl rfl rfl)
      clear h32
      refine evalS_ok tabOk h36 1 [1, 2, 4] [1, 2] [(1, .o 1 0), (2, .o 2 0), (4, .v (.int .i64 x0.At))] [(1, ⟨[.int .i64 x0.At, strV x0.Text, .slice A1 (List.length x0.Posts) c2], 24⟩), (2, ⟨[.int .i64 0, strV ([] : Str), .slice none 0 0], 24⟩)] (by kernel_rfl) fun β37 a38 w39 h40 => ?_
      exact wpl_end (hk35 _ _ _ _ (h40.sel [1, 2] [0, 1] [1, 2]) (h40.getD rfl) rfl)
    · skip
      intro β41 a42 w43 dX44 Ox45 Q46 h47 hq48 hp49 hk50
      refine evalS_ok tabOk h47 1 [1, 2, 5] [1, 2] [(1, .o 1 0), (2, .o 2 0), (5, .o 1 1)] [(1, ⟨[.int .i64 x0.At, strV x0.Text, .slice A1 (List.length x0.Posts) c2], 24⟩), (2, ⟨[.int .i64 0, strV ([] : Str), .slice none 0 0], 24⟩)] (by kernel_rfl) fun β51 a52 w53 h54 => ?_
      exact wpl_end (hk50 _ _ _ _ (h54.sel [1, 2] [0, 1] [1, 2]) (h54.getO rfl rfl rfl) rfl)
    · skip
      intro β55 a56 w57 dX58 Ox59 Q60 h61 hq62 hp63 hk64
      have h65 := h61.learnO (d := 5) (id := 1) (off := 1) rfl rfl rfl (hp63 2 5 _ rfl rfl rfl)
      clear h61
      refine evalS_ok tabOk h65 1 [1, 2, 6] [1, 2] [(1, .o 1 0), (2, .o 2 0), (6, .v (strV x0.Text))] [(1, ⟨[.int .i64 x0.At, strV x0.Text, .slice A1 (List.length x0.Posts) c2], 24⟩), (2, ⟨[.int .i64 0, strV ([] : Str), .slice none 0 0], 24⟩)] (by kernel_rfl) fun β66 a67 w68 h69 => ?_
      exact wpl_end (hk64 _ _ _ _ (h69.sel [1, 2] [0, 1] [1, 2]) (h69.getD rfl) rfl)
    · skip
      intro β70 a71 w72 dX73 Ox74 Q75 h76 hq77 hp78 hk79
      refine step_buildOwn0 tabOk h76 rfl rfl (r := rApiPost) tb22 rfl tb38 fun b86 a83 w84 hv82 h85 => ?_
      clear h76
      have h87 := h85.addD (d := DF.v (rSl rApiPost) ([] : List ApiPost) (.slice (some ⟨b86, 0, none⟩) (List.length ([] : List ApiPost)) 0)) hv82
      clear h85
      have h88 := h87.dropO 0
      clear h87
      exact wpl_end (hk79 _ _ _ _ (h88.sel [1, 2] [1, 2] [1, 2]) (by have e := h88.getD (d := 7) rfl; show _ ∧ _; rw [e]; exact ⟨⟨_, rfl⟩, (h88.d 0 rfl)⟩) rfl)
    · skip
      intro β89 a90 w91 dX92 Ox93 Q94 h95 hq96 hp97 hk98
      refine evalS_ok tabOk h95 1 [1, 2, 8] [1, 2] [(1, .o 1 0), (2, .o 2 0), (8, .o 1 2)] [(1, ⟨[.int .i64 x0.At, strV x0.Text, .slice A1 (List.length x0.Posts) c2], 24⟩), (2, ⟨[.int .i64 0, strV ([] : Str), .slice none 0 0], 24⟩)] (by kernel_rfl) fun β99 a100 w101 h102 => ?_
      exact wpl_end (hk98 _ _ _ _ (h102.sel [1, 2] [0, 1] [1, 2]) (h102.getO rfl rfl rfl) rfl)
    · skip
      intro β103 a104 w105 dX106 Ox107 Q108 h109 hq110 hp111 hk112
      have h113 := h109.learnO (d := 8) (id := 1) (off := 2) rfl rfl rfl (hp111 5 8 _ rfl rfl rfl)
      clear h109
      refine evalS_ok tabOk h113 1 [1, 2, 9] [1, 2] [(1, .o 1 0), (2, .o 2 0), (9, .v (.slice A1 (List.length x0.Posts) c2))] [(1, ⟨[.int .i64 x0.At, strV x0.Text, .slice A1 (List.length x0.Posts) c2], 24⟩), (2, ⟨[.int .i64 0, strV ([] : Str), .slice none 0 0], 24⟩)] (by kernel_rfl) fun β114 a115 w116 h117 => ?_
      exact wpl_end (hk112 _ _ _ _ (h117.sel [1, 2] [0, 1] [1, 2]) (h117.getD rfl) rfl)
    · skip
      intro β118 a119 w120 dX121 Ox122 Q123 h124 hq125 hp126 hk127
      have h128 := h124.learn (d := 7) rfl
      clear h124
      have f129 := hp126 4 7 _ rfl rfl rfl
      generalize a119.tmps.getD 7 undef = v130 at h128 f129
      obtain ⟨⟨A131, rfl⟩, hs133⟩ := f129
      have h134 := h128.addD (d := DF.v (rSl rApiPost) ([] : List ApiPost) (.slice (some ⟨A131, 0, none⟩) (List.length ([] : List ApiPost)) 0)) hs133
      clear h128
      have h135 := h134.learnE (d := 9) rfl (hp126 6 9 _ rfl rfl rfl)
      clear h134
      refine step_append0 tabOk h135 rfl rfl (r := rApiPost) tb22 rfl tb38 rfl rfl rfl rfl rfl rfl (h135.d 2 rfl) hz8 fun A136 c137 a139 w140 hv138 h141 => ?_
      clear h135
      have h142 := h141.addD (d := DF.v (rSl rApiPost) z8 (.slice A136 (List.length z8) c137)) hv138
      clear h141
      exact wpl_end (hk127 _ _ _ _ (h142.sel [1, 2] [2, 3] [1, 2]) (h142.getR rfl (h142.d 0 rfl)) rfl)
    · skip
      intro β143 a144 w145 dX146 Ox147 Q148 h149 hq150 hp151 hk152
      have h153 := h149.learnE (d := 4) rfl (hp151 1 4 _ rfl rfl rfl)
      clear h149
      have h154 := h153.learnE (d := 6) rfl (hp151 3 6 _ rfl rfl rfl)
      clear h153
      have h155 := h154.learn (d := 10) rfl
      clear h154
      have f156 := hp151 7 10 _ rfl rfl rfl
      generalize a144.tmps.getD 10 undef = v157 at h155 f156
      obtain ⟨A158, c159, rfl, hs160⟩ := slForm f156
      have h161 := h155.addD (d := DF.v (rSl rApiPost) z8 (.slice A158 (List.length z8) c159)) hs160
      clear h155
      refine evalS_ok tabOk h161 1 [1, 2, 11] [1, 2] [(1, .o 1 0), (2, .o 2 0), (11, .v (.agg ⟨[.int .i64 x0.At, strV x0.Text, .slice A158 (List.length z8) c159]⟩))] [(1, ⟨[.int .i64 x0.At, strV x0.Text, .slice A1 (List.length x0.Posts) c2], 24⟩), (2, ⟨[.int .i64 0, strV ([] : Str), .slice none 0 0], 24⟩)] (by kernel_rfl) fun β162 a163 w164 h165 => ?_
      exact wpl_end (hk152 _ _ _ _ (h165.sel [1, 2] [1, 2] [1, 2]) (h165.getR rfl (im_ApiEntry (x := (⟨x0.At, x0.Text, z8⟩ : ApiEntry)) (h165.d 0 rfl))) rfl)
  · skip
    intro β166 a167 w168 h169 ha170
    have h171 := h169.learn (d := 11) rfl
    clear h169
    have f172 := ha170 8 11 _ rfl rfl
    generalize a167.tmps.getD 11 undef = v173 at h171 f172
    obtain ⟨v176, hs177, rfl⟩ := ex_ApiEntry f172
    obtain ⟨A174, c175, rfl, hs178⟩ := slForm hs177
    have h179 := h171.addD (d := DF.v (rSl rApiPost) ((⟨x0.At, x0.Text, z8⟩ : ApiEntry).Posts) (.slice A174 (List.length ((⟨x0.At, x0.Text, z8⟩ : ApiEntry).Posts)) c175)) hs178
    clear h171
    have h180 := h179.unpin rfl
    clear h179
    refine evalS_ok tabOk h180 1 [2] [2] [(2, .o 2 0)] [(2, ⟨[.int .i64 ((⟨x0.At, x0.Text, z8⟩ : ApiEntry).At), strV ((⟨x0.At, x0.Text, z8⟩ : ApiEntry).Text), .slice A174 (List.length ((⟨x0.At, x0.Text, z8⟩ : ApiEntry).Posts)) c175], 24⟩)] (by kernel_rfl) fun β181 a182 w183 h184 => ?_
    clear h180
    have h185 : Sb β181 (cx 12 ok w) [(2, .o 2 0)] [DF.v (rSl rApiPost) ((⟨x0.At, x0.Text, z8⟩ : ApiEntry).Posts) (.slice A174 (List.length ((⟨x0.At, x0.Text, z8⟩ : ApiEntry).Posts)) c175)] [(2, ⟨[.int .i64 ((⟨x0.At, x0.Text, z8⟩ : ApiEntry).At), strV ((⟨x0.At, x0.Text, z8⟩ : ApiEntry).Text), .slice A174 (List.length ((⟨x0.At, x0.Text, z8⟩ : ApiEntry).Posts)) c175], 24⟩)] [] a182 w183 := h184.sel [2] [0] [2]
    clear h184
    refine wpl_end (hq7 _ _ ?_)
    refine wp_ret ?_
    refine hr _ _ ?_
    obtain rfl := Option.some.inj hF9
    exact ret1c_ok tabOk h185 rfl rfl rfl (v := .agg ⟨[.int .i64 ((⟨x0.At, x0.Text, z8⟩ : ApiEntry).At), strV ((⟨x0.At, x0.Text, z8⟩ : ApiEntry).Text), .slice A174 (List.length ((⟨x0.At, x0.Text, z8⟩ : ApiEntry).Posts)) c175]⟩) (by kernel_rfl) (im_ApiEntry (x := (⟨x0.At, x0.Text, z8⟩ : ApiEntry)) (isV.weak (h185.d 0 rfl) (okOf_out h185 hok)))

theorem c_billingref47_Plain {ok : Ok} {w : World} (hok : ∀ b o, ok b o → b < w.heap.size) (N : Nat) {x0 : Str} {x1 : Int} {r : Bool} (hF : billingref47_Plain N x0 x1 = some r) :
    Calls Try.prog 28 ⟨[strV x0, .int .u8 x1]⟩ w (Ret w (R1 rBool ok w r)) := by
  rw [billingref47_Plain] at hF
  refine enter_ok (n := 23) hok Try.func28 rfl rfl rfl (D := []) trivial (fun a h => ?_)
  simp only [zipG, Nat.zero_add, Nat.reduceAdd] at h
  refine start_ctx fun Q hn hr => ?_
  refine seq_region tabOk h [0, 1] [] [(0, .v (strV x0)), (1, .v (.int .u8 x1))] [] (by kernel_rfl) fun β1 a2 w3 h4 => ?_
  clear h
  refine seq_ctx fun Q5 hn5 hr5 hx5 => ?_
  refine seq_region tabOk h4 [0, 1, 5] [] [(0, .v (strV x0)), (1, .v (.int .u8 x1)), (5, .v (.int .i64 0))] [] (by kernel_rfl) fun β6 a7 w8 h9 => ?_
  clear h4
  obtain ⟨out10, hL10, hC10⟩ := bindE hF
  clear hF
  have j11 : ∀ a w', ((∃ β, Sb β (cx 23 ok w) [] [] [] [] a w') ∧ billingref47_Plain_j11 N = some r) → Q5 .normal a w' := by
    rintro a12 w13 ⟨⟨β14, h15⟩, hF16⟩
    rw [billingref47_Plain_j11] at hF16
    refine hn5 _ _ ?_
    refine seq_region tabOk h15 [4] [] [(4, .v (.bool true))] [] (by kernel_rfl) fun β17 a18 w19 h20 => ?_
    clear h15
    refine wp_ret ?_
    refine hr _ _ ?_
    obtain rfl := Option.some.inj hF16
    exact ret1_ok h20 rfl rfl (isV_bool.2 rfl)
  refine block_ctx fun Qb10 hnb10 hrb10 hbb10 hxb10 => ?_
  have h22 : Sb β6 (cx 23 ok w) [(0, .v (strV x0)), (1, .v (.int .u8 x1)), (5, .v (.int .i64 0))] [] [] [] a7 w8 := (h9).sel [0, 1, 5] [] []
  refine loop_ctx (fun m a w' => ∃ (i21 : Int), (∃ β, Sb β (cx 23 ok w) [(0, .v (strV x0)), (1, .v (.int .u8 x1)), (5, .v (.int .i64 i21))] [] [] [] a w') ∧ billingref47_Plain_l10 N x0 x1 m i21 = some out10) N ⟨0, ⟨_, h22⟩, hL10⟩ ?_
  rintro Q10 m23 a24 w25 ⟨i21, ⟨β26, h27⟩, hF28⟩ hn10 hr10 hx10
  obtain _ | m23 := m23
  · exact absurd hF28 (by simp [billingref47_Plain_l10])
  rw [billingref47_Plain_l10] at hF28
  refine seq_ctx fun Q29 hn29 hr29 hx29 => ?_
  refine seq_region tabOk h27 [0, 1, 5, 9] [] [(0, .v (strV x0)), (1, .v (.int .u8 x1)), (5, .v (.int .i64 i21)), (9, .v (.bool (decide (i21 < (List.length x0 : Int)))))] [] (by kernel_rfl) fun β30 a31 w32 h33 => ?_
  clear h27
  refine wp_if h33 rfl (fun hb34 => ?_) (fun hb34 => ?_)
  · skip
    have hF35 := ifT hb34 hF28
    clear hF28
    refine wp_skip ?_
    refine hn29 _ _ ?_
    refine seq_ctx fun Q36 hn36 hr36 hx36 => ?_
    refine block_ctx fun Q37 hn37 hr37 hb37 hx37 => ?_
    obtain ⟨g39, hv40, hF41⟩ := bindE hF35
    clear hF35
    refine seq_join (J := fun a w' => ∃ β, Sb β (cx 23 ok w) [(0, .v (strV x0)), (1, .v (.int .u8 x1)), (5, .v (.int .i64 i21)), (22, .v (.bool g39))] [] [] [] a w') ?_ ?_
    · skip
      rintro a42 w43 ⟨β44, h45⟩
      refine wp_if h45 rfl (fun hb46 => ?_) (fun hb46 => ?_)
      · skip
        have hF47 := ifT hb46 hF41
        clear hF41
        refine seq_region tabOk h45 [4] [] [(4, .v (.bool false))] [] (by kernel_rfl) fun β48 a49 w50 h51 => ?_
        clear h45
        refine wp_ret ?_
        refine hr37 _ _ ?_
        refine hr36 _ _ ?_
        refine hr10 _ _ ?_
        refine hrb10 _ _ ?_
        refine hr5 _ _ ?_
        refine hr _ _ ?_
        obtain rfl := Option.some.inj hF47
        obtain rfl := Option.some.inj hC10
        exact ret1_ok h51 rfl rfl (isV_bool.2 rfl)
      · skip
        have hF52 := ifF hb46 hF41
        clear hF41
        refine wp_skip ?_
        refine hn37 _ _ ?_
        refine hn36 _ _ ?_
        refine evalR_ok tabOk h45 [0, 1, 5] [] [(0, .v (strV x0)), (1, .v (.int .u8 x1)), (5, .v (.int .i64 (IntKind.wrap .i64 (i21 + 1))))] [] (by kernel_rfl) fun β53 a54 w55 h56 => ?_
        clear h45
        have h57 : Sb β53 (cx 23 ok w) [(0, .v (strV x0)), (1, .v (.int .u8 x1)), (5, .v (.int .i64 (IntKind.wrap .i64 (i21 + 1))))] [] [] [] a54 w55 := (h56).sel [0, 1, 5] [] []
        exact hn10 _ _ _ (Nat.lt_succ_self _) ⟨(IntKind.wrap .i64 (i21 + 1)), ⟨_, h57⟩, hF52⟩
    · skip
      refine region_ok ?_
      refine evalS_ok tabOk h33 2 [0, 1, 5, 12, 13] [] [(0, .v (strV x0)), (1, .v (.int .u8 x1)), (5, .v (.int .i64 i21)), (12, .v (strV x0)), (13, .v (.int .i64 i21))] [] (by kernel_rfl) fun β58 a59 w60 h61 => ?_
      clear h33
      obtain ⟨x62, hx62, hv63⟩ := bindE hv40
      clear hv40
      refine step_sidx tabOk h61 rfl rfl rfl rfl hx62 tb9 rfl fun a64 h65 => ?_
      clear h61
      refine evalS_ok tabOk h65 3 [0, 1, 5, 17] [] [(0, .v (strV x0)), (1, .v (.int .u8 x1)), (5, .v (.int .i64 i21)), (17, .v (.bool (decide (x62 < x1))))] [] (by kernel_rfl) fun β66 a67 w68 h69 => ?_
      clear h65
      refine bcases (b := (decide (x62 < x1))) (fun hb70 => ?_) (fun hb70 => ?_)
      · skip
        have hv71 := ifT hb70 hv63
        clear hv63
        have h72 := h69.reb (t := 17) rfl hb70
        clear h69
        refine evalS_ok tabOk h72 5 [0, 1, 5, 22] [] [(0, .v (strV x0)), (1, .v (.int .u8 x1)), (5, .v (.int .i64 i21)), (22, .v (.bool true))] [] (by kernel_rfl) fun β73 a74 w75 h76 => ?_
        clear h72
        obtain rfl := Option.some.inj hv71
        have h77 : Sb β73 (cx 23 ok w) [(0, .v (strV x0)), (1, .v (.int .u8 x1)), (5, .v (.int .i64 i21)), (22, .v (.bool true))] [] [] [] a74 w75 := h76.sel [0, 1, 5, 22] [] []
        clear h76
        exact wpl_end (then_n ⟨_, h77⟩)
      · skip
        have hv78 := ifF hb70 hv63
        clear hv63
        have h79 := h69.reb (t := 17) rfl hb70
        clear h69
        refine evalS_ok tabOk h79 2 [0, 1, 5, 17, 18, 19] [] [(0, .v (strV x0)), (1, .v (.int .u8 x1)), (5, .v (.int .i64 i21)), (17, .v (.bool false)), (18, .v (strV x0)), (19, .v (.int .i64 i21))] [] (by kernel_rfl) fun β80 a81 w82 h83 => ?_
        clear h79
        obtain ⟨x84, hx84, hv85⟩ := bindE hv78
        clear hv78
        refine step_sidx tabOk h83 rfl rfl rfl rfl hx84 tb9 rfl fun a86 h87 => ?_
        clear h83
        refine evalS_ok tabOk h87 2 [0, 1, 5, 22] [] [(0, .v (strV x0)), (1, .v (.int .u8 x1)), (5, .v (.int .i64 i21)), (22, .v (.bool (decide (x84 > 126))))] [] (by kernel_rfl) fun β88 a89 w90 h91 => ?_
        clear h87
        obtain rfl := Option.some.inj hv85
        have h92 : Sb β88 (cx 23 ok w) [(0, .v (strV x0)), (1, .v (.int .u8 x1)), (5, .v (.int .i64 i21)), (22, .v (.bool (decide (x84 > 126))))] [] [] [] a89 w90 := h91.sel [0, 1, 5, 22] [] []
        clear h91
        exact wpl_end (then_n ⟨_, h92⟩)
  · skip
    have hF93 := ifF hb34 hF28
    clear hF28
    refine wp_exit ?_
    refine hx29 0 _ _ ?_
    refine hx10 0 _ _ ?_
    refine hbb10 _ _ ?_
    obtain rfl := Option.some.inj hF93
    have h94 : Sb β30 (cx 23 ok w) [] [] [] [] a31 w32 := (h33).sel [] [] []
    exact j11 _ _ ⟨⟨_, h94⟩, hC10⟩

theorem c_billingref01_Valid {ok : Ok} {w : World} (hok : ∀ b o, ok b o → b < w.heap.size) (N : Nat) {x0 : Int} {r : Bool} (hF : billingref01_Valid N x0 = some r) :
    Calls Try.prog 29 ⟨[.int .i64 x0]⟩ w (Ret w (R1 rBool ok w r)) := by
  rw [billingref01_Valid] at hF
  refine enter_ok (n := 9) hok Try.func29 rfl rfl rfl (D := []) trivial (fun a h => ?_)
  simp only [zipG, Nat.zero_add, Nat.reduceAdd] at h
  refine start_ctx fun Q hn hr => ?_
  refine seq_region tabOk h [0] [] [(0, .v (.int .i64 x0))] [] (by kernel_rfl) fun β1 a2 w3 h4 => ?_
  clear h
  obtain ⟨g6, hg6⟩ : ∃ z, z = ((decide (x0 ≥ (-1125899906842624))) && (decide (x0 ≤ 1125899906842624))) := ⟨_, rfl⟩
  skip
  refine seq_join (J := fun a w' => ∃ β, Sb β (cx 9 ok w) [(2, .v (.bool g6))] [] [] [] a w') ?_ ?_
  · skip
    rintro a7 w8 ⟨β9, h10⟩
    subst hg6
    refine wp_ret ?_
    refine hr _ _ ?_
    obtain rfl := Option.some.inj hF
    exact ret1_ok h10 rfl rfl (isV_bool.2 rfl)
  · skip
    refine region_ok ?_
    refine evalS_ok tabOk h4 3 [0, 5] [] [(0, .v (.int .i64 x0)), (5, .v (.bool (decide (x0 ≥ (-1125899906842624)))))] [] (by kernel_rfl) fun β11 a12 w13 h14 => ?_
    clear h4
    refine bcases (b := (decide (x0 ≥ (-1125899906842624)))) (fun hb15 => ?_) (fun hb15 => ?_)
    · skip
      have h16 := h14.reb (t := 5) rfl hb15
      clear h14
      refine evalS_ok tabOk h16 4 [2] [] [(2, .v (.bool (decide (x0 ≤ 1125899906842624))))] [] (by kernel_rfl) fun β17 a18 w19 h20 => ?_
      clear h16
      obtain rfl : g6 = (decide (x0 ≤ 1125899906842624)) := by rw [hg6]; simp only [*, Bool.and_true, Bool.true_and, Bool.or_true, Bool.true_or, Bool.or_false, Bool.false_or, Bool.and_false, Bool.false_and, cond_true, cond_false]
      have h21 : Sb β17 (cx 9 ok w) [(2, .v (.bool (decide (x0 ≤ 1125899906842624))))] [] [] [] a18 w19 := h20.sel [2] [] []
      clear h20
      exact wpl_end (then_n ⟨_, h21⟩)
    · skip
      have h22 := h14.reb (t := 5) rfl hb15
      clear h14
      refine evalS_ok tabOk h22 4 [2] [] [(2, .v (.bool false))] [] (by kernel_rfl) fun β23 a24 w25 h26 => ?_
      clear h22
      obtain rfl : g6 = false := by rw [hg6]; simp only [*, Bool.and_true, Bool.true_and, Bool.or_true, Bool.true_or, Bool.or_false, Bool.false_or, Bool.and_false, Bool.false_and, cond_true, cond_false]
      have h27 : Sb β23 (cx 9 ok w) [(2, .v (.bool false))] [] [] [] a24 w25 := h26.sel [2] [] []
      clear h26
      exact wpl_end (then_n ⟨_, h27⟩)

theorem c_billingref47_Check {ok : Ok} {w : World} (hok : ∀ b o, ok b o → b < w.heap.size) (N : Nat) {x0 : ApiEntry} {A1 : Option Addr} {c2 : Nat} (d0 : isV (rSl rApiPost) ok w x0.Posts (.slice A1 (List.length x0.Posts) c2)) {r : Int} (hF : billingref47_Check N x0 = some r) :
    Calls Try.prog 11 ⟨[.agg ⟨[.int .i64 x0.At, strV x0.Text, .slice A1 (List.length x0.Posts) c2]⟩]⟩ w (Ret w (R1 (rInt .i64) ok w r)) := by
  rw [billingref47_Check] at hF
  refine enter_ok (n := 91) hok Try.func11 rfl rfl rfl (D := [DF.v (rSl rApiPost) x0.Posts (.slice A1 (List.length x0.Posts) c2)]) ⟨d0, trivial⟩ (fun a h => ?_)
  simp only [zipG, Nat.zero_add, Nat.reduceAdd] at h
  refine start_ctx fun Q hn hr => ?_
  refine seq_region tabOk h [1] [1] [(1, .o 1 0)] [(1, ⟨[.int .i64 x0.At, strV x0.Text, .slice A1 (List.length x0.Posts) c2], 24⟩)] (by kernel_rfl) fun β3 a4 w5 h6 => ?_
  clear h
  refine seq_ctx fun Q7 hn7 hr7 hx7 => ?_
  obtain ⟨g9, hg9⟩ : ∃ z, z = ((decide (x0.At < 0)) || (decide (x0.At ≥ 12622780800))) := ⟨_, rfl⟩
  skip
  refine seq_join (J := fun a w' => ∃ β, Sb β (cx 91 ok w) [(1, .o 1 0), (13, .v (.bool g9))] [DF.v (rSl rApiPost) x0.Posts (.slice A1 (List.length x0.Posts) c2)] [(1, ⟨[.int .i64 x0.At, strV x0.Text, .slice A1 (List.length x0.Posts) c2], 24⟩)] [] a w') ?_ ?_
  · skip
    rintro a10 w11 ⟨β12, h13⟩
    subst hg9
    refine wp_if h13 rfl (fun hb14 => ?_) (fun hb14 => ?_)
    · skip
      have hF15 := ifT hb14 hF
      clear hF
      refine seq_region tabOk h13 [2] [] [(2, .v (.int .i64 15))] [] (by kernel_rfl) fun β16 a17 w18 h19 => ?_
      clear h13
      refine wp_ret ?_
      refine hr7 _ _ ?_
      refine hr _ _ ?_
      obtain rfl := Option.some.inj hF15
      exact ret1_ok h19 rfl rfl (isV_int.2 rfl)
    · skip
      have hF20 := ifF hb14 hF
      clear hF
      refine wp_skip ?_
      refine hn7 _ _ ?_
      refine seq_ctx fun Q21 hn21 hr21 hx21 => ?_
      obtain ⟨g23, hg23⟩ : ∃ z, z = ((decide ((List.length x0.Text : Int) > 200)) || (decide ((List.length x0.Posts : Int) > 64))) := ⟨_, rfl⟩
      skip
      refine seq_join (J := fun a w' => ∃ β, Sb β (cx 91 ok w) [(1, .o 1 0), (23, .v (.bool g23))] [DF.v (rSl rApiPost) x0.Posts (.slice A1 (List.length x0.Posts) c2)] [(1, ⟨[.int .i64 x0.At, strV x0.Text, .slice A1 (List.length x0.Posts) c2], 24⟩)] [] a w') ?_ ?_
      · skip
        rintro a24 w25 ⟨β26, h27⟩
        subst hg23
        refine wp_if h27 rfl (fun hb28 => ?_) (fun hb28 => ?_)
        · skip
          have hF29 := ifT hb28 hF20
          clear hF20
          refine seq_region tabOk h27 [2] [] [(2, .v (.int .i64 5))] [] (by kernel_rfl) fun β30 a31 w32 h33 => ?_
          clear h27
          refine wp_ret ?_
          refine hr21 _ _ ?_
          refine hr _ _ ?_
          obtain rfl := Option.some.inj hF29
          exact ret1_ok h33 rfl rfl (isV_int.2 rfl)
        · skip
          have hF34 := ifF hb28 hF20
          clear hF20
          refine wp_skip ?_
          refine hn21 _ _ ?_
          refine seq_ctx fun Q35 hn35 hr35 hx35 => ?_
          obtain ⟨g37, hv38, hF39⟩ := bindE hF34
          clear hF34
          refine seq_join (J := fun a w' => ∃ β, Sb β (cx 91 ok w) [(1, .o 1 0), (33, .v (.bool g37))] [DF.v (rSl rApiPost) x0.Posts (.slice A1 (List.length x0.Posts) c2)] [(1, ⟨[.int .i64 x0.At, strV x0.Text, .slice A1 (List.length x0.Posts) c2], 24⟩)] [] a w') ?_ ?_
          · skip
            rintro a40 w41 ⟨β42, h43⟩
            refine wp_if h43 rfl (fun hb44 => ?_) (fun hb44 => ?_)
            · skip
              have hF45 := ifT hb44 hF39
              clear hF39
              refine seq_region tabOk h43 [2] [] [(2, .v (.int .i64 8))] [] (by kernel_rfl) fun β46 a47 w48 h49 => ?_
              clear h43
              refine wp_ret ?_
              refine hr35 _ _ ?_
              refine hr _ _ ?_
              obtain rfl := Option.some.inj hF45
              exact ret1_ok h49 rfl rfl (isV_int.2 rfl)
            · skip
              have hF50 := ifF hb44 hF39
              clear hF39
              refine wp_skip ?_
              refine hn35 _ _ ?_
              refine seq_region tabOk h43 [1, 3] [1] [(1, .o 1 0), (3, .v (.int .i64 0))] [(1, ⟨[.int .i64 x0.At, strV x0.Text, .slice A1 (List.length x0.Posts) c2], 24⟩)] (by kernel_rfl) fun β51 a52 w53 h54 => ?_
              clear h43
              refine seq_ctx fun Q55 hn55 hr55 hx55 => ?_
              refine seq_region tabOk h54 [1, 3, 4] [1] [(1, .o 1 0), (3, .v (.int .i64 0)), (4, .v (.int .i64 0))] [(1, ⟨[.int .i64 x0.At, strV x0.Text, .slice A1 (List.length x0.Posts) c2], 24⟩)] (by kernel_rfl) fun β56 a57 w58 h59 => ?_
              clear h54
              obtain ⟨out60, hL60, hC60⟩ := bindE hF50
              clear hF50
              have j62 : ∀ a w', (∃ (i61 : Int), (∃ β, Sb β (cx 91 ok w) [(3, .v (.int .i64 i61))] [] [] [] a w') ∧ billingref47_Check_j62 N i61 = some r) → Q55 .normal a w' := by
                rintro a63 w64 ⟨i61, ⟨β65, h66⟩, hF67⟩
                rw [billingref47_Check_j62] at hF67
                refine hn55 _ _ ?_
                refine seq_ctx fun Q68 hn68 hr68 hx68 => ?_
                refine seq_region tabOk h66 [90] [] [(90, .v (.bool (i61 != 0)))] [] (by kernel_rfl) fun β69 a70 w71 h72 => ?_
                clear h66
                refine wp_if h72 rfl (fun hb73 => ?_) (fun hb73 => ?_)
                · skip
                  have hF74 := ifT hb73 hF67
                  clear hF67
                  refine seq_region tabOk h72 [2] [] [(2, .v (.int .i64 21))] [] (by kernel_rfl) fun β75 a76 w77 h78 => ?_
                  clear h72
                  refine wp_ret ?_
                  refine hr68 _ _ ?_
                  refine hr _ _ ?_
                  obtain rfl := Option.some.inj hF74
                  exact ret1_ok h78 rfl rfl (isV_int.2 rfl)
                · skip
                  have hF79 := ifF hb73 hF67
                  clear hF67
                  refine wp_skip ?_
                  refine hn68 _ _ ?_
                  refine seq_region tabOk h72 [2] [] [(2, .v (.int .i64 0))] [] (by kernel_rfl) fun β80 a81 w82 h83 => ?_
                  clear h72
                  refine wp_ret ?_
                  refine hr _ _ ?_
                  obtain rfl := Option.some.inj hF79
                  exact ret1_ok h83 rfl rfl (isV_int.2 rfl)
              refine block_ctx fun Qb60 hnb60 hrb60 hbb60 hxb60 => ?_
              have h86 : Sb β56 (cx 91 ok w) [(1, .o 1 0), (3, .v (.int .i64 0)), (4, .v (.int .i64 0))] [DF.v (rSl rApiPost) x0.Posts (.slice A1 (List.length x0.Posts) c2)] [(1, ⟨[.int .i64 x0.At, strV x0.Text, .slice A1 (List.length x0.Posts) c2], 24⟩)] [] a57 w58 := (h59).sel [1, 3, 4] [0] [1]
              refine loop_ctx (fun m a w' => ∃ (i84 : Int) (i85 : Int), (∃ β, Sb β (cx 91 ok w) [(1, .o 1 0), (3, .v (.int .i64 i84)), (4, .v (.int .i64 i85))] [DF.v (rSl rApiPost) x0.Posts (.slice A1 (List.length x0.Posts) c2)] [(1, ⟨[.int .i64 x0.At, strV x0.Text, .slice A1 (List.length x0.Posts) c2], 24⟩)] [] a w') ∧ billingref47_Check_l60 N x0 m i84 i85 = some out60) N ⟨0, 0, ⟨_, h86⟩, hL60⟩ ?_
              rintro Q60 m87 a88 w89 ⟨i84, i85, ⟨β90, h91⟩, hF92⟩ hn60 hr60 hx60
              obtain _ | m87 := m87
              · exact absurd hF92 (by simp [billingref47_Check_l60])
              rw [billingref47_Check_l60] at hF92
              refine seq_ctx fun Q93 hn93 hr93 hx93 => ?_
              refine seq_region tabOk h91 [1, 3, 4, 38] [1] [(1, .o 1 0), (3, .v (.int .i64 i84)), (4, .v (.int .i64 i85)), (38, .v (.bool (decide (i85 < (List.length x0.Posts : Int)))))] [(1, ⟨[.int .i64 x0.At, strV x0.Text, .slice A1 (List.length x0.Posts) c2], 24⟩)] (by kernel_rfl) fun β94 a95 w96 h97 => ?_
              clear h91
              refine wp_if h97 rfl (fun hb98 => ?_) (fun hb98 => ?_)
              · skip
                have hF99 := ifT hb98 hF92
                clear hF92
                refine wp_skip ?_
                refine hn93 _ _ ?_
                refine seq_ctx fun Q100 hn100 hr100 hx100 => ?_
                refine block_ctx fun Q101 hn101 hr101 hb101 hx101 => ?_
                refine seq_list fun Q102 hq102 => ?_
                refine evalS_ok tabOk h97 3 [1, 3, 4, 42, 43] [1] [(1, .o 1 0), (3, .v (.int .i64 i84)), (4, .v (.int .i64 i85)), (42, .v (.slice A1 (List.length x0.Posts) c2)), (43, .v (.int .i64 i85))] [(1, ⟨[.int .i64 x0.At, strV x0.Text, .slice A1 (List.length x0.Posts) c2], 24⟩)] (by kernel_rfl) fun β103 a104 w105 h106 => ?_
                clear h97
                obtain ⟨x107, hx107, hF108⟩ := bindE hF99
                clear hF99
                refine step_idx tabOk h106 0 rfl rfl rfl rfl rfl hx107 tb22 rfl tb38 rfl fun p109 a110 h111 => ?_
                clear h106
                refine step_load tabOk h111 0 rfl rfl rfl rfl tb38 rfl rfl fun v112 a114 hv113 h115 => ?_
                clear h111
                obtain rfl := ex_ApiPost hv113
                refine evalS_ok tabOk h115 2 [1, 3, 4, 5] [1, 5] [(1, .o 1 0), (3, .v (.int .i64 i84)), (4, .v (.int .i64 i85)), (5, .o 5 0)] [(1, ⟨[.int .i64 x0.At, strV x0.Text, .slice A1 (List.length x0.Posts) c2], 24⟩), (5, ⟨[strV x107.Account, .int .i64 x107.Amount], 38⟩)] (by kernel_rfl) fun β116 a117 w118 h119 => ?_
                clear h115
                have h120 : Sb β116 (cx 91 ok w) [(1, .o 1 0), (3, .v (.int .i64 i84)), (4, .v (.int .i64 i85)), (5, .o 5 0)] [DF.v (rSl rApiPost) x0.Posts (.slice A1 (List.length x0.Posts) c2)] [(1, ⟨[.int .i64 x0.At, strV x0.Text, .slice A1 (List.length x0.Posts) c2], 24⟩), (5, ⟨[strV x107.Account, .int .i64 x107.Amount], 38⟩)] [] a117 w118 := h119.sel [1, 3, 4, 5] [2] [1, 5]
                clear h119
                refine wpl_end (hq102 _ _ ?_)
                refine seq_ctx fun Q121 hn121 hr121 hx121 => ?_
                obtain ⟨g123, hv124, hF125⟩ := bindE hF108
                clear hF108
                refine seq_join (J := fun a w' => ∃ β, Sb β (cx 91 ok w) [(1, .o 1 0), (3, .v (.int .i64 i84)), (4, .v (.int .i64 i85)), (5, .o 5 0), (61, .v (.bool g123))] [DF.v (rSl rApiPost) x0.Posts (.slice A1 (List.length x0.Posts) c2)] [(1, ⟨[.int .i64 x0.At, strV x0.Text, .slice A1 (List.length x0.Posts) c2], 24⟩), (5, ⟨[strV x107.Account, .int .i64 x107.Amount], 38⟩)] [] a w') ?_ ?_
                · skip
                  rintro a126 w127 ⟨β128, h129⟩
                  refine wp_if h129 rfl (fun hb130 => ?_) (fun hb130 => ?_)
                  · skip
                    have hF131 := ifT hb130 hF125
                    clear hF125
                    refine seq_region tabOk h129 [2] [] [(2, .v (.int .i64 8))] [] (by kernel_rfl) fun β132 a133 w134 h135 => ?_
                    clear h129
                    refine wp_ret ?_
                    refine hr121 _ _ ?_
                    refine hr101 _ _ ?_
                    refine hr100 _ _ ?_
                    refine hr60 _ _ ?_
                    refine hrb60 _ _ ?_
                    refine hr55 _ _ ?_
                    refine hr _ _ ?_
                    obtain rfl := Option.some.inj hF131
                    obtain rfl := Option.some.inj hC60
                    exact ret1_ok h135 rfl rfl (isV_int.2 rfl)
                  · skip
                    have hF136 := ifF hb130 hF125
                    clear hF125
                    refine wp_skip ?_
                    refine hn121 _ _ ?_
                    refine seq_ctx fun Q137 hn137 hr137 hx137 => ?_
                    obtain ⟨g139, hv140, hF141⟩ := bindE hF136
                    clear hF136
                    refine seq_join (J := fun a w' => ∃ β, Sb β (cx 91 ok w) [(1, .o 1 0), (3, .v (.int .i64 i84)), (4, .v (.int .i64 i85)), (5, .o 5 0), (75, .v (.bool g139))] [DF.v (rSl rApiPost) x0.Posts (.slice A1 (List.length x0.Posts) c2)] [(1, ⟨[.int .i64 x0.At, strV x0.Text, .slice A1 (List.length x0.Posts) c2], 24⟩), (5, ⟨[strV x107.Account, .int .i64 x107.Amount], 38⟩)] [] a w') ?_ ?_
                    · skip
                      rintro a142 w143 ⟨β144, h145⟩
                      refine wp_if h145 rfl (fun hb146 => ?_) (fun hb146 => ?_)
                      · skip
                        have hF147 := ifT hb146 hF141
                        clear hF141
                        refine seq_region tabOk h145 [2] [] [(2, .v (.int .i64 9))] [] (by kernel_rfl) fun β148 a149 w150 h151 => ?_
                        clear h145
                        refine wp_ret ?_
                        refine hr137 _ _ ?_
                        refine hr101 _ _ ?_
                        refine hr100 _ _ ?_
                        refine hr60 _ _ ?_
                        refine hrb60 _ _ ?_
                        refine hr55 _ _ ?_
                        refine hr _ _ ?_
                        obtain rfl := Option.some.inj hF147
                        obtain rfl := Option.some.inj hC60
                        exact ret1_ok h151 rfl rfl (isV_int.2 rfl)
                      · skip
                        have hF152 := ifF hb146 hF141
                        clear hF141
                        refine wp_skip ?_
                        refine hn137 _ _ ?_
                        refine seq_ctx fun Q153 hn153 hr153 hx153 => ?_
                        obtain ⟨g155, hv156, hF157⟩ := bindE hF152
                        clear hF152
                        refine seq_join (J := fun a w' => ∃ β, Sb β (cx 91 ok w) [(1, .o 1 0), (3, .v (.int .i64 i84)), (4, .v (.int .i64 i85)), (5, .o 5 0), (84, .v (.bool g155))] [DF.v (rSl rApiPost) x0.Posts (.slice A1 (List.length x0.Posts) c2)] [(1, ⟨[.int .i64 x0.At, strV x0.Text, .slice A1 (List.length x0.Posts) c2], 24⟩), (5, ⟨[strV x107.Account, .int .i64 x107.Amount], 38⟩)] [] a w') ?_ ?_
                        · skip
                          rintro a158 w159 ⟨β160, h161⟩
                          refine wp_if h161 rfl (fun hb162 => ?_) (fun hb162 => ?_)
                          · skip
                            have hF163 := ifT hb162 hF157
                            clear hF157
                            refine seq_region tabOk h161 [2] [] [(2, .v (.int .i64 6))] [] (by kernel_rfl) fun β164 a165 w166 h167 => ?_
                            clear h161
                            refine wp_ret ?_
                            refine hr153 _ _ ?_
                            refine hr101 _ _ ?_
                            refine hr100 _ _ ?_
                            refine hr60 _ _ ?_
                            refine hrb60 _ _ ?_
                            refine hr55 _ _ ?_
                            refine hr _ _ ?_
                            obtain rfl := Option.some.inj hF163
                            obtain rfl := Option.some.inj hC60
                            exact ret1_ok h167 rfl rfl (isV_int.2 rfl)
                          · skip
                            have hF168 := ifF hb162 hF157
                            clear hF157
                            refine wp_skip ?_
                            refine hn153 _ _ ?_
                            refine evalR_ok tabOk h161 [1, 3, 4] [1] [(1, .o 1 0), (3, .v (.int .i64 (IntKind.wrap .i64 (i84 + x107.Amount)))), (4, .v (.int .i64 i85))] [(1, ⟨[.int .i64 x0.At, strV x0.Text, .slice A1 (List.length x0.Posts) c2], 24⟩)] (by kernel_rfl) fun β169 a170 w171 h172 => ?_
                            clear h161
                            refine hn101 _ _ ?_
                            refine hn100 _ _ ?_
                            refine evalR_ok tabOk h172 [1, 3, 4] [1] [(1, .o 1 0), (3, .v (.int .i64 (IntKind.wrap .i64 (i84 + x107.Amount)))), (4, .v (.int .i64 (IntKind.wrap .i64 (i85 + 1))))] [(1, ⟨[.int .i64 x0.At, strV x0.Text, .slice A1 (List.length x0.Posts) c2], 24⟩)] (by kernel_rfl) fun β173 a174 w175 h176 => ?_
                            clear h172
                            have h177 : Sb β173 (cx 91 ok w) [(1, .o 1 0), (3, .v (.int .i64 (IntKind.wrap .i64 (i84 + x107.Amount)))), (4, .v (.int .i64 (IntKind.wrap .i64 (i85 + 1))))] [DF.v (rSl rApiPost) x0.Posts (.slice A1 (List.length x0.Posts) c2)] [(1, ⟨[.int .i64 x0.At, strV x0.Text, .slice A1 (List.length x0.Posts) c2], 24⟩)] [] a174 w175 := (h176).sel [1, 3, 4] [0] [1]
                            exact hn60 _ _ _ (Nat.lt_succ_self _) ⟨(IntKind.wrap .i64 (i84 + x107.Amount)), (IntKind.wrap .i64 (i85 + 1)), ⟨_, h177⟩, hF168⟩
                        · skip
                          refine region_ok ?_
                          refine evalS_ok tabOk h145 4 [1, 3, 4, 5, 79] [1, 5] [(1, .o 1 0), (3, .v (.int .i64 i84)), (4, .v (.int .i64 i85)), (5, .o 5 0), (79, .v (.bool (x107.Amount == 0)))] [(1, ⟨[.int .i64 x0.At, strV x0.Text, .slice A1 (List.length x0.Posts) c2], 24⟩), (5, ⟨[strV x107.Account, .int .i64 x107.Amount], 38⟩)] (by kernel_rfl) fun β178 a179 w180 h181 => ?_
                          clear h145
                          refine bcases (b := (x107.Amount == 0)) (fun hb182 => ?_) (fun hb182 => ?_)
                          · skip
                            have hv183 := ifT hb182 hv156
                            clear hv156
                            have h184 := h181.reb (t := 79) rfl hb182
                            clear h181
                            refine evalS_ok tabOk h184 5 [1, 3, 4, 5, 84] [1, 5] [(1, .o 1 0), (3, .v (.int .i64 i84)), (4, .v (.int .i64 i85)), (5, .o 5 0), (84, .v (.bool true))] [(1, ⟨[.int .i64 x0.At, strV x0.Text, .slice A1 (List.length x0.Posts) c2], 24⟩), (5, ⟨[strV x107.Account, .int .i64 x107.Amount], 38⟩)] (by kernel_rfl) fun β185 a186 w187 h188 => ?_
                            clear h184
                            obtain rfl := Option.some.inj hv183
                            have h189 : Sb β185 (cx 91 ok w) [(1, .o 1 0), (3, .v (.int .i64 i84)), (4, .v (.int .i64 i85)), (5, .o 5 0), (84, .v (.bool true))] [DF.v (rSl rApiPost) x0.Posts (.slice A1 (List.length x0.Posts) c2)] [(1, ⟨[.int .i64 x0.At, strV x0.Text, .slice A1 (List.length x0.Posts) c2], 24⟩), (5, ⟨[strV x107.Account, .int .i64 x107.Amount], 38⟩)] [] a186 w187 := h188.sel [1, 3, 4, 5, 84] [0] [1, 5]
                            clear h188
                            exact wpl_end (then_n ⟨_, h189⟩)
                          · skip
                            have hv190 := ifF hb182 hv156
                            clear hv156
                            have h191 := h181.reb (t := 79) rfl hb182
                            clear h181
                            refine evalS_ok tabOk h191 2 [1, 3, 4, 5, 79, 81] [1, 5] [(1, .o 1 0), (3, .v (.int .i64 i84)), (4, .v (.int .i64 i85)), (5, .o 5 0), (79, .v (.bool false)), (81, .v (.int .i64 x107.Amount))] [(1, ⟨[.int .i64 x0.At, strV x0.Text, .slice A1 (List.length x0.Posts) c2], 24⟩), (5, ⟨[strV x107.Account, .int .i64 x107.Amount], 38⟩)] (by kernel_rfl) fun β192 a193 w194 h195 => ?_
                            clear h191
                            obtain ⟨y196, hy196, hv197⟩ := bindE hv190
                            clear hv190
                            refine step_call h195 rfl rfl runs29 (vs := [(.int .i64 x107.Amount)]) (by kernel_rfl) (c_billingref01_Valid (x0 := x107.Amount) h195.okLt N hy196) fun v198 a201 w202 hR199 hk200 h203 => ?_
                            clear h195
                            have hv204 := isV.weak hR199 hk200
                            obtain rfl := isV_bool.1 hv204
                            refine evalS_ok tabOk h203 2 [1, 3, 4, 5, 84] [1, 5] [(1, .o 1 0), (3, .v (.int .i64 i84)), (4, .v (.int .i64 i85)), (5, .o 5 0), (84, .v (.bool (!y196)))] [(1, ⟨[.int .i64 x0.At, strV x0.Text, .slice A1 (List.length x0.Posts) c2], 24⟩), (5, ⟨[strV x107.Account, .int .i64 x107.Amount], 38⟩)] (by kernel_rfl) fun β205 a206 w207 h208 => ?_
                            clear h203
                            obtain rfl := Option.some.inj hv197
                            have h209 : Sb β205 (cx 91 ok w) [(1, .o 1 0), (3, .v (.int .i64 i84)), (4, .v (.int .i64 i85)), (5, .o 5 0), (84, .v (.bool (!y196)))] [DF.v (rSl rApiPost) x0.Posts (.slice A1 (List.length x0.Posts) c2)] [(1, ⟨[.int .i64 x0.At, strV x0.Text, .slice A1 (List.length x0.Posts) c2], 24⟩), (5, ⟨[strV x107.Account, .int .i64 x107.Amount], 38⟩)] [] a206 w207 := h208.sel [1, 3, 4, 5, 84] [0] [1, 5]
                            clear h208
                            exact wpl_end (then_n ⟨_, h209⟩)
                    · skip
                      refine bcases (b := (decide (i85 > 0))) (fun hb210 => ?_) (fun hb210 => ?_)
                      · skip
                        have hv211 := ifT hb210 hv140
                        clear hv140
                        obtain ⟨x212, hx212, hv213⟩ := bindE hv211
                        clear hv211
                        have h215 : Sb β128 (cx 91 ok w) [(1, .o 1 0), (3, .v (.int .i64 i84)), (4, .v (.int .i64 i85)), (5, .o 5 0)] [DF.v (rSl rApiPost) x0.Posts (.slice A1 (List.length x0.Posts) c2)] [(1, ⟨[.int .i64 x0.At, strV x0.Text, .slice A1 (List.length x0.Posts) c2], 24⟩), (5, ⟨[strV x107.Account, .int .i64 x107.Amount], 38⟩)] [] a126 w127 := h129.sel [1, 3, 4, 5] [0] [1, 5]
                        refine draw_rule h215 rfl (by kernel_rfl) 14 [62, 63, 64, 65, 66, 67, 68, 69, 70, 71, 72, 73, 74, 75] [FV.eq (.int .i64 i85), FV.eq (.bool (decide (i85 > 0))), FV.eq (.bool (decide (i85 > 0))), FV.eq (.pointer (some ⟨β128 5, 0, none⟩)), FV.eq (strV x107.Account), FV.eq (.pointer (some ⟨β128 1, 2, none⟩)), FV.eq (.slice A1 (List.length x0.Posts) c2), FV.eq (.int .i64 i85), FV.eq (.int .i64 (IntKind.wrap .i64 (i85 - 1))), FV.at rApiPost x212, FV.at rStr x212.Account, FV.eq (strV x212.Account), FV.eq (.bool (Op.bytesLess x107.Account x212.Account || x107.Account == x212.Account)), FV.eq (.bool (Op.bytesLess x107.Account x212.Account || x107.Account == x212.Account))] rfl rfl rfl (by kernel_rfl) (by kernel_rfl) (by kernel_rfl) (by kernel_rfl) (by kernel_rfl) ?_ ?_
                        · skip
                          refine ⟨⟨⟨⟨⟨⟨⟨⟨⟨⟨⟨⟨⟨⟨trivial, ?_⟩, ?_⟩, ?_⟩, ?_⟩, ?_⟩, ?_⟩, ?_⟩, ?_⟩, ?_⟩, ?_⟩, ?_⟩, ?_⟩, ?_⟩, ?_⟩
                          · skip
                            intro β216 a217 w218 dX219 Ox220 Q221 h222 hq223 hp224 hk225
                            refine evalS_ok tabOk h222 1 [1, 3, 4, 5, 62] [1, 5] [(1, .o 1 0), (3, .v (.int .i64 i84)), (4, .v (.int .i64 i85)), (5, .o 5 0), (62, .v (.int .i64 i85))] [(1, ⟨[.int .i64 x0.At, strV x0.Text, .slice A1 (List.length x0.Posts) c2], 24⟩), (5, ⟨[strV x107.Account, .int .i64 x107.Amount], 38⟩)] (by kernel_rfl) fun β226 a227 w228 h229 => ?_
                            exact wpl_end (hk225 _ _ _ _ (h229.sel [1, 3, 4, 5] [0, 1] [1, 5]) (h229.getD rfl) rfl)
                          · skip
                            intro β230 a231 w232 dX233 Ox234 Q235 h236 hq237 hp238 hk239
                            have h240 := h236.learnE (d := 62) rfl (hp238 0 62 _ rfl rfl rfl)
                            clear h236
                            refine evalS_ok tabOk h240 1 [1, 3, 4, 5, 63] [1, 5] [(1, .o 1 0), (3, .v (.int .i64 i84)), (4, .v (.int .i64 i85)), (5, .o 5 0), (63, .v (.bool (decide (i85 > 0))))] [(1, ⟨[.int .i64 x0.At, strV x0.Text, .slice A1 (List.length x0.Posts) c2], 24⟩), (5, ⟨[strV x107.Account, .int .i64 x107.Amount], 38⟩)] (by kernel_rfl) fun β241 a242 w243 h244 => ?_
                            exact wpl_end (hk239 _ _ _ _ (h244.sel [1, 3, 4, 5] [0, 1] [1, 5]) (h244.getD rfl) rfl)
                          · skip
                            intro β245 a246 w247 dX248 Ox249 Q250 h251 hq252 hp253 hk254
                            have h255 := h251.learnE (d := 63) rfl (hp253 1 63 _ rfl rfl rfl)
                            clear h251
                            refine evalS_ok tabOk h255 1 [1, 3, 4, 5, 64] [1, 5] [(1, .o 1 0), (3, .v (.int .i64 i84)), (4, .v (.int .i64 i85)), (5, .o 5 0), (64, .v (.bool (decide (i85 > 0))))] [(1, ⟨[.int .i64 x0.At, strV x0.Text, .slice A1 (List.length x0.Posts) c2], 24⟩), (5, ⟨[strV x107.Account, .int .i64 x107.Amount], 38⟩)] (by kernel_rfl) fun β256 a257 w258 h259 => ?_
                            exact wpl_end (hk254 _ _ _ _ (h259.sel [1, 3, 4, 5] [0, 1] [1, 5]) (h259.getD rfl) rfl)
                          · skip
                            intro β260 a261 w262 dX263 Ox264 Q265 h266 hq267 hp268 hk269
                            have h270 := h266.learnE (d := 64) rfl (hp268 2 64 _ rfl rfl rfl)
                            clear h266
                            have h271 := h270.reb (t := 64) rfl hb210
                            clear h270
                            refine evalS_ok tabOk h271 1 [1, 3, 4, 5, 65] [1, 5] [(1, .o 1 0), (3, .v (.int .i64 i84)), (4, .v (.int .i64 i85)), (5, .o 5 0), (65, .o 5 0)] [(1, ⟨[.int .i64 x0.At, strV x0.Text, .slice A1 (List.length x0.Posts) c2], 24⟩), (5, ⟨[strV x107.Account, .int .i64 x107.Amount], 38⟩)] (by kernel_rfl) fun β272 a273 w274 h275 => ?_
                            exact wpl_end (hk269 _ _ _ _ (h275.sel [1, 3, 4, 5] [0, 1] [1, 5]) (h275.getO rfl rfl rfl) rfl)
                          · skip
                            intro β276 a277 w278 dX279 Ox280 Q281 h282 hq283 hp284 hk285
                            have h286 := h282.learnE (d := 64) rfl (hp284 2 64 _ rfl rfl rfl)
                            clear h282
                            have h287 := h286.reb (t := 64) rfl hb210
                            clear h286
                            have h288 := h287.learnO (d := 65) (id := 5) (off := 0) rfl rfl rfl (hp284 3 65 _ rfl rfl rfl)
                            clear h287
                            refine evalS_ok tabOk h288 1 [1, 3, 4, 5, 66] [1, 5] [(1, .o 1 0), (3, .v (.int .i64 i84)), (4, .v (.int .i64 i85)), (5, .o 5 0), (66, .v (strV x107.Account))] [(1, ⟨[.int .i64 x0.At, strV x0.Text, .slice A1 (List.length x0.Posts) c2], 24⟩), (5, ⟨[strV x107.Account, .int .i64 x107.Amount], 38⟩)] (by kernel_rfl) fun β289 a290 w291 h292 => ?_
                            exact wpl_end (hk285 _ _ _ _ (h292.sel [1, 3, 4, 5] [0, 1] [1, 5]) (h292.getD rfl) rfl)
                          · skip
                            intro β293 a294 w295 dX296 Ox297 Q298 h299 hq300 hp301 hk302
                            have h303 := h299.learnE (d := 64) rfl (hp301 2 64 _ rfl rfl rfl)
                            clear h299
                            have h304 := h303.reb (t := 64) rfl hb210
                            clear h303
                            refine evalS_ok tabOk h304 1 [1, 3, 4, 5, 67] [1, 5] [(1, .o 1 0), (3, .v (.int .i64 i84)), (4, .v (.int .i64 i85)), (5, .o 5 0), (67, .o 1 2)] [(1, ⟨[.int .i64 x0.At, strV x0.Text, .slice A1 (List.length x0.Posts) c2], 24⟩), (5, ⟨[strV x107.Account, .int .i64 x107.Amount], 38⟩)] (by kernel_rfl) fun β305 a306 w307 h308 => ?_
                            exact wpl_end (hk302 _ _ _ _ (h308.sel [1, 3, 4, 5] [0, 1] [1, 5]) (h308.getO rfl rfl rfl) rfl)
                          · skip
                            intro β309 a310 w311 dX312 Ox313 Q314 h315 hq316 hp317 hk318
                            have h319 := h315.learnE (d := 64) rfl (hp317 2 64 _ rfl rfl rfl)
                            clear h315
                            have h320 := h319.reb (t := 64) rfl hb210
                            clear h319
                            have h321 := h320.learnO (d := 67) (id := 1) (off := 2) rfl rfl rfl (hp317 5 67 _ rfl rfl rfl)
                            clear h320
                            refine evalS_ok tabOk h321 1 [1, 3, 4, 5, 68] [1, 5] [(1, .o 1 0), (3, .v (.int .i64 i84)), (4, .v (.int .i64 i85)), (5, .o 5 0), (68, .v (.slice A1 (List.length x0.Posts) c2))] [(1, ⟨[.int .i64 x0.At, strV x0.Text, .slice A1 (List.length x0.Posts) c2], 24⟩), (5, ⟨[strV x107.Account, .int .i64 x107.Amount], 38⟩)] (by kernel_rfl) fun β322 a323 w324 h325 => ?_
                            exact wpl_end (hk318 _ _ _ _ (h325.sel [1, 3, 4, 5] [0, 1] [1, 5]) (h325.getD rfl) rfl)
                          · skip
                            intro β326 a327 w328 dX329 Ox330 Q331 h332 hq333 hp334 hk335
                            have h336 := h332.learnE (d := 64) rfl (hp334 2 64 _ rfl rfl rfl)
                            clear h332
                            have h337 := h336.reb (t := 64) rfl hb210
                            clear h336
                            refine evalS_ok tabOk h337 1 [1, 3, 4, 5, 69] [1, 5] [(1, .o 1 0), (3, .v (.int .i64 i84)), (4, .v (.int .i64 i85)), (5, .o 5 0), (69, .v (.int .i64 i85))] [(1, ⟨[.int .i64 x0.At, strV x0.Text, .slice A1 (List.length x0.Posts) c2], 24⟩), (5, ⟨[strV x107.Account, .int .i64 x107.Amount], 38⟩)] (by kernel_rfl) fun β338 a339 w340 h341 => ?_
                            exact wpl_end (hk335 _ _ _ _ (h341.sel [1, 3, 4, 5] [0, 1] [1, 5]) (h341.getD rfl) rfl)
                          · skip
                            intro β342 a343 w344 dX345 Ox346 Q347 h348 hq349 hp350 hk351
                            have h352 := h348.learnE (d := 64) rfl (hp350 2 64 _ rfl rfl rfl)
                            clear h348
                            have h353 := h352.reb (t := 64) rfl hb210
                            clear h352
                            have h354 := h353.learnE (d := 69) rfl (hp350 7 69 _ rfl rfl rfl)
                            clear h353
                            refine evalS_ok tabOk h354 1 [1, 3, 4, 5, 70] [1, 5] [(1, .o 1 0), (3, .v (.int .i64 i84)), (4, .v (.int .i64 i85)), (5, .o 5 0), (70, .v (.int .i64 (IntKind.wrap .i64 (i85 - 1))))] [(1, ⟨[.int .i64 x0.At, strV x0.Text, .slice A1 (List.length x0.Posts) c2], 24⟩), (5, ⟨[strV x107.Account, .int .i64 x107.Amount], 38⟩)] (by kernel_rfl) fun β355 a356 w357 h358 => ?_
                            exact wpl_end (hk351 _ _ _ _ (h358.sel [1, 3, 4, 5] [0, 1] [1, 5]) (h358.getD rfl) rfl)
                          · skip
                            intro β359 a360 w361 dX362 Ox363 Q364 h365 hq366 hp367 hk368
                            have h369 := h365.learnE (d := 64) rfl (hp367 2 64 _ rfl rfl rfl)
                            clear h365
                            have h370 := h369.reb (t := 64) rfl hb210
                            clear h369
                            have h371 := h370.learnE (d := 68) rfl (hp367 6 68 _ rfl rfl rfl)
                            clear h370
                            have h372 := h371.learnE (d := 70) rfl (hp367 8 70 _ rfl rfl rfl)
                            clear h371
                            refine step_idx tabOk h372 1 rfl rfl rfl rfl rfl hx212 tb22 rfl tb38 rfl fun p373 a374 h375 => ?_
                            clear h372
                            exact wpl_end (hk368 _ _ _ _ (h375.sel [1, 3, 4, 5] [1, 2] [1, 5]) (h375.getA rfl (h375.d 0 rfl)) rfl)
                          · skip
                            intro β376 a377 w378 dX379 Ox380 Q381 h382 hq383 hp384 hk385
                            have h386 := h382.learnE (d := 64) rfl (hp384 2 64 _ rfl rfl rfl)
                            clear h382
                            have h387 := h386.reb (t := 64) rfl hb210
                            clear h386
                            have h388 := h387.learn (d := 71) rfl
                            clear h387
                            have f389 := hp384 9 71 _ rfl rfl rfl
                            generalize a377.tmps.getD 71 undef = v390 at h388 f389
                            have h391 := h388.addD (d := DF.at rApiPost x212 (v390)) f389
                            clear h388
                            refine step_field tabOk h391 0 rfl rfl rfl rfl tb38 rfl rfl rfl fun p392 a393 (h394 : Sb β376 _ _ (DF.at rStr x212.Account (p392) :: _) _ _ a393 w378) => ?_
                            clear h391
                            exact wpl_end (hk385 _ _ _ _ (h394.sel [1, 3, 4, 5] [2, 3] [1, 5]) (h394.getA rfl (h394.d 0 rfl)) rfl)
                          · skip
                            intro β395 a396 w397 dX398 Ox399 Q400 h401 hq402 hp403 hk404
                            have h405 := h401.learnE (d := 64) rfl (hp403 2 64 _ rfl rfl rfl)
                            clear h401
                            have h406 := h405.reb (t := 64) rfl hb210
                            clear h405
                            have h407 := h406.learn (d := 72) rfl
                            clear h406
                            have f408 := hp403 10 72 _ rfl rfl rfl
                            generalize a396.tmps.getD 72 undef = v409 at h407 f408
                            have h410 := h407.addD (d := DF.at rStr x212.Account (v409)) f408
                            clear h407
                            refine step_load tabOk h410 0 rfl rfl rfl rfl tb9 rfl rfl fun v411 a413 hv412 h414 => ?_
                            clear h410
                            obtain rfl := isV_str.1 hv412
                            exact wpl_end (hk404 _ _ _ _ (h414.sel [1, 3, 4, 5] [2, 3] [1, 5]) (h414.getD rfl) rfl)
                          · skip
                            intro β415 a416 w417 dX418 Ox419 Q420 h421 hq422 hp423 hk424
                            have h425 := h421.learnE (d := 64) rfl (hp423 2 64 _ rfl rfl rfl)
                            clear h421
                            have h426 := h425.reb (t := 64) rfl hb210
                            clear h425
                            have h427 := h426.learnE (d := 66) rfl (hp423 4 66 _ rfl rfl rfl)
                            clear h426
                            have h428 := h427.learnE (d := 73) rfl (hp423 11 73 _ rfl rfl rfl)
                            clear h427
                            refine evalS_ok tabOk h428 1 [1, 3, 4, 5, 74] [1, 5] [(1, .o 1 0), (3, .v (.int .i64 i84)), (4, .v (.int .i64 i85)), (5, .o 5 0), (74, .v (.bool (Op.bytesLess x107.Account x212.Account || x107.Account == x212.Account)))] [(1, ⟨[.int .i64 x0.At, strV x0.Text, .slice A1 (List.length x0.Posts) c2], 24⟩), (5, ⟨[strV x107.Account, .int .i64 x107.Amount], 38⟩)] (by kernel_rfl) fun β429 a430 w431 h432 => ?_
                            exact wpl_end (hk424 _ _ _ _ (h432.sel [1, 3, 4, 5] [0, 1] [1, 5]) (h432.getD rfl) rfl)
                          · skip
                            intro β433 a434 w435 dX436 Ox437 Q438 h439 hq440 hp441 hk442
                            have h443 := h439.learnE (d := 64) rfl (hp441 2 64 _ rfl rfl rfl)
                            clear h439
                            have h444 := h443.reb (t := 64) rfl hb210
                            clear h443
                            have h445 := h444.learnE (d := 74) rfl (hp441 12 74 _ rfl rfl rfl)
                            clear h444
                            refine evalS_ok tabOk h445 1 [1, 3, 4, 5, 75] [1, 5] [(1, .o 1 0), (3, .v (.int .i64 i84)), (4, .v (.int .i64 i85)), (5, .o 5 0), (75, .v (.bool (Op.bytesLess x107.Account x212.Account || x107.Account == x212.Account)))] [(1, ⟨[.int .i64 x0.At, strV x0.Text, .slice A1 (List.length x0.Posts) c2], 24⟩), (5, ⟨[strV x107.Account, .int .i64 x107.Amount], 38⟩)] (by kernel_rfl) fun β446 a447 w448 h449 => ?_
                            exact wpl_end (hk442 _ _ _ _ (h449.sel [1, 3, 4, 5] [0, 1] [1, 5]) (h449.getD rfl) rfl)
                        · skip
                          intro β450 a451 w452 h453 ha454
                          have h455 := h453.learnE (d := 75) rfl (ha454 13 75 _ rfl rfl)
                          clear h453
                          have h456 := h455.unpin rfl
                          clear h455
                          obtain rfl := Option.some.inj hv213
                          have h457 : Sb β450 (cx 91 ok w) [(1, .o 1 0), (3, .v (.int .i64 i84)), (4, .v (.int .i64 i85)), (5, .o 5 0), (75, .v (.bool (Op.bytesLess x107.Account x212.Account || x107.Account == x212.Account)))] [DF.v (rSl rApiPost) x0.Posts (.slice A1 (List.length x0.Posts) c2)] [(1, ⟨[.int .i64 x0.At, strV x0.Text, .slice A1 (List.length x0.Posts) c2], 24⟩), (5, ⟨[strV x107.Account, .int .i64 x107.Amount], 38⟩)] [] a451 w452 := h456.sel [1, 3, 4, 5, 75] [0] [1, 5]
                          clear h456
                          exact wpl_end (then_n ⟨_, h457⟩)
                      · skip
                        have hv458 := ifF hb210 hv140
                        clear hv140
                        have h460 : Sb β128 (cx 91 ok w) [(1, .o 1 0), (3, .v (.int .i64 i84)), (4, .v (.int .i64 i85)), (5, .o 5 0)] [DF.v (rSl rApiPost) x0.Posts (.slice A1 (List.length x0.Posts) c2)] [(1, ⟨[.int .i64 x0.At, strV x0.Text, .slice A1 (List.length x0.Posts) c2], 24⟩), (5, ⟨[strV x107.Account, .int .i64 x107.Amount], 38⟩)] [] a126 w127 := h129.sel [1, 3, 4, 5] [0] [1, 5]
                        refine draw_rule h460 rfl (by kernel_rfl) 14 [62, 63, 64, 65, 66, 67, 68, 69, 70, 71, 72, 73, 74, 75] [FV.eq (.int .i64 i85), FV.eq (.bool (decide (i85 > 0))), FV.eq (.bool (decide (i85 > 0))), FV.any, FV.any, FV.any, FV.any, FV.any, FV.any, FV.any, FV.any, FV.any, FV.any, FV.eq (.bool false)] rfl rfl rfl (by kernel_rfl) (by kernel_rfl) (by kernel_rfl) (by kernel_rfl) (by kernel_rfl) ?_ ?_
                        · skip
                          refine ⟨⟨⟨⟨⟨⟨⟨⟨⟨⟨⟨⟨⟨⟨trivial, ?_⟩, ?_⟩, ?_⟩, ?_⟩, ?_⟩, ?_⟩, ?_⟩, ?_⟩, ?_⟩, ?_⟩, ?_⟩, ?_⟩, ?_⟩, ?_⟩
                          · skip
                            intro β461 a462 w463 dX464 Ox465 Q466 h467 hq468 hp469 hk470
                            refine evalS_ok tabOk h467 1 [1, 3, 4, 5, 62] [1, 5] [(1, .o 1 0), (3, .v (.int .i64 i84)), (4, .v (.int .i64 i85)), (5, .o 5 0), (62, .v (.int .i64 i85))] [(1, ⟨[.int .i64 x0.At, strV x0.Text, .slice A1 (List.length x0.Posts) c2], 24⟩), (5, ⟨[strV x107.Account, .int .i64 x107.Amount], 38⟩)] (by kernel_rfl) fun β471 a472 w473 h474 => ?_
                            exact wpl_end (hk470 _ _ _ _ (h474.sel [1, 3, 4, 5] [0, 1] [1, 5]) (h474.getD rfl) rfl)
                          · skip
                            intro β475 a476 w477 dX478 Ox479 Q480 h481 hq482 hp483 hk484
                            have h485 := h481.learnE (d := 62) rfl (hp483 0 62 _ rfl rfl rfl)
                            clear h481
                            refine evalS_ok tabOk h485 1 [1, 3, 4, 5, 63] [1, 5] [(1, .o 1 0), (3, .v (.int .i64 i84)), (4, .v (.int .i64 i85)), (5, .o 5 0), (63, .v (.bool (decide (i85 > 0))))] [(1, ⟨[.int .i64 x0.At, strV x0.Text, .slice A1 (List.length x0.Posts) c2], 24⟩), (5, ⟨[strV x107.Account, .int .i64 x107.Amount], 38⟩)] (by kernel_rfl) fun β486 a487 w488 h489 => ?_
                            exact wpl_end (hk484 _ _ _ _ (h489.sel [1, 3, 4, 5] [0, 1] [1, 5]) (h489.getD rfl) rfl)
                          · skip
                            intro β490 a491 w492 dX493 Ox494 Q495 h496 hq497 hp498 hk499
                            have h500 := h496.learnE (d := 63) rfl (hp498 1 63 _ rfl rfl rfl)
                            clear h496
                            refine evalS_ok tabOk h500 1 [1, 3, 4, 5, 64] [1, 5] [(1, .o 1 0), (3, .v (.int .i64 i84)), (4, .v (.int .i64 i85)), (5, .o 5 0), (64, .v (.bool (decide (i85 > 0))))] [(1, ⟨[.int .i64 x0.At, strV x0.Text, .slice A1 (List.length x0.Posts) c2], 24⟩), (5, ⟨[strV x107.Account, .int .i64 x107.Amount], 38⟩)] (by kernel_rfl) fun β501 a502 w503 h504 => ?_
                            exact wpl_end (hk499 _ _ _ _ (h504.sel [1, 3, 4, 5] [0, 1] [1, 5]) (h504.getD rfl) rfl)
                          · skip
                            intro β505 a506 w507 dX508 Ox509 Q510 h511 hq512 hp513 hk514
                            have h515 := h511.learnE (d := 64) rfl (hp513 2 64 _ rfl rfl rfl)
                            clear h511
                            have h516 := h515.reb (t := 64) rfl hb210
                            clear h515
                            refine evalS_ok tabOk h516 1 [1, 3, 4, 5] [1, 5] [(1, .o 1 0), (3, .v (.int .i64 i84)), (4, .v (.int .i64 i85)), (5, .o 5 0)] [(1, ⟨[.int .i64 x0.At, strV x0.Text, .slice A1 (List.length x0.Posts) c2], 24⟩), (5, ⟨[strV x107.Account, .int .i64 x107.Amount], 38⟩)] (by kernel_rfl) fun β517 a518 w519 h520 => ?_
                            exact wpl_end (hk514 _ _ _ _ (h520.sel [1, 3, 4, 5] [0, 1] [1, 5]) trivial rfl)
                          · skip
                            intro β521 a522 w523 dX524 Ox525 Q526 h527 hq528 hp529 hk530
                            have h531 := h527.learnE (d := 64) rfl (hp529 2 64 _ rfl rfl rfl)
                            clear h527
                            have h532 := h531.reb (t := 64) rfl hb210
                            clear h531
                            refine evalS_ok tabOk h532 1 [1, 3, 4, 5] [1, 5] [(1, .o 1 0), (3, .v (.int .i64 i84)), (4, .v (.int .i64 i85)), (5, .o 5 0)] [(1, ⟨[.int .i64 x0.At, strV x0.Text, .slice A1 (List.length x0.Posts) c2], 24⟩), (5, ⟨[strV x107.Account, .int .i64 x107.Amount], 38⟩)] (by kernel_rfl) fun β533 a534 w535 h536 => ?_
                            exact wpl_end (hk530 _ _ _ _ (h536.sel [1, 3, 4, 5] [0, 1] [1, 5]) trivial rfl)
                          · skip
                            intro β537 a538 w539 dX540 Ox541 Q542 h543 hq544 hp545 hk546
                            have h547 := h543.learnE (d := 64) rfl (hp545 2 64 _ rfl rfl rfl)
                            clear h543
                            have h548 := h547.reb (t := 64) rfl hb210
                            clear h547
                            refine evalS_ok tabOk h548 1 [1, 3, 4, 5] [1, 5] [(1, .o 1 0), (3, .v (.int .i64 i84)), (4, .v (.int .i64 i85)), (5, .o 5 0)] [(1, ⟨[.int .i64 x0.At, strV x0.Text, .slice A1 (List.length x0.Posts) c2], 24⟩), (5, ⟨[strV x107.Account, .int .i64 x107.Amount], 38⟩)] (by kernel_rfl) fun β549 a550 w551 h552 => ?_
                            exact wpl_end (hk546 _ _ _ _ (h552.sel [1, 3, 4, 5] [0, 1] [1, 5]) trivial rfl)
                          · skip
                            intro β553 a554 w555 dX556 Ox557 Q558 h559 hq560 hp561 hk562
                            have h563 := h559.learnE (d := 64) rfl (hp561 2 64 _ rfl rfl rfl)
                            clear h559
                            have h564 := h563.reb (t := 64) rfl hb210
                            clear h563
                            refine evalS_ok tabOk h564 1 [1, 3, 4, 5] [1, 5] [(1, .o 1 0), (3, .v (.int .i64 i84)), (4, .v (.int .i64 i85)), (5, .o 5 0)] [(1, ⟨[.int .i64 x0.At, strV x0.Text, .slice A1 (List.length x0.Posts) c2], 24⟩), (5, ⟨[strV x107.Account, .int .i64 x107.Amount], 38⟩)] (by kernel_rfl) fun β565 a566 w567 h568 => ?_
                            exact wpl_end (hk562 _ _ _ _ (h568.sel [1, 3, 4, 5] [0, 1] [1, 5]) trivial rfl)
                          · skip
                            intro β569 a570 w571 dX572 Ox573 Q574 h575 hq576 hp577 hk578
                            have h579 := h575.learnE (d := 64) rfl (hp577 2 64 _ rfl rfl rfl)
                            clear h575
                            have h580 := h579.reb (t := 64) rfl hb210
                            clear h579
                            refine evalS_ok tabOk h580 1 [1, 3, 4, 5] [1, 5] [(1, .o 1 0), (3, .v (.int .i64 i84)), (4, .v (.int .i64 i85)), (5, .o 5 0)] [(1, ⟨[.int .i64 x0.At, strV x0.Text, .slice A1 (List.length x0.Posts) c2], 24⟩), (5, ⟨[strV x107.Account, .int .i64 x107.Amount], 38⟩)] (by kernel_rfl) fun β581 a582 w583 h584 => ?_
                            exact wpl_end (hk578 _ _ _ _ (h584.sel [1, 3, 4, 5] [0, 1] [1, 5]) trivial rfl)
                          · skip
                            intro β585 a586 w587 dX588 Ox589 Q590 h591 hq592 hp593 hk594
                            have h595 := h591.learnE (d := 64) rfl (hp593 2 64 _ rfl rfl rfl)
                            clear h591
                            have h596 := h595.reb (t := 64) rfl hb210
                            clear h595
                            refine evalS_ok tabOk h596 1 [1, 3, 4, 5] [1, 5] [(1, .o 1 0), (3, .v (.int .i64 i84)), (4, .v (.int .i64 i85)), (5, .o 5 0)] [(1, ⟨[.int .i64 x0.At, strV x0.Text, .slice A1 (List.length x0.Posts) c2], 24⟩), (5, ⟨[strV x107.Account, .int .i64 x107.Amount], 38⟩)] (by kernel_rfl) fun β597 a598 w599 h600 => ?_
                            exact wpl_end (hk594 _ _ _ _ (h600.sel [1, 3, 4, 5] [0, 1] [1, 5]) trivial rfl)
                          · skip
                            intro β601 a602 w603 dX604 Ox605 Q606 h607 hq608 hp609 hk610
                            have h611 := h607.learnE (d := 64) rfl (hp609 2 64 _ rfl rfl rfl)
                            clear h607
                            have h612 := h611.reb (t := 64) rfl hb210
                            clear h611
                            refine evalS_ok tabOk h612 1 [1, 3, 4, 5] [1, 5] [(1, .o 1 0), (3, .v (.int .i64 i84)), (4, .v (.int .i64 i85)), (5, .o 5 0)] [(1, ⟨[.int .i64 x0.At, strV x0.Text, .slice A1 (List.length x0.Posts) c2], 24⟩), (5, ⟨[strV x107.Account, .int .i64 x107.Amount], 38⟩)] (by kernel_rfl) fun β613 a614 w615 h616 => ?_
                            exact wpl_end (hk610 _ _ _ _ (h616.sel [1, 3, 4, 5] [0, 1] [1, 5]) trivial rfl)
                          · skip
                            intro β617 a618 w619 dX620 Ox621 Q622 h623 hq624 hp625 hk626
                            have h627 := h623.learnE (d := 64) rfl (hp625 2 64 _ rfl rfl rfl)
                            clear h623
                            have h628 := h627.reb (t := 64) rfl hb210
                            clear h627
                            refine evalS_ok tabOk h628 1 [1, 3, 4, 5] [1, 5] [(1, .o 1 0), (3, .v (.int .i64 i84)), (4, .v (.int .i64 i85)), (5, .o 5 0)] [(1, ⟨[.int .i64 x0.At, strV x0.Text, .slice A1 (List.length x0.Posts) c2], 24⟩), (5, ⟨[strV x107.Account, .int .i64 x107.Amount], 38⟩)] (by kernel_rfl) fun β629 a630 w631 h632 => ?_
                            exact wpl_end (hk626 _ _ _ _ (h632.sel [1, 3, 4, 5] [0, 1] [1, 5]) trivial rfl)
                          · skip
                            intro β633 a634 w635 dX636 Ox637 Q638 h639 hq640 hp641 hk642
                            have h643 := h639.learnE (d := 64) rfl (hp641 2 64 _ rfl rfl rfl)
                            clear h639
                            have h644 := h643.reb (t := 64) rfl hb210
                            clear h643
                            refine evalS_ok tabOk h644 1 [1, 3, 4, 5] [1, 5] [(1, .o 1 0), (3, .v (.int .i64 i84)), (4, .v (.int .i64 i85)), (5, .o 5 0)] [(1, ⟨[.int .i64 x0.At, strV x0.Text, .slice A1 (List.length x0.Posts) c2], 24⟩), (5, ⟨[strV x107.Account, .int .i64 x107.Amount], 38⟩)] (by kernel_rfl) fun β645 a646 w647 h648 => ?_
                            exact wpl_end (hk642 _ _ _ _ (h648.sel [1, 3, 4, 5] [0, 1] [1, 5]) trivial rfl)
                          · skip
                            intro β649 a650 w651 dX652 Ox653 Q654 h655 hq656 hp657 hk658
                            have h659 := h655.learnE (d := 64) rfl (hp657 2 64 _ rfl rfl rfl)
                            clear h655
                            have h660 := h659.reb (t := 64) rfl hb210
                            clear h659
                            refine evalS_ok tabOk h660 1 [1, 3, 4, 5] [1, 5] [(1, .o 1 0), (3, .v (.int .i64 i84)), (4, .v (.int .i64 i85)), (5, .o 5 0)] [(1, ⟨[.int .i64 x0.At, strV x0.Text, .slice A1 (List.length x0.Posts) c2], 24⟩), (5, ⟨[strV x107.Account, .int .i64 x107.Amount], 38⟩)] (by kernel_rfl) fun β661 a662 w663 h664 => ?_
                            exact wpl_end (hk658 _ _ _ _ (h664.sel [1, 3, 4, 5] [0, 1] [1, 5]) trivial rfl)
                          · skip
                            intro β665 a666 w667 dX668 Ox669 Q670 h671 hq672 hp673 hk674
                            have h675 := h671.learnE (d := 64) rfl (hp673 2 64 _ rfl rfl rfl)
                            clear h671
                            have h676 := h675.reb (t := 64) rfl hb210
                            clear h675
                            refine evalS_ok tabOk h676 1 [1, 3, 4, 5, 75] [1, 5] [(1, .o 1 0), (3, .v (.int .i64 i84)), (4, .v (.int .i64 i85)), (5, .o 5 0), (75, .v (.bool false))] [(1, ⟨[.int .i64 x0.At, strV x0.Text, .slice A1 (List.length x0.Posts) c2], 24⟩), (5, ⟨[strV x107.Account, .int .i64 x107.Amount], 38⟩)] (by kernel_rfl) fun β677 a678 w679 h680 => ?_
                            exact wpl_end (hk674 _ _ _ _ (h680.sel [1, 3, 4, 5] [0, 1] [1, 5]) (h680.getD rfl) rfl)
                        · skip
                          intro β681 a682 w683 h684 ha685
                          have h686 := h684.learnE (d := 75) rfl (ha685 13 75 _ rfl rfl)
                          clear h684
                          have h687 := h686.unpin rfl
                          clear h686
                          obtain rfl := Option.some.inj hv458
                          have h688 : Sb β681 (cx 91 ok w) [(1, .o 1 0), (3, .v (.int .i64 i84)), (4, .v (.int .i64 i85)), (5, .o 5 0), (75, .v (.bool false))] [DF.v (rSl rApiPost) x0.Posts (.slice A1 (List.length x0.Posts) c2)] [(1, ⟨[.int .i64 x0.At, strV x0.Text, .slice A1 (List.length x0.Posts) c2], 24⟩), (5, ⟨[strV x107.Account, .int .i64 x107.Amount], 38⟩)] [] a682 w683 := h687.sel [1, 3, 4, 5, 75] [0] [1, 5]
                          clear h687
                          exact wpl_end (then_n ⟨_, h688⟩)
                · skip
                  refine region_ok ?_
                  refine evalS_ok tabOk h120 5 [1, 3, 4, 5, 50] [1, 5] [(1, .o 1 0), (3, .v (.int .i64 i84)), (4, .v (.int .i64 i85)), (5, .o 5 0), (50, .v (.bool (decide ((List.length x107.Account : Int) < 1))))] [(1, ⟨[.int .i64 x0.At, strV x0.Text, .slice A1 (List.length x0.Posts) c2], 24⟩), (5, ⟨[strV x107.Account, .int .i64 x107.Amount], 38⟩)] (by kernel_rfl) fun β689 a690 w691 h692 => ?_
                  clear h120
                  refine bcases (b := (decide ((List.length x107.Account : Int) < 1))) (fun hb693 => ?_) (fun hb693 => ?_)
                  · skip
                    have hv694 := ifT hb693 hv124
                    clear hv124
                    have h695 := h692.reb (t := 50) rfl hb693
                    clear h692
                    refine evalS_ok tabOk h695 11 [1, 3, 4, 5, 61] [1, 5] [(1, .o 1 0), (3, .v (.int .i64 i84)), (4, .v (.int .i64 i85)), (5, .o 5 0), (61, .v (.bool true))] [(1, ⟨[.int .i64 x0.At, strV x0.Text, .slice A1 (List.length x0.Posts) c2], 24⟩), (5, ⟨[strV x107.Account, .int .i64 x107.Amount], 38⟩)] (by kernel_rfl) fun β696 a697 w698 h699 => ?_
                    clear h695
                    obtain rfl := Option.some.inj hv694
                    have h700 : Sb β696 (cx 91 ok w) [(1, .o 1 0), (3, .v (.int .i64 i84)), (4, .v (.int .i64 i85)), (5, .o 5 0), (61, .v (.bool true))] [DF.v (rSl rApiPost) x0.Posts (.slice A1 (List.length x0.Posts) c2)] [(1, ⟨[.int .i64 x0.At, strV x0.Text, .slice A1 (List.length x0.Posts) c2], 24⟩), (5, ⟨[strV x107.Account, .int .i64 x107.Amount], 38⟩)] [] a697 w698 := h699.sel [1, 3, 4, 5, 61] [0] [1, 5]
                    clear h699
                    exact wpl_end (then_n ⟨_, h700⟩)
                  · skip
                    have hv701 := ifF hb693 hv124
                    clear hv124
                    have h702 := h692.reb (t := 50) rfl hb693
                    clear h692
                    refine evalS_ok tabOk h702 6 [1, 3, 4, 5, 56] [1, 5] [(1, .o 1 0), (3, .v (.int .i64 i84)), (4, .v (.int .i64 i85)), (5, .o 5 0), (56, .v (.bool (decide ((List.length x107.Account : Int) > 200))))] [(1, ⟨[.int .i64 x0.At, strV x0.Text, .slice A1 (List.length x0.Posts) c2], 24⟩), (5, ⟨[strV x107.Account, .int .i64 x107.Amount], 38⟩)] (by kernel_rfl) fun β703 a704 w705 h706 => ?_
                    clear h702
                    refine bcases (b := (decide ((List.length x107.Account : Int) > 200))) (fun hb707 => ?_) (fun hb707 => ?_)
                    · skip
                      have hv708 := ifT hb707 hv701
                      clear hv701
                      have h709 := h706.reb (t := 56) rfl hb707
                      clear h706
                      refine evalS_ok tabOk h709 5 [1, 3, 4, 5, 61] [1, 5] [(1, .o 1 0), (3, .v (.int .i64 i84)), (4, .v (.int .i64 i85)), (5, .o 5 0), (61, .v (.bool true))] [(1, ⟨[.int .i64 x0.At, strV x0.Text, .slice A1 (List.length x0.Posts) c2], 24⟩), (5, ⟨[strV x107.Account, .int .i64 x107.Amount], 38⟩)] (by kernel_rfl) fun β710 a711 w712 h713 => ?_
                      clear h709
                      obtain rfl := Option.some.inj hv708
                      have h714 : Sb β710 (cx 91 ok w) [(1, .o 1 0), (3, .v (.int .i64 i84)), (4, .v (.int .i64 i85)), (5, .o 5 0), (61, .v (.bool true))] [DF.v (rSl rApiPost) x0.Posts (.slice A1 (List.length x0.Posts) c2)] [(1, ⟨[.int .i64 x0.At, strV x0.Text, .slice A1 (List.length x0.Posts) c2], 24⟩), (5, ⟨[strV x107.Account, .int .i64 x107.Amount], 38⟩)] [] a711 w712 := h713.sel [1, 3, 4, 5, 61] [0] [1, 5]
                      clear h713
                      exact wpl_end (then_n ⟨_, h714⟩)
                    · skip
                      have hv715 := ifF hb707 hv701
                      clear hv701
                      have h716 := h706.reb (t := 56) rfl hb707
                      clear h706
                      refine evalS_ok tabOk h716 2 [1, 3, 4, 5, 56, 58] [1, 5] [(1, .o 1 0), (3, .v (.int .i64 i84)), (4, .v (.int .i64 i85)), (5, .o 5 0), (56, .v (.bool false)), (58, .v (strV x107.Account))] [(1, ⟨[.int .i64 x0.At, strV x0.Text, .slice A1 (List.length x0.Posts) c2], 24⟩), (5, ⟨[strV x107.Account, .int .i64 x107.Amount], 38⟩)] (by kernel_rfl) fun β717 a718 w719 h720 => ?_
                      clear h716
                      obtain ⟨y721, hy721, hv722⟩ := bindE hv715
                      clear hv715
                      refine step_call h720 rfl rfl runs28 (vs := [(strV x107.Account), (.int .u8 33)]) (by kernel_rfl) (c_billingref47_Plain (x0 := x107.Account) (x1 := 33) h720.okLt N hy721) fun v723 a726 w727 hR724 hk725 h728 => ?_
                      clear h720
                      have hv729 := isV.weak hR724 hk725
                      obtain rfl := isV_bool.1 hv729
                      refine evalS_ok tabOk h728 2 [1, 3, 4, 5, 61] [1, 5] [(1, .o 1 0), (3, .v (.int .i64 i84)), (4, .v (.int .i64 i85)), (5, .o 5 0), (61, .v (.bool (!y721)))] [(1, ⟨[.int .i64 x0.At, strV x0.Text, .slice A1 (List.length x0.Posts) c2], 24⟩), (5, ⟨[strV x107.Account, .int .i64 x107.Amount], 38⟩)] (by kernel_rfl) fun β730 a731 w732 h733 => ?_
                      clear h728
                      obtain rfl := Option.some.inj hv722
                      have h734 : Sb β730 (cx 91 ok w) [(1, .o 1 0), (3, .v (.int .i64 i84)), (4, .v (.int .i64 i85)), (5, .o 5 0), (61, .v (.bool (!y721)))] [DF.v (rSl rApiPost) x0.Posts (.slice A1 (List.length x0.Posts) c2)] [(1, ⟨[.int .i64 x0.At, strV x0.Text, .slice A1 (List.length x0.Posts) c2], 24⟩), (5, ⟨[strV x107.Account, .int .i64 x107.Amount], 38⟩)] [] a731 w732 := h733.sel [1, 3, 4, 5, 61] [0] [1, 5]
                      clear h733
                      exact wpl_end (then_n ⟨_, h734⟩)
              · skip
                have hF735 := ifF hb98 hF92
                clear hF92
                refine wp_exit ?_
                refine hx93 0 _ _ ?_
                refine hx60 0 _ _ ?_
                refine hbb60 _ _ ?_
                obtain rfl := Option.some.inj hF735
                have h736 : Sb β94 (cx 91 ok w) [(3, .v (.int .i64 i84))] [] [] [] a95 w96 := (h97).sel [3] [] []
                exact j62 _ _ ⟨i84, ⟨_, h736⟩, hC60⟩
          · skip
            refine region_ok ?_
            refine evalS_ok tabOk h27 2 [1, 25] [1] [(1, .o 1 0), (25, .v (strV x0.Text))] [(1, ⟨[.int .i64 x0.At, strV x0.Text, .slice A1 (List.length x0.Posts) c2], 24⟩)] (by kernel_rfl) fun β738 a739 w740 h741 => ?_
            clear h27
            obtain ⟨y742, hy742, hv743⟩ := bindE hv38
            clear hv38
            refine step_call h741 rfl rfl runs28 (vs := [(strV x0.Text), (.int .u8 32)]) (by kernel_rfl) (c_billingref47_Plain (x0 := x0.Text) (x1 := 32) h741.okLt N hy742) fun v744 a747 w748 hR745 hk746 h749 => ?_
            clear h741
            have hv750 := isV.weak hR745 hk746
            obtain rfl := isV_bool.1 hv750
            refine evalS_ok tabOk h749 2 [1, 28] [1] [(1, .o 1 0), (28, .v (.bool (!y742)))] [(1, ⟨[.int .i64 x0.At, strV x0.Text, .slice A1 (List.length x0.Posts) c2], 24⟩)] (by kernel_rfl) fun β751 a752 w753 h754 => ?_
            clear h749
            refine bcases (b := (!y742)) (fun hb755 => ?_) (fun hb755 => ?_)
            · skip
              have hv756 := ifT hb755 hv743
              clear hv743
              have h757 := h754.reb (t := 28) rfl hb755
              clear h754
              refine evalS_ok tabOk h757 5 [1, 33] [1] [(1, .o 1 0), (33, .v (.bool true))] [(1, ⟨[.int .i64 x0.At, strV x0.Text, .slice A1 (List.length x0.Posts) c2], 24⟩)] (by kernel_rfl) fun β758 a759 w760 h761 => ?_
              clear h757
              obtain rfl := Option.some.inj hv756
              have h762 : Sb β758 (cx 91 ok w) [(1, .o 1 0), (33, .v (.bool true))] [DF.v (rSl rApiPost) x0.Posts (.slice A1 (List.length x0.Posts) c2)] [(1, ⟨[.int .i64 x0.At, strV x0.Text, .slice A1 (List.length x0.Posts) c2], 24⟩)] [] a759 w760 := h761.sel [1, 33] [0] [1]
              clear h761
              exact wpl_end (then_n ⟨_, h762⟩)
            · skip
              have hv763 := ifF hb755 hv743
              clear hv743
              have h764 := h754.reb (t := 28) rfl hb755
              clear h754
              refine evalS_ok tabOk h764 5 [1, 33] [1] [(1, .o 1 0), (33, .v (.bool (decide ((List.length x0.Posts : Int) < 2))))] [(1, ⟨[.int .i64 x0.At, strV x0.Text, .slice A1 (List.length x0.Posts) c2], 24⟩)] (by kernel_rfl) fun β765 a766 w767 h768 => ?_
              clear h764
              obtain rfl := Option.some.inj hv763
              have h769 : Sb β765 (cx 91 ok w) [(1, .o 1 0), (33, .v (.bool (decide ((List.length x0.Posts : Int) < 2))))] [DF.v (rSl rApiPost) x0.Posts (.slice A1 (List.length x0.Posts) c2)] [(1, ⟨[.int .i64 x0.At, strV x0.Text, .slice A1 (List.length x0.Posts) c2], 24⟩)] [] a766 w767 := h768.sel [1, 33] [0] [1]
              clear h768
              exact wpl_end (then_n ⟨_, h769⟩)
      · skip
        refine region_ok ?_
        refine evalS_ok tabOk h13 5 [1, 18] [1] [(1, .o 1 0), (18, .v (.bool (decide ((List.length x0.Text : Int) > 200))))] [(1, ⟨[.int .i64 x0.At, strV x0.Text, .slice A1 (List.length x0.Posts) c2], 24⟩)] (by kernel_rfl) fun β770 a771 w772 h773 => ?_
        clear h13
        refine bcases (b := (decide ((List.length x0.Text : Int) > 200))) (fun hb774 => ?_) (fun hb774 => ?_)
        · skip
          have h775 := h773.reb (t := 18) rfl hb774
          clear h773
          refine evalS_ok tabOk h775 5 [1, 23] [1] [(1, .o 1 0), (23, .v (.bool true))] [(1, ⟨[.int .i64 x0.At, strV x0.Text, .slice A1 (List.length x0.Posts) c2], 24⟩)] (by kernel_rfl) fun β776 a777 w778 h779 => ?_
          clear h775
          obtain rfl : g23 = true := by rw [hg23]; simp only [*, Bool.and_true, Bool.true_and, Bool.or_true, Bool.true_or, Bool.or_false, Bool.false_or, Bool.and_false, Bool.false_and, cond_true, cond_false]
          have h780 : Sb β776 (cx 91 ok w) [(1, .o 1 0), (23, .v (.bool true))] [DF.v (rSl rApiPost) x0.Posts (.slice A1 (List.length x0.Posts) c2)] [(1, ⟨[.int .i64 x0.At, strV x0.Text, .slice A1 (List.length x0.Posts) c2], 24⟩)] [] a777 w778 := h779.sel [1, 23] [0] [1]
          clear h779
          exact wpl_end (then_n ⟨_, h780⟩)
        · skip
          have h781 := h773.reb (t := 18) rfl hb774
          clear h773
          refine evalS_ok tabOk h781 5 [1, 23] [1] [(1, .o 1 0), (23, .v (.bool (decide ((List.length x0.Posts : Int) > 64))))] [(1, ⟨[.int .i64 x0.At, strV x0.Text, .slice A1 (List.length x0.Posts) c2], 24⟩)] (by kernel_rfl) fun β782 a783 w784 h785 => ?_
          clear h781
          obtain rfl : g23 = (decide ((List.length x0.Posts : Int) > 64)) := by rw [hg23]; simp only [*, Bool.and_true, Bool.true_and, Bool.or_true, Bool.true_or, Bool.or_false, Bool.false_or, Bool.and_false, Bool.false_and, cond_true, cond_false]
          have h786 : Sb β782 (cx 91 ok w) [(1, .o 1 0), (23, .v (.bool (decide ((List.length x0.Posts : Int) > 64))))] [DF.v (rSl rApiPost) x0.Posts (.slice A1 (List.length x0.Posts) c2)] [(1, ⟨[.int .i64 x0.At, strV x0.Text, .slice A1 (List.length x0.Posts) c2], 24⟩)] [] a783 w784 := h785.sel [1, 23] [0] [1]
          clear h785
          exact wpl_end (then_n ⟨_, h786⟩)
  · skip
    refine region_ok ?_
    refine evalS_ok tabOk h6 4 [1, 9] [1] [(1, .o 1 0), (9, .v (.bool (decide (x0.At < 0))))] [(1, ⟨[.int .i64 x0.At, strV x0.Text, .slice A1 (List.length x0.Posts) c2], 24⟩)] (by kernel_rfl) fun β787 a788 w789 h790 => ?_
    clear h6
    refine bcases (b := (decide (x0.At < 0))) (fun hb791 => ?_) (fun hb791 => ?_)
    · skip
      have h792 := h790.reb (t := 9) rfl hb791
      clear h790
      refine evalS_ok tabOk h792 4 [1, 13] [1] [(1, .o 1 0), (13, .v (.bool true))] [(1, ⟨[.int .i64 x0.At, strV x0.Text, .slice A1 (List.length x0.Posts) c2], 24⟩)] (by kernel_rfl) fun β793 a794 w795 h796 => ?_
      clear h792
      obtain rfl : g9 = true := by rw [hg9]; simp only [*, Bool.and_true, Bool.true_and, Bool.or_true, Bool.true_or, Bool.or_false, Bool.false_or, Bool.and_false, Bool.false_and, cond_true, cond_false]
      have h797 : Sb β793 (cx 91 ok w) [(1, .o 1 0), (13, .v (.bool true))] [DF.v (rSl rApiPost) x0.Posts (.slice A1 (List.length x0.Posts) c2)] [(1, ⟨[.int .i64 x0.At, strV x0.Text, .slice A1 (List.length x0.Posts) c2], 24⟩)] [] a794 w795 := h796.sel [1, 13] [0] [1]
      clear h796
      exact wpl_end (then_n ⟨_, h797⟩)
    · skip
      have h798 := h790.reb (t := 9) rfl hb791
      clear h790
      refine evalS_ok tabOk h798 4 [1, 13] [1] [(1, .o 1 0), (13, .v (.bool (decide (x0.At ≥ 12622780800))))] [(1, ⟨[.int .i64 x0.At, strV x0.Text, .slice A1 (List.length x0.Posts) c2], 24⟩)] (by kernel_rfl) fun β799 a800 w801 h802 => ?_
      clear h798
      obtain rfl : g9 = (decide (x0.At ≥ 12622780800)) := by rw [hg9]; simp only [*, Bool.and_true, Bool.true_and, Bool.or_true, Bool.true_or, Bool.or_false, Bool.false_or, Bool.and_false, Bool.false_and, cond_true, cond_false]
      have h803 : Sb β799 (cx 91 ok w) [(1, .o 1 0), (13, .v (.bool (decide (x0.At ≥ 12622780800))))] [DF.v (rSl rApiPost) x0.Posts (.slice A1 (List.length x0.Posts) c2)] [(1, ⟨[.int .i64 x0.At, strV x0.Text, .slice A1 (List.length x0.Posts) c2], 24⟩)] [] a800 w801 := h802.sel [1, 13] [0] [1]
      clear h802
      exact wpl_end (then_n ⟨_, h803⟩)

theorem c_billinglaw47_LedgerChecks {ok : Ok} {w : World} (hok : ∀ b o, ok b o → b < w.heap.size) (N : Nat) {x0 : ApiEntry} {A1 : Option Addr} {c2 : Nat} (d0 : isV (rSl rApiPost) ok w x0.Posts (.slice A1 (List.length x0.Posts) c2)) {r : Bool} (hF : billinglaw47_LedgerChecks N x0 = some r) :
    Calls Try.prog 3 ⟨[.agg ⟨[.int .i64 x0.At, strV x0.Text, .slice A1 (List.length x0.Posts) c2]⟩]⟩ w (Ret w (R1 rBool ok w r)) := by
  rw [billinglaw47_LedgerChecks] at hF
  refine enter_ok (n := 16) hok Try.func3 rfl rfl rfl (D := [DF.v (rSl rApiPost) x0.Posts (.slice A1 (List.length x0.Posts) c2)]) ⟨d0, trivial⟩ (fun a h => ?_)
  simp only [zipG, Nat.zero_add, Nat.reduceAdd] at h
  refine start_ctx fun Q hn hr => ?_
  refine seq_region tabOk h [1] [1] [(1, .o 1 0)] [(1, ⟨[.int .i64 x0.At, strV x0.Text, .slice A1 (List.length x0.Posts) c2], 24⟩)] (by kernel_rfl) fun β3 a4 w5 h6 => ?_
  clear h
  refine seq_ctx fun Q7 hn7 hr7 hx7 => ?_
  refine seq_list fun Q8 hq8 => ?_
  refine evalS_ok tabOk h6 1 [1, 3] [1] [(1, .o 1 0), (3, .v (.agg ⟨[.int .i64 x0.At, strV x0.Text, .slice A1 (List.length x0.Posts) c2]⟩))] [(1, ⟨[.int .i64 x0.At, strV x0.Text, .slice A1 (List.length x0.Posts) c2], 24⟩)] (by kernel_rfl) fun β9 a10 w11 h12 => ?_
  clear h6
  obtain ⟨y13, hy13, hF14⟩ := bindE hF
  clear hF
  refine step_call h12 rfl rfl runs7 (vs := [(.agg ⟨[.int .i64 x0.At, strV x0.Text, .slice A1 (List.length x0.Posts) c2]⟩)]) (by kernel_rfl) (c_billinglaw47_short (x0 := x0) h12.okLt N (h12.d 0 rfl) hy13) fun v15 a18 w19 hR16 hk17 h20 => ?_
  clear h12
  have hv21 := isV.weak hR16 hk17
  obtain rfl := isV_bool.1 hv21
  refine evalS_ok tabOk h20 1 [1, 5] [1] [(1, .o 1 0), (5, .v (.bool (!y13)))] [(1, ⟨[.int .i64 x0.At, strV x0.Text, .slice A1 (List.length x0.Posts) c2], 24⟩)] (by kernel_rfl) fun β22 a23 w24 h25 => ?_
  clear h20
  have h26 : Sb β22 (cx 16 ok w) [(1, .o 1 0), (5, .v (.bool (!y13)))] [DF.v (rSl rApiPost) x0.Posts (.slice A1 (List.length x0.Posts) c2)] [(1, ⟨[.int .i64 x0.At, strV x0.Text, .slice A1 (List.length x0.Posts) c2], 24⟩)] [] a23 w24 := h25.sel [1, 5] [0] [1]
  clear h25
  refine wpl_end (hq8 _ _ ?_)
  refine wp_if h26 rfl (fun hb27 => ?_) (fun hb27 => ?_)
  · skip
    have hF28 := ifT hb27 hF14
    clear hF14
    refine seq_list fun Q29 hq29 => ?_
    obtain ⟨y30, hy30, hF31⟩ := bindE hF28
    clear hF28
    refine step_call h26 rfl rfl runs8 (vs := []) (by kernel_rfl) (c_billinglaw47_awake h26.okLt N hy30) fun v32 a35 w36 hR33 hk34 h37 => ?_
    clear h26
    have hv38 := isV.weak hR33 hk34
    obtain rfl := isV_bool.1 hv38
    refine evalS_ok tabOk h37 1 [2] [] [(2, .v (.bool y30))] [] (by kernel_rfl) fun β39 a40 w41 h42 => ?_
    clear h37
    have h43 : Sb β39 (cx 16 ok w) [(2, .v (.bool y30))] [] [] [] a40 w41 := h42.sel [2] [] []
    clear h42
    refine wpl_end (hq29 _ _ ?_)
    refine wp_ret ?_
    refine hr7 _ _ ?_
    refine hr _ _ ?_
    obtain rfl := Option.some.inj hF31
    exact ret1_ok h43 rfl rfl (isV_bool.2 rfl)
  · skip
    have hF44 := ifF hb27 hF14
    clear hF14
    refine wp_skip ?_
    refine hn7 _ _ ?_
    obtain ⟨g46, hv47, hF48⟩ := bindE hF44
    clear hF44
    refine seq_join (J := fun a w' => ∃ β, Sb β (cx 16 ok w) [(2, .v (.bool g46))] [] [] [] a w') ?_ ?_
    · skip
      rintro a49 w50 ⟨β51, h52⟩
      refine wp_ret ?_
      refine hr _ _ ?_
      obtain rfl := Option.some.inj hF48
      exact ret1_ok h52 rfl rfl (isV_bool.2 rfl)
    · skip
      obtain ⟨y53, hy53, hv54⟩ := bindE hv47
      clear hv47
      obtain ⟨y57, hy57, hv58⟩ := bindE hv54
      clear hv54
      obtain ⟨y59, hy59, hv60⟩ := bindE hv58
      clear hv58
      refine bcases (b := (y57 == y59)) (fun hb61 => ?_) (fun hb61 => ?_)
      · skip
        have hv62 := ifT hb61 hv60
        clear hv60
        obtain ⟨y63, hy63, hv64⟩ := bindE hv62
        clear hv62
        have h66 : Sb β22 (cx 16 ok w) [(1, .o 1 0)] [DF.v (rSl rApiPost) x0.Posts (.slice A1 (List.length x0.Posts) c2)] [(1, ⟨[.int .i64 x0.At, strV x0.Text, .slice A1 (List.length x0.Posts) c2], 24⟩)] [] a23 w24 := h26.sel [1] [0] [1]
        refine draw_rule h66 rfl (by kernel_rfl) 9 [7, 8, 9, 10, 11, 12, 13, 14, 15] [FV.eq (.agg ⟨[.int .i64 x0.At, strV x0.Text, .slice A1 (List.length x0.Posts) c2]⟩), FV.rep rApiEntry y53, FV.eq (.int .i64 y57), FV.eq (.agg ⟨[.int .i64 x0.At, strV x0.Text, .slice A1 (List.length x0.Posts) c2]⟩), FV.eq (.int .i64 y59), FV.eq (.bool (y57 == y59)), FV.eq (.bool (y57 == y59)), FV.eq (.bool y63), FV.eq (.bool y63)] rfl rfl rfl (by kernel_rfl) (by kernel_rfl) (by kernel_rfl) (by kernel_rfl) (by kernel_rfl) ?_ ?_
        · skip
          refine ⟨⟨⟨⟨⟨⟨⟨⟨⟨trivial, ?_⟩, ?_⟩, ?_⟩, ?_⟩, ?_⟩, ?_⟩, ?_⟩, ?_⟩, ?_⟩
          · skip
            intro β67 a68 w69 dX70 Ox71 Q72 h73 hq74 hp75 hk76
            refine evalS_ok tabOk h73 1 [1, 7] [1] [(1, .o 1 0), (7, .v (.agg ⟨[.int .i64 x0.At, strV x0.Text, .slice A1 (List.length x0.Posts) c2]⟩))] [(1, ⟨[.int .i64 x0.At, strV x0.Text, .slice A1 (List.length x0.Posts) c2], 24⟩)] (by kernel_rfl) fun β77 a78 w79 h80 => ?_
            exact wpl_end (hk76 _ _ _ _ (h80.sel [1] [0, 1] [1]) (h80.getD rfl) rfl)
          · skip
            intro β81 a82 w83 dX84 Ox85 Q86 h87 hq88 hp89 hk90
            have h91 := h87.learnE (d := 7) rfl (hp89 0 7 _ rfl rfl rfl)
            clear h87
            refine step_call h91 rfl rfl runs10 (vs := [(.agg ⟨[.int .i64 x0.At, strV x0.Text, .slice A1 (List.length x0.Posts) c2]⟩)]) (by kernel_rfl) (c_billingref47_Clone (x0 := x0) h91.okLt N (h91.d 1 rfl) hy53) fun v92 a95 w96 hR93 hk94 h97 => ?_
            clear h91
            have hv98 := isV.weak hR93 hk94
            obtain ⟨v101, hs102, rfl⟩ := ex_ApiEntry hv98
            obtain ⟨A99, c100, rfl, hs103⟩ := slForm hs102
            have h104 := h97.addD (d := DF.v (rSl rApiPost) y53.Posts (.slice A99 (List.length y53.Posts) c100)) hs103
            clear h97
            exact wpl_end (hk90 _ _ _ _ (h104.sel [1] [1, 2] [1]) (h104.getR rfl (im_ApiEntry (x := y53) (h104.d 0 rfl))) rfl)
          · skip
            intro β105 a106 w107 dX108 Ox109 Q110 h111 hq112 hp113 hk114
            have h115 := h111.learn (d := 8) rfl
            clear h111
            have f116 := hp113 1 8 _ rfl rfl rfl
            generalize a106.tmps.getD 8 undef = v117 at h115 f116
            obtain ⟨v120, hs121, rfl⟩ := ex_ApiEntry f116
            obtain ⟨A118, c119, rfl, hs122⟩ := slForm hs121
            have h123 := h115.addD (d := DF.v (rSl rApiPost) y53.Posts (.slice A118 (List.length y53.Posts) c119)) hs122
            clear h115
            refine step_call h123 rfl rfl runs9 (vs := [(.agg ⟨[.int .i64 y53.At, strV y53.Text, .slice A118 (List.length y53.Posts) c119]⟩)]) (by kernel_rfl) (c_ledger_Check (x0 := y53) h123.okLt N (h123.d 0 rfl) hy57) fun v124 a127 w128 hR125 hk126 h129 => ?_
            clear h123
            have hv130 := isV.weak hR125 hk126
            obtain rfl := isV_int.1 hv130
            exact wpl_end (hk114 _ _ _ _ (h129.sel [1] [1, 2] [1]) (h129.getD rfl) rfl)
          · skip
            intro β131 a132 w133 dX134 Ox135 Q136 h137 hq138 hp139 hk140
            refine evalS_ok tabOk h137 1 [1, 10] [1] [(1, .o 1 0), (10, .v (.agg ⟨[.int .i64 x0.At, strV x0.Text, .slice A1 (List.length x0.Posts) c2]⟩))] [(1, ⟨[.int .i64 x0.At, strV x0.Text, .slice A1 (List.length x0.Posts) c2], 24⟩)] (by kernel_rfl) fun β141 a142 w143 h144 => ?_
            exact wpl_end (hk140 _ _ _ _ (h144.sel [1] [0, 1] [1]) (h144.getD rfl) rfl)
          · skip
            intro β145 a146 w147 dX148 Ox149 Q150 h151 hq152 hp153 hk154
            have h155 := h151.learnE (d := 10) rfl (hp153 3 10 _ rfl rfl rfl)
            clear h151
            refine step_call h155 rfl rfl runs11 (vs := [(.agg ⟨[.int .i64 x0.At, strV x0.Text, .slice A1 (List.length x0.Posts) c2]⟩)]) (by kernel_rfl) (c_billingref47_Check (x0 := x0) h155.okLt N (h155.d 1 rfl) hy59) fun v156 a159 w160 hR157 hk158 h161 => ?_
            clear h155
            have hv162 := isV.weak hR157 hk158
            obtain rfl := isV_int.1 hv162
            exact wpl_end (hk154 _ _ _ _ (h161.sel [1] [0, 1] [1]) (h161.getD rfl) rfl)
          · skip
            intro β163 a164 w165 dX166 Ox167 Q168 h169 hq170 hp171 hk172
            have h173 := h169.learnE (d := 9) rfl (hp171 2 9 _ rfl rfl rfl)
            clear h169
            have h174 := h173.learnE (d := 11) rfl (hp171 4 11 _ rfl rfl rfl)
            clear h173
            refine evalS_ok tabOk h174 1 [1, 12] [1] [(1, .o 1 0), (12, .v (.bool (y57 == y59)))] [(1, ⟨[.int .i64 x0.At, strV x0.Text, .slice A1 (List.length x0.Posts) c2], 24⟩)] (by kernel_rfl) fun β175 a176 w177 h178 => ?_
            exact wpl_end (hk172 _ _ _ _ (h178.sel [1] [0, 1] [1]) (h178.getD rfl) rfl)
          · skip
            intro β179 a180 w181 dX182 Ox183 Q184 h185 hq186 hp187 hk188
            have h189 := h185.learnE (d := 12) rfl (hp187 5 12 _ rfl rfl rfl)
            clear h185
            refine evalS_ok tabOk h189 1 [1, 13] [1] [(1, .o 1 0), (13, .v (.bool (y57 == y59)))] [(1, ⟨[.int .i64 x0.At, strV x0.Text, .slice A1 (List.length x0.Posts) c2], 24⟩)] (by kernel_rfl) fun β190 a191 w192 h193 => ?_
            exact wpl_end (hk188 _ _ _ _ (h193.sel [1] [0, 1] [1]) (h193.getD rfl) rfl)
          · skip
            intro β194 a195 w196 dX197 Ox198 Q199 h200 hq201 hp202 hk203
            have h204 := h200.learnE (d := 13) rfl (hp202 6 13 _ rfl rfl rfl)
            clear h200
            have h205 := h204.reb (t := 13) rfl hb61
            clear h204
            refine step_call h205 rfl rfl runs8 (vs := []) (by kernel_rfl) (c_billinglaw47_awake h205.okLt N hy63) fun v206 a209 w210 hR207 hk208 h211 => ?_
            clear h205
            have hv212 := isV.weak hR207 hk208
            obtain rfl := isV_bool.1 hv212
            exact wpl_end (hk203 _ _ _ _ (h211.sel [1] [0, 1] [1]) (h211.getD rfl) rfl)
          · skip
            intro β213 a214 w215 dX216 Ox217 Q218 h219 hq220 hp221 hk222
            have h223 := h219.learnE (d := 13) rfl (hp221 6 13 _ rfl rfl rfl)
            clear h219
            have h224 := h223.reb (t := 13) rfl hb61
            clear h223
            have h225 := h224.learnE (d := 14) rfl (hp221 7 14 _ rfl rfl rfl)
            clear h224
            refine evalS_ok tabOk h225 1 [1, 15] [1] [(1, .o 1 0), (15, .v (.bool y63))] [(1, ⟨[.int .i64 x0.At, strV x0.Text, .slice A1 (List.length x0.Posts) c2], 24⟩)] (by kernel_rfl) fun β226 a227 w228 h229 => ?_
            exact wpl_end (hk222 _ _ _ _ (h229.sel [1] [0, 1] [1]) (h229.getD rfl) rfl)
        · skip
          intro β230 a231 w232 h233 ha234
          have h235 := h233.learnE (d := 15) rfl (ha234 8 15 _ rfl rfl)
          clear h233
          have h236 := h235.unpin rfl
          clear h235
          refine evalS_ok tabOk h236 1 [2] [] [(2, .v (.bool y63))] [] (by kernel_rfl) fun β237 a238 w239 h240 => ?_
          clear h236
          obtain rfl := Option.some.inj hv64
          have h241 : Sb β237 (cx 16 ok w) [(2, .v (.bool y63))] [] [] [] a238 w239 := h240.sel [2] [] []
          clear h240
          exact wpl_end (then_n ⟨_, h241⟩)
      · skip
        have hv242 := ifF hb61 hv60
        clear hv60
        have h244 : Sb β22 (cx 16 ok w) [(1, .o 1 0)] [DF.v (rSl rApiPost) x0.Posts (.slice A1 (List.length x0.Posts) c2)] [(1, ⟨[.int .i64 x0.At, strV x0.Text, .slice A1 (List.length x0.Posts) c2], 24⟩)] [] a23 w24 := h26.sel [1] [0] [1]
        refine draw_rule h244 rfl (by kernel_rfl) 9 [7, 8, 9, 10, 11, 12, 13, 14, 15] [FV.eq (.agg ⟨[.int .i64 x0.At, strV x0.Text, .slice A1 (List.length x0.Posts) c2]⟩), FV.rep rApiEntry y53, FV.eq (.int .i64 y57), FV.eq (.agg ⟨[.int .i64 x0.At, strV x0.Text, .slice A1 (List.length x0.Posts) c2]⟩), FV.eq (.int .i64 y59), FV.eq (.bool (y57 == y59)), FV.eq (.bool (y57 == y59)), FV.any, FV.eq (.bool false)] rfl rfl rfl (by kernel_rfl) (by kernel_rfl) (by kernel_rfl) (by kernel_rfl) (by kernel_rfl) ?_ ?_
        · skip
          refine ⟨⟨⟨⟨⟨⟨⟨⟨⟨trivial, ?_⟩, ?_⟩, ?_⟩, ?_⟩, ?_⟩, ?_⟩, ?_⟩, ?_⟩, ?_⟩
          · skip
            intro β245 a246 w247 dX248 Ox249 Q250 h251 hq252 hp253 hk254
            refine evalS_ok tabOk h251 1 [1, 7] [1] [(1, .o 1 0), (7, .v (.agg ⟨[.int .i64 x0.At, strV x0.Text, .slice A1 (List.length x0.Posts) c2]⟩))] [(1, ⟨[.int .i64 x0.At, strV x0.Text, .slice A1 (List.length x0.Posts) c2], 24⟩)] (by kernel_rfl) fun β255 a256 w257 h258 => ?_
            exact wpl_end (hk254 _ _ _ _ (h258.sel [1] [0, 1] [1]) (h258.getD rfl) rfl)
          · skip
            intro β259 a260 w261 dX262 Ox263 Q264 h265 hq266 hp267 hk268
            have h269 := h265.learnE (d := 7) rfl (hp267 0 7 _ rfl rfl rfl)
            clear h265
            refine step_call h269 rfl rfl runs10 (vs := [(.agg ⟨[.int .i64 x0.At, strV x0.Text, .slice A1 (List.length x0.Posts) c2]⟩)]) (by kernel_rfl) (c_billingref47_Clone (x0 := x0) h269.okLt N (h269.d 1 rfl) hy53) fun v270 a273 w274 hR271 hk272 h275 => ?_
            clear h269
            have hv276 := isV.weak hR271 hk272
            obtain ⟨v279, hs280, rfl⟩ := ex_ApiEntry hv276
            obtain ⟨A277, c278, rfl, hs281⟩ := slForm hs280
            have h282 := h275.addD (d := DF.v (rSl rApiPost) y53.Posts (.slice A277 (List.length y53.Posts) c278)) hs281
            clear h275
            exact wpl_end (hk268 _ _ _ _ (h282.sel [1] [1, 2] [1]) (h282.getR rfl (im_ApiEntry (x := y53) (h282.d 0 rfl))) rfl)
          · skip
            intro β283 a284 w285 dX286 Ox287 Q288 h289 hq290 hp291 hk292
            have h293 := h289.learn (d := 8) rfl
            clear h289
            have f294 := hp291 1 8 _ rfl rfl rfl
            generalize a284.tmps.getD 8 undef = v295 at h293 f294
            obtain ⟨v298, hs299, rfl⟩ := ex_ApiEntry f294
            obtain ⟨A296, c297, rfl, hs300⟩ := slForm hs299
            have h301 := h293.addD (d := DF.v (rSl rApiPost) y53.Posts (.slice A296 (List.length y53.Posts) c297)) hs300
            clear h293
            refine step_call h301 rfl rfl runs9 (vs := [(.agg ⟨[.int .i64 y53.At, strV y53.Text, .slice A296 (List.length y53.Posts) c297]⟩)]) (by kernel_rfl) (c_ledger_Check (x0 := y53) h301.okLt N (h301.d 0 rfl) hy57) fun v302 a305 w306 hR303 hk304 h307 => ?_
            clear h301
            have hv308 := isV.weak hR303 hk304
            obtain rfl := isV_int.1 hv308
            exact wpl_end (hk292 _ _ _ _ (h307.sel [1] [1, 2] [1]) (h307.getD rfl) rfl)
          · skip
            intro β309 a310 w311 dX312 Ox313 Q314 h315 hq316 hp317 hk318
            refine evalS_ok tabOk h315 1 [1, 10] [1] [(1, .o 1 0), (10, .v (.agg ⟨[.int .i64 x0.At, strV x0.Text, .slice A1 (List.length x0.Posts) c2]⟩))] [(1, ⟨[.int .i64 x0.At, strV x0.Text, .slice A1 (List.length x0.Posts) c2], 24⟩)] (by kernel_rfl) fun β319 a320 w321 h322 => ?_
            exact wpl_end (hk318 _ _ _ _ (h322.sel [1] [0, 1] [1]) (h322.getD rfl) rfl)
          · skip
            intro β323 a324 w325 dX326 Ox327 Q328 h329 hq330 hp331 hk332
            have h333 := h329.learnE (d := 10) rfl (hp331 3 10 _ rfl rfl rfl)
            clear h329
            refine step_call h333 rfl rfl runs11 (vs := [(.agg ⟨[.int .i64 x0.At, strV x0.Text, .slice A1 (List.length x0.Posts) c2]⟩)]) (by kernel_rfl) (c_billingref47_Check (x0 := x0) h333.okLt N (h333.d 1 rfl) hy59) fun v334 a337 w338 hR335 hk336 h339 => ?_
            clear h333
            have hv340 := isV.weak hR335 hk336
            obtain rfl := isV_int.1 hv340
            exact wpl_end (hk332 _ _ _ _ (h339.sel [1] [0, 1] [1]) (h339.getD rfl) rfl)
          · skip
            intro β341 a342 w343 dX344 Ox345 Q346 h347 hq348 hp349 hk350
            have h351 := h347.learnE (d := 9) rfl (hp349 2 9 _ rfl rfl rfl)
            clear h347
            have h352 := h351.learnE (d := 11) rfl (hp349 4 11 _ rfl rfl rfl)
            clear h351
            refine evalS_ok tabOk h352 1 [1, 12] [1] [(1, .o 1 0), (12, .v (.bool (y57 == y59)))] [(1, ⟨[.int .i64 x0.At, strV x0.Text, .slice A1 (List.length x0.Posts) c2], 24⟩)] (by kernel_rfl) fun β353 a354 w355 h356 => ?_
            exact wpl_end (hk350 _ _ _ _ (h356.sel [1] [0, 1] [1]) (h356.getD rfl) rfl)
          · skip
            intro β357 a358 w359 dX360 Ox361 Q362 h363 hq364 hp365 hk366
            have h367 := h363.learnE (d := 12) rfl (hp365 5 12 _ rfl rfl rfl)
            clear h363
            refine evalS_ok tabOk h367 1 [1, 13] [1] [(1, .o 1 0), (13, .v (.bool (y57 == y59)))] [(1, ⟨[.int .i64 x0.At, strV x0.Text, .slice A1 (List.length x0.Posts) c2], 24⟩)] (by kernel_rfl) fun β368 a369 w370 h371 => ?_
            exact wpl_end (hk366 _ _ _ _ (h371.sel [1] [0, 1] [1]) (h371.getD rfl) rfl)
          · skip
            intro β372 a373 w374 dX375 Ox376 Q377 h378 hq379 hp380 hk381
            have h382 := h378.learnE (d := 13) rfl (hp380 6 13 _ rfl rfl rfl)
            clear h378
            have h383 := h382.reb (t := 13) rfl hb61
            clear h382
            refine evalS_ok tabOk h383 1 [1] [1] [(1, .o 1 0)] [(1, ⟨[.int .i64 x0.At, strV x0.Text, .slice A1 (List.length x0.Posts) c2], 24⟩)] (by kernel_rfl) fun β384 a385 w386 h387 => ?_
            exact wpl_end (hk381 _ _ _ _ (h387.sel [1] [0, 1] [1]) trivial rfl)
          · skip
            intro β388 a389 w390 dX391 Ox392 Q393 h394 hq395 hp396 hk397
            have h398 := h394.learnE (d := 13) rfl (hp396 6 13 _ rfl rfl rfl)
            clear h394
            have h399 := h398.reb (t := 13) rfl hb61
            clear h398
            refine evalS_ok tabOk h399 1 [1, 15] [1] [(1, .o 1 0), (15, .v (.bool false))] [(1, ⟨[.int .i64 x0.At, strV x0.Text, .slice A1 (List.length x0.Posts) c2], 24⟩)] (by kernel_rfl) fun β400 a401 w402 h403 => ?_
            exact wpl_end (hk397 _ _ _ _ (h403.sel [1] [0, 1] [1]) (h403.getD rfl) rfl)
        · skip
          intro β404 a405 w406 h407 ha408
          have h409 := h407.learnE (d := 15) rfl (ha408 8 15 _ rfl rfl)
          clear h407
          have h410 := h409.unpin rfl
          clear h409
          refine evalS_ok tabOk h410 1 [2] [] [(2, .v (.bool false))] [] (by kernel_rfl) fun β411 a412 w413 h414 => ?_
          clear h410
          obtain rfl := Option.some.inj hv242
          have h415 : Sb β411 (cx 16 ok w) [(2, .v (.bool false))] [] [] [] a412 w413 := h414.sel [2] [] []
          clear h414
          exact wpl_end (then_n ⟨_, h415⟩)

end Gd

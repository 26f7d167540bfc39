/- The plain law of LedgerAdds. -/
import Derived.Test.YteiofmonhoddfaaGLedgerShort
import Derived.Test.YteiofmonhoddfaaGLedgerAll
namespace Gd
open Go
set_option linter.unusedVariables false
set_option linter.unusedSimpArgs false

theorem same_entry {N : Nat} (hN : Big ≤ N) {e : ApiEntry} (hl : e.Posts.length ≤ maxLen) : billingref47_Same N e e = some true := by
  simp [billingref47_Same, same_posts hN hl]

theorem same_all {N : Nat} (hN : Big ≤ N) {l : List ApiEntry} (hl : l.length ≤ maxLen) (hp : ∀ e ∈ l, e.Posts.length ≤ maxLen) : billingref47_SameAll N l l = some true := by
  rw [billingref47_SameAll, each l hl (fun n (_ : Unit) i => billingref47_SameAll_l26 N l l n i) (fun _ _ => .inr ()) (fun _ _ => True) (n := N) (s := ()) ?_ ?_ (big_lt hN hl) trivial]
  · simp [billingref47_SameAll_j27]
  · intro n s _ hlt
    simp [billingref47_SameAll_l26]
  · intro n s i x xs hm hlt hi hw hd _ ih
    rw [billingref47_SameAll_l26]
    simp only [hlt, if_true, hi, Option.bind_some, hw, same_entry hN (hp x hm)]
    simpa using ih () trivial

theorem clone2 {N : Nat} {e : ApiEntry} (h : e.Posts.length ≤ 1000000) : ledger_clone N e = some e := by
  rw [ledger_clone, app_of (by simp; omega)]
  simp

theorem prog_add {N : Nat} (hN : Big ≤ N) {l : List ApiEntry} {e : ApiEntry} (hg : goodApiEntry e) (hl : l.length ≤ 100000) (hp : ∀ e ∈ l, e.Posts.length ≤ 1000000) (he : e.Posts.length ≤ 1000000) :
    ledger_Add N l e = some (if check47 e ≠ 0 then ([], check47 e) else if (l.length : Int) ≥ 4096 then ([], 5) else (l ++ [e], 0)) := by
  have hm : l.length ≤ maxLen := by rw [maxLen_val]; omega
  have hloop : ledger_Add_l62 N l N [] 0 = some l := by
    have := each l hm (fun n s i => ledger_Add_l62 N l n s i) (fun s xs => s ++ xs) (fun i s => s.length = i) (n := N) (s := []) ?_ ?_ (big_lt hN hm) rfl
    · simpa using this
    · intro n s _ hlt
      simp [ledger_Add_l62]
    · intro n s i x xs hm' hlt hi hw hd hI ih
      rw [ledger_Add_l62]
      have hil : i < l.length := by simpa using hlt
      have ha : app 48 s ([x] : List ApiEntry) = some (s ++ [x]) := app_of (by simp; omega)
      simp only [hlt, if_true, hi, Option.bind_some, hw, clone2 (N := N) (hp x hm'), ha]
      simpa using ih (s ++ [x]) (by simp [hI])
  rw [ledger_Add, prog_check hN hg]
  simp only [Option.bind_some, hloop, ledger_Add_j66, clone2 (N := N) he]
  by_cases h1 : check47 e = 0
  · by_cases h2 : (l.length : Int) ≥ 4096
    · simp [h1, h2]
    · have ha : app 48 l ([e] : List ApiEntry) = some (l ++ [e]) := app_of (by simp; omega)
      simp [h1, h2, ha]
  · simp [h1]

theorem ref_add {N : Nat} (hN : Big ≤ N) {l : List ApiEntry} {e : ApiEntry} (hg : goodApiEntry e) (hl : l.length ≤ 100000) (hp : ∀ e ∈ l, e.Posts.length ≤ 1000000) (he : e.Posts.length ≤ 1000000) :
    billingref47_Add N l e = some (if check47 e ≠ 0 then ([], check47 e) else if (l.length : Int) ≥ 4096 then ([], 5) else (l ++ [e], 0)) := by
  rw [billingref47_Add, ref_check hN hg]
  simp only [Option.bind_some, clone_all hN hl hp, clone_ok (N := N) he]
  by_cases h1 : check47 e = 0
  · by_cases h2 : (l.length : Int) ≥ 4096
    · simp [h1, h2]
    · have ha : app 48 l ([e] : List ApiEntry) = some (l ++ [e]) := app_of (by simp; omega)
      simp [h1, h2, ha]
  · simp [h1]

theorem law_LedgerAdds (l : List ApiEntry) (hl : goodL goodApiEntry l) (e : ApiEntry) (he : goodApiEntry e) : ∃ N, billinglaw47_LedgerAdds N l e = some true := by
  refine ⟨Big, ?_⟩
  have hB : Big ≤ Big := Nat.le_refl _
  simp only [billinglaw47_LedgerAdds, short_ok hB he.2.2.1, valid_all hB hl, awake47 hB, Option.bind_some]
  cases hs : shortB e with
  | false => simp
  | true =>
    have h1 : e.Posts.length ≤ 1000000 := by simp [shortB] at hs; omega
    cases hv : (!(decide ((l.length : Int) > 40)) && l.all fun e => check47 e == 0) with
    | false => simp
    | true =>
      simp only [Bool.and_eq_true, Bool.not_eq_true', decide_eq_false_iff_not, List.all_eq_true, beq_iff_eq] at hv
      have h2 : l.length ≤ 100000 := by omega
      have h3 : ∀ e ∈ l, e.Posts.length ≤ 1000000 := fun e he => Nat.le_trans (valid_posts (hv.2 e he)) (by omega)
      simp only [Bool.not_true, Bool.false_eq_true, if_false, Option.bind_some, clone_all hB h2 h3, clone_ok (N := Big) h1, prog_add hB he h2 h3 h1, ref_add hB he h2 h3 h1]
      have h4 : ∀ r : List ApiEntry × Int, (r = ([], check47 e) ∨ r = ([], 5) ∨ r = (l ++ [e], 0)) → billingref47_SameAll Big r.1 r.1 = some true := by
        intro r hr
        refine same_all hB ?_ ?_
        · rcases hr with rfl | rfl | rfl <;> simp [maxLen_val] <;> omega
        · rcases hr with rfl | rfl | rfl
          · simp
          · simp
          · intro x hx
            rw [maxLen_val]
            rcases List.mem_append.1 hx with hx | hx
            · have := h3 x hx; omega
            · simp at hx; subst hx; omega
      have h6 : (if check47 e ≠ 0 then ([], check47 e) else if (l.length : Int) ≥ 4096 then ([], 5) else (l ++ [e], 0)) = ([], check47 e) ∨
          (if check47 e ≠ 0 then ([], check47 e) else if (l.length : Int) ≥ 4096 then ([], 5) else (l ++ [e], 0)) = (([], 5) : List ApiEntry × Int) ∨
          (if check47 e ≠ 0 then ([], check47 e) else if (l.length : Int) ≥ 4096 then ([], 5) else (l ++ [e], 0)) = (l ++ [e], 0) := by
        by_cases q1 : check47 e ≠ 0
        · rw [if_pos q1]; exact .inl rfl
        · rw [if_neg q1]
          by_cases q2 : (l.length : Int) ≥ 4096
          · rw [if_pos q2]; exact .inr (.inl rfl)
          · rw [if_neg q2]; exact .inr (.inr rfl)
      have h5 := h4 _ h6
      clear h6 h4
      generalize (if check47 e ≠ 0 then (([] : List ApiEntry), check47 e) else if (l.length : Int) ≥ 4096 then ([], 5) else (l ++ [e], 0)) = r at h5 ⊢
      simp [h5, awake47 hB]
end Gd

/- The plain law of LedgerBalances. -/
import Derived.Test.YteiofmonhoddfaaGLedgerBal
namespace Gd
open Go
set_option linter.unusedVariables false
set_option linter.unusedSimpArgs false

theorem ref_balance {N : Nat} (hN : Big ≤ N) {l : List ApiEntry} (hl : l.length ≤ maxLen) (hp : ∀ e ∈ l, e.Posts.length ≤ maxLen) (x : Str) : billingref47_Balance N l x = some (IntKind.wrap .i64 (bal x l)) := by
  rw [billingref47_Balance, each l hl (fun n s i => billingref47_Balance_l16 N l x n s i) (fun s xs => IntKind.wrap .i64 (s + bal x xs)) (fun _ s => IntKind.wrap .i64 s = s) (n := N) (s := 0) ?_ ?_ (big_lt hN hl) (by decide)]
  · simp [billingref47_Balance_j18]
  · intro n s hs hlt
    simp [billingref47_Balance_l16, bal, hs]
  · intro n s i e xs hm hlt hi hw hd hs ih
    rw [billingref47_Balance_l16]
    have hpe := hp e hm
    have hin : billingref47_Balance_l50 N l x (i : Int) N s 0 = some (IntKind.wrap .i64 (s + bal1 x e.Posts)) := by
      refine each e.Posts hpe (fun n s j => billingref47_Balance_l50 N l x (i : Int) n s j) (fun s xs => IntKind.wrap .i64 (s + bal1 x xs)) (fun _ s => IntKind.wrap .i64 s = s) (n := N) (s := s) ?_ ?_ (big_lt hN hpe) hs
      · intro n s hs hlt
        simp [billingref47_Balance_l50, hi, bal1, hs]
      · intro n s j p ps hm2 hlt2 hj hw2 hd2 hs2 ih2
        rw [billingref47_Balance_l50]
        simp only [hi, hlt2, if_true, hj, Option.bind_some, hw2]
        cases hx : (p.Account == x) with
        | true =>
          simp only [if_true]
          have f1 := wrap_facts (s + p.Amount)
          rw [ih2 _ (wrap64 f1.2.1 f1.2.2)]
          congr 1
          refine wrap_eq ?_
          simp only [bal1, hx, if_true]
          omega
        | false =>
          simp only [Bool.false_eq_true, if_false]
          rw [ih2 _ hs2]
          simp [bal1, hx]
    simp only [hlt, if_true, hi, Option.bind_some, hw, hin, billingref47_Balance_j52]
    have f1 := wrap_facts (s + bal1 x e.Posts)
    rw [ih _ (wrap64 f1.2.1 f1.2.2)]
    congr 1
    refine wrap_eq ?_
    simp only [bal]
    omega

/-- Does a post find its place within the list? -/
def within (p : ApiPost) (l : List ApiPost) : Bool := l.any fun q => q.Account == p.Account || Op.bytesLess p.Account q.Account
theorem ins_not {p : ApiPost} : ∀ {l : List ApiPost}, within p l = false → ins p l = l ++ [p]
  | [], _ => rfl
  | q :: qs, h => by
    simp only [within, List.any_cons, Bool.or_eq_false_iff] at h
    have := ins_not (p := p) (l := qs) h.2
    simp [ins, h.1.1, h.1.2, this]

theorem put_ok {N : Nat} (hN : Big ≤ N) {l : List ApiPost} (hl : l.length ≤ 1000000) (p : ApiPost) : billingref47_Put N l p = some (ins p l) := by
  have hm : l.length ≤ maxLen := by rw [maxLen_val]; omega
  rw [billingref47_Put, each l hm (fun n (s : List ApiPost × Bool) i => billingref47_Put_l26 N l p n s.1 s.2 i)
    (fun s xs => if s.2 then (s.1 ++ xs, true) else if within p xs then (s.1 ++ ins p xs, true) else (s.1 ++ xs, false)) (fun i s => s.1.length ≤ i + (if s.2 then 1 else 0)) (n := N) (s := ([], false)) ?_ ?_ (big_lt hN hm) (by simp)]
  · cases hw : within p l with
    | true => simp [hw, billingref47_Put_j31]
    | false =>
      simp [hw, billingref47_Put_j31, app_of (b := 24) (xs := l) (ys := [p]) (by simp; omega), ins_not hw]
  · rintro n ⟨s, b⟩ _ hlt
    cases b <;> simp [billingref47_Put_l26, within]
  · rintro n ⟨s, b⟩ i q qs hm' hlt hi hw hd hI ih
    have hil : i < l.length := by simpa using hlt
    have hI : s.length ≤ i + (if b then 1 else 0) := hI
    have a1 : ∀ (s : List ApiPost) (z : ApiPost), s.length ≤ i + 2 → app 24 s ([z] : List ApiPost) = some (s ++ [z]) := fun s z h => app_of (by simp; omega)
    have ih : ∀ (t : List ApiPost) (b : Bool), t.length ≤ i + 1 + (if b then 1 else 0) → billingref47_Put_l26 N l p n t b ((i + 1 : Nat) : Int) =
        some (if b then (t ++ qs, true) else if within p qs then (t ++ ins p qs, true) else (t ++ qs, false)) := fun t b h => ih (t, b) h
    have hj : ∀ (s : List ApiPost) (b : Bool), s.length ≤ i + 1 → billingref47_Put_j367 N (billingref47_Put_l26 N l p n) l (i : Int) s b = billingref47_Put_l26 N l p n (s ++ [q]) b ((i + 1 : Nat) : Int) := by
      intro s b h
      simp only [billingref47_Put_j367, hi, hw, Option.bind_some, a1 s q (by omega)]
    simp only
    rw [billingref47_Put_l26]
    simp only [hlt, if_true, hi, Option.bind_some, hw]
    cases b with
    | true =>
      simp only [if_true] at hI
      simp only [Bool.not_true, Bool.false_eq_true, if_false, Option.bind_some, if_true]
      rw [hj s true (by omega), ih (s ++ [q]) true (by simp; omega)]
      simp
    | false =>
      simp only [Bool.false_eq_true, if_false] at hI
      simp only [Bool.not_false, if_true, Option.bind_some]
      cases hq : (q.Account == p.Account) with
      | true =>
        simp only [if_true, Option.bind_some, a1 s ⟨p.Account, IntKind.wrap .i64 (q.Amount + p.Amount)⟩ (by omega)]
        rw [ih (s ++ [(⟨p.Account, IntKind.wrap .i64 (q.Amount + p.Amount)⟩ : ApiPost)]) true (by simp; omega)]
        simp [within, hq, ins, Int.add_comm]
      | false =>
        simp only [Bool.false_eq_true, if_false, Bool.or_false]
        cases hlq : Op.bytesLess p.Account q.Account with
        | true =>
          have e1 : Op.bytesLess q.Account p.Account = false := less_asymm hlq
          simp only [e1, Bool.not_false, if_true, a1 s p (by omega), Option.bind_some]
          rw [hj (s ++ [p]) true (by simp; omega), ih (s ++ [p] ++ [q]) true (by simp; omega)]
          simp [within, hq, hlq, ins]
        | false =>
          have e1 : Op.bytesLess q.Account p.Account = true := less_or hlq hq
          simp only [e1, Bool.not_true, Bool.false_eq_true, if_false]
          rw [hj s false (by omega), ih (s ++ [q]) false (by simp; omega)]
          have e2 : within p (q :: qs) = within p qs := by simp [within, hq, hlq]
          rw [e2]
          cases hwi : within p qs <;> simp [ins, hq, hlq]

theorem ref_nonzero {N : Nat} (hN : Big ≤ N) {l : List ApiPost} (hl : l.length ≤ 1000000) : billingref47_Nonzero N l = some (nz l) := by
  have hm : l.length ≤ maxLen := by rw [maxLen_val]; omega
  rw [billingref47_Nonzero, each l hm (fun n s i => billingref47_Nonzero_l26 N l n s i) (fun s xs => s ++ nz xs) (fun i s => s.length ≤ i) (n := N) (s := []) ?_ ?_ (big_lt hN hm) (by simp)]
  · simp [billingref47_Nonzero_j30]
  · intro n s _ hlt
    simp [billingref47_Nonzero_l26, nz]
  · intro n s i x xs hm' hlt hi hw hd hI ih
    rw [billingref47_Nonzero_l26]
    have hil : i < l.length := by simpa using hlt
    have ha : app 24 s ([x] : List ApiPost) = some (s ++ [x]) := app_of (by simp; omega)
    simp only [hlt, if_true, hi, Option.bind_some, hw, ha]
    cases hx : (x.Amount != 0) with
    | true =>
      simp only [if_true]
      rw [ih (s ++ [x]) (by simp; omega)]
      simp [nz, hx]
    | false =>
      simp only [Bool.false_eq_true, if_false]
      rw [ih s (by omega)]
      simp [nz, hx]

theorem ref_trial {N : Nat} (hN : Big ≤ N) {l : List ApiEntry} (hl : l.length ≤ 100) (hp : ∀ e ∈ l, e.Posts.length ≤ 64) : billingref47_Trial N l = some (nz (trialAll [] l)) := by
  have hm : l.length ≤ maxLen := by rw [maxLen_val]; omega
  have hT := trialAll_ok l [] hp (by simp [Sorted])
  rw [billingref47_Trial, each l hm (fun n s i => billingref47_Trial_l27 N l n s i) (fun s xs => trialAll s xs) (fun i s => Sorted s ∧ s.length ≤ 64 * i) (n := N) (s := []) ?_ ?_ (big_lt hN hm) (by simp [Sorted])]
  · simp [billingref47_Trial_j31, ref_nonzero hN (Nat.le_trans hT.2 (by simp; omega))]
  · intro n s _ hlt
    simp [billingref47_Trial_l27, trialAll]
  · intro n s i e xs hm' hlt hi hw hd hI ih
    rw [billingref47_Trial_l27]
    have hil : i < l.length := by simpa using hlt
    have hpe := hp e hm'
    have hpm : e.Posts.length ≤ maxLen := by rw [maxLen_val]; omega
    have hin : billingref47_Trial_l84 N l (i : Int) N s 0 = some (insAll s e.Posts) := by
      refine each e.Posts hpm (fun n s j => billingref47_Trial_l84 N l (i : Int) n s j) (fun s xs => insAll s xs) (fun j s => Sorted s ∧ s.length ≤ 64 * i + j) (n := N) (s := s) ?_ ?_ (big_lt hN hpm) (by simpa using hI)
      · intro n s _ hlt
        simp [billingref47_Trial_l84, insAll, hi]
      · intro n s j p ps hm2 hlt2 hj hw2 hd2 hI2 ih2
        rw [billingref47_Trial_l84]
        have hjl : j < e.Posts.length := by simpa using hlt2
        simp only [hi, hlt2, if_true, hj, Option.bind_some, hw2, put_ok hN (l := s) (by omega) p]
        have := ins_len p s
        exact ih2 (ins p s) ⟨ins_sorted hI2.1, by omega⟩
    simp only [hlt, if_true, hi, Option.bind_some, hw, hin, billingref47_Trial_j88]
    have := insAll_ok e.Posts s hI.1
    exact ih _ ⟨this.1, by omega⟩

theorem law_LedgerBalances (l : List ApiEntry) (hl : goodL goodApiEntry l) (x : Str) (hx : goodS x) : ∃ N, billinglaw47_LedgerBalances N l x = some true := by
  refine ⟨Big, ?_⟩
  have hB : Big ≤ Big := Nat.le_refl _
  simp only [billinglaw47_LedgerBalances, valid_all hB hl, awake47 hB, Option.bind_some]
  cases hv : (!(decide ((l.length : Int) > 40)) && l.all fun e => check47 e == 0) with
  | false => simp
  | true =>
    simp only [Bool.and_eq_true, Bool.not_eq_true', decide_eq_false_iff_not, List.all_eq_true, beq_iff_eq] at hv
    have h2 : l.length ≤ 40 := by omega
    have h3 : ∀ e ∈ l, e.Posts.length ≤ 64 := fun e he => valid_posts (hv.2 e he)
    have h4 : ∀ e ∈ l, e.Posts.length ≤ 1000000 := fun e he => Nat.le_trans (h3 e he) (by omega)
    have h5 : ∀ e ∈ l, e.Posts.length ≤ maxLen := fun e he => by rw [maxLen_val]; have := h3 e he; omega
    have hm : l.length ≤ maxLen := by rw [maxLen_val]; omega
    have hT := trialAll_ok l [] h3 (by simp [Sorted])
    have hnz : (nz (trialAll [] l)).length ≤ maxLen := by
      have := List.length_filter_le (fun p : ApiPost => p.Amount != 0) (trialAll [] l)
      have h6 := hT.2
      simp only [List.length_nil] at h6
      rw [maxLen_val]; unfold nz; omega
    simp only [Bool.not_true, Bool.false_eq_true, if_false, Option.bind_some, clone_all hB (Nat.le_trans h2 (by omega)) h4, prog_balance hB hm h5, ref_balance hB hm h5, trial_ok hB (Nat.le_trans h2 (by omega)) h3, ref_trial hB (Nat.le_trans h2 (by omega)) h3, same_posts hB hnz]
    cases decide ((List.length x : Int) > 400) <;> simp
end Gd

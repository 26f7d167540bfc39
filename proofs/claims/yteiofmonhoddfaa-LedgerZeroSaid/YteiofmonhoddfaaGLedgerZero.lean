/- The plain law of LedgerZero. -/
import Derived.Test.YteiofmonhoddfaaGLedgerBal
namespace Gd
open Go
set_option linter.unusedVariables false
set_option linter.unusedSimpArgs false

def tot : List ApiPost → Int
  | [] => 0
  | p :: ps => p.Amount + tot ps
def totAll : List ApiEntry → Int
  | [] => 0
  | e :: es => tot e.Posts + totAll es

theorem ins_tot (p : ApiPost) (l : List ApiPost) : tot (ins p l) % 18446744073709551616 = (tot l + p.Amount) % 18446744073709551616 := by
  induction l with
  | nil => simp [ins, tot]
  | cons q qs ih =>
    simp only [ins]
    split
    · have := wrap_facts (p.Amount + q.Amount)
      simp only [tot]; omega
    split
    · simp only [tot]; omega
    · simp only [tot]; omega
theorem ins_bal (x : Str) (p : ApiPost) (l : List ApiPost) : bal1 x (ins p l) % 18446744073709551616 = (bal1 x l + (if p.Account == x then p.Amount else 0)) % 18446744073709551616 := by
  induction l with
  | nil => simp [ins, bal1]
  | cons q qs ih =>
    simp only [ins]
    split
    · rename_i he
      have he := beq_iff_eq.1 he
      have := wrap_facts (p.Amount + q.Amount)
      simp only [bal1, he]
      split <;> omega
    split
    · simp only [bal1]; omega
    · simp only [bal1]; omega
theorem insAll_tot : ∀ (ps s : List ApiPost), tot (insAll s ps) % 18446744073709551616 = (tot s + tot ps) % 18446744073709551616
  | [], s => by simp [insAll, tot]
  | p :: ps, s => by
    have h1 := insAll_tot ps (ins p s)
    have h2 := ins_tot p s
    have e : insAll s (p :: ps) = insAll (ins p s) ps := rfl
    rw [e]; simp only [tot]; omega
theorem insAll_bal (x : Str) : ∀ (ps s : List ApiPost), bal1 x (insAll s ps) % 18446744073709551616 = (bal1 x s + bal1 x ps) % 18446744073709551616
  | [], s => by simp [insAll, bal1]
  | p :: ps, s => by
    have h1 := insAll_bal x ps (ins p s)
    have h2 := ins_bal x p s
    have e : insAll s (p :: ps) = insAll (ins p s) ps := rfl
    rw [e]; simp only [bal1]; omega
theorem trialAll_tot : ∀ (es : List ApiEntry) (s : List ApiPost), tot (trialAll s es) % 18446744073709551616 = (tot s + totAll es) % 18446744073709551616
  | [], s => by simp [trialAll, totAll]
  | e :: es, s => by
    have h1 := trialAll_tot es (insAll s e.Posts)
    have h2 := insAll_tot e.Posts s
    have e' : trialAll s (e :: es) = trialAll (insAll s e.Posts) es := rfl
    rw [e']; simp only [totAll]; omega
theorem trialAll_bal (x : Str) : ∀ (es : List ApiEntry) (s : List ApiPost), bal1 x (trialAll s es) % 18446744073709551616 = (bal1 x s + bal x es) % 18446744073709551616
  | [], s => by simp [trialAll, bal]
  | e :: es, s => by
    have h1 := trialAll_bal x es (insAll s e.Posts)
    have h2 := insAll_bal x e.Posts s
    have e' : trialAll s (e :: es) = trialAll (insAll s e.Posts) es := rfl
    rw [e']; simp only [bal]; omega

def inR (p : ApiPost) : Prop := -9223372036854775808 ≤ p.Amount ∧ p.Amount < 9223372036854775808
theorem ins_range {p : ApiPost} {l : List ApiPost} (hp : inR p) (hl : ∀ q ∈ l, inR q) : ∀ q ∈ ins p l, inR q := by
  induction l with
  | nil => intro q hq; simp [ins] at hq; subst hq; exact hp
  | cons z zs ih =>
    intro q hq
    simp only [ins] at hq
    split at hq
    · rcases List.mem_cons.1 hq with rfl | hq
      · have := wrap_facts (p.Amount + z.Amount); exact ⟨this.2.1, this.2.2⟩
      · exact hl q (.tail _ hq)
    split at hq
    · rcases List.mem_cons.1 hq with rfl | hq
      · exact hp
      · exact hl q hq
    · rcases List.mem_cons.1 hq with rfl | hq
      · exact hl _ (.head _)
      · exact ih (fun q hq => hl q (.tail _ hq)) q hq
theorem insAll_range : ∀ (ps s : List ApiPost), (∀ q ∈ ps, inR q) → (∀ q ∈ s, inR q) → ∀ q ∈ insAll s ps, inR q
  | [], s, _, h => h
  | p :: ps, s, hp, h => insAll_range ps (ins p s) (fun q hq => hp q (.tail _ hq)) (ins_range (hp p (.head _)) h)
theorem trialAll_range : ∀ (es : List ApiEntry) (s : List ApiPost), (∀ e ∈ es, ∀ q ∈ e.Posts, inR q) → (∀ q ∈ s, inR q) → ∀ q ∈ trialAll s es, inR q
  | [], s, _, h => h
  | e :: es, s, hp, h => trialAll_range es (insAll s e.Posts) (fun q hq => hp q (.tail _ hq)) (insAll_range _ _ (hp e (.head _)) h)

theorem bal_less (x : Str) : ∀ l : List ApiPost, (∀ q ∈ l, Op.bytesLess x q.Account = true) → bal1 x l = 0
  | [], _ => rfl
  | q :: qs, h => by
    have h1 := less_ne (h q (.head _))
    rw [str_comm] at h1
    simp [bal1, h1, bal_less x qs fun z hz => h z (.tail _ hz)]
theorem bal_sorted : ∀ {l : List ApiPost}, Sorted l → ∀ q ∈ l, bal1 q.Account l = q.Amount
  | z :: zs, h, q, hq => by
    have h' := List.pairwise_cons.1 h
    rcases List.mem_cons.1 hq with rfl | hq
    · simp [bal1, bal_less q.Account zs h'.1]
    · have h1 := h'.1 q hq
      simp only [bal1]
      rw [less_ne h1, bal_sorted h'.2 q hq]
      simp
theorem nz_tot : ∀ l : List ApiPost, tot (nz l) = tot l
  | [] => rfl
  | q :: qs => by
    have ih := nz_tot qs
    unfold nz at ih ⊢
    simp only [List.filter_cons]
    cases h : (q.Amount != 0) with
    | true => simp [tot, ih]
    | false =>
      have : q.Amount = 0 := by simpa using h
      simp [tot, ih, this]

theorem sum64_tot : ∀ (l : List ApiPost) (s : Int), IntKind.wrap .i64 s = s → sum64 s l = IntKind.wrap .i64 (s + tot l)
  | [], s, h => by simp [sum64, tot, h]
  | p :: ps, s, h => by
    have f := wrap_facts (s + p.Amount)
    rw [sum64, sum64_tot ps _ (wrap64 f.2.1 f.2.2)]
    refine wrap_eq ?_
    simp only [tot]; omega

theorem chk_ne : ∀ (l : List ApiPost) (prev : Option Str), chk prev l ≠ some 0
  | [], _ => by simp [chk]
  | p :: ps, prev => by
    simp only [chk]
    split
    · simp
    split
    · simp
    split
    · simp
    · exact chk_ne ps _

theorem valid_zero {e : ApiEntry} (h : check47 e = 0) : tot e.Posts % 18446744073709551616 = 0 := by
  unfold check47 at h
  split at h
  · simp at h
  split at h
  · simp at h
  split at h
  · simp at h
  cases hc : chk none e.Posts with
  | some c => rw [hc] at h; simp only at h; subst h; exact absurd hc (chk_ne _ _)
  | none =>
    rw [hc] at h
    simp only at h
    split at h
    · simp at h
    · rename_i hs
      have hs : sum64 0 e.Posts = 0 := by simpa using hs
      rw [sum64_tot _ _ (by decide)] at hs
      have f := wrap_facts (0 + tot e.Posts)
      rw [hs] at f
      omega
theorem valid_totAll : ∀ es : List ApiEntry, (∀ e ∈ es, check47 e = 0) → totAll es % 18446744073709551616 = 0
  | [], _ => rfl
  | e :: es, h => by
    have h1 := valid_zero (h e (.head _))
    have h2 := valid_totAll es fun z hz => h z (.tail _ hz)
    simp only [totAll]; omega
theorem bal_append (x : Str) : ∀ a b : List ApiEntry, bal x (a ++ b) = bal x a + bal x b
  | [], b => by simp [bal]
  | e :: es, b => by simp only [List.cons_append, bal, bal_append x es b]; omega

theorem law_LedgerZero (a : List ApiEntry) (ha : goodL goodApiEntry a) (b : List ApiEntry) (hb : goodL goodApiEntry b) : ∃ N, billinglaw47_LedgerZero N a b = some true := by
  refine ⟨Big, ?_⟩
  have hB : Big ≤ Big := Nat.le_refl _
  simp only [billinglaw47_LedgerZero, valid_all hB ha, valid_all hB hb, awake47 hB, Option.bind_some]
  cases hva : (!(decide ((a.length : Int) > 40)) && a.all fun e => check47 e == 0) with
  | false => simp
  | true =>
    cases hvb : (!(decide ((b.length : Int) > 40)) && b.all fun e => check47 e == 0) with
    | false => simp
    | true =>
      simp only [Bool.and_eq_true, Bool.not_eq_true', decide_eq_false_iff_not, List.all_eq_true, beq_iff_eq] at hva hvb
      have la : a.length ≤ 40 := by omega
      have lb : b.length ≤ 40 := by omega
      have pa : ∀ e ∈ a, e.Posts.length ≤ 64 := fun e he => valid_posts (hva.2 e he)
      have pb : ∀ e ∈ b, e.Posts.length ≤ 64 := fun e he => valid_posts (hvb.2 e he)
      have pa2 : ∀ e ∈ a, e.Posts.length ≤ 1000000 := fun e he => Nat.le_trans (pa e he) (by omega)
      have pb2 : ∀ e ∈ b, e.Posts.length ≤ 1000000 := fun e he => Nat.le_trans (pb e he) (by omega)
      have pa3 : ∀ e ∈ a, e.Posts.length ≤ maxLen := fun e he => by rw [maxLen_val]; have := pa e he; omega
      have pb3 : ∀ e ∈ b, e.Posts.length ≤ maxLen := fun e he => by rw [maxLen_val]; have := pb e he; omega
      have pab : ∀ e ∈ a ++ b, e.Posts.length ≤ 64 := fun e he => (List.mem_append.1 he).elim (pa e) (pb e)
      have happ : app 48 a b = some (a ++ b) := app_of (by omega)
      have hT := trialAll_ok (a ++ b) [] pab (by simp [Sorted])
      have hlen : (nz (trialAll [] (a ++ b))).length ≤ 5120 := by
        have := List.length_filter_le (fun p : ApiPost => p.Amount != 0) (trialAll [] (a ++ b))
        have h6 := hT.2
        simp only [List.length_nil, List.length_append] at h6
        unfold nz; omega
      have hrange : ∀ q ∈ trialAll [] (a ++ b), inR q := by
        refine trialAll_range _ _ (fun e he q hq => ?_) (by simp)
        have hg : goodApiEntry e := (List.mem_append.1 he).elim (ha.2 e) (hb.2 e)
        have := (hg.2.2.2 q hq).2
        simp only [goodI, IntKind.min, IntKind.max, IntKind.signed, IntKind.bits] at this
        simp at this
        exact ⟨this.1, by omega⟩
      have hzero := valid_totAll (a ++ b) fun e he => (List.mem_append.1 he).elim (hva.2 e) (hvb.2 e)
      have htot := trialAll_tot (a ++ b) []
      have hbal := fun x => trialAll_bal x (a ++ b) []
      simp only [Bool.not_true, Bool.false_eq_true, if_false, Option.bind_some, clone_all hB (Nat.le_trans la (by omega)) pa2, clone_all hB (Nat.le_trans lb (by omega)) pb2, happ,
        trial_ok hB (l := a ++ b) (by simp; omega) pab]
      have hgt : ¬ ((List.length (nz (trialAll [] (a ++ b))) : Int) > 5120) := by omega
      have hmem : ∀ q ∈ nz (trialAll [] (a ++ b)), q ∈ trialAll [] (a ++ b) := fun q hq => (List.mem_filter.1 hq).1
      have hnt := nz_tot (trialAll [] (a ++ b))
      have hlm : (nz (trialAll [] (a ++ b))).length ≤ maxLen := by rw [maxLen_val]; omega
      have hloop : billinglaw47_LedgerZero_l125 Big a b (nz (trialAll [] (a ++ b))) Big 0 0 = some (.inr (IntKind.wrap .i64 (0 + tot (nz (trialAll [] (a ++ b)))))) := by
        refine each (nz (trialAll [] (a ++ b))) hlm (fun n s i => billinglaw47_LedgerZero_l125 Big a b (nz (trialAll [] (a ++ b))) n s i) (fun s xs => .inr (IntKind.wrap .i64 (s + tot xs))) (fun _ s => IntKind.wrap .i64 s = s) (n := Big) (s := 0) ?_ ?_ (big_lt hB hlm) (by decide)
        · intro n s hs hlt
          simp [billinglaw47_LedgerZero_l125, tot, hs]
        · intro n s i q qs hm hlt hi hw hd hs ih
          rw [billinglaw47_LedgerZero_l125]
          have la' : a.length ≤ maxLen := by rw [maxLen_val]; omega
          have lb' : b.length ≤ maxLen := by rw [maxLen_val]; omega
          have hq : IntKind.wrap .i64 (IntKind.wrap .i64 (bal q.Account a) + IntKind.wrap .i64 (bal q.Account b)) = q.Amount := by
            have h1 := bal_sorted hT.1 q (hmem q hm)
            have h2 := hbal q.Account
            have h3 := hrange q (hmem q hm)
            have f1 := wrap_facts (bal q.Account a)
            have f2 := wrap_facts (bal q.Account b)
            rw [h1, bal_append] at h2
            refine wrap_of ?_ h3.1 h3.2
            simp only [bal1] at h2
            omega
          simp only [hlt, if_true, hi, Option.bind_some, hw, prog_balance hB la' pa3, prog_balance hB lb' pb3, hq]
          have f1 := wrap_facts (s + q.Amount)
          simp only [bne_self_eq_false, Bool.false_eq_true, if_false]
          rw [ih _ (wrap64 f1.2.1 f1.2.2)]
          congr 2
          refine wrap_eq ?_
          simp only [tot]
          omega
      simp only [hgt, decide_false, Bool.false_eq_true, if_false, hloop, Option.bind_some, billinglaw47_LedgerZero_j127]
      have hz : IntKind.wrap .i64 (0 + tot (nz (trialAll [] (a ++ b)))) = 0 := by
        refine wrap_of ?_ (by decide) (by decide)
        rw [hnt]
        simp only [tot] at htot
        omega
      rw [Int.zero_add] at hz
      simp [hz, awake47 hB]
end Gd

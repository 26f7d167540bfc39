/- Balances and trial balances, as the program has them. -/
import Derived.Test.YteiofmonhoddfaaGLedgerAll
namespace Gd
open Go
set_option linter.unusedVariables false
set_option linter.unusedSimpArgs false

/-- The sum of an account's amounts. -/
def bal1 (x : Str) : List ApiPost → Int
  | [] => 0
  | p :: ps => (if p.Account == x then p.Amount else 0) + bal1 x ps
def bal (x : Str) : List ApiEntry → Int
  | [] => 0
  | e :: es => bal1 x e.Posts + bal x es

theorem bal_one {N : Nat} (hN : Big ≤ N) {l : List ApiPost} (hl : l.length ≤ maxLen) (x : Str) : api_Post_ N l (fun z => ledger_Balance_c1_c1 N z x) = some (IntKind.wrap .i64 (bal1 x l)) := by
  rw [api_Post_, each l hl (fun n s i => api_Post__l17 N l (fun z => ledger_Balance_c1_c1 N z x) n s i) (fun s xs => IntKind.wrap .i64 (s + bal1 x xs)) (fun _ s => IntKind.wrap .i64 s = s) (n := N) (s := 0) ?_ ?_ (big_lt hN hl) (by decide)]
  · simp [api_Post__j19]
  · intro n s hs hlt
    simp [api_Post__l17, bal1, hs]
  · intro n s i p xs hm hlt hi hw hd hs ih
    rw [api_Post__l17]
    have hc : ledger_Balance_c1_c1 N p x = some (if p.Account == x then p.Amount else 0) := by
      unfold ledger_Balance_c1_c1
      cases (p.Account == x) <;> simp
    simp only [hlt, if_true, hi, Option.bind_some, hw, hc]
    have f1 := wrap_facts (s + (if p.Account == x then p.Amount else 0))
    rw [ih _ (wrap64 f1.2.1 f1.2.2)]
    congr 1
    refine wrap_eq ?_
    simp only [bal1]
    omega

theorem prog_balance {N : Nat} (hN : Big ≤ N) {l : List ApiEntry} (hl : l.length ≤ maxLen) (hp : ∀ e ∈ l, e.Posts.length ≤ maxLen) (x : Str) : ledger_Balance N l x = some (IntKind.wrap .i64 (bal x l)) := by
  rw [ledger_Balance, api_Entry_, each l hl (fun n s i => api_Entry__l17 N l (fun z => ledger_Balance_c1 N z x) n s i) (fun s xs => IntKind.wrap .i64 (s + bal x xs)) (fun _ s => IntKind.wrap .i64 s = s) (n := N) (s := 0) ?_ ?_ (big_lt hN hl) (by decide)]
  · simp [api_Entry__j19]
  · intro n s hs hlt
    simp [api_Entry__l17, bal, hs]
  · intro n s i e xs hm hlt hi hw hd hs ih
    rw [api_Entry__l17]
    have hc : ledger_Balance_c1 N e x = some (IntKind.wrap .i64 (bal1 x e.Posts)) := by
      simp [ledger_Balance_c1, bal_one hN (hp e hm)]
    simp only [hlt, if_true, hi, Option.bind_some, hw, hc]
    have f0 := wrap_facts (bal1 x e.Posts)
    have f1 := wrap_facts (s + IntKind.wrap .i64 (bal1 x e.Posts))
    rw [ih _ (wrap64 f1.2.1 f1.2.2)]
    congr 1
    refine wrap_eq ?_
    simp only [bal]
    omega

/-! ## The trial balance -/

def lessP (a b : ApiPost) : Prop := Op.bytesLess a.Account b.Account = true
theorem less_trans {a b c : Str} (h1 : Op.bytesLess a b = true) (h2 : Op.bytesLess b c = true) : Op.bytesLess a c = true := by
  induction a generalizing b c with
  | nil => cases c <;> cases b <;> simp [Op.bytesLess] at *
  | cons x xs ih =>
    cases b with
    | nil => simp [Op.bytesLess] at h1
    | cons y ys =>
      cases c with
      | nil => simp [Op.bytesLess] at h2
      | cons z zs =>
        simp only [Op.bytesLess, Bool.or_eq_true, decide_eq_true_eq, Bool.and_eq_true, beq_iff_eq] at *
        rcases h1 with h1 | ⟨rfl, h1⟩
        · rcases h2 with h2 | ⟨rfl, h2⟩
          · left; exact UInt8.lt_trans h1 h2
          · left; exact h1
        · rcases h2 with h2 | ⟨rfl, h2⟩
          · left; exact h2
          · right; exact ⟨rfl, ih h1 h2⟩
theorem less_asymm {a b : Str} (h : Op.bytesLess a b = true) : Op.bytesLess b a = false := by
  cases h2 : Op.bytesLess b a with
  | false => rfl
  | true => have := less_trans h h2; rw [less_irrefl] at this; cases this
theorem less_ne {a b : Str} (h : Op.bytesLess a b = true) : (a == b) = false := by
  cases h2 : (a == b) with
  | false => rfl
  | true => have := beq_iff_eq.1 h2; subst this; rw [less_irrefl] at h; cases h
theorem less_or {a b : Str} (h : Op.bytesLess a b = false) (hn : (b == a) = false) : Op.bytesLess b a = true := by
  have := less_tri a b
  rw [h, hn] at this; simpa using this.symm

/-- A post put into its place. -/
def ins (p : ApiPost) : List ApiPost → List ApiPost
  | [] => [p]
  | q :: qs => if q.Account == p.Account then ⟨p.Account, IntKind.wrap .i64 (p.Amount + q.Amount)⟩ :: qs else if Op.bytesLess p.Account q.Account then p :: q :: qs else q :: ins p qs
def Sorted (l : List ApiPost) : Prop := l.Pairwise lessP

theorem ins_len (p : ApiPost) (l : List ApiPost) : (ins p l).length ≤ l.length + 1 := by
  induction l with
  | nil => simp [ins]
  | cons q qs ih =>
    simp only [ins]
    split
    · simp
    split
    · simp
    · simp; omega
theorem ins_mem {p : ApiPost} {l : List ApiPost} {z : ApiPost} (h : z ∈ ins p l) : z.Account = p.Account ∨ z ∈ l := by
  induction l with
  | nil => simp [ins] at h; subst h; exact .inl rfl
  | cons q qs ih =>
    simp only [ins] at h
    split at h
    · rcases List.mem_cons.1 h with rfl | h
      · exact .inl rfl
      · exact .inr (.tail _ h)
    split at h
    · rcases List.mem_cons.1 h with rfl | h
      · exact .inl rfl
      · exact .inr h
    · rcases List.mem_cons.1 h with rfl | h
      · exact .inr (.head _)
      · rcases ih h with h | h
        · exact .inl h
        · exact .inr (.tail _ h)
theorem ins_sorted {p : ApiPost} {l : List ApiPost} (h : Sorted l) : Sorted (ins p l) := by
  induction l with
  | nil => simp [ins, Sorted]
  | cons q qs ih =>
    have h' := List.pairwise_cons.1 h
    simp only [ins]
    split
    · rename_i he
      have := beq_iff_eq.1 he
      refine List.pairwise_cons.2 ⟨fun z hz => ?_, h'.2⟩
      have := h'.1 z hz
      unfold lessP at *
      simp only
      rw [← beq_iff_eq.1 he]; exact this
    · rename_i he
      split
      · rename_i hl
        refine List.pairwise_cons.2 ⟨fun z hz => ?_, h⟩
        rcases List.mem_cons.1 hz with rfl | hz
        · exact hl
        · exact less_trans hl (h'.1 z hz)
      · rename_i hl
        refine List.pairwise_cons.2 ⟨fun z hz => ?_, ih h'.2⟩
        rcases ins_mem hz with hz | hz
        · unfold lessP; rw [hz]
          exact less_or (by simpa using hl) (by simpa using he)
        · exact h'.1 z hz

theorem str_comm {a b : Str} : (a == b) = (b == a) := by
  cases h : (a == b) with
  | true => have := beq_iff_eq.1 h; subst this; simp
  | false =>
    cases h2 : (b == a) with
    | false => rfl
    | true => have := beq_iff_eq.1 h2; subst this; simp at h

/-- Where a post belongs. -/
theorem ins_at (p : ApiPost) : ∀ (l1 l2 : List ApiPost), (∀ q ∈ l1, Op.bytesLess q.Account p.Account = true) → (∀ q ∈ l2, Op.bytesLess q.Account p.Account = false) →
    ins p (l1 ++ l2) = l1 ++ (match l2 with
      | [] => [p]
      | q :: qs => if q.Account == p.Account then ⟨p.Account, IntKind.wrap .i64 (p.Amount + q.Amount)⟩ :: qs else p :: q :: qs)
  | [], [], _, _ => rfl
  | [], q :: qs, _, h => by
    simp only [List.nil_append, ins]
    cases he : (q.Account == p.Account) with
    | true => simp
    | false => simp [less_or (h q (.head _)) (by rw [← he, str_comm])]
  | q :: l1, l2, h1, h2 => by
    simp only [List.cons_append, ins]
    have hq := h1 q (.head _)
    rw [less_ne hq, less_asymm hq]
    simp only [Bool.false_eq_true, if_false]
    rw [ins_at p l1 l2 (fun z hz => h1 z (.tail _ hz)) h2]
theorem search {N : Nat} {l : List ApiPost} (hl : l.length ≤ 1000000) (hs : Sorted l) (p : ApiPost) : ∀ (n lo hi : Nat), lo ≤ hi → hi ≤ l.length → hi - lo < n →
    (∀ (j : Nat) q, l[j]? = some q → j < lo → Op.bytesLess q.Account p.Account = true) → (∀ (j : Nat) q, l[j]? = some q → hi ≤ j → Op.bytesLess q.Account p.Account = false) →
    ∃ i : Nat, ledger_place_l12 N l p n lo hi = some (i : Int) ∧ i ≤ l.length ∧ (∀ q ∈ l.take i, Op.bytesLess q.Account p.Account = true) ∧ (∀ q ∈ l.drop i, Op.bytesLess q.Account p.Account = false) := by
  intro n
  induction n with
  | zero => intro lo hi _ _ h; omega
  | succ n ih =>
    intro lo hi h1 h2 h3 hlo hhi
    rw [ledger_place_l12]
    by_cases hlt : lo < hi
    · have hmid : IntKind.wrap .i64 (Int.tdiv (IntKind.wrap .i64 ((lo : Int) + (hi : Int))) 2) = (((lo + hi) / 2 : Nat) : Int) := by
        rw [wrap64 (n := (lo : Int) + (hi : Int)) (by omega) (by omega)]
        have : Int.tdiv ((lo : Int) + (hi : Int)) 2 = (((lo + hi) / 2 : Nat) : Int) := by
          rw [Int.tdiv_eq_ediv_of_nonneg (by omega)]; omega
        rw [this, wrap64 (by omega) (by omega)]
      have hm : (lo + hi) / 2 < l.length := by omega
      obtain ⟨q, hq⟩ : ∃ q, l[(lo + hi) / 2]? = some q := ⟨_, List.getElem?_eq_getElem hm⟩
      have hd : decide ((lo : Int) < (hi : Int)) = true := by simpa using hlt
      simp only [hd, if_true, hmid, idx_nat hq, Option.bind_some]
      cases hb : Op.bytesLess q.Account p.Account with
      | true =>
        simp only [if_true]
        rw [wrap_succ (by rw [maxLen_val]; omega)]
        refine ih _ hi (by omega) h2 (by omega) (fun j z hz hj => ?_) hhi
        rcases Nat.lt_or_ge j ((lo + hi) / 2) with h | h
        · have hjl := (List.getElem?_eq_some_iff.1 hz)
          have hql := (List.getElem?_eq_some_iff.1 hq)
          have := List.pairwise_iff_getElem.1 hs j _ hjl.1 hql.1 h
          rw [hjl.2, hql.2] at this
          exact less_trans this hb
        · have : j = (lo + hi) / 2 := by omega
          subst this
          rw [hq] at hz; injection hz with hz; subst hz; exact hb
      | false =>
        simp only [Bool.false_eq_true, if_false]
        refine ih lo _ (by omega) (by omega) (by omega) hlo (fun j z hz hj => ?_)
        rcases Nat.lt_or_ge ((lo + hi) / 2) j with h | h
        · have hjl := (List.getElem?_eq_some_iff.1 hz)
          have hql := (List.getElem?_eq_some_iff.1 hq)
          have := List.pairwise_iff_getElem.1 hs _ j hql.1 hjl.1 h
          rw [hjl.2, hql.2] at this
          cases hz2 : Op.bytesLess z.Account p.Account with
          | false => rfl
          | true => rw [less_trans this hz2] at hb; cases hb
        · have : j = (lo + hi) / 2 := by omega
          subst this
          rw [hq] at hz; injection hz with hz; subst hz; exact hb
    · have : lo = hi := by omega
      subst this
      refine ⟨lo, by simp, h2, fun q hq => ?_, fun q hq => ?_⟩
      · obtain ⟨j, hj⟩ := List.getElem?_of_mem hq
        rw [List.getElem?_take] at hj
        split at hj
        · exact hlo j q hj (by assumption)
        · cases hj
      · obtain ⟨j, hj⟩ := List.getElem?_of_mem hq
        rw [List.getElem?_drop] at hj
        exact hhi _ q hj (by omega)

theorem place_ok {N : Nat} (hN : Big ≤ N) {l : List ApiPost} (hl : l.length ≤ 1000000) (hs : Sorted l) (p : ApiPost) : ledger_place N l p = some (ins p l) := by
  obtain ⟨i, h1, hi, h2, h3⟩ := search (N := N) hl hs p N 0 l.length (by omega) (by omega) (by unfold Big at hN; omega) (fun j q _ hj => absurd hj (by omega)) (fun j q hq hj => absurd (List.getElem?_eq_some_iff.1 hq).1 (by omega))
  have e := ins_at p _ _ h2 h3
  rw [List.take_append_drop] at e
  rw [ledger_place]
  have h1' : ledger_place_l12 N l p N 0 (List.length l : Int) = some (i : Int) := h1
  simp only [h1', Option.bind_some, ledger_place_j14]
  have s1 : slc l 0 (i : Int) = some (l.take i) := by
    have : (0 : Int) ≤ 0 ∧ (0 : Int) ≤ i ∧ (i : Int) ≤ (l.length : Int) := by omega
    simp [slc, hi]
  have s2 : slc l (i : Int) (List.length l : Int) = some (l.drop i) := by
    simp only [slc]
    rw [if_pos (by omega)]
    have : ((l.length : Int) - (i : Int)).toNat = (l.drop i).length := by simp
    rw [this, Int.toNat_natCast, List.take_length]
  have a1 : app 24 ([] : List ApiPost) (l.take i) = some (l.take i) := by rw [app_of (by simp; omega)]; simp
  simp only [s1, s2, a1, Option.bind_some]
  have hjoin : ∀ (qs : List ApiPost) (x : ApiPost), qs.length ≤ l.length → ledger_place_j81 N (l.take i) qs x.Account x.Amount = some (l.take i ++ x :: qs) := by
    intro qs x hq
    rw [ledger_place_j81, app_of (by simp; omega)]
    simp only [Option.bind_some]
    rw [app_of (by simp; omega)]
    simp
  rw [e]
  cases hd : l.drop i with
  | nil =>
    simpa using hjoin [] p (by simp)
  | cons q qs =>
    have hql : qs.length + 1 ≤ l.length := by
      have := congrArg List.length hd
      simp at this; omega
    have hgt : (List.length (q :: qs) : Int) > 0 := by simp
    have s3 : slc (q :: qs) 1 (List.length (q :: qs) : Int) = some qs := by
      simp only [slc]
      rw [if_pos (by simp; omega)]
      have : ((List.length (q :: qs) : Int) - 1).toNat = qs.length := by simp
      rw [this]; simp
    simp only [hgt, decide_true, if_true, idx_zero, Option.bind_some, s3]
    cases hq : (q.Account == p.Account) with
    | true => simpa using hjoin qs ⟨p.Account, IntKind.wrap .i64 (p.Amount + q.Amount)⟩ (by omega)
    | false => simpa using hjoin (q :: qs) p (by simp; omega)

def insAll (s : List ApiPost) (ps : List ApiPost) : List ApiPost := ps.foldl (fun s p => ins p s) s
def trialAll (s : List ApiPost) (es : List ApiEntry) : List ApiPost := es.foldl (fun s e => insAll s e.Posts) s
def nz (l : List ApiPost) : List ApiPost := l.filter fun p => p.Amount != 0
theorem insAll_ok : ∀ (ps s : List ApiPost), Sorted s → Sorted (insAll s ps) ∧ (insAll s ps).length ≤ s.length + ps.length
  | [], s, h => ⟨h, by simp [insAll]⟩
  | p :: ps, s, h => by
    have := insAll_ok ps (ins p s) (ins_sorted h)
    have h2 := ins_len p s
    exact ⟨this.1, Nat.le_trans this.2 (by simp; omega)⟩
theorem trialAll_ok : ∀ (es : List ApiEntry) (s : List ApiPost), (∀ e ∈ es, e.Posts.length ≤ 64) → Sorted s → Sorted (trialAll s es) ∧ (trialAll s es).length ≤ s.length + 64 * es.length
  | [], s, _, h => ⟨h, by simp [trialAll]⟩
  | e :: es, s, hp, h => by
    have h1 := insAll_ok e.Posts s h
    have := trialAll_ok es (insAll s e.Posts) (fun z hz => hp z (.tail _ hz)) h1.1
    have h2 := hp e (.head _)
    exact ⟨this.1, Nat.le_trans this.2 (by simp; omega)⟩

theorem nonzero_ok {N : Nat} (hN : Big ≤ N) {l : List ApiPost} (hl : l.length ≤ 1000000) : ledger_nonzero N l = some (nz l) := by
  have hm : l.length ≤ maxLen := by rw [maxLen_val]; omega
  rw [ledger_nonzero, each l hm (fun n s i => ledger_nonzero_l17 N l n s i) (fun s xs => s ++ nz xs) (fun i s => s.length ≤ i) (n := N) (s := []) ?_ ?_ (big_lt hN hm) (by simp)]
  · simp [ledger_nonzero_j21]
  · intro n s _ hlt
    simp [ledger_nonzero_l17, nz]
  · intro n s i x xs hm' hlt hi hw hd hI ih
    rw [ledger_nonzero_l17]
    have hil : i < l.length := by simpa using hlt
    have ha : app 24 s ([x] : List ApiPost) = some (s ++ [x]) := app_of (by simp; omega)
    simp only [hlt, if_true, hi, Option.bind_some, hw, ha]
    cases hx : (x.Amount != 0) with
    | true =>
      simp only [if_true]
      rw [ih (s ++ [x]) (by simp; omega)]
      simp [nz, hx]
    | false =>
      simp only [Bool.false_eq_true, if_false]
      rw [ih s (by omega)]
      simp [nz, hx]

theorem trial_ok {N : Nat} (hN : Big ≤ N) {l : List ApiEntry} (hl : l.length ≤ 100) (hp : ∀ e ∈ l, e.Posts.length ≤ 64) : ledger_Trial N l = some (nz (trialAll [] l)) := by
  have hm : l.length ≤ maxLen := by rw [maxLen_val]; omega
  have hT := trialAll_ok l [] hp (by simp [Sorted])
  rw [ledger_Trial, each l hm (fun n s i => ledger_Trial_l16 N l n s i) (fun s xs => trialAll s xs) (fun i s => Sorted s ∧ s.length ≤ 64 * i) (n := N) (s := []) ?_ ?_ (big_lt hN hm) (by simp [Sorted])]
  · simp [ledger_Trial_j20, nonzero_ok hN (Nat.le_trans hT.2 (by simp; omega))]
  · intro n s _ hlt
    simp [ledger_Trial_l16, trialAll]
  · intro n s i e xs hm' hlt hi hw hd hI ih
    rw [ledger_Trial_l16]
    have hil : i < l.length := by simpa using hlt
    have hpe := hp e hm'
    have hpm : e.Posts.length ≤ maxLen := by rw [maxLen_val]; omega
    have hin : ledger_Trial_l94 N e N s 0 = some (insAll s e.Posts) := by
      refine each e.Posts hpm (fun n s i => ledger_Trial_l94 N e n s i) (fun s xs => insAll s xs) (fun j s => Sorted s ∧ s.length ≤ 64 * i + j) (n := N) (s := s) ?_ ?_ (big_lt hN hpm) (by simpa using hI)
      · intro n s _ hlt
        simp [ledger_Trial_l94, insAll]
      · intro n s j p ps hm2 hlt2 hj hw2 hd2 hI2 ih2
        rw [ledger_Trial_l94]
        have hjl : j < e.Posts.length := by simpa using hlt2
        simp only [hlt2, if_true, hj, Option.bind_some, hw2, place_ok hN (l := s) (by omega) hI2.1 p]
        have := ins_len p s
        exact ih2 (ins p s) ⟨ins_sorted hI2.1, by omega⟩
    simp only [hlt, if_true, hi, Option.bind_some, hw, hin, ledger_Trial_j98]
    have := insAll_ok e.Posts s hI.1
    exact ih _ ⟨this.1, by omega⟩
end Gd

/- The ledger's plain laws. -/
import Derived.Test.YteiofmonhoddfaaGPure
import Derived.Test.YteiofmonhoddfaaGFns
import Derived.KernelRfl
import Derived.Test.YteiofmonhoddfaaGLaws
namespace Gd
open Go
set_option linter.unusedVariables false
set_option linter.unusedSimpArgs false

theorem awake47 {N : Nat} (h : Big ≤ N) : billinglaw47_awake N = some true := by
  obtain ⟨M, rfl⟩ : ∃ M, N = M + 64 := ⟨N - 64, by unfold Big at h; omega⟩
  kernel_rfl

theorem big_lt {N n : Nat} (h : Big ≤ N) (hn : n ≤ maxLen) : n < N := by
  rw [maxLen_val] at hn; unfold Big at h; omega

/-- All bytes from lo to 126. -/
def inB (lo : Int) (c : UInt8) : Bool := !(decide ((c.toNat : Int) < lo)) && !(decide ((c.toNat : Int) > 126))
def plainB (lo : Int) (s : Str) : Bool := s.all (inB lo)

theorem printed_ok {N : Nat} (hN : Big ≤ N) {x : Str} (hx : x.length ≤ maxLen) (lo : Int) : ledger_printed N x lo = some (plainB lo x) := by
  rw [ledger_printed, each x hx (fun n (_ : Unit) i => ledger_printed_l10 N x lo n i) (fun _ xs => if plainB lo xs then .inr () else .inl false) (fun _ _ => True) (n := N) (s := ()) ?_ ?_ (big_lt hN hx) trivial]
  · cases h : plainB lo x <;> simp [h, ledger_printed_j11]
  · intro n s _ hlt
    simp [ledger_printed_l10, plainB]
  · intro n s i c xs hm hlt hi hw hd _ ih
    have ih := ih () trivial
    have hs : sidx x (i : Int) = some (c.toNat : Int) := by simp [sidx, hi]
    rw [ledger_printed_l10]
    simp only [hlt, if_true, hs, Option.bind_some, hw]
    have e : plainB lo (c :: xs) = (inB lo c && plainB lo xs) := rfl
    rw [e]
    by_cases h1 : (c.toNat : Int) < lo
    · simp [h1, inB]
    · by_cases h2 : (c.toNat : Int) > 126
      · simp [h1, h2, inB]
      · simpa [h1, h2, inB] using ih

theorem plain_l10 : billingref47_Plain_l10 = ledger_printed_l10 := by
  funext N x lo n
  induction n with
  | zero => rfl
  | succ n ih => funext i; simp only [billingref47_Plain_l10, ledger_printed_l10, ih]
theorem plain_eq : billingref47_Plain = ledger_printed := by
  funext N x lo
  simp only [billingref47_Plain, ledger_printed, plain_l10]
  rfl

/-- An account's name is not one. -/
def badName (s : Str) : Bool := s == [] || decide ((s.length : Int) > 200) || !plainB 33 s
def badAmt (a : Int) : Bool := a == 0 || !(decide (a ≥ -1125899906842624) && decide (a ≤ 1125899906842624))
def behind (prev : Option Str) (s : Str) : Bool := match prev with
  | none => false
  | some q => !(Op.bytesLess q s)
def chk : Option Str → List ApiPost → Option Int
  | _, [] => none
  | prev, p :: ps => if badName p.Account then some 8 else if behind prev p.Account then some 9 else if badAmt p.Amount then some 6 else chk (some p.Account) ps
def sum64 : Int → List ApiPost → Int
  | s, [] => s
  | s, p :: ps => sum64 (IntKind.wrap .i64 (s + p.Amount)) ps
def check47 (e : ApiEntry) : Int :=
  if (decide (e.At < 0) || decide (e.At ≥ 12622780800)) then 15
  else if (decide ((e.Text.length : Int) > 200) || decide ((e.Posts.length : Int) > 64)) then 5
  else if (!plainB 32 e.Text || decide ((e.Posts.length : Int) < 2)) then 8
  else match chk none e.Posts with
    | some c => c
    | none => if (sum64 0 e.Posts != 0) then 21 else 0

/-- The order of texts. -/
theorem less_irrefl (a : Str) : Op.bytesLess a a = false := by
  induction a with
  | nil => rfl
  | cons x xs ih => simp [Op.bytesLess, ih]
theorem less_tri (a b : Str) : (!(Op.bytesLess a b)) = (Op.bytesLess b a || b == a) := by
  induction a generalizing b with
  | nil => cases b <;> simp [Op.bytesLess]
  | cons x xs ih =>
    cases b with
    | nil => simp [Op.bytesLess]
    | cons y ys =>
      have := ih ys
      simp only [Op.bytesLess]
      by_cases h : x = y
      · subst h
        have h2 : ¬ x < x := UInt8.lt_irrefl x
        have e : (x :: ys == x :: xs) = (ys == xs) := by simp
        simp [h2, this]
      · have hyx : ¬ y = x := fun e => h e.symm
        rcases Nat.lt_or_gt_of_ne (fun e => h (UInt8.toNat_inj.1 e)) with h1 | h1
        · have : x < y := h1
          have h3 : ¬ y < x := by show ¬ (y.toNat < x.toNat); omega
          simp [this, h, hyx, h3]
        · have : y < x := h1
          have h3 : ¬ x < y := by show ¬ (x.toNat < y.toNat); omega
          simp [this, h, hyx, h3]

def prevOf (l : List ApiPost) (i : Nat) (prev : Option Str) : Prop := (i = 0 ∧ prev = none) ∨ ∃ p, 0 < i ∧ l[i - 1]? = some p ∧ prev = some p.Account

theorem prev_ok {l : List ApiPost} (hl : l.length ≤ maxLen) {i : Nat} {prev : Option Str} {x : ApiPost} (hi : idx l (i : Int) = some x) (h : prevOf l i prev) :
    (i = 0 ∧ prev = none) ∨ ∃ p, 0 < i ∧ idx l (IntKind.wrap .i64 ((i : Int) - 1)) = some p ∧ prev = some p.Account := by
  rcases h with h | ⟨p, h0, h1, h2⟩
  · exact .inl h
  · refine .inr ⟨p, h0, ?_, h2⟩
    have hlt := (List.getElem?_eq_some_iff.1 h1).1
    rw [maxLen_val] at hl
    rw [wrap64 (by omega) (by omega)]
    have : ((i : Int) - 1) = ((i - 1 : Nat) : Int) := by omega
    rw [this]; exact idx_nat h1
theorem prev_next {l : List ApiPost} {i : Nat} {x : ApiPost} (hi : idx l (i : Int) = some x) : prevOf l (i + 1) (some x.Account) :=
  .inr ⟨x, by omega, by simpa [idx] using hi, rfl⟩

theorem prog_loop {N : Nat} (hN : Big ≤ N) {e : ApiEntry} (hl : e.Posts.length ≤ maxLen) (hp : ∀ p ∈ e.Posts, p.Account.length ≤ maxLen) :
    ledger_Check_l55 N e N 0 = some (match chk none e.Posts with | some c => .inl c | none => .inr ()) := by
  refine each e.Posts hl (fun n (_ : Option Str) i => ledger_Check_l55 N e n i) (fun prev xs => match chk prev xs with | some c => .inl c | none => .inr ()) (fun i prev => prevOf e.Posts i prev) (n := N) (s := none) ?_ ?_ (big_lt hN hl) (.inl ⟨rfl, rfl⟩)
  · intro n s _ hlt
    simp [ledger_Check_l55, chk]
  · intro n prev i x xs hm hlt hi hw hd hI ih
    have ih := ih _ (prev_next hi)
    have hpr := printed_ok hN (hp x hm) 33
    rw [ledger_Check_l55]
    simp only [hlt, if_true, hi, Option.bind_some, hw, hpr, amount_Valid]
    have e1 : (if (x.Account == ([] : Str)) = true then some true else if (decide ((List.length x.Account : Int) > 200)) = true then some true else some (!plainB 33 x.Account)) = some (badName x.Account) := by
      unfold badName
      cases h1 : x.Account with
      | nil => simp
      | cons c cs => cases h2 : decide ((List.length (c :: cs) : Int) > 200) <;> simp
    rw [e1]
    simp only [Option.bind_some]
    simp only [chk]
    cases hb : badName x.Account with
    | true => simp
    | false =>
      simp only [Bool.false_eq_true, if_false]
      have e2 : (if (decide ((i : Int) > 0)) = true then (idx e.Posts (IntKind.wrap .i64 ((i : Int) - 1))).bind fun x214 => some (!(Op.bytesLess x214.Account x.Account)) else some false) = some (behind prev x.Account) := by
        rcases prev_ok hl hi hI with ⟨rfl, rfl⟩ | ⟨p, h0, h1, rfl⟩
        · simp [behind]
        · simp [h0, h1, behind]
      rw [e2]
      simp only [Option.bind_some]
      cases hb2 : behind prev x.Account with
      | true => simp
      | false =>
        simp only [Bool.false_eq_true, if_false]
        have e3 : (if (x.Amount == 0) = true then some true else some (!((decide (x.Amount ≥ (-1125899906842624))) && (decide (x.Amount ≤ 1125899906842624))))) = some (badAmt x.Amount) := by
          unfold badAmt
          cases (x.Amount == 0) <;> simp
        rw [e3]
        simp only [Option.bind_some]
        cases hb3 : badAmt x.Amount with
        | true => simp
        | false => simpa using ih

theorem ref_loop {N : Nat} (hN : Big ≤ N) {e : ApiEntry} (hl : e.Posts.length ≤ maxLen) (hp : ∀ p ∈ e.Posts, p.Account.length ≤ maxLen) :
    billingref47_Check_l60 N e N 0 0 = some (match chk none e.Posts with | some c => .inl c | none => .inr (sum64 0 e.Posts)) := by
  refine each e.Posts hl (fun n (q : Option Str × Int) i => billingref47_Check_l60 N e n q.2 i) (fun q xs => match chk q.1 xs with | some c => .inl c | none => .inr (sum64 q.2 xs)) (fun i q => prevOf e.Posts i q.1) (n := N) (s := (none, 0)) ?_ ?_ (big_lt hN hl) (.inl ⟨rfl, rfl⟩)
  · intro n s _ hlt
    simp [billingref47_Check_l60, chk, sum64]
  · rintro n ⟨prev, s⟩ i x xs hm hlt hi hw hd hI ih
    have ih := ih (_, IntKind.wrap .i64 (s + x.Amount)) (prev_next hi)
    have hpr := printed_ok hN (hp x hm) 33
    rw [billingref47_Check_l60]
    simp only [hlt, if_true, hi, Option.bind_some, hw, plain_eq, hpr, billingref01_Valid]
    have e1 : (if (decide ((List.length x.Account : Int) < 1)) = true then some true else if (decide ((List.length x.Account : Int) > 200)) = true then some true else some (!plainB 33 x.Account)) = some (badName x.Account) := by
      unfold badName
      cases h1 : x.Account with
      | nil => simp
      | cons c cs =>
        have : decide ((List.length (c :: cs) : Int) < 1) = false := by simp; omega
        rw [this]
        cases h2 : decide ((List.length (c :: cs) : Int) > 200) <;> simp
    rw [e1]
    simp only [Option.bind_some]
    simp only [chk]
    cases hb : badName x.Account with
    | true => simp
    | false =>
      simp only [Bool.false_eq_true, if_false]
      have e2 : (if (decide ((i : Int) > 0)) = true then (idx e.Posts (IntKind.wrap .i64 ((i : Int) - 1))).bind fun x212 => some (Op.bytesLess x.Account x212.Account || x.Account == x212.Account) else some false) = some (behind prev x.Account) := by
        rcases prev_ok hl hi hI with ⟨rfl, h⟩ | ⟨p, h0, h1, h⟩
        · simp only at h; subst h; simp [behind]
        · simp only at h; subst h; simp [h0, h1, behind, less_tri]
      rw [e2]
      simp only [Option.bind_some]
      cases hb2 : behind prev x.Account with
      | true => simp
      | false =>
        simp only [Bool.false_eq_true, if_false]
        have e3 : (if (x.Amount == 0) = true then some true else some (!((decide (x.Amount ≥ (-1125899906842624))) && (decide (x.Amount ≤ 1125899906842624))))) = some (badAmt x.Amount) := by
          unfold badAmt
          cases (x.Amount == 0) <;> simp
        rw [e3]
        simp only [Option.bind_some]
        cases hb3 : badAmt x.Amount with
        | true => simp
        | false => simpa [sum64] using ih

theorem sum_loop {N : Nat} (hN : Big ≤ N) {l : List ApiPost} (hl : l.length ≤ maxLen) : api_Post_ N l (ledger_value N) = some (sum64 0 l) := by
  rw [api_Post_, each l hl (fun n s i => api_Post__l17 N l (ledger_value N) n s i) sum64 (fun _ _ => True) (n := N) (s := 0) ?_ ?_ (big_lt hN hl) trivial]
  · rfl
  · intro n s _ hlt
    simp [api_Post__l17, sum64]
  · intro n s i x xs hm hlt hi hw hd _ ih
    rw [api_Post__l17]
    simp only [hlt, if_true, hi, Option.bind_some, hw, ledger_value, sum64]
    exact ih _ trivial

theorem prog_check {N : Nat} (hN : Big ≤ N) {e : ApiEntry} (hg : goodApiEntry e) : ledger_Check N e = some (check47 e) := by
  obtain ⟨_, ht, hl, hp⟩ := hg
  have hp' : ∀ p ∈ e.Posts, p.Account.length ≤ maxLen := fun p h => (hp p h).1
  simp only [ledger_Check, check47, printed_ok hN ht, prog_loop hN hl hp', Option.bind_some]
  split
  · rfl
  split
  · rfl
  cases h1 : plainB 32 e.Text <;> simp
  split
  · rfl
  cases h2 : chk none e.Posts with
  | some c => rfl
  | none =>
    simp only [ledger_Check_j56, sum_loop hN hl, Option.bind_some]
    simp
    split <;> simp_all

theorem ref_check {N : Nat} (hN : Big ≤ N) {e : ApiEntry} (hg : goodApiEntry e) : billingref47_Check N e = some (check47 e) := by
  obtain ⟨_, ht, hl, hp⟩ := hg
  have hp' : ∀ p ∈ e.Posts, p.Account.length ≤ maxLen := fun p h => (hp p h).1
  simp only [billingref47_Check, check47, plain_eq, printed_ok hN ht, ref_loop hN hl hp', Option.bind_some]
  split
  · rfl
  split
  · rfl
  cases h1 : plainB 32 e.Text <;> simp
  split
  · rfl
  cases h2 : chk none e.Posts with
  | some c => rfl
  | none =>
    simp only [billingref47_Check_j62]
    simp
    split <;> simp_all

theorem clone_ok {N : Nat} {e : ApiEntry} (h : e.Posts.length ≤ 1000000) : billingref47_Clone N e = some e := by
  rw [billingref47_Clone, app_of (by simp; omega)]
  simp
end Gd

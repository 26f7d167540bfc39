/- The parts of an entry are few. -/
import Derived.Test.YteiofmonhoddfaaGLedger
namespace Gd
open Go
set_option linter.unusedVariables false
set_option linter.unusedSimpArgs false

/-- The parts of an entry are few. -/
def shortB (e : ApiEntry) : Bool := !(decide ((e.Text.length : Int) > 400) || decide ((e.Posts.length : Int) > 128)) && e.Posts.all fun p => !(decide ((p.Account.length : Int) > 400))

theorem short_ok {N : Nat} (hN : Big ≤ N) {e : ApiEntry} (hl : e.Posts.length ≤ maxLen) : billinglaw47_short N e = some (shortB e) := by
  rw [billinglaw47_short, each e.Posts hl (fun n (_ : Unit) i => billinglaw47_short_l26 N e n i) (fun _ xs => if xs.all (fun p => !(decide ((p.Account.length : Int) > 400))) then .inr () else .inl false) (fun _ _ => True) (n := N) (s := ()) ?_ ?_ (big_lt hN hl) trivial]
  · unfold shortB
    cases h : (decide ((e.Text.length : Int) > 400) || decide ((e.Posts.length : Int) > 128))
    · cases h2 : e.Posts.all fun p => !(decide ((p.Account.length : Int) > 400)) <;> simp [h2, billinglaw47_short_j27]
    · simp
  · intro n s _ hlt
    simp [billinglaw47_short_l26]
  · intro n s i x xs hm hlt hi hw hd _ ih
    have ih := ih () trivial
    rw [billinglaw47_short_l26]
    simp only [hlt, if_true, hi, Option.bind_some, hw, List.all_cons]
    by_cases h : (x.Account.length : Int) > 400
    · simp [h]
    · simp only [h, decide_false, Bool.false_eq_true, if_false, Bool.not_false, Bool.true_and]
      exact ih
end Gd

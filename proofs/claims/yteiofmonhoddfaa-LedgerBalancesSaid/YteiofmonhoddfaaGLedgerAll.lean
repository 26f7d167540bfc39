/- Lists of entries: valid ones, copies, sameness. -/
import Derived.Test.YteiofmonhoddfaaGLedger
namespace Gd
open Go
set_option linter.unusedVariables false
set_option linter.unusedSimpArgs false

theorem same_posts {N : Nat} (hN : Big ≤ N) {l : List ApiPost} (hl : l.length ≤ maxLen) : billingref47_SamePosts N l l = some true := by
  rw [billingref47_SamePosts, each l hl (fun n (_ : Unit) i => billingref47_SamePosts_l26 N l l n i) (fun _ _ => .inr ()) (fun _ _ => True) (n := N) (s := ()) ?_ ?_ (big_lt hN hl) trivial]
  · simp [billingref47_SamePosts_j27]
  · intro n s _ hlt
    simp [billingref47_SamePosts_l26]
  · intro n s i x xs hm hlt hi hw hd _ ih
    rw [billingref47_SamePosts_l26]
    simp only [hlt, if_true, hi, Option.bind_some, hw]
    simpa using ih () trivial

/-- All are valid, and there are few. -/
theorem valid_all {N : Nat} (hN : Big ≤ N) {l : List ApiEntry} (hg : goodL goodApiEntry l) (m : Int) :
    billingref47_ValidAll N l m = some (!(decide ((l.length : Int) > m)) && l.all fun e => check47 e == 0) := by
  rw [billingref47_ValidAll, each l hg.1 (fun n (_ : Unit) i => billingref47_ValidAll_l24 N l n i) (fun _ xs => if xs.all (fun e => check47 e == 0) then .inr () else .inl false) (fun _ _ => True) (n := N) (s := ()) ?_ ?_ (big_lt hN hg.1) trivial]
  · cases decide ((l.length : Int) > m)
    · cases h2 : l.all fun e => check47 e == 0 <;> simp [h2, billingref47_ValidAll_j25]
    · simp
  · intro n s _ hlt
    simp [billingref47_ValidAll_l24]
  · intro n s i x xs hm hlt hi hw hd _ ih
    have ih := ih () trivial
    rw [billingref47_ValidAll_l24]
    simp only [hlt, if_true, hi, Option.bind_some, hw, ref_check hN (hg.2 x hm), List.all_cons]
    by_cases h : check47 x = 0
    · simpa [h] using ih
    · simp [h]

theorem valid_posts {e : ApiEntry} (h : check47 e = 0) : e.Posts.length ≤ 64 := by
  unfold check47 at h
  by_cases h1 : (decide (e.At < 0) || decide (e.At ≥ 12622780800)) = true
  · rw [if_pos h1] at h; simp at h
  · rw [if_neg h1] at h
    by_cases h2 : (decide ((e.Text.length : Int) > 200) || decide ((e.Posts.length : Int) > 64)) = true
    · rw [if_pos h2] at h; simp at h
    · simp at h2; omega

theorem clone_all {N : Nat} (hN : Big ≤ N) {l : List ApiEntry} (hl : l.length ≤ 100000) (hp : ∀ e ∈ l, e.Posts.length ≤ 1000000) : billingref47_CloneAll N l = some l := by
  have hm : l.length ≤ maxLen := by rw [maxLen_val]; omega
  rw [billingref47_CloneAll, each l hm (fun n s i => billingref47_CloneAll_l26 N l n s i) (fun s xs => s ++ xs) (fun i s => s.length = i) (n := N) (s := []) ?_ ?_ (big_lt hN hm) rfl]
  · simp [billingref47_CloneAll_j30]
  · intro n s _ hlt
    simp [billingref47_CloneAll_l26]
  · intro n s i x xs hm' hlt hi hw hd hI ih
    rw [billingref47_CloneAll_l26]
    have hil : i < l.length := by simpa using hlt
    have ha : app 48 s ([x] : List ApiEntry) = some (s ++ [x]) := app_of (by simp; omega)
    simp only [hlt, if_true, hi, Option.bind_some, hw, clone_ok (N := N) (hp x hm'), ha]
    simpa using ih (s ++ [x]) (by simp [hI])
end Gd

/- The plain laws for HistoryTotals. -/
import Derived.Test.YtbhpbpilmejnlaaGreatXFns
import Derived.Test.YtbhpbpilmejnlaaGreatGAppend
import Derived.KernelRfl
namespace Gx
open Go Gd
set_option linter.unusedVariables false
set_option linter.unusedSimpArgs false
theorem loopN_inv {σ τ:Type} {f:σ→Option (σ⊕τ)} (k:Nat) (I:Nat→σ→Prop) (R:τ→Prop)
    (step:∀i s,i≤k→I i s→(∃s',i<k∧f s=some (.inl s')∧I (i+1) s')∨(∃r,f s=some (.inr r)∧R r)) :
    ∀{n:Nat} {s:σ},k<n→I 0 s→∃r,loopN f n s=some r∧R r:=by
  have main:∀(d i n:Nat) (s:σ),i+d=k→d<n→I i s→∃r,loopN f n s=some r∧R r:=by
    intro d
    induction d with
    | zero =>
      intro i n s hi hn hI
      obtain ⟨m,rfl⟩:∃m,n=m+1:=⟨n - 1,by omega⟩
      rcases step i s (by omega) hI with ⟨s',h,_⟩ | ⟨r,h1,h2⟩
      · omega
      · exact ⟨r,by simp [loopN,h1],h2⟩
    | succ d ih =>
      intro i n s hi hn hI
      obtain ⟨m,rfl⟩:∃m,n=m+1:=⟨n - 1,by omega⟩
      rcases step i s (by omega) hI with ⟨s',_,h1,h2⟩ | ⟨r,h1,h2⟩
      · obtain ⟨r,h3,h4⟩:=ih (i+1) m s' (by omega) (by omega) h2
        exact ⟨r,by simp [loopN,h1,h3],h4⟩
      · exact ⟨r,by simp [loopN,h1],h2⟩
  intro n s hn hI
  exact main k 0 n s (by omega) hn hI
theorem loop_list {α σ ρ τ:Type} (l:List α) (hl:l.length≤maxLen) {f:ρ→Option (ρ⊕τ)} (mk:σ→Int→ρ) (Inv:Nat→σ→Prop) (go:σ→List α→τ)
    (h0:∀s,Inv l.length s→decide (((l.length:Nat):Int)<(l.length:Int))=false→f (mk s (l.length:Int))=some (.inr (go s [])))
    (h1:∀s (i:Nat) x xs,l[i]?=some x→decide ((i:Int)<(l.length:Int))=true→idx l (i:Int)=some x→IntKind.wrap .i64 ((i:Int)+1)=((i+1:Nat):Int)→l.drop i=x::xs→Inv i s →
      (∃s',f (mk s (i:Int))=some (.inl (mk s' ((i+1:Nat):Int)))∧Inv (i+1) s'∧go s (x::xs)=go s' xs)∨f (mk s (i:Int))=some (.inr (go s (x::xs))))
    {n:Nat} {s:σ} (hn:l.length<n) (hs:Inv 0 s):loopN f n (mk s 0)=some (go s l):=by
  have main:∀(k i n:Nat) (s:σ),l.length=i+k→k<n→Inv i s→loopN f n (mk s (i:Int))=some (go s (l.drop i)):=by
    intro k
    induction k with
    | zero =>
      intro i n s hk hn hI
      obtain ⟨m,rfl⟩:∃m,n=m+1:=⟨n - 1,by omega⟩
      have hi:i=l.length:=by omega
      subst hi
      rw [List.drop_length]
      simp [loopN,h0 s hI (by simp)]
    | succ k ih =>
      intro i n s hk hn hI
      obtain ⟨m,rfl⟩:∃m,n=m+1:=⟨n - 1,by omega⟩
      have hlt:i<l.length:=by omega
      have hd:=List.drop_eq_getElem_cons hlt
      rw [hd]
      rcases h1 s i _ _ (List.getElem?_eq_getElem hlt) (by simpa using hlt) (idx_nat (List.getElem?_eq_getElem hlt)) (wrap_succ (by omega)) hd hI with ⟨s',e1,e2,e3⟩ | e1
      · simp only [loopN,e1,Option.bind_some,e3]
        exact ih (i+1) m s' (by omega) (by omega) e2
      · simp only [loopN,e1,Option.bind_some]
  simpa using main l.length 0 n s (by omega) hn hs
theorem idx_get {α:Type} {l:List α} {i:Nat} (h:i<l.length):idx l (i:Int)=some l[i]:=idx_nat (List.getElem?_eq_getElem h)
end Gx
namespace Gx
open Go
theorem awake38 (M:Nat):billinglaw38_awake (M+64)=some true:=by kernel_rfl
end Gx
namespace Gx
open Go Gd
set_option linter.unusedVariables false
set_option linter.unusedSimpArgs false
theorem loop_idx {τ:Type} {f:Int→Option (Int⊕τ)} {n N:Nat} (R:τ→Prop) (hn:n<N) (step:∀i:Nat,i≤n→(i<n∧f (i:Int)=some (.inl ((i+1:Nat):Int)))∨∃r,f (i:Int)=some (.inr r)∧R r):∃r,loopN f N 0=some r∧R r:=by
  refine loopN_inv n (fun i s=>s=(i:Int)) R (fun i s hi hs=>?_) hn rfl
  subst hs
  rcases step i hi with ⟨h1,h2⟩ | h
  · exact .inl ⟨_,h1,h2,rfl⟩
  · exact .inr h
end Gx
namespace Gx
open Go Gd
set_option linter.unusedVariables false
set_option linter.unusedSimpArgs false
theorem oneB (c b:Bool):(if c=true then some true else some b)=some (c||b):=by cases c<;>rfl
def addT (s:Int×Int×Int) (x:ApiRated):Int×Int×Int:=(IntKind.wrap .i64 (s.1+x.Net),IntKind.wrap .i64 (s.2.1+x.Paid),IntKind.wrap .i64 (s.2.2+x.Owed))
theorem tot1 (x:List ApiRated) (h:x.length≤24):history_Totals 128 x=some (x.foldl addT (0,0,0)):=by
  have:loopN (history_Totals_l1 128 x) 128 (0,0,0,0)=some (x.foldl addT (0,0,0)):=by
    refine loop_list (σ:=Int×Int×Int) x (by rw [maxLen_val]; omega) (fun v i=>(v.1,v.2.1,v.2.2,i)) (fun _ _=>True) (fun v l=>l.foldl addT v) (fun s _ hd=>?_) (fun s i y ys hy hd hi hw hdr _=>?_) (s:=(0,0,0)) (by omega) trivial
    · unfold history_Totals_l1; dsimp only; rw [if_neg (by rw [hd]; simp)]; rfl
    · unfold history_Totals_l1; dsimp only
      rw [if_pos hd,hi,Option.bind_some]
      exact .inl ⟨addT s y,by rw [hw]; rfl,trivial,rfl⟩
  unfold history_Totals
  rw [this]; rfl
theorem tot2 (x:List ApiRated) (h:x.length≤24):billingref38_Totals 128 x=some (x.foldl addT (0,0,0)):=by
  have:loopN (billingref38_Totals_l1 128 x) 128 (0,0,0,0)=some (x.foldl addT (0,0,0)):=by
    refine loop_list (σ:=Int×Int×Int) x (by rw [maxLen_val]; omega) (fun v i=>(v.1,v.2.1,v.2.2,i)) (fun _ _=>True) (fun v l=>l.foldl addT v) (fun s _ hd=>?_) (fun s i y ys hy hd hi hw hdr _=>?_) (s:=(0,0,0)) (by omega) trivial
    · unfold billingref38_Totals_l1; dsimp only; rw [if_neg (by rw [hd]; simp)]; rfl
    · unfold billingref38_Totals_l1; dsimp only
      rw [if_pos hd,hi,Option.bind_some,Option.bind_some,Option.bind_some]
      exact .inl ⟨addT s y,by rw [hw]; rfl,trivial,rfl⟩
  unfold billingref38_Totals
  rw [this]; rfl
theorem law_HistoryTotals (x0:List ApiRated) (g0:gd (.sl tyApiRated) x0):∃N,billinglaw38_HistoryTotals N x0=some true:=by
  refine ⟨128,?_⟩
  have ha:billinglaw38_awake 128=some true:=awake38 64
  unfold billinglaw38_HistoryTotals
  by_cases hc:decide ((List.length x0:Int)>24)=true
  · rw [if_pos hc,ha]; rfl
  · rw [if_neg hc]
    have h1:x0.length≤24:=by simp at hc; omega
    obtain ⟨r1,e1,p1⟩:=loop_idx (f:=billinglaw38_HistoryTotals_l1 128 x0) (n:=x0.length) (N:=128) (fun r=>r=.inl ()∨r=.inr true) (by omega) (fun i hi=>by
      unfold billinglaw38_HistoryTotals_l1
      by_cases hlt:i<x0.length
      · rw [if_pos (by simpa using hlt)]
        simp only [idx_get hlt,Option.bind_some,oneB,ha]
        split
        · exact .inr ⟨.inr true,rfl,.inr rfl⟩
        · exact .inl ⟨hlt,by rw [wrap_succ (by rw [maxLen_val]; omega)]⟩
      · rw [if_neg (by simpa using hlt)]
        exact .inr ⟨.inl (),rfl,.inl rfl⟩)
    rw [e1,Option.bind_some]
    rcases p1 with rfl | rfl
    · simp only
      rw [tot1 x0 h1,tot2 x0 h1]
      simp [ha]
    · rfl
end Gx

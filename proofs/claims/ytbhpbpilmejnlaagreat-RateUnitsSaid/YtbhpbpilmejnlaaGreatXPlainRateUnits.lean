/- The plain laws for RateUnits. -/
import Derived.Test.YtbhpbpilmejnlaaGreatXFns
import Derived.Test.YtbhpbpilmejnlaaGreatGAppend
import Derived.KernelRfl
namespace Gx
open Go Gd
set_option linter.unusedVariables false
set_option linter.unusedSimpArgs false
theorem loopN_inv {σ τ:Type} {f:σ→Option (σ⊕τ)} (k:Nat) (I:Nat→σ→Prop) (R:τ→Prop)
    (step:∀i s,i≤k→I i s→(∃s',i<k∧f s=some (.inl s')∧I (i+1) s')∨(∃r,f s=some (.inr r)∧R r)) :
    ∀{n:Nat} {s:σ},k<n→I 0 s→∃r,loopN f n s=some r∧R r:=by
  have main:∀(d i n:Nat) (s:σ),i+d=k→d<n→I i s→∃r,loopN f n s=some r∧R r:=by
    intro d
    induction d with
    | zero =>
      intro i n s hi hn hI
      obtain ⟨m,rfl⟩:∃m,n=m+1:=⟨n - 1,by omega⟩
      rcases step i s (by omega) hI with ⟨s',h,_⟩ | ⟨r,h1,h2⟩
      · omega
      · exact ⟨r,by simp [loopN,h1],h2⟩
    | succ d ih =>
      intro i n s hi hn hI
      obtain ⟨m,rfl⟩:∃m,n=m+1:=⟨n - 1,by omega⟩
      rcases step i s (by omega) hI with ⟨s',_,h1,h2⟩ | ⟨r,h1,h2⟩
      · obtain ⟨r,h3,h4⟩:=ih (i+1) m s' (by omega) (by omega) h2
        exact ⟨r,by simp [loopN,h1,h3],h4⟩
      · exact ⟨r,by simp [loopN,h1],h2⟩
  intro n s hn hI
  exact main k 0 n s (by omega) hn hI
theorem idx_get {α:Type} {l:List α} {i:Nat} (h:i<l.length):idx l (i:Int)=some l[i]:=idx_nat (List.getElem?_eq_getElem h)
end Gx
namespace Gx
open Go
theorem awake37 (M:Nat):billinglaw37_awake (M+64)=some true:=by kernel_rfl
end Gx
namespace Gx
open Go Gd
set_option linter.unusedVariables false
set_option linter.unusedSimpArgs false
theorem loop_idx {τ:Type} {f:Int→Option (Int⊕τ)} {n N:Nat} (R:τ→Prop) (hn:n<N) (step:∀i:Nat,i≤n→(i<n∧f (i:Int)=some (.inl ((i+1:Nat):Int)))∨∃r,f (i:Int)=some (.inr r)∧R r):∃r,loopN f N 0=some r∧R r:=by
  refine loopN_inv n (fun i s=>s=(i:Int)) R (fun i s hi hs=>?_) hn rfl
  subst hs
  rcases step i hi with ⟨h1,h2⟩ | h
  · exact .inl ⟨_,h1,h2,rfl⟩
  · exact .inr h
theorem units1 (x:ApiRated) (h:x.Takes.length≤24):∃r,loopN (rate_Units_l1 128 x) 128 (0,0)=some r:=by
  have step:∀(i:Nat) (s:Int×Int),i≤x.Takes.length→s.2=(i:Int)→(∃s',i<x.Takes.length∧rate_Units_l1 128 x s=some (.inl s')∧s'.2=((i+1:Nat):Int))∨(∃r,rate_Units_l1 128 x s=some (.inr r)∧True):=by
    intro i s hi hs
    obtain ⟨a,b⟩:=s
    have hs:b=(i:Int):=hs
    subst hs
    unfold rate_Units_l1
    dsimp only
    by_cases hlt:i<x.Takes.length
    · refine .inl ⟨(IntKind.wrap .i64 (a+(x.Takes[i]).Units),IntKind.wrap .i64 ((i:Int)+1)),hlt,?_,wrap_succ (by rw [maxLen_val]; omega)⟩
      rw [if_pos (by simpa using hlt),idx_get hlt]
      rfl
    · exact .inr ⟨a,by rw [if_neg (by simpa using hlt)],trivial⟩
  obtain ⟨r,h1,_⟩:=loopN_inv (f:=rate_Units_l1 128 x) x.Takes.length (fun i s=>s.2=(i:Int)) (fun _=>True) step (n:=128) (s:=(0,0)) (by omega) rfl
  exact ⟨r,h1⟩
theorem units2 (x:ApiRated) (h:x.Segments.length≤24):∃r,loopN (rate_Units_l2 128 x) 128 (0,0)=some r:=by
  have step:∀(i:Nat) (s:Int×Int),i≤x.Segments.length→s.2=(i:Int)→(∃s',i<x.Segments.length∧rate_Units_l2 128 x s=some (.inl s')∧s'.2=((i+1:Nat):Int))∨(∃r,rate_Units_l2 128 x s=some (.inr r)∧True):=by
    intro i s hi hs
    obtain ⟨a,b⟩:=s
    have hs:b=(i:Int):=hs
    subst hs
    unfold rate_Units_l2
    dsimp only
    by_cases hlt:i<x.Segments.length
    · refine .inl ⟨(IntKind.wrap .i64 (a+(x.Segments[i]).Units),IntKind.wrap .i64 ((i:Int)+1)),hlt,?_,wrap_succ (by rw [maxLen_val]; omega)⟩
      rw [if_pos (by simpa using hlt),idx_get hlt]
      rfl
    · exact .inr ⟨a,by rw [if_neg (by simpa using hlt)],trivial⟩
  obtain ⟨r,h1,_⟩:=loopN_inv (f:=rate_Units_l2 128 x) x.Segments.length (fun i s=>s.2=(i:Int)) (fun _=>True) step (n:=128) (s:=(0,0)) (by omega) rfl
  exact ⟨r,h1⟩
theorem units_tot (x:ApiRated) (h1:x.Takes.length≤24) (h2:x.Segments.length≤24):∃r,rate_Units 128 x=some r:=by
  obtain ⟨a,ha⟩:=units1 x h1
  obtain ⟨b,hb⟩:=units2 x h2
  exact ⟨(a,b),by unfold rate_Units; rw [ha,Option.bind_some,hb]; rfl⟩
theorem units_same (N:Nat) (x:ApiRated):billingref37_Units N x=rate_Units N x:=rfl
theorem law_RateUnits (x0:ApiRated) (g0:gd tyApiRated x0):∃N,billinglaw37_RateUnits N x0=some true:=by
  refine ⟨128,?_⟩
  have ha:billinglaw37_awake 128=some true:=awake37 64
  unfold billinglaw37_RateUnits
  by_cases hc:((decide ((List.length x0.Takes:Int)>24))||(decide ((List.length x0.Segments:Int)>24)))=true
  · rw [if_pos hc,ha]; rfl
  · rw [if_neg hc]
    have h1:x0.Takes.length≤24∧x0.Segments.length≤24:=by simp at hc; omega
    obtain ⟨r1,e1,p1⟩:=loop_idx (f:=billinglaw37_RateUnits_l1 128 x0) (n:=x0.Takes.length) (N:=128) (fun r=>r=.inl ()∨r=.inr true) (by omega) (fun i hi=>by
      unfold billinglaw37_RateUnits_l1
      by_cases hlt:i<x0.Takes.length
      · rw [if_pos (by simpa using hlt),idx_get hlt,Option.bind_some]
        by_cases hu:decide ((x0.Takes[i]).Units<0)=true
        · rw [if_pos hu]
          exact .inr ⟨.inr true,by simp [ha],.inr rfl⟩
        · rw [if_neg hu]
          cases hv:decide ((x0.Takes[i]).Units>1099511627776) with
          | true=>exact .inr ⟨.inr true,by simp [hv,ha],.inr rfl⟩
          | false=>exact .inl ⟨hlt,by simp only [Option.bind_some,hv,Bool.false_eq_true,if_false]; rw [wrap_succ (by rw [maxLen_val]; omega)]⟩
      · rw [if_neg (by simpa using hlt)]
        exact .inr ⟨.inl (),rfl,.inl rfl⟩)
    rw [e1,Option.bind_some]
    rcases p1 with rfl | rfl
    · obtain ⟨r2,e2,p2⟩:=loop_idx (f:=billinglaw37_RateUnits_l2 128 x0) (n:=x0.Segments.length) (N:=128) (fun r=>r=.inl ()∨r=.inr true) (by omega) (fun i hi=>by
        unfold billinglaw37_RateUnits_l2
        by_cases hlt:i<x0.Segments.length
        · rw [if_pos (by simpa using hlt),idx_get hlt,Option.bind_some]
          by_cases hu:decide ((x0.Segments[i]).Units<0)=true
          · rw [if_pos hu]
            exact .inr ⟨.inr true,by simp [ha],.inr rfl⟩
          · rw [if_neg hu]
            cases hv:decide ((x0.Segments[i]).Units>1099511627776) with
            | true=>exact .inr ⟨.inr true,by simp [hv,ha],.inr rfl⟩
            | false=>exact .inl ⟨hlt,by simp only [Option.bind_some,hv,Bool.false_eq_true,if_false]; rw [wrap_succ (by rw [maxLen_val]; omega)]⟩
        · rw [if_neg (by simpa using hlt)]
          exact .inr ⟨.inl (),rfl,.inl rfl⟩)
      simp only [e2,Option.bind_some]
      rcases p2 with rfl | rfl
      · simp only
        rw [app_of (b:=48) (xs:=([]:List ApiTake)) (ys:=x0.Takes) (by simp; omega),Option.bind_some,app_of (b:=40) (xs:=([]:List ApiSegment)) (ys:=x0.Segments) (by simp; omega),Option.bind_some]
        obtain ⟨r,hr⟩:=units_tot x0 h1.1 h1.2
        have e:rate_Units 128 (x0.Usage,x0.Err,x0.Plan,x0.Version,x0.Zone,[]++x0.Takes,[]++x0.Segments,x0.Setup,x0.Gross,x0.Net,x0.Given,x0.Paid,x0.Owed)=some r:=hr
        rw [e,units_same,hr]
        simp [ha]
      · rfl
    · rfl
end Gx

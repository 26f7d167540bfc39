/- The plain laws for RateChecks. -/
import Derived.Test.YtbhpbpilmejnlaaGreatXFns
import Derived.Test.YtbhpbpilmejnlaaGreatGAppend
import Derived.KernelRfl
namespace Gx
open Go Gd
set_option linter.unusedVariables false
set_option linter.unusedSimpArgs false
theorem loop_list {α σ ρ τ:Type} (l:List α) (hl:l.length≤maxLen) {f:ρ→Option (ρ⊕τ)} (mk:σ→Int→ρ) (Inv:Nat→σ→Prop) (go:σ→List α→τ)
    (h0:∀s,Inv l.length s→decide (((l.length:Nat):Int)<(l.length:Int))=false→f (mk s (l.length:Int))=some (.inr (go s [])))
    (h1:∀s (i:Nat) x xs,l[i]?=some x→decide ((i:Int)<(l.length:Int))=true→idx l (i:Int)=some x→IntKind.wrap .i64 ((i:Int)+1)=((i+1:Nat):Int)→l.drop i=x::xs→Inv i s →
      (∃s',f (mk s (i:Int))=some (.inl (mk s' ((i+1:Nat):Int)))∧Inv (i+1) s'∧go s (x::xs)=go s' xs)∨f (mk s (i:Int))=some (.inr (go s (x::xs))))
    {n:Nat} {s:σ} (hn:l.length<n) (hs:Inv 0 s):loopN f n (mk s 0)=some (go s l):=by
  have main:∀(k i n:Nat) (s:σ),l.length=i+k→k<n→Inv i s→loopN f n (mk s (i:Int))=some (go s (l.drop i)):=by
    intro k
    induction k with
    | zero =>
      intro i n s hk hn hI
      obtain ⟨m,rfl⟩:∃m,n=m+1:=⟨n - 1,by omega⟩
      have hi:i=l.length:=by omega
      subst hi
      rw [List.drop_length]
      simp [loopN,h0 s hI (by simp)]
    | succ k ih =>
      intro i n s hk hn hI
      obtain ⟨m,rfl⟩:∃m,n=m+1:=⟨n - 1,by omega⟩
      have hlt:i<l.length:=by omega
      have hd:=List.drop_eq_getElem_cons hlt
      rw [hd]
      rcases h1 s i _ _ (List.getElem?_eq_getElem hlt) (by simpa using hlt) (idx_nat (List.getElem?_eq_getElem hlt)) (wrap_succ (by omega)) hd hI with ⟨s',e1,e2,e3⟩ | e1
      · simp only [loopN,e1,Option.bind_some,e3]
        exact ih (i+1) m s' (by omega) (by omega) e2
      · simp only [loopN,e1,Option.bind_some]
  simpa using main l.length 0 n s (by omega) hn hs
end Gx
namespace Gx
open Go
theorem awake37 (M:Nat):billinglaw37_awake (M+64)=some true:=by kernel_rfl
end Gx
namespace Gx
open Go Gd
set_option linter.unusedVariables false
set_option linter.unusedSimpArgs false
end Gx
namespace Gx
open Go Gd
set_option linter.unusedVariables false
set_option linter.unusedSimpArgs false
def wi (n lo hi:Int):Bool:=decide (n≥lo)&&decide (n≤hi)
def pT (t:ApiTake):Bool:=wi t.Units 1 1099511627776
def pS (s:ApiSegment):Bool:=wi s.Units 1 1099511627776&&wi s.Amount 0 1125899906842624
def pG (s:ApiGiven):Bool:=wi s.Amount 1 1125899906842624
def sumT (v:Int) (l:List ApiTake):Int:=l.foldl (fun a t=>IntKind.wrap .i64 (a+t.Units)) v
def sumS (v:Int) (l:List ApiSegment):Int:=l.foldl (fun a t=>IntKind.wrap .i64 (a+t.Units)) v
def sumG (v:Int) (l:List ApiGiven):Int:=l.foldl (fun a t=>IntKind.wrap .i64 (a+t.Amount)) v
def subG (v:Int) (l:List ApiGiven):Int:=l.foldl (fun a t=>IntKind.wrap .i64 (a - t.Amount)) v
def g2 (G:Int):Int→List ApiSegment→Option Int
  | v,[]=>some v
  | v,s::l=>bif pS s then (bif decide (v>G)||decide (s.Amount>IntKind.wrap .i64 (G - v)) then none else g2 G (IntKind.wrap .i64 (v+s.Amount)) l) else none
theorem w37 (N:Nat) (a b c:Int):rate_within N a b c=some (wi a b c):=rfl
theorem w37' (N:Nat) (a b c:Int):billingref37_within N a b c=some (wi a b c):=rfl
section
variable (x:ApiRated)
theorem ck1 (h:x.Takes.length≤24):loopN (rate_Check_l1 128 x) 128 0=some (bif x.Takes.all pT then .inl () else .inr false):=by
  refine loop_list (σ:=Unit) x.Takes (by rw [maxLen_val]; omega) (fun _ i=>i) (fun _ _=>True) (fun _ l=>(bif l.all pT then .inl () else .inr false:Unit⊕Bool)) (fun s _ hd=>?_) (fun s i y ys hy hd hi hw hdr _=>?_) (s:=()) (by omega) trivial
  · unfold rate_Check_l1; rw [if_neg (by rw [hd]; simp)]; rfl
  · unfold rate_Check_l1
    rw [if_pos hd,hi,Option.bind_some,w37,Option.bind_some]
    cases hp:wi y.Units 1 1099511627776 with
    | true=>exact .inl ⟨(),by simp [hw],trivial,by simp [List.all_cons,pT,hp]⟩
    | false=>exact .inr (by simp [List.all_cons,pT,hp])
theorem ck1' (h:x.Takes.length≤24):loopN (billingref37_Check_l1 128 x) 128 (0,0)=some (bif x.Takes.all pT then .inl (sumT 0 x.Takes) else .inr false):=by
  refine loop_list (σ:=Int) x.Takes (by rw [maxLen_val]; omega) (fun v i=>(v,i)) (fun _ _=>True) (fun v l=>(bif l.all pT then .inl (sumT v l) else .inr false:Int⊕Bool)) (fun s _ hd=>?_) (fun s i y ys hy hd hi hw hdr _=>?_) (s:=(0:Int)) (by omega) trivial
  · unfold billingref37_Check_l1; dsimp only; rw [if_neg (by rw [hd]; simp)]; rfl
  · unfold billingref37_Check_l1; dsimp only
    rw [if_pos hd,hi,Option.bind_some,w37',Option.bind_some]
    cases hp:wi y.Units 1 1099511627776 with
    | true=>exact .inl ⟨IntKind.wrap .i64 (s+y.Units),by simp [hw],trivial,by simp [List.all_cons,pT,hp,sumT]⟩
    | false=>exact .inr (by simp [List.all_cons,pT,hp])
theorem ck2 (h:x.Segments.length≤24) (v0:Int):loopN (rate_Check_l2 128 x) 128 (v0,0)=some (match g2 x.Gross v0 x.Segments with | some a=>.inl a | none=>.inr false):=by
  refine loop_list (σ:=Int) x.Segments (by rw [maxLen_val]; omega) (fun v i=>(v,i)) (fun _ _=>True) (fun v l=>(match g2 x.Gross v l with | some a=>.inl a | none=>.inr false:Int⊕Bool)) (fun s _ hd=>?_) (fun s i y ys hy hd hi hw hdr _=>?_) (s:=v0) (by omega) trivial
  · unfold rate_Check_l2; dsimp only; rw [if_neg (by rw [hd]; simp)]; rfl
  · unfold rate_Check_l2; dsimp only
    rw [if_pos hd,hi,Option.bind_some,w37,Option.bind_some]
    simp only [w37,Option.bind_some]
    cases hp:wi y.Units 1 1099511627776 with
    | false=>exact .inr (by simp [g2,pS,hp])
    | true =>
      cases hq:wi y.Amount 0 1125899906842624 with
      | false=>exact .inr (by simp [g2,pS,hp,hq])
      | true =>
        cases hb:(decide (s>x.Gross)||decide (y.Amount>IntKind.wrap .i64 (x.Gross - s))) with
        | true=>exact .inr (by simp only [hb,g2,pS,hp,hq]; rfl)
        | false=>exact .inl ⟨IntKind.wrap .i64 (s+y.Amount),by simp only [hb,hw]; rfl,trivial,by simp only [g2,pS,hp,hq,hb,Bool.and_self,cond_true,cond_false]⟩
theorem ck2' (h:x.Segments.length≤24) (u0 v0:Int):loopN (billingref37_Check_l2 128 x) 128 (u0,v0,0)=some (match g2 x.Gross v0 x.Segments with | some a=>.inl (sumS u0 x.Segments,a) | none=>.inr false):=by
  refine loop_list (σ:=Int×Int) x.Segments (by rw [maxLen_val]; omega) (fun v i=>(v.1,v.2,i)) (fun _ _=>True) (fun v l=>(match g2 x.Gross v.2 l with | some a=>.inl (sumS v.1 l,a) | none=>.inr false:(Int×Int)⊕Bool)) (fun s _ hd=>?_) (fun s i y ys hy hd hi hw hdr _=>?_) (s:=(u0,v0)) (by omega) trivial
  · unfold billingref37_Check_l2; dsimp only; rw [if_neg (by rw [hd]; simp)]; rfl
  · obtain ⟨u,v⟩:=s
    unfold billingref37_Check_l2; dsimp only
    rw [if_pos hd,hi,Option.bind_some,w37',Option.bind_some]
    simp only [w37',Option.bind_some]
    cases hp:wi y.Units 1 1099511627776 with
    | false=>exact .inr (by simp [g2,pS,hp])
    | true =>
      cases hq:wi y.Amount 0 1125899906842624 with
      | false=>exact .inr (by simp [g2,pS,hp,hq])
      | true =>
        cases h1:decide (v>x.Gross) with
        | true=>exact .inr (by simp [h1,g2,pS,hp,hq])
        | false =>
          cases h2:decide (y.Amount>IntKind.wrap .i64 (x.Gross - v)) with
          | true=>exact .inr (by simp [h1,h2,g2,pS,hp,hq])
          | false=>exact .inl ⟨(IntKind.wrap .i64 (u+y.Units),IntKind.wrap .i64 (v+y.Amount)),by simp [h1,h2,hw],trivial,by simp [g2,pS,hp,hq,h1,h2,sumS]⟩
theorem ck3 (h:x.Given.length≤24):loopN (rate_Check_l3 128 x) 128 (0,0)=some (bif x.Given.all pG then .inl (sumG 0 x.Given) else .inr false):=by
  refine loop_list (σ:=Int) x.Given (by rw [maxLen_val]; omega) (fun v i=>(v,i)) (fun _ _=>True) (fun v l=>(bif l.all pG then .inl (sumG v l) else .inr false:Int⊕Bool)) (fun s _ hd=>?_) (fun s i y ys hy hd hi hw hdr _=>?_) (s:=(0:Int)) (by omega) trivial
  · unfold rate_Check_l3; dsimp only; rw [if_neg (by rw [hd]; simp)]; rfl
  · unfold rate_Check_l3; dsimp only
    rw [if_pos hd,hi,Option.bind_some,w37,Option.bind_some]
    cases hp:wi y.Amount 1 1125899906842624 with
    | true=>exact .inl ⟨IntKind.wrap .i64 (s+y.Amount),by simp [hw],trivial,by simp [List.all_cons,pG,hp,sumG]⟩
    | false=>exact .inr (by simp [List.all_cons,pG,hp])
theorem ck3' (h:x.Given.length≤24) (v0:Int):loopN (billingref37_Check_l3 128 x) 128 (v0,0)=some (bif x.Given.all pG then .inl (subG v0 x.Given) else .inr false):=by
  refine loop_list (σ:=Int) x.Given (by rw [maxLen_val]; omega) (fun v i=>(v,i)) (fun _ _=>True) (fun v l=>(bif l.all pG then .inl (subG v l) else .inr false:Int⊕Bool)) (fun s _ hd=>?_) (fun s i y ys hy hd hi hw hdr _=>?_) (s:=v0) (by omega) trivial
  · unfold billingref37_Check_l3; dsimp only; rw [if_neg (by rw [hd]; simp)]; rfl
  · unfold billingref37_Check_l3; dsimp only
    rw [if_pos hd,hi,Option.bind_some,w37',Option.bind_some]
    cases hp:wi y.Amount 1 1125899906842624 with
    | true=>exact .inl ⟨IntKind.wrap .i64 (s - y.Amount),by simp [hw],trivial,by simp [List.all_cons,pG,hp,subG]⟩
    | false=>exact .inr (by simp [List.all_cons,pG,hp])
theorem un1 (h:x.Takes.length≤24):loopN (rate_Units_l1 128 x) 128 (0,0)=some (sumT 0 x.Takes):=by
  refine loop_list (σ:=Int) x.Takes (by rw [maxLen_val]; omega) (fun v i=>(v,i)) (fun _ _=>True) (fun v l=>sumT v l) (fun s _ hd=>?_) (fun s i y ys hy hd hi hw hdr _=>?_) (s:=(0:Int)) (by omega) trivial
  · unfold rate_Units_l1; dsimp only; rw [if_neg (by rw [hd]; simp)]; rfl
  · unfold rate_Units_l1; dsimp only
    rw [if_pos hd,hi,Option.bind_some]
    exact .inl ⟨IntKind.wrap .i64 (s+y.Units),by rw [hw],trivial,rfl⟩
theorem un2 (h:x.Segments.length≤24):loopN (rate_Units_l2 128 x) 128 (0,0)=some (sumS 0 x.Segments):=by
  refine loop_list (σ:=Int) x.Segments (by rw [maxLen_val]; omega) (fun v i=>(v,i)) (fun _ _=>True) (fun v l=>sumS v l) (fun s _ hd=>?_) (fun s i y ys hy hd hi hw hdr _=>?_) (s:=(0:Int)) (by omega) trivial
  · unfold rate_Units_l2; dsimp only; rw [if_neg (by rw [hd]; simp)]; rfl
  · unfold rate_Units_l2; dsimp only
    rw [if_pos hd,hi,Option.bind_some]
    exact .inl ⟨IntKind.wrap .i64 (s+y.Units),by rw [hw],trivial,rfl⟩
end
def inR (n:Int):Prop := -9223372036854775808≤n∧n<9223372036854775808
theorem goodR {n:Int} (h:goodI .i64 n):inR n:=by
  obtain ⟨h1,h2⟩:=h
  have e1:IntKind.min .i64 = -9223372036854775808:=by decide
  have e2:IntKind.max .i64=9223372036854775807:=by decide
  rw [e1] at h1; rw [e2] at h2
  exact ⟨h1,by omega⟩
theorem wrap_inR (n:Int):inR (IntKind.wrap .i64 n):=(wrap_facts n).2
def tots {α:Type} (f:α→Int):List α→Int
  | []=>0
  | x::l=>f x+tots f l
theorem fold_add {α:Type} {f:α→Int}:∀{l:List α} {v:Int},inR v→l.foldl (fun a t=>IntKind.wrap .i64 (a+f t)) v=IntKind.wrap .i64 (v+tots f l)
  | [],v,h=>by simp only [List.foldl_nil,tots,Int.add_zero]; exact (wrap64 h.1 h.2).symm
  | x::l,v,h=>by
    rw [List.foldl_cons,fold_add (wrap_inR _)]
    have:=(wrap_facts (v+f x)).1
    refine wrap_eq ?_
    simp only [tots]
    omega
theorem fold_sub {α:Type} {f:α→Int}:∀{l:List α} {v:Int},inR v→l.foldl (fun a t=>IntKind.wrap .i64 (a - f t)) v=IntKind.wrap .i64 (v - tots f l)
  | [],v,h=>by simp only [List.foldl_nil,tots,Int.sub_zero]; exact (wrap64 h.1 h.2).symm
  | x::l,v,h=>by
    rw [List.foldl_cons,fold_sub (wrap_inR _)]
    have:=(wrap_facts (v - f x)).1
    refine wrap_eq ?_
    simp only [tots]
    omega
theorem units_eq (T:List ApiTake) (S:List ApiSegment):sumS (sumT 0 T) S=IntKind.wrap .i64 (sumT 0 T+sumS 0 S):=by
  have h0:inR 0:=by unfold inR; omega
  have hT:inR (sumT 0 T):=by unfold sumT; rw [fold_add h0]; exact wrap_inR _
  unfold sumS
  rw [fold_add hT,fold_add h0,Int.zero_add]
  have:=(wrap_facts (tots ApiSegment.Units S)).1
  refine wrap_eq ?_
  omega
theorem given_eq {g:Int} (hg:inR g) (l:List ApiGiven):subG g l=IntKind.wrap .i64 (g - sumG 0 l):=by
  have h0:inR 0:=by unfold inR; omega
  unfold subG sumG
  rw [fold_sub hg,fold_add h0,Int.zero_add]
  have:=(wrap_facts (tots ApiGiven.Amount l)).1
  refine wrap_eq ?_
  omega
theorem check_same (x:ApiRated) (g:gd tyApiRated x) (h1:x.Takes.length≤24) (h2:x.Segments.length≤24) (h3:x.Given.length≤24):∃b,rate_Check 128 x=some b∧billingref37_Check 128 x=some b:=by
  have hg:inR x.Gross:=goodR g.2.2.2.2.2.2.2.2.1
  have hp:inR x.Paid:=goodR g.2.2.2.2.2.2.2.2.2.2.2.1
  have hn:inR x.Net:=goodR g.2.2.2.2.2.2.2.2.2.1
  unfold rate_Check billingref37_Check
  by_cases hc:((x.Usage.Inbound||(x.Usage.Units==0))||(x.Err != 0))=true
  · rw [if_pos hc,if_pos hc]
    exact ⟨_,rfl,rfl⟩
  · rw [if_neg hc,if_neg hc]
    have hl:(((decide ((List.length x.Takes:Int)>262144))||(decide ((List.length x.Segments:Int)>12288)))||(decide ((List.length x.Given:Int)>4096)))=false:=by simp; omega
    simp only [hl,Bool.false_eq_true,if_false,w37,w37',Option.bind_some]
    cases hw:wi x.Setup 0 1125899906842624 with
    | false=>exact ⟨false,by simp,by simp⟩
    | true =>
      simp only [Bool.not_true,Bool.false_eq_true,if_false]
      rw [ck1 x h1,ck1' x h1,Option.bind_some,Option.bind_some]
      cases ha:x.Takes.all pT with
      | false=>exact ⟨false,rfl,rfl⟩
      | true =>
        simp only [cond_true]
        rw [ck2 x h2,ck2' x h2,Option.bind_some,Option.bind_some]
        cases hgg:g2 x.Gross x.Setup x.Segments with
        | none=>exact ⟨false,rfl,rfl⟩
        | some a =>
          simp only
          rw [ck3 x h3,ck3' x h3,Option.bind_some]
          have hu:rate_Units 128 x=some (sumT 0 x.Takes,sumS 0 x.Segments):=by
            unfold rate_Units
            rw [un1 x h1,Option.bind_some,un2 x h2]; rfl
          rw [units_eq]
          cases hb:x.Given.all pG with
          | false =>
            simp only [cond_false,Option.bind_some]
            refine ⟨false,rfl,?_⟩
            split<;>rfl
          | true =>
            simp only [cond_true,Option.bind_some,hu]
            by_cases hq:((IntKind.wrap .i64 (sumT 0 x.Takes+sumS 0 x.Segments) != x.Usage.Units)||(a != x.Gross))=true
            · rw [if_pos hq,if_pos (by rw [hq]; rfl)]
              exact ⟨false,rfl,rfl⟩
            · rw [if_neg hq]
              have hq':=Bool.eq_false_iff.2 hq
              rw [hq',Bool.false_or]
              simp only [Bool.or_eq_false_iff] at hq'
              have ha:a=x.Gross:=by simpa using hq'.2
              rw [given_eq hg,ha]
              by_cases hnn:x.Net=IntKind.wrap .i64 (x.Gross - sumG 0 x.Given)
              · rw [if_neg (by simpa using hnn)]
                refine ⟨_,rfl,?_⟩
                rw [←hnn]
                simp only [beq_self_eq_true,Bool.true_and]
                congr 1
                rw [Bool.eq_iff_iff]
                simp only [Bool.and_eq_true,decide_eq_true_eq,beq_iff_eq]
                constructor
                · rintro ⟨⟨⟨p1,p2⟩,p3⟩,p4⟩
                  exact ⟨⟨p1,p3⟩,p4⟩
                · rintro ⟨⟨p1,p3⟩,p4⟩
                  refine ⟨⟨⟨p1,?_⟩,p3⟩,p4⟩
                  unfold inR at hp hn
                  rw [wrap64 (by omega) (by omega)] at p4
                  omega
              · rw [if_pos (by simpa using hnn)]
                refine ⟨false,rfl,?_⟩
                have:(IntKind.wrap .i64 (x.Gross - sumG 0 x.Given)==x.Net)=false:=by simpa using fun e=>hnn (Eq.symm e)
                rw [this]; rfl
theorem law_RateChecks (x0:ApiRated) (g0:gd tyApiRated x0):∃N,billinglaw37_RateChecks N x0=some true:=by
  refine ⟨128,?_⟩
  have ha:billinglaw37_awake 128=some true:=awake37 64
  unfold billinglaw37_RateChecks
  by_cases hc:(((decide ((List.length x0.Takes:Int)>24))||(decide ((List.length x0.Segments:Int)>24)))||(decide ((List.length x0.Given:Int)>24)))=true
  · rw [if_pos hc,ha]; rfl
  · rw [if_neg hc]
    have h1:x0.Takes.length≤24∧x0.Segments.length≤24∧x0.Given.length≤24:=by simp at hc; omega
    rw [app_of (b:=48) (xs:=([]:List ApiTake)) (ys:=x0.Takes) (by simp; omega),Option.bind_some,app_of (b:=40) (xs:=([]:List ApiSegment)) (ys:=x0.Segments) (by simp; omega),Option.bind_some,app_of (b:=24) (xs:=([]:List ApiGiven)) (ys:=x0.Given) (by simp; omega),Option.bind_some]
    obtain ⟨b,hb1,hb2⟩:=check_same x0 g0 h1.1 h1.2.1 h1.2.2
    have e:rate_Check 128 (x0.Usage,x0.Err,x0.Plan,x0.Version,x0.Zone,[]++x0.Takes,[]++x0.Segments,x0.Setup,x0.Gross,x0.Net,[]++x0.Given,x0.Paid,x0.Owed)=some b:=hb1
    rw [e,hb2]
    simp [ha]
end Gx

/- The plain laws for RerateMerges. -/
import Derived.Test.YtbhpbpilmejnlaaGreatXFns
import Derived.Test.YtbhpbpilmejnlaaGreatGAppend
import Derived.KernelRfl
namespace Gx
open Go Gd
set_option linter.unusedVariables false
set_option linter.unusedSimpArgs false
theorem Zd {σ τ:Type} {f:σ→Option (σ⊕τ)} (k:Nat) (I:Nat→σ→Prop) (R:τ→Prop)
  (step:∀i s,i≤k→I i s→(∃s',i<k∧f s=some (.inl s')∧I (i+1) s')∨(∃r,f s=some (.inr r)∧R r)) :
  ∀{n:Nat} {s:σ},k<n→I 0 s→∃r,Qw f n s=some r∧R r:=by
 have main:∀(d i n:Nat) (s:σ),i+d=k→d<n→I i s→∃r,Qw f n s=some r∧R r:=by
  intro d
  induction d with
  | zero =>
   intro i n s hi hn hI
   obtain ⟨m,rfl⟩:∃m,n=m+1:=⟨n - 1,by omega⟩
   rcases step i s (by omega) hI with ⟨s',h,_⟩ | ⟨r,h1,h2⟩
   ·omega
   ·exact ⟨r,by simp [Qw,h1],h2⟩
  | succ d ih =>
   intro i n s hi hn hI
   obtain ⟨m,rfl⟩:∃m,n=m+1:=⟨n - 1,by omega⟩
   rcases step i s (by omega) hI with ⟨s',_,h1,h2⟩ | ⟨r,h1,h2⟩
   ·obtain ⟨r,h3,h4⟩:=ih (i+1) m s' (by omega) (by omega) h2
    exact ⟨r,by simp [Qw,h1,h3],h4⟩
   ·exact ⟨r,by simp [Qw,h1],h2⟩
 intro n s hn hI
 exact main k 0 n s (by omega) hn hI
theorem Qrm {α σ ρ τ:Type} (l:List α) (hl:l.length≤maxLen) {f:ρ→Option (ρ⊕τ)} (mk:σ→Int→ρ) (Inv:Nat→σ→Prop) (go:σ→List α→τ)
  (h0:∀s,Inv l.length s→decide (((l.length:Nat):Int)<(l.length:Int))=false→f (mk s (l.length:Int))=some (.inr (go s [])))
  (h1:∀s (i:Nat) x xs,l[i]?=some x→decide ((i:Int)<(l.length:Int))=true→idx l (i:Int)=some x→IntKind.wrap .i64 ((i:Int)+1)=((i+1:Nat):Int)→l.drop i=x::xs→Inv i s →
   (∃s',f (mk s (i:Int))=some (.inl (mk s' ((i+1:Nat):Int)))∧Inv (i+1) s'∧go s (x::xs)=go s' xs)∨f (mk s (i:Int))=some (.inr (go s (x::xs))))
  {n:Nat} {s:σ} (hn:l.length<n) (hs:Inv 0 s):Qw f n (mk s 0)=some (go s l):=by
 have main:∀(k i n:Nat) (s:σ),l.length=i+k→k<n→Inv i s→Qw f n (mk s (i:Int))=some (go s (l.drop i)):=by
  intro k
  induction k with
  | zero =>
   intro i n s hk hn hI
   obtain ⟨m,rfl⟩:∃m,n=m+1:=⟨n - 1,by omega⟩
   have hi:i=l.length:=by omega
   subst hi
   rw [List.drop_length]
   simp [Qw,h0 s hI (by simp)]
  | succ k ih =>
   intro i n s hk hn hI
   obtain ⟨m,rfl⟩:∃m,n=m+1:=⟨n - 1,by omega⟩
   have hlt:i<l.length:=by omega
   have hd:=List.drop_eq_getElem_cons hlt
   rw [hd]
   rcases h1 s i _ _ (List.getElem?_eq_getElem hlt) (by simpa using hlt) (Qlt (List.getElem?_eq_getElem hlt)) (Za (by omega)) hd hI with ⟨s',e1,e2,e3⟩ | e1
   ·simp only [Qw,e1,Option.bind_some,e3]
    exact ih (i+1) m s' (by omega) (by omega) e2
   ·simp only [Qw,e1,Option.bind_some]
 simpa using main l.length 0 n s (by omega) hn hs
theorem Ko {α:Type} {l:List α} {i:Nat} (h:i<l.length):idx l (i:Int)=some l[i]:=Qlt (List.getElem?_eq_getElem h)
end Gx
namespace Gx
open Go
theorem Qeo (M:Nat):Km (M+64)=some true:=by kernel_rfl
end Gx
namespace Gx
open Go Gd
set_option linter.unusedVariables false
set_option linter.unusedSimpArgs false
theorem Qw8 {τ:Type} {f:Int→Option (Int⊕τ)} {n N:Nat} (R:τ→Prop) (hn:n<N) (step:∀i:Nat,i≤n→(i<n∧f (i:Int)=some (.inl ((i+1:Nat):Int)))∨∃r,f (i:Int)=some (.inr r)∧R r):∃r,Qw f N 0=some r∧R r:=by
 refine Zd n (fun i s=>s=(i:Int)) R (fun i s hi hs=>?_) hn rfl
 subst hs
 rcases step i hi with ⟨h1,h2⟩ | h
 ·exact .inl ⟨_,h1,h2,rfl⟩
 ·exact .inr h
end Gx
namespace Gx
open Go Gd
set_option linter.unusedVariables false
set_option linter.unusedSimpArgs false
theorem Jl2 (c b:Bool):(if c=true then some true else some b)=some (c||b):=by cases c<;>rfl
end Gx
namespace Gx
open Go Gd
set_option linter.unusedVariables false
set_option linter.unusedSimpArgs false
def ltA (a b:Qa):Bool:=decide (a.Start<b.Start)||(a.Start==b.Start&&decide (a.Usage<b.Usage))
theorem Qcs {a b c:Qa} (h1:ltA a b=true) (h2:ltA b c=true):ltA a c=true:=by
 simp only [ltA,Bool.or_eq_true,decide_eq_true_eq,Bool.and_eq_true,beq_iff_eq] at *
 omega
theorem Jaq (a:Qa):ltA a a=false:=by simp [ltA]
theorem Jar {a b:Qa} (h:a.Usage≠b.Usage):ltA a b=true∨ltA b a=true:=by
 simp only [ltA,Bool.or_eq_true,decide_eq_true_eq,Bool.and_eq_true,beq_iff_eq]
 omega
theorem Qrn (N:Nat) (a b:Qa):Gm N a b=some (ltA a b):=by
 unfold Gm ltA
 by_cases h:a.Start=b.Start
 ·simp [h]
 ·simp [h]
def zA (a:Qa):Bool:=(a.Paid==0)&&(a.Owed==0)
def Qlm (l:List Qa) (x:Qa):List Qa:=l.takeWhile (fun y=>ltA y x)++x::l.dropWhile (fun y=>ltA y x)
def Hd (l:List Qa) (x:Qa):List Qa:=bif zA x then l else Qlm l x
abbrev srt (l:List Qa):Prop:=l.Pairwise fun a b=>ltA a b=true
theorem Qw9 {l:List Qa} {x y:Qa}:y∈Qlm l x↔y=x∨y∈l:=by
 unfold Qlm
 have h:=List.takeWhile_append_dropWhile (p:=fun y=>ltA y x) (l:=l)
 constructor
 ·intro hy
  rcases List.mem_append.1 hy with hy | hy
  ·exact .inr (by rw [←h]; exact List.mem_append_left _ hy)
  ·rcases List.mem_cons.1 hy with hy | hy
   ·exact .inl hy
   ·exact .inr (by rw [←h]; exact List.mem_append_right _ hy)
 ·rintro (rfl | hy)
  ·exact List.mem_append_right _ (.head _)
  ·rw [←h] at hy
   rcases List.mem_append.1 hy with hy | hy
   ·exact List.mem_append_left _ hy
   ·exact List.mem_append_right _ (.tail _ hy)
theorem Qep {x:Qa}:∀{l:List Qa},srt l→(∀y∈l,y.Usage≠x.Usage)→∀y∈l.dropWhile (fun y=>ltA y x),ltA x y=true
 | [],_,_,y,hy=>by cases hy
 | a::l,hs,hu,y,hy=>by
  have hs':=List.pairwise_cons.1 hs
  rw [List.dropWhile_cons] at hy
  cases ha:ltA a x with
  | true =>
   rw [ha] at hy
   exact Qep hs'.2 (fun z hz=>hu z (.tail _ hz)) y hy
  | false =>
   rw [ha] at hy
   have hxa:ltA x a=true:=(Jar (hu a (.head _))).resolve_left (by rw [ha]; simp)
   simp only [Bool.false_eq_true,if_false] at hy
   rcases List.mem_cons.1 hy with rfl | hy
   ·exact hxa
   ·exact Qcs hxa (hs'.1 y hy)
theorem Qov {x:Qa}:∀{l:List Qa},∀y∈l.takeWhile (fun y=>ltA y x),ltA y x=true
 | a::l,y,hy=>by
  rw [List.takeWhile_cons] at hy
  cases ha:ltA a x with
  | true =>
   rw [ha] at hy
   rcases List.mem_cons.1 hy with rfl | hy
   ·exact ha
   ·exact Qov y hy
  | false=>rw [ha] at hy; cases hy
theorem Qxa {l:List Qa} {x:Qa} (hs:srt l) (hu:∀y∈l,y.Usage≠x.Usage):srt (Qlm l x):=by
 unfold Qlm
 have h:=List.takeWhile_append_dropWhile (p:=fun y=>ltA y x) (l:=l)
 have hs2:=hs
 rw [←h] at hs2
 obtain ⟨p1,p2,p3⟩:=List.pairwise_append.1 hs2
 rw [srt,List.pairwise_append]
 refine ⟨p1,List.pairwise_cons.2 ⟨Qep hs hu,p2⟩,fun a ha b hb=>?_⟩
 rcases List.mem_cons.1 hb with rfl | hb
 ·exact Qov a ha
 ·exact p3 a ha b hb
end Gx
namespace Gx
open Go Gd
set_option linter.unusedVariables false
set_option linter.unusedSimpArgs false
theorem Jas {α:Type} {l:List α} {k:Nat} (h:k≤l.length):slc l 0 (k:Int)=some (l.take k):=by
 unfold slc
 rw [if_pos ⟨by omega,by omega,by omega⟩]
 simp
theorem Qxb {α:Type} {l:List α} {k:Nat} (h:k≤l.length):slc l (k:Int) (l.length:Int)=some (l.drop k):=by
 unfold slc
 rw [if_pos ⟨by omega,by omega,by omega⟩]
 congr 1
 rw [Int.toNat_natCast,show ((l.length:Int) - (k:Int)).toNat=l.length - k by omega]
 exact List.take_of_length_le (by simp)
section
variable {α:Type} {p:α→Bool}
theorem O5:∀{l:List α},(l.takeWhile p).length≤l.length
 | []=>by simp
 | a::l=>by
  rw [List.takeWhile_cons]
  split
  ·simp only [List.length_cons]; have:=O5 (l:=l); omega
  ·simp
theorem Qxc:∀{l:List α} {i:Nat} (h:i<l.length),i<(l.takeWhile p).length→p l[i]=true
 | a::l,i,h,hi=>by
  rw [List.takeWhile_cons] at hi
  cases ha:p a with
  | false=>rw [ha] at hi; simp at hi
  | true =>
   rw [ha] at hi
   cases i with
   | zero=>simpa using ha
   | succ i=>simpa using Qxc (l:=l) (i:=i) (by simpa using h) (by simpa using hi)
theorem Qxd:∀{l:List α} {i:Nat} (h:i<l.length),i=(l.takeWhile p).length→p l[i]=false
 | a::l,i,h,hi=>by
  rw [List.takeWhile_cons] at hi
  cases ha:p a with
  | false =>
   rw [ha] at hi
   have:i=0:=by simpa using hi
   subst this
   simpa using ha
  | true =>
   rw [ha] at hi
   have hi':i=(l.takeWhile p).length+1:=by simpa using hi
   cases i with
   | zero=>omega
   | succ i=>simpa using Qxd (l:=l) (i:=i) (by simpa using h) (by omega)
theorem Qeq:∀{l:List α},l.take (l.takeWhile p).length=l.takeWhile p
 | []=>rfl
 | a::l=>by
  rw [List.takeWhile_cons]
  split
  ·simp only [List.length_cons,List.take_succ_cons]; rw [Qeq]
  ·rfl
theorem Ry:∀{l:List α},l.drop (l.takeWhile p).length=l.dropWhile p
 | []=>rfl
 | a::l=>by
  rw [List.takeWhile_cons,List.dropWhile_cons]
  split
  ·simp only [List.length_cons,List.drop_succ_cons]; exact Ry
  ·rfl
end
theorem Qi4 {l:List Qa} {x:Qa} {k:Nat} (hk:k≤l.length) (h:l.length≤100) :
  ((slc l 0 (k:Int)).bind fun s20=>(app 56 ([]:List Qa) s20).bind fun q21=>(app 56 q21 ([x]:List Qa)).bind fun q22=>(slc l (k:Int) (l.length:Int)).bind fun s23=>(app 56 q22 s23).bind fun q24=>some q24)=some (l.take k++x::l.drop k):=by
 rw [Jas hk,Option.bind_some,C1 (by simp; omega),Option.bind_some,C1 (by simp; omega),Option.bind_some,Qxb hk,Option.bind_some,C1 (by simp; omega),Option.bind_some]
 simp
theorem Qow {l:List Qa} {x:Qa} (h:l.length≤100):Z6 128 l x=some (Hd l x):=by
 unfold Z6 Hd zA
 cases hz:((x.Paid==0)&&(x.Owed==0)) with
 | true=>rfl
 | false =>
  simp only [Bool.false_eq_true,if_false,cond_false]
  obtain ⟨r,e1,rfl⟩:=Zd (f:=Zu 128 l x) (l.takeWhile fun y=>ltA y x).length (fun i s=>s=(i:Int)) (fun r=>r=((l.takeWhile fun y=>ltA y x).length:Int)) (fun i s hi hs=>by
   subst hs
   have hlen:=O5 (p:=fun y=>ltA y x) (l:=l)
   have key:Zu 128 l x (i:Int)=(if (if h:i<l.length then ltA l[i] x else false)=true then some (.inl (IntKind.wrap .i64 ((i:Int)+1))) else some (.inr (i:Int))):=by
    unfold Zu
    by_cases hlt:i<l.length
    ·rw [if_pos (by simpa using hlt),dif_pos hlt]
     simp only [Ko hlt,Option.bind_some,Jl2]
     have:(if (l[i].Start==x.Start)=true then some (decide (l[i].Usage<x.Usage)) else some false)=some ((l[i].Start==x.Start)&&decide (l[i].Usage<x.Usage)):=by cases (l[i].Start==x.Start)<;>rfl
     rw [this]
     simp only [Option.bind_some,Jl2]
     rfl
    ·rw [if_neg (by simpa using hlt),dif_neg hlt]
     rfl
   rw [key]
   by_cases hi2:i<(l.takeWhile fun y=>ltA y x).length
   ·have hlt:i<l.length:=by omega
    rw [dif_pos hlt,Qxc hlt hi2,if_pos rfl]
    exact .inl ⟨_,hi2,rfl,Za (by rw [Va]; omega)⟩
   ·have hie:i=(l.takeWhile fun y=>ltA y x).length:=by omega
    refine .inr ⟨(i:Int),?_,by rw [hie]⟩
    by_cases hlt:i<l.length
    ·rw [dif_pos hlt,Qxd (p:=fun y=>ltA y x) hlt hie]; rfl
    ·rw [dif_neg hlt]; rfl) (n:=128) (s:=0) (by have:=O5 (p:=fun y=>ltA y x) (l:=l); omega) rfl
  rw [e1,Option.bind_some]
  refine (Qi4 O5 h).trans ?_
  rw [Qeq,Ry]; rfl
end Gx
namespace Gx
open Go Gd
set_option linter.unusedVariables false
set_option linter.unusedSimpArgs false
theorem Qro {α:Type} {l:List α} {k j:Nat} (hk:k≤j) (hj:j<l.length):l[j]∈l.drop k:=by
 have h:j - k<(l.drop k).length:=by simp; omega
 have e:(l.drop k)[j - k]=l[j]:=by
  rw [List.getElem_drop]
  congr 1; omega
 rw [←e]
 exact List.getElem_mem h
theorem Qxe {a b:Qa} (h:ltA a b=true):ltA b a=false:=by
 cases hb:ltA b a with
 | false=>rfl
 | true=>have:=Qcs h hb; rw [Jaq] at this; cases this
theorem Qxf {l:List Qa} {x:Qa} (hs:srt l) (hu:∀y∈l,y.Usage≠x.Usage) (h:l.length≤100):Qw (Zm 128 l x) 128 (l.length:Int)=some (((l.takeWhile fun y=>ltA y x).length:Nat):Int):=by
 have hlen:=O5 (p:=fun y=>ltA y x) (l:=l)
 have key:∀j:Nat,j≤l.length→Zm 128 l x (j:Int)=(if (if h:0<j∧j - 1<l.length then ltA x l[j - 1] else false)=true then some (.inl ((j - 1:Nat):Int)) else some (.inr (j:Int))):=by
  intro j hj
  unfold Zm
  by_cases h0:0<j
  ·have hlt:j - 1<l.length:=by omega
   have hw:IntKind.wrap .i64 ((j:Int) - 1)=((j - 1:Nat):Int):=by rw [Se (by omega) (by omega)]; omega
   rw [if_pos (by simpa using h0),dif_pos ⟨h0,hlt⟩]
   simp only [hw,Ko hlt,Option.bind_some,Qrn]
  ·rw [if_neg (by simpa using h0),dif_neg (fun h=>h0 h.1)]
   rfl
 obtain ⟨r,e1,rfl⟩:=Zd (f:=Zm 128 l x) (l.length - (l.takeWhile fun y=>ltA y x).length) (fun i s=>s=((l.length - i:Nat):Int)) (fun r=>r=(((l.takeWhile fun y=>ltA y x).length:Nat):Int)) (fun i s hi hs'=>by
  subst hs'
  rw [key _ (by omega)]
  by_cases hi2:i<l.length - (l.takeWhile fun y=>ltA y x).length
  ·have hlt:l.length - i - 1<l.length:=by omega
   have hgt:ltA x l[l.length - i - 1]=true:=Qep hs hu _ (by
    rw [←Ry]
    exact Qro (by omega) hlt)
   rw [dif_pos ⟨by omega,hlt⟩,hgt,if_pos rfl]
   exact .inl ⟨_,hi2,rfl,by congr 1⟩
  ·have hie:l.length - i=(l.takeWhile fun y=>ltA y x).length:=by omega
   refine .inr ⟨_,?_,by rw [←hie]⟩
   by_cases hlt:0<l.length - i∧l.length - i - 1<l.length
   ·rw [dif_pos hlt,Qxe (Qxc (p:=fun y=>ltA y x) hlt.2 (by omega))]; rfl
   ·rw [dif_neg hlt]; rfl) (n:=128) (s:=(l.length:Int)) (by omega) rfl
 exact e1
abbrev nd (l:List Qa):Prop:=l.Pairwise fun a b=>a.Usage≠b.Usage
theorem Qi5:∀{l acc:List Qa},srt acc→nd l→(∀a∈acc,∀b∈l,a.Usage≠b.Usage)→acc.length+l.length≤100→srt (l.foldl Hd acc)∧(l.foldl Hd acc).length≤acc.length+l.length∧(∀y∈l.foldl Hd acc,y∈acc∨y∈l)
 | [],acc,hs,_,_,_=>⟨hs,by simp,fun y hy=>.inl hy⟩
 | x::l,acc,hs,hn,hd,hl=>by
  have hn':=List.pairwise_cons.1 hn
  have hu:∀y∈acc,y.Usage≠x.Usage:=fun y hy=>hd y hy x (.head _)
  have hp:srt (Hd acc x)∧(Hd acc x).length≤acc.length+1∧∀y∈Hd acc x,y=x∨y∈acc:=by
   unfold Hd
   cases zA x with
   | true=>exact ⟨hs,by simp,fun y hy=>.inr hy⟩
   | false =>
    refine ⟨Qxa hs hu,?_,fun y hy=>Qw9.1 hy⟩
    simp only [cond_false,Qlm,List.length_append,List.length_cons]
    have:=congrArg List.length (List.takeWhile_append_dropWhile (p:=fun y=>ltA y x) (l:=acc))
    simp only [List.length_append] at this
    omega
  obtain ⟨q1,q2,q3⟩:=Qi5 (l:=l) hp.1 hn'.2 (fun a ha b hb=>by
   rcases hp.2.2 a ha with rfl | ha
   ·exact hn'.1 b hb
   ·exact hd a ha b (.tail _ hb)) (by simp at hl; omega)
  refine ⟨q1,by simp only [List.foldl_cons,List.length_cons]; omega,fun y hy=>?_⟩
  rcases q3 y hy with h | h
  ·rcases hp.2.2 y h with rfl | h
   ·exact .inr (.head _)
   ·exact .inl h
  ·exact .inr (.tail _ h)
theorem Qln {L:List Qa} (hn:nd L) (hl:L.length≤100):Z5 128 L=some (L.foldl Hd []):=by
 have main:Qw (K2 128 L) 128 (0,[])=some (L.foldl Hd []):=by
  refine Qrm (σ:=List Qa) L (by rw [Va]; omega) (fun v i=>(i,v)) (fun i v=>v=(L.take i).foldl Hd []) (fun v l=>l.foldl Hd v) (fun s _ hd=>?_) (fun s i y ys hy hd hi hw hdr hI=>?_) (s:=[]) (by omega) rfl
  ·unfold K2; dsimp only; rw [if_neg (by rw [hd]; simp)]; rfl
  ·have hlt:i<L.length:=by have:=List.getElem?_eq_some_iff.1 hy; exact this.1
   have hyi:L[i]=y:=(List.getElem?_eq_some_iff.1 hy).2
   have hsplit:L.take i++y::ys=L:=by rw [←hdr]; exact List.take_append_drop i L
   have hn2:=hn
   rw [←hsplit] at hn2
   obtain ⟨n1,n2,n3⟩:=List.pairwise_append.1 hn2
   obtain ⟨f1,f2,f3⟩:=Qi5 (l:=L.take i) (acc:=[]) .nil n1 (fun a ha=>by cases ha) (by simp; omega)
   rw [←hI] at f1 f2 f3
   have hsl:s.length≤100:=by simp at f2; omega
   have hu:∀z∈s,z.Usage≠y.Usage:=fun z hz=>by
    rcases f3 z hz with h | h
    ·cases h
    ·exact n3 z h y (.head _)
   unfold K2; dsimp only
   rw [if_pos hd,hi,Option.bind_some]
   refine .inl ⟨Hd s y,?_,?_,rfl⟩
   ·unfold Hd zA
    cases hz:((y.Paid==0)&&(y.Owed==0)) with
    | true=>simp only [if_true,Option.bind_some,cond_true,hw]
    | false =>
     simp only [Bool.false_eq_true,if_false,cond_false]
     rw [Qxf f1 hu hsl,Option.bind_some]
     have:=Qi4 (l:=s) (x:=y) (k:=(s.takeWhile fun z=>ltA z y).length) O5 hsl
     rw [this,Option.bind_some,hw,Qeq,Ry]; rfl
   ·rw [hI,show L.take (i+1)=L.take i++[y] by rw [List.take_add_one,hy]; rfl,List.foldl_append]
    rfl
 unfold Z5
 rw [main]; rfl
end Gx
namespace Gx
open Go Gd
set_option linter.unusedVariables false
set_option linter.unusedSimpArgs false
abbrev ndR (l:List Q6):Prop:=l.Pairwise fun a b=>a.Usage.Id≠b.Usage.Id
theorem O6 {ν:Type} {a b:Int} {y:ν}:∀{l:List (Int×ν)},Q4 (k:=.int .i64) a (Vp (k:=.int .i64) b y l)=if a=b then some y else Q4 (k:=.int .i64) a l
 | []=>by
  by_cases h:a=b
  ·simp [Vp,Q4,eqK,h]
  ·simp [Vp,Q4,eqK,h,beq_eq_false_iff_ne.2 h]
 | x::l=>by
  have ih:=O6 (a:=a) (b:=b) (y:=y) (l:=l)
  by_cases h:a=b
  ·subst h
   rw [if_pos rfl] at ih ⊢
   simp only [Vp]
   cases hb:eqK (.int .i64) a x.1 with
   | true=>simp [Q4,eqK]
   | false=>simp only [cond_false,Q4,hb]; exact ih
  ·rw [if_neg h] at ih ⊢
   simp only [Vp]
   cases hb:eqK (.int .i64) b x.1 with
   | true =>
    have hbx:b=x.1:=by simpa [eqK] using hb
    have hax:eqK (.int .i64) a x.1=false:=by simp [eqK]; rw [←hbx]; exact h
    have hab:eqK (.int .i64) a b=false:=by simpa [eqK] using h
    simp only [cond_true,Q4,hab,hax,cond_false]
   | false=>simp only [cond_false,Q4,ih]
end Gx
namespace Gx
open Go Gd
set_option linter.unusedVariables false
set_option linter.unusedSimpArgs false
def Vu (l:List Qa) (id:Int):Option Qa:=l.find? fun a=>a.Usage==id
theorem L4 {l:List Qa} {id:Int}:Vu l id=none↔∀r∈l,r.Usage≠id:=by
 unfold Vu
 rw [List.find?_eq_none]
 simp
theorem L5 {l:List Qa} (h:nd l) (r:Qa) (hr:r∈l):Vu l r.Usage=some r:=by
 induction l with
 | nil=>cases hr
 | cons a l ih =>
  have h':=List.pairwise_cons.1 h
  unfold Vu
  rw [List.find?_cons]
  rcases List.mem_cons.1 hr with e | hr
  ·rw [←e,show (r.Usage==r.Usage)=true from beq_self_eq_true _]
  ·rw [show (a.Usage==r.Usage)=false from beq_eq_false_iff_ne.2 (h'.1 r hr)]
   exact ih h'.2 hr
abbrev fz (L:List Qa):List Qa:=L.foldl Hd []
end Gx
namespace Gx
open Go Gd
set_option linter.unusedVariables false
set_option linter.unusedSimpArgs false
theorem Us {α:Type} {l:List α} {i:Nat} (h:i<l.length):l.take (i+1)=l.take i++[l[i]]:=by
 rw [List.take_add_one,List.getElem?_eq_getElem h]; rfl
end Gx
namespace Gx
open Go Gd
set_option linter.unusedVariables false
set_option linter.unusedSimpArgs false
abbrev big:Int:=1125899906842624
def inR (r:Q6):Prop := -big≤r.Paid∧r.Paid≤big ∧ -big≤r.Owed∧r.Owed≤big
structure OkR (l:List Q6):Prop where
 n:ndR l
 len:l.length≤20
 b:∀r∈l,inR r
theorem O7:∀{l acc:List Qa},(l.foldl Hd acc).length≤acc.length+l.length
 | [],acc=>by simp
 | x::l,acc=>by
  have h:(Hd acc x).length≤acc.length+1:=by
   unfold Hd Qlm
   cases zA x with
   | true=>simp
   | false =>
    have:=congrArg List.length (List.takeWhile_append_dropWhile (p:=fun y=>ltA y x) (l:=acc))
    simp only [List.length_append] at this
    simp only [cond_false,List.length_append,List.length_cons]; omega
  have:=O7 (l:=l) (acc:=Hd acc x)
  simp only [List.foldl_cons,List.length_cons]; omega
theorem Qlo (L:List Qa):(fz L).length≤L.length:=by
 have:=O7 (l:=L) (acc:=[])
 simpa using this
theorem Qxg (L M:List Qa):fz (L++M)=M.foldl Hd (fz L):=List.foldl_append
theorem w0 {r:Q6} (h:inR r):IntKind.wrap .i64 (r.Paid - 0)=r.Paid∧IntKind.wrap .i64 (r.Owed - 0)=r.Owed:=by
 unfold inR big at h
 rw [Int.sub_zero,Int.sub_zero,Se (by omega) (by omega),Se (by omega) (by omega)]
 exact ⟨rfl,rfl⟩
theorem Qrp (l:List Qa) (hl:l.length≤100):Zn 128 l l=some true:=by
 unfold Zn
 rw [if_neg (by simp)]
 obtain ⟨r,e1,rfl⟩:=Qw8 (f:=Xc 128 l l) (n:=l.length) (N:=128) (fun r=>r=.inl ()) (by omega) (fun i hi=>by
  unfold Xc
  by_cases hlt:i<l.length
  ·rw [if_pos (by simpa using hlt),Ko hlt,Option.bind_some,Option.bind_some,if_neg (by simp)]
   exact .inl ⟨hlt,by rw [show IntKind.wrap .i64 ((i:Int)+1)=((i+1:Nat):Int) from Za (by rw [Va]; omega)]⟩
  ·rw [if_neg (by simpa using hlt)]
   exact .inr ⟨_,rfl,rfl⟩)
 rw [e1]; rfl
end Gx
namespace Gx
open Go Gd
set_option linter.unusedVariables false
set_option linter.unusedSimpArgs false
def E6 (a:Qa):Qa:=a
def Jjd (x y:Qa):Qa:=(y.Usage,y.Account,y.Sub,y.Kind,y.Start,IntKind.wrap .i64 (y.Paid+x.Paid),IntKind.wrap .i64 (y.Owed+x.Owed))
def He (old:List Qa) (y:Qa):Qa:=match Vu old y.Usage with | none=>E6 y | some x=>Jjd x y
def Qer (old new:List Qa):List Qa:=new.map (He old)++(old.filter fun x=>(Vu new x.Usage).isNone).map E6
theorem Qct (l:List Qa) (id:Int):(Vu l id).isSome=l.any fun r=>r.Usage==id:=by
 unfold Vu
 induction l with
 | nil=>rfl
 | cons a l ih =>
  rw [List.find?_cons,List.any_cons]
  cases h:a.Usage==id with
  | true=>simp
  | false=>simpa using ih
def Qlp (l:List Qa) (m:List (Int×Int)):Prop:=∀id,(match Q4 (k:=.int .i64) id m with | none=>Vu l id=none | some z=>∃(j:Nat) (r:Qa),z=(j:Int)∧l[j]?=some r∧Vu l id=some r)
theorem Jat {l:List Qa} (hl:l.length≤100) (hn:nd l):∃m,Qw (Vv 128 l) 128 (0,[])=some m∧Qlp l m:=by
 obtain ⟨m,e1,p1⟩:=Zd (f:=Vv 128 l) l.length (fun i s=>s.1=(i:Int)∧∀id,(match Q4 (k:=.int .i64) id s.2 with | none=>∀(k:Nat) y,k<i→l[k]?=some y→y.Usage≠id | some z=>∃(j:Nat) (r:Qa),z=(j:Int)∧l[j]?=some r∧r.Usage=id))
  (fun m=>Qlp l m) (fun i s hi ⟨hs,hI⟩=>by
   obtain ⟨a,m⟩:=s
   have hs:a=(i:Int):=hs
   subst hs
   unfold Vv
   dsimp only
   by_cases hlt:i<l.length
   ·rw [if_pos (by simpa using hlt),Ko hlt,Option.bind_some]
    refine .inl ⟨_,hlt,rfl,Za (by rw [Va]; omega),fun id=>?_⟩
    have h:=hI id
    show match Q4 (k:=.int .i64) id (Vp (k:=.int .i64) l[i].Usage (i:Int) m) with | none=>_ | some z=>_
    rw [O6]
    by_cases he:id=l[i].Usage
    ·rw [if_pos he]
     exact ⟨i,l[i],rfl,List.getElem?_eq_getElem hlt,he.symm⟩
    ·rw [if_neg he]
     simp only at h
     split
     ·rename_i hf
      rw [hf] at h
      intro k y hk hy
      rcases Nat.lt_or_ge k i with h1 | h1
      ·exact h k y h1 hy
      ·have hki:k=i:=by omega
       subst hki
       rw [List.getElem?_eq_getElem hlt] at hy
       injection hy with hy
       subst hy
       exact fun e=>he e.symm
     ·rename_i z hf
      rw [hf] at h
      exact h
   ·rw [if_neg (by simpa using hlt)]
    refine .inr ⟨_,rfl,fun id=>?_⟩
    have h:=hI id
    simp only at h
    split
    ·rename_i hf
     rw [hf] at h
     refine L4.2 fun r hr=>?_
     obtain ⟨k,hk⟩:=List.getElem?_of_mem hr
     exact h k r (by have:=(List.getElem?_eq_some_iff.1 hk).1; omega) hk
    ·rename_i z hf
     rw [hf] at h
     obtain ⟨j,r,h1,h2,h3⟩:=h
     exact ⟨j,r,h1,h2,by rw [←h3]; exact L5 hn r (List.mem_of_getElem? h2)⟩) (n:=128) (s:=(0,[])) (by omega) ⟨rfl,fun id=>by simp [Q4]⟩
 exact ⟨m,e1,p1⟩
theorem Jl3 {x0 x1:List Qa} {m:List (Int×Int)} (hm:Qlp x0 m) (h1:x1.length≤100):∃r:List (Int×Bool)×List Qa,Qw (Uq 128 x1 m x0) 128 (0,[],[])=some r∧(∀id,(Q4 (k:=.int .i64) id r.1).getD false=((Vu x0 id).isSome&&(Vu x1 id).isSome))∧r.2=x1.map (He x0):=by
 refine Zd x1.length (fun i (s:Int×List (Int×Bool)×List Qa)=>s.1=(i:Int)∧(∀id,(Q4 (k:=.int .i64) id s.2.1).getD false=((Vu x0 id).isSome&&(x1.take i).any fun r=>r.Usage==id))∧s.2.2=(x1.take i).map (He x0)) (fun (r:List (Int×Bool)×List Qa)=>(∀id,(Q4 (k:=.int .i64) id r.1).getD false=((Vu x0 id).isSome&&(Vu x1 id).isSome))∧r.2=x1.map (He x0)) (fun i s hi ⟨hs,hI,hO⟩=>?_) (n:=128) (s:=(0,[],[])) (by omega) ⟨rfl,fun id=>by simp [Q4],rfl⟩
 obtain ⟨a,m2,out⟩:=s
 have hs:a=(i:Int):=hs
 have hO:out=(x1.take i).map (He x0):=hO
 subst hs; subst hO
 unfold Uq
 dsimp only
 by_cases hlt:i<x1.length
 ·have hw:IntKind.wrap .i64 ((i:Int)+1)=((i+1:Nat):Int):=Za (by rw [Va]; omega)
  rw [if_pos (by simpa using hlt),Ko hlt,Option.bind_some,show Z8 128 x1[i]=some x1[i].Usage from rfl,Option.bind_some]
  have hk:=hm x1[i].Usage
  cases hf:Q4 (k:=.int .i64) x1[i].Usage m with
  | none =>
   rw [hf] at hk
   have hk:Vu x0 x1[i].Usage=none:=hk
   rw [if_neg (by simp),show Wm 128 x1[i]=some (E6 x1[i]) from rfl,Option.bind_some,C1 (by simp; omega),Option.bind_some,Option.bind_some,hw]
   refine .inl ⟨_,hlt,rfl,rfl,fun id=>?_,?_⟩
   ·rw [Us hlt,List.any_append]
    have h:=hI id
    simp only at h ⊢
    rw [h]
    by_cases he:id=x1[i].Usage
    ·rw [he,hk]; rfl
    ·simp [show (x1[i].Usage==id)=false from beq_eq_false_iff_ne.2 fun e=>he e.symm]
   ·rw [Us hlt,List.map_append]
    simp [He,hk]
  | some z =>
   rw [hf] at hk
   obtain ⟨j,r,hz,hj,hl⟩:=hk
   subst hz
   have hij:idx x0 (j:Int)=some r:=by
    obtain ⟨h2,h3⟩:=List.getElem?_eq_some_iff.1 hj
    rw [Ko h2,h3]
   rw [if_pos (by simp)]
   simp only [Option.getD_some]
   rw [hij,Option.bind_some,show Ez 128 r x1[i]=some (Jjd r x1[i]) from rfl,Option.bind_some,C1 (by simp; omega),Option.bind_some,Option.bind_some,hw]
   refine .inl ⟨_,hlt,rfl,rfl,fun id=>?_,?_⟩
   ·rw [Us hlt,List.any_append]
    have h:=hI id
    simp only at h ⊢
    rw [O6]
    by_cases he:id=x1[i].Usage
    ·rw [if_pos he,he,hl]; simp
    ·rw [if_neg he,h]
     simp [show (x1[i].Usage==id)=false from beq_eq_false_iff_ne.2 fun e=>he e.symm]
   ·rw [Us hlt,List.map_append]
    simp [He,hl]
 ·have hie:i=x1.length:=by omega
  rw [if_neg (by simpa using hlt)]
  refine .inr ⟨_,rfl,fun id=>?_,?_⟩
  ·have h:=hI id
   simp only at h ⊢
   rw [h,Qct x1,hie,List.take_length]
  ·rw [hie,List.take_length]
theorem Jl4 {x0 x1:List Qa} {m2:List (Int×Bool)} {o:List Qa} (hm:∀id,(Q4 (k:=.int .i64) id m2).getD false=((Vu x0 id).isSome&&(Vu x1 id).isSome)) (hn:nd x0) (h0:x0.length≤100) (ho:o.length≤100):Qw (Vw 128 x0 m2) 128 (0,o)=some (o++(x0.filter fun x=>(Vu x1 x.Usage).isNone).map E6):=by
 obtain ⟨r,e1,rfl⟩:=Zd (f:=Vw 128 x0 m2) x0.length (fun i s=>s.1=(i:Int)∧s.2=o++((x0.take i).filter fun x=>(Vu x1 x.Usage).isNone).map E6) (fun r=>r=o++(x0.filter fun x=>(Vu x1 x.Usage).isNone).map E6) (fun i s hi ⟨hs,hO⟩=>by
  obtain ⟨a,out⟩:=s
  have hs:a=(i:Int):=hs
  have hO:out=o++((x0.take i).filter fun x=>(Vu x1 x.Usage).isNone).map E6:=hO
  subst hs; subst hO
  unfold Vw
  dsimp only
  by_cases hlt:i<x0.length
  ·have hw:IntKind.wrap .i64 ((i:Int)+1)=((i+1:Nat):Int):=Za (by rw [Va]; omega)
   rw [if_pos (by simpa using hlt),Ko hlt,Option.bind_some,show Z8 128 x0[i]=some x0[i].Usage from rfl,Option.bind_some,hm,L5 hn x0[i] (List.getElem_mem hlt)]
   have hlen:(((x0.take i).filter fun x=>(Vu x1 x.Usage).isNone).map E6).length≤100:=by
    rw [List.length_map]
    have:=List.length_filter_le (fun x=>(Vu x1 x.Usage).isNone) (x0.take i)
    simp at this; omega
   cases hl:Vu x1 x0[i].Usage with
   | none =>
    rw [if_pos (by rfl),show Wn 128 x0[i]=some (E6 x0[i]) from rfl,Option.bind_some,C1 (by simp only [List.length_append,List.length_cons,List.length_nil]; omega),Option.bind_some,Option.bind_some,hw]
    refine .inl ⟨_,hlt,rfl,rfl,?_⟩
    rw [Us hlt,List.filter_append,List.map_append]
    simp [hl]
   | some z =>
    rw [if_neg (by simp),Option.bind_some,hw]
    refine .inl ⟨_,hlt,rfl,rfl,?_⟩
    rw [Us hlt,List.filter_append,List.map_append]
    simp [hl]
  ·have hie:i=x0.length:=by omega
   rw [if_neg (by simpa using hlt)]
   refine .inr ⟨_,rfl,?_⟩
   rw [hie,List.take_length]) (n:=128) (s:=(0,o)) (by omega) ⟨rfl,by simp⟩
 exact e1
theorem Qes (old:List Qa) (y:Qa):(He old y).Usage=y.Usage:=by
 unfold He; split<;>rfl
theorem Jau {old new:List Qa} (h0:nd old) (h1:nd new):nd (Qer old new):=by
 unfold Qer
 rw [nd,List.pairwise_append]
 refine ⟨?_,?_,fun a ha b hb=>?_⟩
 ·rw [List.pairwise_map]
  exact h1.imp fun h=>by rw [Qes,Qes]; exact h
 ·rw [List.pairwise_map]
  exact (h0.sublist List.filter_sublist).imp fun h=>h
 ·obtain ⟨y,hy,rfl⟩:=List.mem_map.1 ha
  obtain ⟨x,hx,rfl⟩:=List.mem_map.1 hb
  have hx2:=(List.mem_filter.1 hx).2
  rw [Qes]
  exact L4.1 (show Vu new x.Usage=none by simpa using hx2) y hy
theorem Qi6 (old new:List Qa):(Qer old new).length≤old.length+new.length:=by
 unfold Qer
 have:=List.length_filter_le (fun x=>(Vu new x.Usage).isNone) old
 simp only [List.length_append,List.length_map]; omega
theorem Qlq {x0 x1:List Qa} (h0:x0.length≤50) (h1:x1.length≤50) (n0:nd x0) (n1:nd x1):Hu 128 x0 x1=some (fz (Qer x0 x1)):=by
 obtain ⟨m,e1,hm⟩:=Jat (l:=x0) (by omega) n0
 obtain ⟨⟨m2,o⟩,e2,p2,p3⟩:=Jl3 (x0:=x0) (x1:=x1) hm (by omega)
 have p3:o=x1.map (He x0):=p3
 have e3:=Jl4 (o:=o) p2 n0 (by omega) (by rw [p3]; simp; omega)
 have hlen:=Qi6 x0 x1
 unfold Hu Zp
 rw [e1,Option.bind_some,e2,Option.bind_some]
 dsimp only
 rw [e3,Option.bind_some,p3]
 show ((Z5 128 (Qer x0 x1)).bind fun r39=>some r39).bind (fun r1=>some r1)=_
 rw [Qln (Jau n0 n1) (by omega)]
 rfl
end Gx
namespace Gx
open Go Gd
set_option linter.unusedVariables false
set_option linter.unusedSimpArgs false
theorem Qxh (A:List Qa) (y:Qa):(He A y).Usage=y.Usage:=by
 unfold He; split<;>rfl
theorem Jl5 {A:List Qa} (hn:nd A) (hl:A.length≤100) (y:Qa):Qw (U0 128 A) 128 (0,y)=some (He A y):=by
 obtain ⟨r,e1,rfl⟩:=Zd (f:=U0 128 A) A.length (fun i s=>s=((i:Int),He (A.take i) y)) (fun r=>r=He A y) (fun i s hi hs=>by
  subst hs
  unfold U0
  dsimp only
  by_cases hlt:i<A.length
  ·have hw:IntKind.wrap .i64 ((i:Int)+1)=((i+1:Nat):Int):=Za (by rw [Va]; omega)
   rw [if_pos (by simpa using hlt)]
   simp only [Ko hlt,Option.bind_some]
   rw [hw,Qxh]
   have hsp:A.take (i+1)=A.take i++[A[i]]:=Us hlt
   by_cases he:A[i].Usage=y.Usage
   ·have hno:Vu (A.take i) y.Usage=none:=by
     refine L4.2 fun r hr=>?_
     have h2:=hn.sublist (List.take_sublist (i+1) A)
     rw [hsp] at h2
     rw [←he]
     exact (List.pairwise_append.1 h2).2.2 r hr A[i] (.head _)
    have hnew:He (A.take (i+1)) y=Jjd A[i] y:=by
     have hs2:Vu (A.take (i+1)) y.Usage=some A[i]:=by
      rw [←he]
      exact L5 (hn.sublist (List.take_sublist _ _)) A[i] (by rw [hsp]; exact List.mem_append_right _ (.head _))
     unfold He; rw [hs2]
    have hold:He (A.take i) y=y:=by unfold He; rw [hno]; rfl
    rw [if_pos (by simpa using he),hold,Option.bind_some]
    exact .inl ⟨_,hlt,rfl,by rw [hnew]; rfl⟩
   ·rw [if_neg (by simpa using he),Option.bind_some]
    refine .inl ⟨_,hlt,rfl,?_⟩
    have hs2:Vu (A.take (i+1)) y.Usage=Vu (A.take i) y.Usage:=by
     unfold Vu
     rw [hsp,List.find?_append]
     simp [he]
    unfold He; rw [hs2]
  ·rw [if_neg (by simpa using hlt)]
   have hie:i=A.length:=by omega
   exact .inr ⟨_,rfl,by rw [hie,List.take_length]⟩) (n:=128) (s:=(0,y)) (by omega) rfl
 exact e1
theorem Jl6 {A B:List Qa} (hn:nd A) (hl:A.length≤50) (hb:B.length≤50):Qw (U1 128 B A) 128 ([],0)=some (fz (B.map (He A))):=by
 obtain ⟨r,e1,rfl⟩:=Zd (f:=U1 128 B A) B.length (fun i s=>s=(fz ((B.take i).map (He A)),(i:Int))) (fun r=>r=fz (B.map (He A))) (fun i s hi hs=>by
  subst hs
  unfold U1
  dsimp only
  by_cases hlt:i<B.length
  ·have hw:IntKind.wrap .i64 ((i:Int)+1)=((i+1:Nat):Int):=Za (by rw [Va]; omega)
   rw [if_pos (by simpa using hlt),Ko hlt,Option.bind_some,Jl5 hn (by omega),Option.bind_some,hw,
    Qow (by have:=Qlo ((B.take i).map (He A)); simp only [List.length_map,List.length_take] at *; omega),Option.bind_some]
   refine .inl ⟨_,hlt,rfl,?_⟩
   rw [Us hlt,List.map_append,Qxg]
   rfl
  ·rw [if_neg (by simpa using hlt)]
   have hie:i=B.length:=by omega
   exact .inr ⟨_,rfl,by rw [hie,List.take_length]⟩) (n:=128) (s:=([],0)) (by omega) rfl
 exact e1
theorem Jl7 {A B:List Qa} (hb:B.length≤50) {j:Nat} (hj:j<A.length):Qw (U2 128 B A (j:Int)) 128 (false,0)=some (Vu B A[j].Usage).isSome:=by
 obtain ⟨r,e1,rfl⟩:=Zd (f:=U2 128 B A (j:Int)) B.length (fun i s=>s=((B.take i).any fun r=>r.Usage==A[j].Usage,(i:Int))) (fun r=>r=(Vu B A[j].Usage).isSome) (fun i s hi hs=>by
  subst hs
  unfold U2
  dsimp only
  by_cases hlt:i<B.length
  ·have hw:IntKind.wrap .i64 ((i:Int)+1)=((i+1:Nat):Int):=Za (by rw [Va]; omega)
   rw [if_pos (by simpa using hlt)]
   simp only [Ko hlt,Ko hj,Option.bind_some,hw]
   refine .inl ⟨(((B.take (i+1)).any fun r=>r.Usage==A[j].Usage),((i+1:Nat):Int)),hlt,?_,rfl⟩
   rw [Us hlt,List.any_append]
   cases (B.take i).any fun r=>r.Usage==A[j].Usage<;>simp
  ·rw [if_neg (by simpa using hlt)]
   have hie:i=B.length:=by omega
   exact .inr ⟨_,rfl,by rw [hie,List.take_length,Qct]⟩) (n:=128) (s:=(false,0)) (by omega) rfl
 exact e1
theorem Jl8 {A B o:List Qa} (hl:A.length≤50) (hb:B.length≤50) (ho:o.length≤50):Qw (U3 128 A B) 128 (o,0)=some (((A.filter fun x=>(Vu B x.Usage).isNone).map E6).foldl Hd o):=by
 obtain ⟨r,e1,rfl⟩:=Zd (f:=U3 128 A B) A.length (fun i s=>s=((((A.take i).filter fun x=>(Vu B x.Usage).isNone).map E6).foldl Hd o,(i:Int))) (fun r=>r=((A.filter fun x=>(Vu B x.Usage).isNone).map E6).foldl Hd o) (fun i s hi hs=>by
  subst hs
  unfold U3
  dsimp only
  by_cases hlt:i<A.length
  ·have hw:IntKind.wrap .i64 ((i:Int)+1)=((i+1:Nat):Int):=Za (by rw [Va]; omega)
   have hlen:((((A.take i).filter fun x=>(Vu B x.Usage).isNone).map E6).foldl Hd o).length≤100:=by
    have a1:=O7 (l:=((A.take i).filter fun x=>(Vu B x.Usage).isNone).map E6) (acc:=o)
    have a2:=List.length_filter_le (fun x=>(Vu B x.Usage).isNone) (A.take i)
    simp only [List.length_map,List.length_take] at *
    omega
   rw [if_pos (by simpa using hlt),Jl7 hb hlt,Option.bind_some,hw]
   cases hk:Vu B A[i].Usage with
   | none =>
    rw [if_pos (by rfl),Ko hlt,Option.bind_some,Qow hlen,Option.bind_some,Option.bind_some]
    refine .inl ⟨_,hlt,rfl,?_⟩
    rw [Us hlt,List.filter_append,List.map_append,List.foldl_append]
    simp [hk,E6]
   | some z =>
    rw [if_neg (by simp),Option.bind_some]
    refine .inl ⟨_,hlt,rfl,?_⟩
    rw [Us hlt,List.filter_append,List.map_append,List.foldl_append]
    simp [hk]
  ·rw [if_neg (by simpa using hlt)]
   have hie:i=A.length:=by omega
   exact .inr ⟨_,rfl,by rw [hie,List.take_length]⟩) (n:=128) (s:=(o,0)) (by omega) rfl
 exact e1
theorem Jl9 {A B:List Qa} (hn:nd A) (hl:A.length≤50) (hb:B.length≤50):Kn 128 A B=some (fz (Qer A B)):=by
 unfold Kn
 rw [Jl6 hn hl hb,Option.bind_some,Jl8 hl hb (by have:=Qlo (B.map (He A)); simp only [List.length_map] at *; omega),Option.bind_some]
 unfold Qer
 rw [Qxg]
theorem Jje (l:List Qa) (hl:l.length≤20) (i:Nat) (hi:i<l.length):∃r,Qw (Uh 128 (i:Int) l l[i]) 128 0=some r∧(r=.inr false∨(r=.inl ()∧∀a∈l.take i,a.Usage≠l[i].Usage)):=by
 refine Zd (f:=Uh 128 (i:Int) l l[i]) i (fun k s=>s=(k:Int)∧∀a∈l.take k,a.Usage≠l[i].Usage) (fun r=>r=.inr false∨(r=.inl ()∧∀a∈l.take i,a.Usage≠l[i].Usage)) (fun k s hk ⟨hs,hI⟩=>?_) (n:=128) (s:=0) (by omega) ⟨rfl,by simp⟩
 subst hs
 unfold Uh
 by_cases hlt:k<i
 ·have hkl:k<l.length:=by omega
  have hw:IntKind.wrap .i64 ((k:Int)+1)=((k+1:Nat):Int):=Za (by rw [Va]; omega)
  rw [if_pos (by simpa using hlt),Ko hkl,Option.bind_some]
  by_cases he:l[k].Usage=l[i].Usage
  ·rw [if_pos (by simpa using he)]
   exact .inr ⟨_,rfl,.inl rfl⟩
  ·rw [if_neg (by simpa using he),hw]
   refine .inl ⟨_,hlt,rfl,rfl,fun a ha=>?_⟩
   rw [Us hkl] at ha
   rcases List.mem_append.1 ha with ha | ha
   ·exact hI a ha
   ·rw [List.mem_singleton] at ha
    rw [ha]; exact he
 ·rw [if_neg (by simpa using hlt)]
  have hie:k=i:=by omega
  subst hie
  exact .inr ⟨_,rfl,.inr ⟨rfl,hI⟩⟩
theorem Qa3 (l:List Qa):∃b,Uf 128 l 20=some b∧(b=true→nd l∧l.length≤20):=by
 unfold Uf
 by_cases hl:l.length≤20
 ·rw [if_neg (by simp; omega)]
  obtain ⟨r,e1,p1⟩:=Zd (f:=Z7 128 l) l.length (fun i s=>s=(i:Int)∧nd (l.take i)) (fun r=>r=.inr false∨(r=.inl ()∧nd l)) (fun i s hi ⟨hs,hn⟩=>by
   subst hs
   unfold Z7
   by_cases hlt:i<l.length
   ·have hw:IntKind.wrap .i64 ((i:Int)+1)=((i+1:Nat):Int):=Za (by rw [Va]; omega)
    rw [if_pos (by simpa using hlt),Ko hlt,Option.bind_some]
    split
    ·exact .inr ⟨_,rfl,.inl rfl⟩
    ·obtain ⟨r,e2,p2⟩:=Jje l hl i hlt
     rw [e2,Option.bind_some]
     rcases p2 with rfl | ⟨rfl,hu⟩
     ·exact .inr ⟨_,rfl,.inl rfl⟩
     ·dsimp only
      have hbool:∃b,(if decide ((i:Int)>0)=true then
        (idx l (IntKind.wrap .i64 ((i:Int) - 1))).bind fun x12 =>
        (if (decide (x12.Start>l[i].Start)) then some true else
         (idx l (IntKind.wrap .i64 ((i:Int) - 1))).bind fun x16 =>
         (if (x16.Start==l[i].Start) then
          (idx l (IntKind.wrap .i64 ((i:Int) - 1))).bind fun x18 =>
          some (decide (x18.Usage>l[i].Usage))
         else some false:Option (Bool)).bind fun v19=>some v19:Option (Bool)).bind fun v20=>some v20
       else some false:Option (Bool))=some b:=by
       by_cases h0:0<i
       ·have hlt2:i - 1<l.length:=by omega
        have hw2:IntKind.wrap .i64 ((i:Int) - 1)=((i - 1:Nat):Int):=by rw [Se (by omega) (by omega)]; omega
        rw [if_pos (by simpa using h0)]
        simp only [hw2,Ko hlt2,Option.bind_some]
        split
        ·exact ⟨_,rfl⟩
        ·split
         ·exact ⟨_,rfl⟩
         ·exact ⟨_,rfl⟩
       ·rw [if_neg (by simpa using h0)]
        exact ⟨_,rfl⟩
      obtain ⟨b,hb⟩:=hbool
      rw [hb,Option.bind_some]
      cases b with
      | true=>exact .inr ⟨_,rfl,.inl rfl⟩
      | false =>
       rw [if_neg (by decide),hw]
       refine .inl ⟨_,hlt,rfl,rfl,?_⟩
       rw [Us hlt,nd,List.pairwise_append]
       refine ⟨hn,List.pairwise_singleton _ _,fun a ha c hc2=>?_⟩
       rw [List.mem_singleton] at hc2
       subst hc2
       exact hu a ha
   ·rw [if_neg (by simpa using hlt)]
    have hie:i=l.length:=by omega
    rw [hie,List.take_length] at hn
    exact .inr ⟨_,rfl,.inr ⟨rfl,hn⟩⟩) (n:=128) (s:=0) (by omega) ⟨rfl,by simp⟩
  rw [e1,Option.bind_some]
  rcases p1 with rfl | ⟨rfl,h⟩
  ·exact ⟨false,rfl,by simp⟩
  ·exact ⟨true,rfl,fun _=>⟨h,hl⟩⟩
 ·rw [if_pos (by simp; omega)]
  exact ⟨false,rfl,by simp⟩
theorem O8 (x0:List Qa) (g0:gd (.sl Ql) x0) (x1:List Qa) (g1:gd (.sl Ql) x1):∃N,U9 N x0 x1=some true:=by
 refine ⟨128,?_⟩
 obtain ⟨b0,e0,p0⟩:=Qa3 x0
 obtain ⟨b1,e1,p1⟩:=Qa3 x1
 unfold U9
 rw [e0,Option.bind_some]
 cases b0 with
 | false=>simp only [Bool.not_false,if_true,Option.bind_some,Qeo]
 | true =>
  rw [if_neg (by decide),e1,Option.bind_some,Option.bind_some]
  cases b1 with
  | false=>simp only [Bool.not_false,if_true,Option.bind_some,Qeo]
  | true =>
   obtain ⟨h0,l0⟩:=p0 rfl
   obtain ⟨h1,l1⟩:=p1 rfl
   have hlen:=Qi6 x0 x1
   have hl2:=Qlo (Qer x0 x1)
   rw [if_neg (by decide),C1 (by simp; omega),Option.bind_some,C1 (by simp; omega),Option.bind_some,List.nil_append,List.nil_append,Qlq (by omega) (by omega) h0 h1,Option.bind_some,Jl9 h0 (by omega) (by omega),Option.bind_some,Qrp _ (by omega),Option.bind_some,if_pos rfl,Qeo]
   rfl
end Gx

/- The plain laws for RerateAdjusts. -/
import Derived.Test.YtbhpbpilmejnlaaGreatXFns
import Derived.Test.YtbhpbpilmejnlaaGreatGAppend
import Derived.KernelRfl
namespace Gx
open Go Gd
set_option linter.unusedVariables false
set_option linter.unusedSimpArgs false
theorem Ks {σ τ:Type} {f:σ→Option (σ⊕τ)} (k:Nat) (I:Nat→σ→Prop) (R:τ→Prop)
  (step:∀i s,i≤k→I i s→(∃s',i<k∧f s=some (.inl s')∧I (i+1) s')∨(∃r,f s=some (.inr r)∧R r)) :
  ∀{n:Nat} {s:σ},k<n→I 0 s→∃r,Qw f n s=some r∧R r:=by
 have main:∀(d i n:Nat) (s:σ),i+d=k→d<n→I i s→∃r,Qw f n s=some r∧R r:=by
  intro d
  induction d with
  | zero =>
   intro i n s hi hn hI
   obtain ⟨m,rfl⟩:∃m,n=m+1:=⟨n - 1,by omega⟩
   rcases step i s (by omega) hI with ⟨s',h,_⟩ | ⟨r,h1,h2⟩
   ·omega
   ·exact ⟨r,by simp [Qw,h1],h2⟩
  | succ d ih =>
   intro i n s hi hn hI
   obtain ⟨m,rfl⟩:∃m,n=m+1:=⟨n - 1,by omega⟩
   rcases step i s (by omega) hI with ⟨s',_,h1,h2⟩ | ⟨r,h1,h2⟩
   ·obtain ⟨r,h3,h4⟩:=ih (i+1) m s' (by omega) (by omega) h2
    exact ⟨r,by simp [Qw,h1,h3],h4⟩
   ·exact ⟨r,by simp [Qw,h1],h2⟩
 intro n s hn hI
 exact main k 0 n s (by omega) hn hI
theorem Qqu {α σ ρ τ:Type} (l:List α) (hl:l.length≤maxLen) {f:ρ→Option (ρ⊕τ)} (mk:σ→Int→ρ) (Inv:Nat→σ→Prop) (go:σ→List α→τ)
  (h0:∀s,Inv l.length s→decide (((l.length:Nat):Int)<(l.length:Int))=false→f (mk s (l.length:Int))=some (.inr (go s [])))
  (h1:∀s (i:Nat) x xs,l[i]?=some x→decide ((i:Int)<(l.length:Int))=true→idx l (i:Int)=some x→IntKind.wrap .i64 ((i:Int)+1)=((i+1:Nat):Int)→l.drop i=x::xs→Inv i s →
   (∃s',f (mk s (i:Int))=some (.inl (mk s' ((i+1:Nat):Int)))∧Inv (i+1) s'∧go s (x::xs)=go s' xs)∨f (mk s (i:Int))=some (.inr (go s (x::xs))))
  {n:Nat} {s:σ} (hn:l.length<n) (hs:Inv 0 s):Qw f n (mk s 0)=some (go s l):=by
 have main:∀(k i n:Nat) (s:σ),l.length=i+k→k<n→Inv i s→Qw f n (mk s (i:Int))=some (go s (l.drop i)):=by
  intro k
  induction k with
  | zero =>
   intro i n s hk hn hI
   obtain ⟨m,rfl⟩:∃m,n=m+1:=⟨n - 1,by omega⟩
   have hi:i=l.length:=by omega
   subst hi
   rw [List.drop_length]
   simp [Qw,h0 s hI (by simp)]
  | succ k ih =>
   intro i n s hk hn hI
   obtain ⟨m,rfl⟩:∃m,n=m+1:=⟨n - 1,by omega⟩
   have hlt:i<l.length:=by omega
   have hd:=List.drop_eq_getElem_cons hlt
   rw [hd]
   rcases h1 s i _ _ (List.getElem?_eq_getElem hlt) (by simpa using hlt) (Qkz (List.getElem?_eq_getElem hlt)) (Ko (by omega)) hd hI with ⟨s',e1,e2,e3⟩ | e1
   ·simp only [Qw,e1,Option.bind_some,e3]
    exact ih (i+1) m s' (by omega) (by omega) e2
   ·simp only [Qw,e1,Option.bind_some]
 simpa using main l.length 0 n s (by omega) hn hs
theorem Xq {α:Type} {l:List α} {i:Nat} (h:i<l.length):idx l (i:Int)=some l[i]:=Qkz (List.getElem?_eq_getElem h)
end Gx
namespace Gx
open Go
theorem Qdu (M:Nat):Ki (M+64)=some true:=by kernel_rfl
end Gx
namespace Gx
open Go Gd
set_option linter.unusedVariables false
set_option linter.unusedSimpArgs false
theorem Qwg {τ:Type} {f:Int→Option (Int⊕τ)} {n N:Nat} (R:τ→Prop) (hn:n<N) (step:∀i:Nat,i≤n→(i<n∧f (i:Int)=some (.inl ((i+1:Nat):Int)))∨∃r,f (i:Int)=some (.inr r)∧R r):∃r,Qw f N 0=some r∧R r:=by
 refine Ks n (fun i s=>s=(i:Int)) R (fun i s hi hs=>?_) hn rfl
 subst hs
 rcases step i hi with ⟨h1,h2⟩ | h
 ·exact .inl ⟨_,h1,h2,rfl⟩
 ·exact .inr h
end Gx
namespace Gx
open Go Gd
set_option linter.unusedVariables false
set_option linter.unusedSimpArgs false
theorem Jlb (c b:Bool):(if c=true then some true else some b)=some (c||b):=by cases c<;>rfl
end Gx
namespace Gx
open Go Gd
set_option linter.unusedVariables false
set_option linter.unusedSimpArgs false
def ltA (a b:Qd):Bool:=decide (a.Start<b.Start)||(a.Start==b.Start&&decide (a.Usage<b.Usage))
theorem Qby {a b c:Qd} (h1:ltA a b=true) (h2:ltA b c=true):ltA a c=true:=by
 simp only [ltA,Bool.or_eq_true,decide_eq_true_eq,Bool.and_eq_true,beq_iff_eq] at *
 omega
theorem Q9z (a:Qd):ltA a a=false:=by simp [ltA]
theorem Q90 {a b:Qd} (h:a.Usage≠b.Usage):ltA a b=true∨ltA b a=true:=by
 simp only [ltA,Bool.or_eq_true,decide_eq_true_eq,Bool.and_eq_true,beq_iff_eq]
 omega
theorem Qqv (N:Nat) (a b:Qd):Gl N a b=some (ltA a b):=by
 unfold Gl ltA
 by_cases h:a.Start=b.Start
 ·simp [h]
 ·simp [h]
def zA (a:Qd):Bool:=(a.Paid==0)&&(a.Owed==0)
def Qku (l:List Qd) (x:Qd):List Qd:=l.takeWhile (fun y=>ltA y x)++x::l.dropWhile (fun y=>ltA y x)
def Hd (l:List Qd) (x:Qd):List Qd:=bif zA x then l else Qku l x
abbrev srt (l:List Qd):Prop:=l.Pairwise fun a b=>ltA a b=true
theorem Qwh {l:List Qd} {x y:Qd}:y∈Qku l x↔y=x∨y∈l:=by
 unfold Qku
 have h:=List.takeWhile_append_dropWhile (p:=fun y=>ltA y x) (l:=l)
 constructor
 ·intro hy
  rcases List.mem_append.1 hy with hy | hy
  ·exact .inr (by rw [←h]; exact List.mem_append_left _ hy)
  ·rcases List.mem_cons.1 hy with hy | hy
   ·exact .inl hy
   ·exact .inr (by rw [←h]; exact List.mem_append_right _ hy)
 ·rintro (rfl | hy)
  ·exact List.mem_append_right _ (.head _)
  ·rw [←h] at hy
   rcases List.mem_append.1 hy with hy | hy
   ·exact List.mem_append_left _ hy
   ·exact List.mem_append_right _ (.tail _ hy)
theorem Qdv {x:Qd}:∀{l:List Qd},srt l→(∀y∈l,y.Usage≠x.Usage)→∀y∈l.dropWhile (fun y=>ltA y x),ltA x y=true
 | [],_,_,y,hy=>by cases hy
 | a::l,hs,hu,y,hy=>by
  have hs':=List.pairwise_cons.1 hs
  rw [List.dropWhile_cons] at hy
  cases ha:ltA a x with
  | true =>
   rw [ha] at hy
   exact Qdv hs'.2 (fun z hz=>hu z (.tail _ hz)) y hy
  | false =>
   rw [ha] at hy
   have hxa:ltA x a=true:=(Q90 (hu a (.head _))).resolve_left (by rw [ha]; simp)
   simp only [Bool.false_eq_true,if_false] at hy
   rcases List.mem_cons.1 hy with rfl | hy
   ·exact hxa
   ·exact Qby hxa (hs'.1 y hy)
theorem Qn1 {x:Qd}:∀{l:List Qd},∀y∈l.takeWhile (fun y=>ltA y x),ltA y x=true
 | a::l,y,hy=>by
  rw [List.takeWhile_cons] at hy
  cases ha:ltA a x with
  | true =>
   rw [ha] at hy
   rcases List.mem_cons.1 hy with rfl | hy
   ·exact ha
   ·exact Qn1 y hy
  | false=>rw [ha] at hy; cases hy
theorem Qwi {l:List Qd} {x:Qd} (hs:srt l) (hu:∀y∈l,y.Usage≠x.Usage):srt (Qku l x):=by
 unfold Qku
 have h:=List.takeWhile_append_dropWhile (p:=fun y=>ltA y x) (l:=l)
 have hs2:=hs
 rw [←h] at hs2
 obtain ⟨p1,p2,p3⟩:=List.pairwise_append.1 hs2
 rw [srt,List.pairwise_append]
 refine ⟨p1,List.pairwise_cons.2 ⟨Qdv hs hu,p2⟩,fun a ha b hb=>?_⟩
 rcases List.mem_cons.1 hb with rfl | hb
 ·exact Qn1 a ha
 ·exact p3 a ha b hb
end Gx
namespace Gx
open Go Gd
set_option linter.unusedVariables false
set_option linter.unusedSimpArgs false
theorem Qn2 {α:Type} {l:List α} {k:Nat} (h:k≤l.length):slc l 0 (k:Int)=some (l.take k):=by
 unfold slc
 rw [if_pos ⟨by omega,by omega,by omega⟩]
 simp
theorem Qwj {α:Type} {l:List α} {k:Nat} (h:k≤l.length):slc l (k:Int) (l.length:Int)=some (l.drop k):=by
 unfold slc
 rw [if_pos ⟨by omega,by omega,by omega⟩]
 congr 1
 rw [Int.toNat_natCast,show ((l.length:Int) - (k:Int)).toNat=l.length - k by omega]
 exact List.take_of_length_le (by simp)
section
variable {α:Type} {p:α→Bool}
theorem N3:∀{l:List α},(l.takeWhile p).length≤l.length
 | []=>by simp
 | a::l=>by
  rw [List.takeWhile_cons]
  split
  ·simp only [List.length_cons]; have:=N3 (l:=l); omega
  ·simp
theorem Qwk:∀{l:List α} {i:Nat} (h:i<l.length),i<(l.takeWhile p).length→p l[i]=true
 | a::l,i,h,hi=>by
  rw [List.takeWhile_cons] at hi
  cases ha:p a with
  | false=>rw [ha] at hi; simp at hi
  | true =>
   rw [ha] at hi
   cases i with
   | zero=>simpa using ha
   | succ i=>simpa using Qwk (l:=l) (i:=i) (by simpa using h) (by simpa using hi)
theorem Qwl:∀{l:List α} {i:Nat} (h:i<l.length),i=(l.takeWhile p).length→p l[i]=false
 | a::l,i,h,hi=>by
  rw [List.takeWhile_cons] at hi
  cases ha:p a with
  | false =>
   rw [ha] at hi
   have:i=0:=by simpa using hi
   subst this
   simpa using ha
  | true =>
   rw [ha] at hi
   have hi':i=(l.takeWhile p).length+1:=by simpa using hi
   cases i with
   | zero=>omega
   | succ i=>simpa using Qwl (l:=l) (i:=i) (by simpa using h) (by omega)
theorem Qdw:∀{l:List α},l.take (l.takeWhile p).length=l.takeWhile p
 | []=>rfl
 | a::l=>by
  rw [List.takeWhile_cons]
  split
  ·simp only [List.length_cons,List.take_succ_cons]; rw [Qdw]
  ·rfl
theorem P3:∀{l:List α},l.drop (l.takeWhile p).length=l.dropWhile p
 | []=>rfl
 | a::l=>by
  rw [List.takeWhile_cons,List.dropWhile_cons]
  split
  ·simp only [List.length_cons,List.drop_succ_cons]; exact P3
  ·rfl
end
theorem Qh9 {l:List Qd} {x:Qd} {k:Nat} (hk:k≤l.length) (h:l.length≤100) :
  ((slc l 0 (k:Int)).bind fun s20=>(app 56 ([]:List Qd) s20).bind fun q21=>(app 56 q21 ([x]:List Qd)).bind fun q22=>(slc l (k:Int) (l.length:Int)).bind fun s23=>(app 56 q22 s23).bind fun q24=>some q24)=some (l.take k++x::l.drop k):=by
 rw [Qn2 hk,Option.bind_some,M3 (by simp; omega),Option.bind_some,M3 (by simp; omega),Option.bind_some,Qwj hk,Option.bind_some,M3 (by simp; omega),Option.bind_some]
 simp
theorem Qn3 {l:List Qd} {x:Qd} (h:l.length≤100):Ur 128 l x=some (Hd l x):=by
 unfold Ur Hd zA
 cases hz:((x.Paid==0)&&(x.Owed==0)) with
 | true=>rfl
 | false =>
  simp only [Bool.false_eq_true,if_false,cond_false]
  obtain ⟨r,e1,rfl⟩:=Ks (f:=Zq 128 l x) (l.takeWhile fun y=>ltA y x).length (fun i s=>s=(i:Int)) (fun r=>r=((l.takeWhile fun y=>ltA y x).length:Int)) (fun i s hi hs=>by
   subst hs
   have hlen:=N3 (p:=fun y=>ltA y x) (l:=l)
   have key:Zq 128 l x (i:Int)=(if (if h:i<l.length then ltA l[i] x else false)=true then some (.inl (IntKind.wrap .i64 ((i:Int)+1))) else some (.inr (i:Int))):=by
    unfold Zq
    by_cases hlt:i<l.length
    ·rw [if_pos (by simpa using hlt),dif_pos hlt]
     simp only [Xq hlt,Option.bind_some,Jlb]
     have:(if (l[i].Start==x.Start)=true then some (decide (l[i].Usage<x.Usage)) else some false)=some ((l[i].Start==x.Start)&&decide (l[i].Usage<x.Usage)):=by cases (l[i].Start==x.Start)<;>rfl
     rw [this]
     simp only [Option.bind_some,Jlb]
     rfl
    ·rw [if_neg (by simpa using hlt),dif_neg hlt]
     rfl
   rw [key]
   by_cases hi2:i<(l.takeWhile fun y=>ltA y x).length
   ·have hlt:i<l.length:=by omega
    rw [dif_pos hlt,Qwk hlt hi2,if_pos rfl]
    exact .inl ⟨_,hi2,rfl,Ko (by rw [Vj]; omega)⟩
   ·have hie:i=(l.takeWhile fun y=>ltA y x).length:=by omega
    refine .inr ⟨(i:Int),?_,by rw [hie]⟩
    by_cases hlt:i<l.length
    ·rw [dif_pos hlt,Qwl (p:=fun y=>ltA y x) hlt hie]; rfl
    ·rw [dif_neg hlt]; rfl) (n:=128) (s:=0) (by have:=N3 (p:=fun y=>ltA y x) (l:=l); omega) rfl
  rw [e1,Option.bind_some]
  refine (Qh9 N3 h).trans ?_
  rw [Qdw,P3]; rfl
end Gx
namespace Gx
open Go Gd
set_option linter.unusedVariables false
set_option linter.unusedSimpArgs false
theorem Qqw {α:Type} {l:List α} {k j:Nat} (hk:k≤j) (hj:j<l.length):l[j]∈l.drop k:=by
 have h:j - k<(l.drop k).length:=by simp; omega
 have e:(l.drop k)[j - k]=l[j]:=by
  rw [List.getElem_drop]
  congr 1; omega
 rw [←e]
 exact List.getElem_mem h
theorem Qwm {a b:Qd} (h:ltA a b=true):ltA b a=false:=by
 cases hb:ltA b a with
 | false=>rfl
 | true=>have:=Qby h hb; rw [Q9z] at this; cases this
theorem Qwn {l:List Qd} {x:Qd} (hs:srt l) (hu:∀y∈l,y.Usage≠x.Usage) (h:l.length≤100):Qw (Zj 128 l x) 128 (l.length:Int)=some (((l.takeWhile fun y=>ltA y x).length:Nat):Int):=by
 have hlen:=N3 (p:=fun y=>ltA y x) (l:=l)
 have key:∀j:Nat,j≤l.length→Zj 128 l x (j:Int)=(if (if h:0<j∧j - 1<l.length then ltA x l[j - 1] else false)=true then some (.inl ((j - 1:Nat):Int)) else some (.inr (j:Int))):=by
  intro j hj
  unfold Zj
  by_cases h0:0<j
  ·have hlt:j - 1<l.length:=by omega
   have hw:IntKind.wrap .i64 ((j:Int) - 1)=((j - 1:Nat):Int):=by rw [Qb2 (by omega) (by omega)]; omega
   rw [if_pos (by simpa using h0),dif_pos ⟨h0,hlt⟩]
   simp only [hw,Xq hlt,Option.bind_some,Qqv]
  ·rw [if_neg (by simpa using h0),dif_neg (fun h=>h0 h.1)]
   rfl
 obtain ⟨r,e1,rfl⟩:=Ks (f:=Zj 128 l x) (l.length - (l.takeWhile fun y=>ltA y x).length) (fun i s=>s=((l.length - i:Nat):Int)) (fun r=>r=(((l.takeWhile fun y=>ltA y x).length:Nat):Int)) (fun i s hi hs'=>by
  subst hs'
  rw [key _ (by omega)]
  by_cases hi2:i<l.length - (l.takeWhile fun y=>ltA y x).length
  ·have hlt:l.length - i - 1<l.length:=by omega
   have hgt:ltA x l[l.length - i - 1]=true:=Qdv hs hu _ (by
    rw [←P3]
    exact Qqw (by omega) hlt)
   rw [dif_pos ⟨by omega,hlt⟩,hgt,if_pos rfl]
   exact .inl ⟨_,hi2,rfl,by congr 1⟩
  ·have hie:l.length - i=(l.takeWhile fun y=>ltA y x).length:=by omega
   refine .inr ⟨_,?_,by rw [←hie]⟩
   by_cases hlt:0<l.length - i∧l.length - i - 1<l.length
   ·rw [dif_pos hlt,Qwm (Qwk (p:=fun y=>ltA y x) hlt.2 (by omega))]; rfl
   ·rw [dif_neg hlt]; rfl) (n:=128) (s:=(l.length:Int)) (by omega) rfl
 exact e1
abbrev nd (l:List Qd):Prop:=l.Pairwise fun a b=>a.Usage≠b.Usage
theorem Qia:∀{l acc:List Qd},srt acc→nd l→(∀a∈acc,∀b∈l,a.Usage≠b.Usage)→acc.length+l.length≤100→srt (l.foldl Hd acc)∧(l.foldl Hd acc).length≤acc.length+l.length∧(∀y∈l.foldl Hd acc,y∈acc∨y∈l)
 | [],acc,hs,_,_,_=>⟨hs,by simp,fun y hy=>.inl hy⟩
 | x::l,acc,hs,hn,hd,hl=>by
  have hn':=List.pairwise_cons.1 hn
  have hu:∀y∈acc,y.Usage≠x.Usage:=fun y hy=>hd y hy x (.head _)
  have hp:srt (Hd acc x)∧(Hd acc x).length≤acc.length+1∧∀y∈Hd acc x,y=x∨y∈acc:=by
   unfold Hd
   cases zA x with
   | true=>exact ⟨hs,by simp,fun y hy=>.inr hy⟩
   | false =>
    refine ⟨Qwi hs hu,?_,fun y hy=>Qwh.1 hy⟩
    simp only [cond_false,Qku,List.length_append,List.length_cons]
    have:=congrArg List.length (List.takeWhile_append_dropWhile (p:=fun y=>ltA y x) (l:=acc))
    simp only [List.length_append] at this
    omega
  obtain ⟨q1,q2,q3⟩:=Qia (l:=l) hp.1 hn'.2 (fun a ha b hb=>by
   rcases hp.2.2 a ha with rfl | ha
   ·exact hn'.1 b hb
   ·exact hd a ha b (.tail _ hb)) (by simp at hl; omega)
  refine ⟨q1,by simp only [List.foldl_cons,List.length_cons]; omega,fun y hy=>?_⟩
  rcases q3 y hy with h | h
  ·rcases hp.2.2 y h with rfl | h
   ·exact .inr (.head _)
   ·exact .inl h
  ·exact .inr (.tail _ h)
theorem Qkv {L:List Qd} (hn:nd L) (hl:L.length≤100):Xb 128 L=some (L.foldl Hd []):=by
 have main:Qw (K0 128 L) 128 (0,[])=some (L.foldl Hd []):=by
  refine Qqu (σ:=List Qd) L (by rw [Vj]; omega) (fun v i=>(i,v)) (fun i v=>v=(L.take i).foldl Hd []) (fun v l=>l.foldl Hd v) (fun s _ hd=>?_) (fun s i y ys hy hd hi hw hdr hI=>?_) (s:=[]) (by omega) rfl
  ·unfold K0; dsimp only; rw [if_neg (by rw [hd]; simp)]; rfl
  ·have hlt:i<L.length:=by have:=List.getElem?_eq_some_iff.1 hy; exact this.1
   have hyi:L[i]=y:=(List.getElem?_eq_some_iff.1 hy).2
   have hsplit:L.take i++y::ys=L:=by rw [←hdr]; exact List.take_append_drop i L
   have hn2:=hn
   rw [←hsplit] at hn2
   obtain ⟨n1,n2,n3⟩:=List.pairwise_append.1 hn2
   obtain ⟨f1,f2,f3⟩:=Qia (l:=L.take i) (acc:=[]) .nil n1 (fun a ha=>by cases ha) (by simp; omega)
   rw [←hI] at f1 f2 f3
   have hsl:s.length≤100:=by simp at f2; omega
   have hu:∀z∈s,z.Usage≠y.Usage:=fun z hz=>by
    rcases f3 z hz with h | h
    ·cases h
    ·exact n3 z h y (.head _)
   unfold K0; dsimp only
   rw [if_pos hd,hi,Option.bind_some]
   refine .inl ⟨Hd s y,?_,?_,rfl⟩
   ·unfold Hd zA
    cases hz:((y.Paid==0)&&(y.Owed==0)) with
    | true=>simp only [if_true,Option.bind_some,cond_true,hw]
    | false =>
     simp only [Bool.false_eq_true,if_false,cond_false]
     rw [Qwn f1 hu hsl,Option.bind_some]
     have:=Qh9 (l:=s) (x:=y) (k:=(s.takeWhile fun z=>ltA z y).length) N3 hsl
     rw [this,Option.bind_some,hw,Qdw,P3]; rfl
   ·rw [hI,show L.take (i+1)=L.take i++[y] by rw [List.take_add_one,hy]; rfl,List.foldl_append]
    rfl
 unfold Xb
 rw [main]; rfl
end Gx
namespace Gx
open Go Gd
set_option linter.unusedVariables false
set_option linter.unusedSimpArgs false
def Ky (l:List Ql) (id:Int):Option Ql:=l.find? fun r=>r.Usage.Id==id
abbrev ndR (l:List Ql):Prop:=l.Pairwise fun a b=>a.Usage.Id≠b.Usage.Id
theorem Dy {l:List Ql} {id:Int}:Ky l id=none↔∀r∈l,r.Usage.Id≠id:=by
 unfold Ky
 rw [List.find?_eq_none]
 simp
theorem N4 {l:List Ql} (h:ndR l) (r:Ql) (hr:r∈l):Ky l r.Usage.Id=some r:=by
 induction l with
 | nil=>cases hr
 | cons a l ih =>
  have h':=List.pairwise_cons.1 h
  unfold Ky
  rw [List.find?_cons]
  rcases List.mem_cons.1 hr with e | hr
  ·rw [←e,show (r.Usage.Id==r.Usage.Id)=true from beq_self_eq_true _]
  ·rw [show (a.Usage.Id==r.Usage.Id)=false from beq_eq_false_iff_ne.2 (h'.1 r hr)]
   exact ih h'.2 hr
theorem N5 {ν:Type} {a b:Int} {y:ν}:∀{l:List (Int×ν)},Q6 (k:=.int .i64) a (Vr (k:=.int .i64) b y l)=if a=b then some y else Q6 (k:=.int .i64) a l
 | []=>by
  by_cases h:a=b
  ·simp [Vr,Q6,eqK,h]
  ·simp [Vr,Q6,eqK,h,beq_eq_false_iff_ne.2 h]
 | x::l=>by
  have ih:=N5 (a:=a) (b:=b) (y:=y) (l:=l)
  by_cases h:a=b
  ·subst h
   rw [if_pos rfl] at ih ⊢
   simp only [Vr]
   cases hb:eqK (.int .i64) a x.1 with
   | true=>simp [Q6,eqK]
   | false=>simp only [cond_false,Q6,hb]; exact ih
  ·rw [if_neg h] at ih ⊢
   simp only [Vr]
   cases hb:eqK (.int .i64) b x.1 with
   | true =>
    have hbx:b=x.1:=by simpa [eqK] using hb
    have hax:eqK (.int .i64) a x.1=false:=by simp [eqK]; rw [←hbx]; exact h
    have hab:eqK (.int .i64) a b=false:=by simpa [eqK] using h
    simp only [cond_true,Q6,hab,hax,cond_false]
   | false=>simp only [cond_false,Q6,ih]
theorem T7 (l:List Ql) (hl:l.length≤100) (hn:ndR l) (id:Int):∃b,Uf 128 l id=some b∧((b = -1∧Ky l id=none)∨∃(j:Nat) (r:Ql),b=(j:Int)∧l[j]?=some r∧Ky l id=some r):=by
 obtain ⟨r,e1,p1⟩:=Ks (f:=Xa 128 l id) l.length (fun i s=>s=(i:Int)∧∀(k:Nat) y,k<i→l[k]?=some y→y.Usage.Id≠id)
  (fun r=>(r=.inl ()∧Ky l id=none)∨∃(j:Nat) (y:Ql),r=.inr (j:Int)∧l[j]?=some y∧Ky l id=some y) (fun i s hi ⟨hs,hI⟩=>by
   subst hs
   unfold Xa
   by_cases hlt:i<l.length
   ·rw [if_pos (by simpa using hlt),Xq hlt,Option.bind_some]
    by_cases he:(l[i].Usage.Id==id)=true
    ·rw [if_pos he]
     have he':l[i].Usage.Id=id:=by simpa using he
     exact .inr ⟨_,rfl,.inr ⟨i,l[i],rfl,List.getElem?_eq_getElem hlt,by rw [←he']; exact N4 hn _ (List.getElem_mem hlt)⟩⟩
    ·rw [if_neg he]
     refine .inl ⟨_,hlt,rfl,Ko (by rw [Vj]; omega),fun k y hk hy=>?_⟩
     rcases Nat.lt_or_ge k i with h | h
     ·exact hI k y h hy
     ·have hki:k=i:=by omega
      subst hki
      rw [List.getElem?_eq_getElem hlt] at hy
      injection hy with hy
      subst hy
      simpa using he
   ·rw [if_neg (by simpa using hlt)]
    refine .inr ⟨_,rfl,.inl ⟨rfl,Dy.2 fun r hr=>?_⟩⟩
    obtain ⟨k,hk⟩:=List.getElem?_of_mem hr
    exact hI k r (by have:=(List.getElem?_eq_some_iff.1 hk).1; omega) hk) (n:=128) (s:=0) (by omega) ⟨rfl,fun k y hk=>by omega⟩
 unfold Uf
 rw [e1,Option.bind_some]
 rcases p1 with ⟨rfl,h⟩ | ⟨j,y,rfl,h1,h2⟩
 ·exact ⟨-1,rfl,.inl ⟨rfl,h⟩⟩
 ·exact ⟨_,rfl,.inr ⟨j,y,rfl,h1,h2⟩⟩
def Qwo (l:List Ql) (m:List (Int×Int)):Prop:=∀id,(match Q6 (k:=.int .i64) id m with | none=>Ky l id=none | some z=>∃(j:Nat) (r:Ql),z=(j:Int)∧l[j]?=some r∧Ky l id=some r)
theorem Jil {l:List Ql} (hl:l.length≤100) (hn:ndR l):∃m,Qw (V2 128 l) 128 (0,[])=some m∧Qwo l m:=by
 obtain ⟨m,e1,p1⟩:=Ks (f:=V2 128 l) l.length (fun i s=>s.1=(i:Int)∧∀id,(match Q6 (k:=.int .i64) id s.2 with | none=>∀(k:Nat) y,k<i→l[k]?=some y→y.Usage.Id≠id | some z=>∃(j:Nat) (r:Ql),z=(j:Int)∧l[j]?=some r∧r.Usage.Id=id))
  (fun m=>Qwo l m) (fun i s hi ⟨hs,hI⟩=>by
   obtain ⟨a,m⟩:=s
   have hs:a=(i:Int):=hs
   subst hs
   unfold V2
   dsimp only
   by_cases hlt:i<l.length
   ·rw [if_pos (by simpa using hlt),Xq hlt,Option.bind_some]
    refine .inl ⟨_,hlt,rfl,Ko (by rw [Vj]; omega),fun id=>?_⟩
    have h:=hI id
    show match Q6 (k:=.int .i64) id (Vr (k:=.int .i64) l[i].Usage.Id (i:Int) m) with | none=>_ | some z=>_
    rw [N5]
    by_cases he:id=l[i].Usage.Id
    ·rw [if_pos he]
     exact ⟨i,l[i],rfl,List.getElem?_eq_getElem hlt,he.symm⟩
    ·rw [if_neg he]
     simp only at h
     split
     ·rename_i hf
      rw [hf] at h
      intro k y hk hy
      rcases Nat.lt_or_ge k i with h1 | h1
      ·exact h k y h1 hy
      ·have hki:k=i:=by omega
       subst hki
       rw [List.getElem?_eq_getElem hlt] at hy
       injection hy with hy
       subst hy
       exact fun e=>he e.symm
     ·rename_i z hf
      rw [hf] at h
      exact h
   ·rw [if_neg (by simpa using hlt)]
    refine .inr ⟨_,rfl,fun id=>?_⟩
    have h:=hI id
    simp only at h
    split
    ·rename_i hf
     rw [hf] at h
     refine Dy.2 fun r hr=>?_
     obtain ⟨k,hk⟩:=List.getElem?_of_mem hr
     exact h k r (by have:=(List.getElem?_eq_some_iff.1 hk).1; omega) hk
    ·rename_i z hf
     rw [hf] at h
     obtain ⟨j,r,h1,h2,h3⟩:=h
     exact ⟨j,r,h1,h2,by rw [←h3]; exact N4 hn r (List.mem_of_getElem? h2)⟩) (n:=128) (s:=(0,[])) (by omega) ⟨rfl,fun id=>by simp [Q6]⟩
 exact ⟨m,e1,p1⟩
end Gx
namespace Gx
open Go Gd
set_option linter.unusedVariables false
set_option linter.unusedSimpArgs false
abbrev fz (L:List Qd):List Qd:=L.foldl Hd []
end Gx
namespace Gx
open Go Gd
set_option linter.unusedVariables false
set_option linter.unusedSimpArgs false
def ofR (r:Ql):Qd:=(r.Usage.Id,r.Usage.Account,r.Usage.Sub,r.Usage.Kind,r.Usage.Start,r.Paid,r.Owed)
def Jlc (x y:Ql):Qd:=(y.Usage.Id,y.Usage.Account,y.Usage.Sub,y.Usage.Kind,y.Usage.Start,IntKind.wrap .i64 (y.Paid - x.Paid),IntKind.wrap .i64 (y.Owed - x.Owed))
def N6 (r:Ql):Qd:=(r.Usage.Id,r.Usage.Account,r.Usage.Sub,r.Usage.Kind,r.Usage.Start,IntKind.wrap .i64 (0 - r.Paid),IntKind.wrap .i64 (0 - r.Owed))
def Eu (old:List Ql) (y:Ql):Qd:=match Ky old y.Usage.Id with | none=>ofR y | some x=>Jlc x y
def Qdx (old new:List Ql):List Qd:=new.map (Eu old)++(old.filter fun x=>(Ky new x.Usage.Id).isNone).map N6
theorem Qwp (l:List Ql) (id:Int):(Ky l id).isSome=l.any fun r=>r.Usage.Id==id:=by
 unfold Ky
 induction l with
 | nil=>rfl
 | cons a l ih =>
  rw [List.find?_cons,List.any_cons]
  cases h:a.Usage.Id==id with
  | true=>simp
  | false=>simpa using ih
theorem Z5 {α:Type} {l:List α} {i:Nat} (h:i<l.length):l.take (i+1)=l.take i++[l[i]]:=by
 rw [List.take_add_one,List.getElem?_eq_getElem h]; rfl
theorem Jli {x0 x1:List Ql} {m:List (Int×Int)} (hm:Qwo x0 m) (h1:x1.length≤100):∃r:List (Int×Bool)×List Qd,Qw (Uz 128 x1 m x0) 128 (0,[],[])=some r∧(∀id,(Q6 (k:=.int .i64) id r.1).getD false=((Ky x0 id).isSome&&(Ky x1 id).isSome))∧r.2=x1.map (Eu x0):=by
 refine Ks x1.length (fun i (s:Int×List (Int×Bool)×List Qd)=>s.1=(i:Int)∧(∀id,(Q6 (k:=.int .i64) id s.2.1).getD false=((Ky x0 id).isSome&&(x1.take i).any fun r=>r.Usage.Id==id))∧s.2.2=(x1.take i).map (Eu x0)) (fun (r:List (Int×Bool)×List Qd)=>(∀id,(Q6 (k:=.int .i64) id r.1).getD false=((Ky x0 id).isSome&&(Ky x1 id).isSome))∧r.2=x1.map (Eu x0)) (fun i s hi ⟨hs,hI,hO⟩=>?_) (n:=128) (s:=(0,[],[])) (by omega) ⟨rfl,fun id=>by simp [Q6],rfl⟩
 obtain ⟨a,m2,out⟩:=s
 have hs:a=(i:Int):=hs
 have hO:out=(x1.take i).map (Eu x0):=hO
 subst hs; subst hO
 unfold Uz
 dsimp only
 by_cases hlt:i<x1.length
 ·have hw:IntKind.wrap .i64 ((i:Int)+1)=((i+1:Nat):Int):=Ko (by rw [Vj]; omega)
  rw [if_pos (by simpa using hlt),Xq hlt,Option.bind_some,show U9 128 x1[i]=some x1[i].Usage.Id from rfl,Option.bind_some]
  have hk:=hm x1[i].Usage.Id
  cases hf:Q6 (k:=.int .i64) x1[i].Usage.Id m with
  | none =>
   rw [hf] at hk
   have hk:Ky x0 x1[i].Usage.Id=none:=hk
   rw [if_neg (by simp),show Xw 128 x1[i]=some (ofR x1[i]) from rfl,Option.bind_some,M3 (by simp; omega),Option.bind_some,Option.bind_some,hw]
   refine .inl ⟨_,hlt,rfl,rfl,fun id=>?_,?_⟩
   ·rw [Z5 hlt,List.any_append]
    have h:=hI id
    simp only at h ⊢
    rw [h]
    by_cases he:id=x1[i].Usage.Id
    ·rw [he,hk]; rfl
    ·simp [show (x1[i].Usage.Id==id)=false from beq_eq_false_iff_ne.2 fun e=>he e.symm]
   ·rw [Z5 hlt,List.map_append]
    simp [Eu,hk]
  | some z =>
   rw [hf] at hk
   obtain ⟨j,r,hz,hj,hl⟩:=hk
   subst hz
   have hij:idx x0 (j:Int)=some r:=by
    obtain ⟨h2,h3⟩:=List.getElem?_eq_some_iff.1 hj
    rw [Xq h2,h3]
   rw [if_pos (by simp)]
   simp only [Option.getD_some]
   rw [hij,Option.bind_some,show Hc 128 r x1[i]=some (Jlc r x1[i]) from rfl,Option.bind_some,M3 (by simp; omega),Option.bind_some,Option.bind_some,hw]
   refine .inl ⟨_,hlt,rfl,rfl,fun id=>?_,?_⟩
   ·rw [Z5 hlt,List.any_append]
    have h:=hI id
    simp only at h ⊢
    rw [N5]
    by_cases he:id=x1[i].Usage.Id
    ·rw [if_pos he,he,hl]; simp
    ·rw [if_neg he,h]
     simp [show (x1[i].Usage.Id==id)=false from beq_eq_false_iff_ne.2 fun e=>he e.symm]
   ·rw [Z5 hlt,List.map_append]
    simp [Eu,hl]
 ·have hie:i=x1.length:=by omega
  rw [if_neg (by simpa using hlt)]
  refine .inr ⟨_,rfl,fun id=>?_,?_⟩
  ·have h:=hI id
   simp only at h ⊢
   rw [h,Qwp x1,hie,List.take_length]
  ·rw [hie,List.take_length]
theorem Jlj {x0 x1:List Ql} {m2:List (Int×Bool)} {o:List Qd} (hm:∀id,(Q6 (k:=.int .i64) id m2).getD false=((Ky x0 id).isSome&&(Ky x1 id).isSome)) (hn:ndR x0) (h0:x0.length≤100) (ho:o.length≤100):Qw (V3 128 x0 m2) 128 (0,o)=some (o++(x0.filter fun x=>(Ky x1 x.Usage.Id).isNone).map N6):=by
 obtain ⟨r,e1,rfl⟩:=Ks (f:=V3 128 x0 m2) x0.length (fun i s=>s.1=(i:Int)∧s.2=o++((x0.take i).filter fun x=>(Ky x1 x.Usage.Id).isNone).map N6) (fun r=>r=o++(x0.filter fun x=>(Ky x1 x.Usage.Id).isNone).map N6) (fun i s hi ⟨hs,hO⟩=>by
  obtain ⟨a,out⟩:=s
  have hs:a=(i:Int):=hs
  have hO:out=o++((x0.take i).filter fun x=>(Ky x1 x.Usage.Id).isNone).map N6:=hO
  subst hs; subst hO
  unfold V3
  dsimp only
  by_cases hlt:i<x0.length
  ·have hw:IntKind.wrap .i64 ((i:Int)+1)=((i+1:Nat):Int):=Ko (by rw [Vj]; omega)
   rw [if_pos (by simpa using hlt),Xq hlt,Option.bind_some,show U9 128 x0[i]=some x0[i].Usage.Id from rfl,Option.bind_some,hm,N4 hn x0[i] (List.getElem_mem hlt)]
   have hlen:(((x0.take i).filter fun x=>(Ky x1 x.Usage.Id).isNone).map N6).length≤100:=by
    rw [List.length_map]
    have:=List.length_filter_le (fun x=>(Ky x1 x.Usage.Id).isNone) (x0.take i)
    simp at this; omega
   cases hl:Ky x1 x0[i].Usage.Id with
   | none =>
    rw [if_pos (by rfl),show Xx 128 x0[i]=some (N6 x0[i]) from rfl,Option.bind_some,M3 (by simp only [List.length_append,List.length_cons,List.length_nil]; omega),Option.bind_some,Option.bind_some,hw]
    refine .inl ⟨_,hlt,rfl,rfl,?_⟩
    rw [Z5 hlt,List.filter_append,List.map_append]
    simp [hl]
   | some z =>
    rw [if_neg (by simp),Option.bind_some,hw]
    refine .inl ⟨_,hlt,rfl,rfl,?_⟩
    rw [Z5 hlt,List.filter_append,List.map_append]
    simp [hl]
  ·have hie:i=x0.length:=by omega
   rw [if_neg (by simpa using hlt)]
   refine .inr ⟨_,rfl,?_⟩
   rw [hie,List.take_length]) (n:=128) (s:=(0,o)) (by omega) ⟨rfl,by simp⟩
 exact e1
theorem Qdy (old:List Ql) (y:Ql):(Eu old y).Usage=y.Usage.Id:=by
 unfold Eu; split<;>rfl
theorem Q91 {old new:List Ql} (h0:ndR old) (h1:ndR new):nd (Qdx old new):=by
 unfold Qdx
 rw [nd,List.pairwise_append]
 refine ⟨?_,?_,fun a ha b hb=>?_⟩
 ·rw [List.pairwise_map]
  exact h1.imp fun h=>by rw [Qdy,Qdy]; exact h
 ·rw [List.pairwise_map]
  exact (h0.sublist List.filter_sublist).imp fun h=>h
 ·obtain ⟨y,hy,rfl⟩:=List.mem_map.1 ha
  obtain ⟨x,hx,rfl⟩:=List.mem_map.1 hb
  have hx2:=(List.mem_filter.1 hx).2
  rw [Qdy]
  exact Dy.1 (show Ky new x.Usage.Id=none by simpa using hx2) y hy
theorem Qib (old new:List Ql):(Qdx old new).length≤old.length+new.length:=by
 unfold Qdx
 have:=List.length_filter_le (fun x=>(Ky new x.Usage.Id).isNone) old
 simp only [List.length_append,List.length_map]; omega
theorem Qqx {x0 x1:List Ql} (h0:x0.length≤50) (h1:x1.length≤50) (n0:ndR x0) (n1:ndR x1):Xp 128 x0 x1=some (fz (Qdx x0 x1)):=by
 obtain ⟨m,e1,hm⟩:=Jil (l:=x0) (by omega) n0
 obtain ⟨⟨m2,o⟩,e2,p2,p3⟩:=Jli (x0:=x0) (x1:=x1) hm (by omega)
 have p3:o=x1.map (Eu x0):=p3
 have e3:=Jlj (o:=o) p2 n0 (by omega) (by rw [p3]; simp; omega)
 have hlen:=Qib x0 x1
 unfold Xp Z3
 rw [e1,Option.bind_some,e2,Option.bind_some]
 dsimp only
 rw [e3,Option.bind_some,p3]
 show ((Xb 128 (Qdx x0 x1)).bind fun r39=>some r39).bind (fun r1=>some r1)=_
 rw [Qkv (Q91 n0 n1) (by omega)]
 rfl
end Gx
namespace Gx
open Go Gd
set_option linter.unusedVariables false
set_option linter.unusedSimpArgs false
abbrev big:Int:=1125899906842624
def inR (r:Ql):Prop := -big≤r.Paid∧r.Paid≤big ∧ -big≤r.Owed∧r.Owed≤big
structure OkR (l:List Ql):Prop where
 n:ndR l
 len:l.length≤20
 b:∀r∈l,inR r
theorem Qic (l:List Ql):∃b,Uy 128 l 20=some b∧(b=true→OkR l):=by
 unfold Uy
 by_cases hl:l.length≤20
 ·rw [if_neg (by simp; omega)]
  obtain ⟨r,e1,p1⟩:=Ks (f:=Kv 128 l) l.length (fun i s=>s=(i:Int)∧ndR (l.take i)∧∀r∈l.take i,inR r) (fun r=>r=.inr false∨(r=.inl ()∧OkR l)) (fun i s hi ⟨hs,hn,hb⟩=>by
   subst hs
   unfold Kv
   by_cases hlt:i<l.length
   ·rw [if_pos (by simpa using hlt),Xq hlt,Option.bind_some,Qn2 (by omega),Option.bind_some]
    obtain ⟨b,e2,p2⟩:=T7 (l.take i) (by simp; omega) hn l[i].Usage.Id
    rw [e2,Option.bind_some,Option.bind_some]
    have hw:IntKind.wrap .i64 ((i:Int)+1)=((i+1:Nat):Int):=Ko (by rw [Vj]; omega)
    split
    ·exact .inr ⟨_,rfl,.inl rfl⟩
    ·rename_i hc
     refine .inl ⟨_,hlt,rfl,hw,?_,?_⟩
     ·rw [Z5 hlt,ndR,List.pairwise_append]
      refine ⟨hn,List.pairwise_singleton _ _,fun a ha c hc2=>?_⟩
      rw [List.mem_singleton] at hc2
      subst hc2
      rcases p2 with ⟨h1,h2⟩ | ⟨j,r,h1,h2,h3⟩
      ·exact Dy.1 h2 a ha
      ·exact absurd (by simp [h1]) hc
     ·intro r hr
      rw [Z5 hlt] at hr
      rcases List.mem_append.1 hr with hr | hr
      ·exact hb r hr
      ·rw [List.mem_singleton] at hr
       subst hr
       simp only [Bool.or_eq_true,decide_eq_true_eq,not_or] at hc
       unfold inR big
       omega
   ·rw [if_neg (by simpa using hlt)]
    have hie:i=l.length:=by omega
    rw [hie,List.take_length] at hn hb
    exact .inr ⟨_,rfl,.inr ⟨rfl,hn,hl,hb⟩⟩) (n:=128) (s:=0) (by omega) ⟨rfl,by simp,by simp⟩
  rw [e1,Option.bind_some]
  rcases p1 with rfl | ⟨rfl,h⟩
  ·exact ⟨false,rfl,by simp⟩
  ·exact ⟨true,rfl,fun _=>h⟩
 ·rw [if_pos (by simp; omega)]
  exact ⟨false,rfl,by simp⟩
theorem N7:∀{l acc:List Qd},(l.foldl Hd acc).length≤acc.length+l.length
 | [],acc=>by simp
 | x::l,acc=>by
  have h:(Hd acc x).length≤acc.length+1:=by
   unfold Hd Qku
   cases zA x with
   | true=>simp
   | false =>
    have:=congrArg List.length (List.takeWhile_append_dropWhile (p:=fun y=>ltA y x) (l:=acc))
    simp only [List.length_append] at this
    simp only [cond_false,List.length_append,List.length_cons]; omega
  have:=N7 (l:=l) (acc:=Hd acc x)
  simp only [List.foldl_cons,List.length_cons]; omega
theorem Qkw (L:List Qd):(fz L).length≤L.length:=by
 have:=N7 (l:=L) (acc:=[])
 simpa using this
theorem Qwq (L M:List Qd):fz (L++M)=M.foldl Hd (fz L):=List.foldl_append
theorem w0 {r:Ql} (h:inR r):IntKind.wrap .i64 (r.Paid - 0)=r.Paid∧IntKind.wrap .i64 (r.Owed - 0)=r.Owed:=by
 unfold inR big at h
 rw [Int.sub_zero,Int.sub_zero,Qb2 (by omega) (by omega),Qb2 (by omega) (by omega)]
 exact ⟨rfl,rfl⟩
theorem Jim {x0 x1:List Ql} (h0:OkR x0) (h1:OkR x1):Qw (Uo 128 x1 x0) 128 ([],0)=some (fz (x1.map (Eu x0))):=by
 obtain ⟨r,e1,rfl⟩:=Ks (f:=Uo 128 x1 x0) x1.length (fun i s=>s=(fz ((x1.take i).map (Eu x0)),(i:Int))) (fun r=>r=fz (x1.map (Eu x0))) (fun i s hi hs=>by
  subst hs
  unfold Uo
  dsimp only
  by_cases hlt:i<x1.length
  ·have hw:IntKind.wrap .i64 ((i:Int)+1)=((i+1:Nat):Int):=Ko (by rw [Vj]; have:=h1.len; omega)
   rw [if_pos (by simpa using hlt),Xq hlt,Option.bind_some]
   obtain ⟨b,e2,p2⟩:=T7 x0 (by have:=h0.len; omega) h0.n x1[i].Usage.Id
   rw [e2,Option.bind_some,hw]
   have hput:Ur 128 (fz ((x1.take i).map (Eu x0))) (Eu x0 x1[i])=some (fz ((x1.take (i+1)).map (Eu x0))):=by
    rw [Qn3 (by have:=Qkw ((x1.take i).map (Eu x0)); have:=h1.len; simp only [List.length_map,List.length_take] at *; omega),Z5 hlt,List.map_append,Qwq]
    rfl
   rcases p2 with ⟨rfl,hl⟩ | ⟨j,r,rfl,hj,hl⟩
   ·rw [if_neg (by decide),Option.bind_some]
    have hb:=w0 (h1.b _ (List.getElem_mem hlt))
    rw [hb.1,hb.2,show Za 128 x1[i].Usage x1[i].Paid x1[i].Owed=some (Eu x0 x1[i]) by unfold Eu; rw [hl]; rfl,Option.bind_some,hput,Option.bind_some]
    exact .inl ⟨_,hlt,rfl,rfl⟩
   ·have hij:idx x0 (j:Int)=some r:=by
     obtain ⟨h2,h3⟩:=List.getElem?_eq_some_iff.1 hj
     rw [Xq h2,h3]
    rw [if_pos (by simp),hij,Option.bind_some,Option.bind_some,Option.bind_some]
    dsimp only
    rw [show Za 128 x1[i].Usage (IntKind.wrap .i64 (x1[i].Paid - r.Paid)) (IntKind.wrap .i64 (x1[i].Owed - r.Owed))=some (Eu x0 x1[i]) by unfold Eu; rw [hl]; rfl,Option.bind_some,hput,Option.bind_some]
    exact .inl ⟨_,hlt,rfl,rfl⟩
  ·rw [if_neg (by simpa using hlt)]
   have hie:i=x1.length:=by omega
   exact .inr ⟨_,rfl,by rw [hie,List.take_length]⟩) (n:=128) (s:=([],0)) (by have:=h1.len; omega) rfl
 exact e1
theorem Jin {x0 x1:List Ql} {o:List Qd} (h0:OkR x0) (h1:OkR x1) (ho:o.length≤50):Qw (Up 128 x0 x1) 128 (o,0)=some (((x0.filter fun x=>(Ky x1 x.Usage.Id).isNone).map N6).foldl Hd o):=by
 obtain ⟨r,e1,rfl⟩:=Ks (f:=Up 128 x0 x1) x0.length (fun i s=>s=((((x0.take i).filter fun x=>(Ky x1 x.Usage.Id).isNone).map N6).foldl Hd o,(i:Int))) (fun r=>r=((x0.filter fun x=>(Ky x1 x.Usage.Id).isNone).map N6).foldl Hd o) (fun i s hi hs=>by
  subst hs
  unfold Up
  dsimp only
  by_cases hlt:i<x0.length
  ·have hw:IntKind.wrap .i64 ((i:Int)+1)=((i+1:Nat):Int):=Ko (by rw [Vj]; have:=h0.len; omega)
   rw [if_pos (by simpa using hlt),Xq hlt,Option.bind_some]
   obtain ⟨b,e2,p2⟩:=T7 x1 (by have:=h1.len; omega) h1.n x0[i].Usage.Id
   rw [e2,Option.bind_some,hw]
   have hlen:((((x0.take i).filter fun x=>(Ky x1 x.Usage.Id).isNone).map N6).foldl Hd o).length≤100:=by
    have a1:=N7 (l:=((x0.take i).filter fun x=>(Ky x1 x.Usage.Id).isNone).map N6) (acc:=o)
    have a2:=List.length_filter_le (fun x=>(Ky x1 x.Usage.Id).isNone) (x0.take i)
    have a3:=h0.len
    simp only [List.length_map,List.length_take] at *
    omega
   rcases p2 with ⟨rfl,hl⟩ | ⟨j,r,rfl,hj,hl⟩
   ·rw [if_pos (by decide),show Za 128 x0[i].Usage (IntKind.wrap .i64 (0 - x0[i].Paid)) (IntKind.wrap .i64 (0 - x0[i].Owed))=some (N6 x0[i]) from rfl,Option.bind_some,Qn3 hlen,Option.bind_some,Option.bind_some]
    refine .inl ⟨_,hlt,rfl,?_⟩
    rw [Z5 hlt,List.filter_append,List.map_append,List.foldl_append]
    simp [hl]
   ·rw [if_neg (by simp),Option.bind_some]
    refine .inl ⟨_,hlt,rfl,?_⟩
    rw [Z5 hlt,List.filter_append,List.map_append,List.foldl_append]
    simp [hl]
  ·rw [if_neg (by simpa using hlt)]
   have hie:i=x0.length:=by omega
   exact .inr ⟨_,rfl,by rw [hie,List.take_length]⟩) (n:=128) (s:=(o,0)) (by have:=h0.len; omega) rfl
 exact e1
theorem Jio {x0 x1:List Ql} (h0:OkR x0) (h1:OkR x1):Zr 128 x0 x1=some (fz (Qdx x0 x1)):=by
 unfold Zr
 rw [Jim h0 h1,Option.bind_some,Jin h0 h1 (by have:=Qkw (x1.map (Eu x0)); have:=h1.len; simp only [List.length_map] at *; omega),Option.bind_some]
 unfold Qdx
 rw [Qwq]
theorem Qqy (l:List Qd) (hl:l.length≤100):Zk 128 l l=some true:=by
 unfold Zk
 rw [if_neg (by simp)]
 obtain ⟨r,e1,rfl⟩:=Qwg (f:=Xc 128 l l) (n:=l.length) (N:=128) (fun r=>r=.inl ()) (by omega) (fun i hi=>by
  unfold Xc
  by_cases hlt:i<l.length
  ·rw [if_pos (by simpa using hlt),Xq hlt,Option.bind_some,Option.bind_some,if_neg (by simp)]
   exact .inl ⟨hlt,by rw [show IntKind.wrap .i64 ((i:Int)+1)=((i+1:Nat):Int) from Ko (by rw [Vj]; omega)]⟩
  ·rw [if_neg (by simpa using hlt)]
   exact .inr ⟨_,rfl,rfl⟩)
 rw [e1]; rfl
theorem Mw (x0:List Ql) (g0:gd (.sl Jm) x0) (x1:List Ql) (g1:gd (.sl Jm) x1):∃N,U0 N x0 x1=some true:=by
 refine ⟨128,?_⟩
 obtain ⟨b0,e0,p0⟩:=Qic x0
 obtain ⟨b1,e1,p1⟩:=Qic x1
 unfold U0
 rw [e0,Option.bind_some]
 cases b0 with
 | false=>simp only [Bool.not_false,if_true,Option.bind_some,Qdu]
 | true =>
  rw [if_neg (by decide),e1,Option.bind_some,Option.bind_some]
  cases b1 with
  | false=>simp only [Bool.not_false,if_true,Option.bind_some,Qdu]
  | true =>
   have h0:=p0 rfl
   have h1:=p1 rfl
   have l0:=h0.len
   have l1:=h1.len
   have hlen:=Qib x0 x1
   have hl2:=Qkw (Qdx x0 x1)
   rw [if_neg (by decide),Qqx (by omega) (by omega) h0.n h1.n,Option.bind_some,Jio h0 h1,Option.bind_some,Qqy _ (by omega),Option.bind_some,if_pos rfl,Qdu]
   rfl
end Gx

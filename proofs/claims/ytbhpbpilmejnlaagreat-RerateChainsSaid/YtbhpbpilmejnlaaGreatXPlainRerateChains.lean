/- The plain laws for RerateChains. -/
import Derived.Test.YtbhpbpilmejnlaaGreatXFns
import Derived.Test.YtbhpbpilmejnlaaGreatGAppend
import Derived.KernelRfl
namespace Gx
open Go Gd
set_option linter.unusedVariables false
set_option linter.unusedSimpArgs false
theorem Z8 {σ τ:Type} {f:σ→Option (σ⊕τ)} (k:Nat) (I:Nat→σ→Prop) (R:τ→Prop)
  (step:∀i s,i≤k→I i s→(∃s',i<k∧f s=some (.inl s')∧I (i+1) s')∨(∃r,f s=some (.inr r)∧R r)) :
  ∀{n:Nat} {s:σ},k<n→I 0 s→∃r,Qx f n s=some r∧R r:=by
 have main:∀(d i n:Nat) (s:σ),i+d=k→d<n→I i s→∃r,Qx f n s=some r∧R r:=by
  intro d
  induction d with
  | zero =>
   intro i n s hi hn hI
   obtain ⟨m,rfl⟩:∃m,n=m+1:=⟨n - 1,by omega⟩
   rcases step i s (by omega) hI with ⟨s',h,_⟩ | ⟨r,h1,h2⟩
   ·omega
   ·exact ⟨r,by simp [Qx,h1],h2⟩
  | succ d ih =>
   intro i n s hi hn hI
   obtain ⟨m,rfl⟩:∃m,n=m+1:=⟨n - 1,by omega⟩
   rcases step i s (by omega) hI with ⟨s',_,h1,h2⟩ | ⟨r,h1,h2⟩
   ·obtain ⟨r,h3,h4⟩:=ih (i+1) m s' (by omega) (by omega) h2
    exact ⟨r,by simp [Qx,h1,h3],h4⟩
   ·exact ⟨r,by simp [Qx,h1],h2⟩
 intro n s hn hI
 exact main k 0 n s (by omega) hn hI
theorem Qse {α σ ρ τ:Type} (l:List α) (hl:l.length≤maxLen) {f:ρ→Option (ρ⊕τ)} (mk:σ→Int→ρ) (Inv:Nat→σ→Prop) (go:σ→List α→τ)
  (h0:∀s,Inv l.length s→decide (((l.length:Nat):Int)<(l.length:Int))=false→f (mk s (l.length:Int))=some (.inr (go s [])))
  (h1:∀s (i:Nat) x xs,l[i]?=some x→decide ((i:Int)<(l.length:Int))=true→idx l (i:Int)=some x→IntKind.wrap .i64 ((i:Int)+1)=((i+1:Nat):Int)→l.drop i=x::xs→Inv i s →
   (∃s',f (mk s (i:Int))=some (.inl (mk s' ((i+1:Nat):Int)))∧Inv (i+1) s'∧go s (x::xs)=go s' xs)∨f (mk s (i:Int))=some (.inr (go s (x::xs))))
  {n:Nat} {s:σ} (hn:l.length<n) (hs:Inv 0 s):Qx f n (mk s 0)=some (go s l):=by
 have main:∀(k i n:Nat) (s:σ),l.length=i+k→k<n→Inv i s→Qx f n (mk s (i:Int))=some (go s (l.drop i)):=by
  intro k
  induction k with
  | zero =>
   intro i n s hk hn hI
   obtain ⟨m,rfl⟩:∃m,n=m+1:=⟨n - 1,by omega⟩
   have hi:i=l.length:=by omega
   subst hi
   rw [List.drop_length]
   simp [Qx,h0 s hI (by simp)]
  | succ k ih =>
   intro i n s hk hn hI
   obtain ⟨m,rfl⟩:∃m,n=m+1:=⟨n - 1,by omega⟩
   have hlt:i<l.length:=by omega
   have hd:=List.drop_eq_getElem_cons hlt
   rw [hd]
   rcases h1 s i _ _ (List.getElem?_eq_getElem hlt) (by simpa using hlt) (Qmi (List.getElem?_eq_getElem hlt)) (Zv (by omega)) hd hI with ⟨s',e1,e2,e3⟩ | e1
   ·simp only [Qx,e1,Option.bind_some,e3]
    exact ih (i+1) m s' (by omega) (by omega) e2
   ·simp only [Qx,e1,Option.bind_some]
 simpa using main l.length 0 n s (by omega) hn hs
theorem Xm {α:Type} {l:List α} {i:Nat} (h:i<l.length):idx l (i:Int)=some l[i]:=Qmi (List.getElem?_eq_getElem h)
end Gx
namespace Gx
open Go
theorem B6 (M:Nat):Km (M+64)=some true:=by kernel_rfl
end Gx
namespace Gx
open Go Gd
set_option linter.unusedVariables false
set_option linter.unusedSimpArgs false
end Gx
namespace Gx
open Go Gd
set_option linter.unusedVariables false
set_option linter.unusedSimpArgs false
end Gx
namespace Gx
open Go Gd
set_option linter.unusedVariables false
set_option linter.unusedSimpArgs false
def ltA (a b:Qa):Bool:=decide (a.Start<b.Start)||(a.Start==b.Start&&decide (a.Usage<b.Usage))
theorem Qdd {a b c:Qa} (h1:ltA a b=true) (h2:ltA b c=true):ltA a c=true:=by
 simp only [ltA,Bool.or_eq_true,decide_eq_true_eq,Bool.and_eq_true,beq_iff_eq] at *
 omega
theorem Jbk (a:Qa):ltA a a=false:=by simp [ltA]
theorem Jbl {a b:Qa} (h:a.Usage≠b.Usage):ltA a b=true∨ltA b a=true:=by
 simp only [ltA,Bool.or_eq_true,decide_eq_true_eq,Bool.and_eq_true,beq_iff_eq]
 omega
theorem Qsf (N:Nat) (a b:Qa):Gv N a b=some (ltA a b):=by
 unfold Gv ltA
 by_cases h:a.Start=b.Start
 ·simp [h]
 ·simp [h]
def zA (a:Qa):Bool:=(a.Paid==0)&&(a.Owed==0)
def Qfb (l:List Qa) (x:Qa):List Qa:=l.takeWhile (fun y=>ltA y x)++x::l.dropWhile (fun y=>ltA y x)
def E7 (l:List Qa) (x:Qa):List Qa:=bif zA x then l else Qfb l x
abbrev srt (l:List Qa):Prop:=l.Pairwise fun a b=>ltA a b=true
theorem Qbk {l:List Qa} {x y:Qa}:y∈Qfb l x↔y=x∨y∈l:=by
 unfold Qfb
 have h:=List.takeWhile_append_dropWhile (p:=fun y=>ltA y x) (l:=l)
 constructor
 ·intro hy
  rcases List.mem_append.1 hy with hy | hy
  ·exact .inr (by rw [←h]; exact List.mem_append_left _ hy)
  ·rcases List.mem_cons.1 hy with hy | hy
   ·exact .inl hy
   ·exact .inr (by rw [←h]; exact List.mem_append_right _ hy)
 ·rintro (rfl | hy)
  ·exact List.mem_append_right _ (.head _)
  ·rw [←h] at hy
   rcases List.mem_append.1 hy with hy | hy
   ·exact List.mem_append_left _ hy
   ·exact List.mem_append_right _ (.tail _ hy)
theorem Qfc {x:Qa}:∀{l:List Qa},srt l→(∀y∈l,y.Usage≠x.Usage)→∀y∈l.dropWhile (fun y=>ltA y x),ltA x y=true
 | [],_,_,y,hy=>by cases hy
 | a::l,hs,hu,y,hy=>by
  have hs':=List.pairwise_cons.1 hs
  rw [List.dropWhile_cons] at hy
  cases ha:ltA a x with
  | true =>
   rw [ha] at hy
   exact Qfc hs'.2 (fun z hz=>hu z (.tail _ hz)) y hy
  | false =>
   rw [ha] at hy
   have hxa:ltA x a=true:=(Jbl (hu a (.head _))).resolve_left (by rw [ha]; simp)
   simp only [Bool.false_eq_true,if_false] at hy
   rcases List.mem_cons.1 hy with rfl | hy
   ·exact hxa
   ·exact Qdd hxa (hs'.1 y hy)
theorem Qpk {x:Qa}:∀{l:List Qa},∀y∈l.takeWhile (fun y=>ltA y x),ltA y x=true
 | a::l,y,hy=>by
  rw [List.takeWhile_cons] at hy
  cases ha:ltA a x with
  | true =>
   rw [ha] at hy
   rcases List.mem_cons.1 hy with rfl | hy
   ·exact ha
   ·exact Qpk y hy
  | false=>rw [ha] at hy; cases hy
theorem Qxz {l:List Qa} {x:Qa} (hs:srt l) (hu:∀y∈l,y.Usage≠x.Usage):srt (Qfb l x):=by
 unfold Qfb
 have h:=List.takeWhile_append_dropWhile (p:=fun y=>ltA y x) (l:=l)
 have hs2:=hs
 rw [←h] at hs2
 obtain ⟨p1,p2,p3⟩:=List.pairwise_append.1 hs2
 rw [srt,List.pairwise_append]
 refine ⟨p1,List.pairwise_cons.2 ⟨Qfc hs hu,p2⟩,fun a ha b hb=>?_⟩
 rcases List.mem_cons.1 hb with rfl | hb
 ·exact Qpk a ha
 ·exact p3 a ha b hb
end Gx
namespace Gx
open Go Gd
set_option linter.unusedVariables false
set_option linter.unusedSimpArgs false
theorem Qpl {α:Type} {l:List α} {k:Nat} (h:k≤l.length):slc l 0 (k:Int)=some (l.take k):=by
 unfold slc
 rw [if_pos ⟨by omega,by omega,by omega⟩]
 simp
theorem Qx0 {α:Type} {l:List α} {k:Nat} (h:k≤l.length):slc l (k:Int) (l.length:Int)=some (l.drop k):=by
 unfold slc
 rw [if_pos ⟨by omega,by omega,by omega⟩]
 congr 1
 rw [Int.toNat_natCast,show ((l.length:Int) - (k:Int)).toNat=l.length - k by omega]
 exact List.take_of_length_le (by simp)
section
variable {α:Type} {p:α→Bool}
theorem Qmd:∀{l:List α},(l.takeWhile p).length≤l.length
 | []=>by simp
 | a::l=>by
  rw [List.takeWhile_cons]
  split
  ·simp only [List.length_cons]; have:=Qmd (l:=l); omega
  ·simp
theorem Jcc:∀{l:List α} {i:Nat} (h:i<l.length),i<(l.takeWhile p).length→p l[i]=true
 | a::l,i,h,hi=>by
  rw [List.takeWhile_cons] at hi
  cases ha:p a with
  | false=>rw [ha] at hi; simp at hi
  | true =>
   rw [ha] at hi
   cases i with
   | zero=>simpa using ha
   | succ i=>simpa using Jcc (l:=l) (i:=i) (by simpa using h) (by simpa using hi)
theorem Qpm:∀{l:List α},l.take (l.takeWhile p).length=l.takeWhile p
 | []=>rfl
 | a::l=>by
  rw [List.takeWhile_cons]
  split
  ·simp only [List.length_cons,List.take_succ_cons]; rw [Qpm]
  ·rfl
theorem Qfd:∀{l:List α},l.drop (l.takeWhile p).length=l.dropWhile p
 | []=>rfl
 | a::l=>by
  rw [List.takeWhile_cons,List.dropWhile_cons]
  split
  ·simp only [List.length_cons,List.drop_succ_cons]; exact Qfd
  ·rfl
end
theorem Qx1 {l:List Qa} {x:Qa} {k:Nat} (hk:k≤l.length) (h:l.length≤100) :
  ((slc l 0 (k:Int)).bind fun s20=>(app 56 ([]:List Qa) s20).bind fun q21=>(app 56 q21 ([x]:List Qa)).bind fun q22=>(slc l (k:Int) (l.length:Int)).bind fun s23=>(app 56 q22 s23).bind fun q24=>some q24)=some (l.take k++x::l.drop k):=by
 rw [Qpl hk,Option.bind_some,Bb (by simp; omega),Option.bind_some,Bb (by simp; omega),Option.bind_some,Qx0 hk,Option.bind_some,Bb (by simp; omega),Option.bind_some]
 simp
end Gx
namespace Gx
open Go Gd
set_option linter.unusedVariables false
set_option linter.unusedSimpArgs false
theorem Qsg {α:Type} {l:List α} {k j:Nat} (hk:k≤j) (hj:j<l.length):l[j]∈l.drop k:=by
 have h:j - k<(l.drop k).length:=by simp; omega
 have e:(l.drop k)[j - k]=l[j]:=by
  rw [List.getElem_drop]
  congr 1; omega
 rw [←e]
 exact List.getElem_mem h
theorem Qx2 {a b:Qa} (h:ltA a b=true):ltA b a=false:=by
 cases hb:ltA b a with
 | false=>rfl
 | true=>have:=Qdd h hb; rw [Jbk] at this; cases this
theorem Qx3 {l:List Qa} {x:Qa} (hs:srt l) (hu:∀y∈l,y.Usage≠x.Usage) (h:l.length≤100):Qx (Zn 128 l x) 128 (l.length:Int)=some (((l.takeWhile fun y=>ltA y x).length:Nat):Int):=by
 have hlen:=Qmd (p:=fun y=>ltA y x) (l:=l)
 have key:∀j:Nat,j≤l.length→Zn 128 l x (j:Int)=(if (if h:0<j∧j - 1<l.length then ltA x l[j - 1] else false)=true then some (.inl ((j - 1:Nat):Int)) else some (.inr (j:Int))):=by
  intro j hj
  unfold Zn
  by_cases h0:0<j
  ·have hlt:j - 1<l.length:=by omega
   have hw:IntKind.wrap .i64 ((j:Int) - 1)=((j - 1:Nat):Int):=by rw [G7 (by omega) (by omega)]; omega
   rw [if_pos (by simpa using h0),dif_pos ⟨h0,hlt⟩]
   simp only [hw,Xm hlt,Option.bind_some,Qsf]
  ·rw [if_neg (by simpa using h0),dif_neg (fun h=>h0 h.1)]
   rfl
 obtain ⟨r,e1,rfl⟩:=Z8 (f:=Zn 128 l x) (l.length - (l.takeWhile fun y=>ltA y x).length) (fun i s=>s=((l.length - i:Nat):Int)) (fun r=>r=(((l.takeWhile fun y=>ltA y x).length:Nat):Int)) (fun i s hi hs'=>by
  subst hs'
  rw [key _ (by omega)]
  by_cases hi2:i<l.length - (l.takeWhile fun y=>ltA y x).length
  ·have hlt:l.length - i - 1<l.length:=by omega
   have hgt:ltA x l[l.length - i - 1]=true:=Qfc hs hu _ (by
    rw [←Qfd]
    exact Qsg (by omega) hlt)
   rw [dif_pos ⟨by omega,hlt⟩,hgt,if_pos rfl]
   exact .inl ⟨_,hi2,rfl,by congr 1⟩
  ·have hie:l.length - i=(l.takeWhile fun y=>ltA y x).length:=by omega
   refine .inr ⟨_,?_,by rw [←hie]⟩
   by_cases hlt:0<l.length - i∧l.length - i - 1<l.length
   ·rw [dif_pos hlt,Qx2 (Jcc (p:=fun y=>ltA y x) hlt.2 (by omega))]; rfl
   ·rw [dif_neg hlt]; rfl) (n:=128) (s:=(l.length:Int)) (by omega) rfl
 exact e1
abbrev nd (l:List Qa):Prop:=l.Pairwise fun a b=>a.Usage≠b.Usage
theorem Qjr:∀{l acc:List Qa},srt acc→nd l→(∀a∈acc,∀b∈l,a.Usage≠b.Usage)→acc.length+l.length≤100→srt (l.foldl E7 acc)∧(l.foldl E7 acc).length≤acc.length+l.length∧(∀y∈l.foldl E7 acc,y∈acc∨y∈l)
 | [],acc,hs,_,_,_=>⟨hs,by simp,fun y hy=>.inl hy⟩
 | x::l,acc,hs,hn,hd,hl=>by
  have hn':=List.pairwise_cons.1 hn
  have hu:∀y∈acc,y.Usage≠x.Usage:=fun y hy=>hd y hy x (.head _)
  have hp:srt (E7 acc x)∧(E7 acc x).length≤acc.length+1∧∀y∈E7 acc x,y=x∨y∈acc:=by
   unfold E7
   cases zA x with
   | true=>exact ⟨hs,by simp,fun y hy=>.inr hy⟩
   | false =>
    refine ⟨Qxz hs hu,?_,fun y hy=>Qbk.1 hy⟩
    simp only [cond_false,Qfb,List.length_append,List.length_cons]
    have:=congrArg List.length (List.takeWhile_append_dropWhile (p:=fun y=>ltA y x) (l:=acc))
    simp only [List.length_append] at this
    omega
  obtain ⟨q1,q2,q3⟩:=Qjr (l:=l) hp.1 hn'.2 (fun a ha b hb=>by
   rcases hp.2.2 a ha with rfl | ha
   ·exact hn'.1 b hb
   ·exact hd a ha b (.tail _ hb)) (by simp at hl; omega)
  refine ⟨q1,by simp only [List.foldl_cons,List.length_cons]; omega,fun y hy=>?_⟩
  rcases q3 y hy with h | h
  ·rcases hp.2.2 y h with rfl | h
   ·exact .inr (.head _)
   ·exact .inl h
  ·exact .inr (.tail _ h)
theorem Qbl {L:List Qa} (hn:nd L) (hl:L.length≤100):U4 128 L=some (L.foldl E7 []):=by
 have main:Qx (K3 128 L) 128 (0,[])=some (L.foldl E7 []):=by
  refine Qse (σ:=List Qa) L (by rw [Vh]; omega) (fun v i=>(i,v)) (fun i v=>v=(L.take i).foldl E7 []) (fun v l=>l.foldl E7 v) (fun s _ hd=>?_) (fun s i y ys hy hd hi hw hdr hI=>?_) (s:=[]) (by omega) rfl
  ·unfold K3; dsimp only; rw [if_neg (by rw [hd]; simp)]; rfl
  ·have hlt:i<L.length:=by have:=List.getElem?_eq_some_iff.1 hy; exact this.1
   have hyi:L[i]=y:=(List.getElem?_eq_some_iff.1 hy).2
   have hsplit:L.take i++y::ys=L:=by rw [←hdr]; exact List.take_append_drop i L
   have hn2:=hn
   rw [←hsplit] at hn2
   obtain ⟨n1,n2,n3⟩:=List.pairwise_append.1 hn2
   obtain ⟨f1,f2,f3⟩:=Qjr (l:=L.take i) (acc:=[]) .nil n1 (fun a ha=>by cases ha) (by simp; omega)
   rw [←hI] at f1 f2 f3
   have hsl:s.length≤100:=by simp at f2; omega
   have hu:∀z∈s,z.Usage≠y.Usage:=fun z hz=>by
    rcases f3 z hz with h | h
    ·cases h
    ·exact n3 z h y (.head _)
   unfold K3; dsimp only
   rw [if_pos hd,hi,Option.bind_some]
   refine .inl ⟨E7 s y,?_,?_,rfl⟩
   ·unfold E7 zA
    cases hz:((y.Paid==0)&&(y.Owed==0)) with
    | true=>simp only [if_true,Option.bind_some,cond_true,hw]
    | false =>
     simp only [Bool.false_eq_true,if_false,cond_false]
     rw [Qx3 f1 hu hsl,Option.bind_some]
     have:=Qx1 (l:=s) (x:=y) (k:=(s.takeWhile fun z=>ltA z y).length) Qmd hsl
     rw [this,Option.bind_some,hw,Qpm,Qfd]; rfl
   ·rw [hI,show L.take (i+1)=L.take i++[y] by rw [List.take_add_one,hy]; rfl,List.foldl_append]
    rfl
 unfold U4
 rw [main]; rfl
end Gx
namespace Gx
open Go Gd
set_option linter.unusedVariables false
set_option linter.unusedSimpArgs false
def K0 (l:List Ql) (id:Int):Option Ql:=l.find? fun r=>r.Usage.Id==id
abbrev ndR (l:List Ql):Prop:=l.Pairwise fun a b=>a.Usage.Id≠b.Usage.Id
theorem I6 {l:List Ql} {id:Int} {r:Ql} (h:K0 l id=some r):r∈l∧r.Usage.Id=id:=⟨List.mem_of_find?_eq_some h,by simpa using List.find?_some h⟩
theorem Eb {l:List Ql} {id:Int}:K0 l id=none↔∀r∈l,r.Usage.Id≠id:=by
 unfold K0
 rw [List.find?_eq_none]
 simp
theorem Po {l:List Ql} (h:ndR l) (r:Ql) (hr:r∈l):K0 l r.Usage.Id=some r:=by
 induction l with
 | nil=>cases hr
 | cons a l ih =>
  have h':=List.pairwise_cons.1 h
  unfold K0
  rw [List.find?_cons]
  rcases List.mem_cons.1 hr with e | hr
  ·rw [←e,show (r.Usage.Id==r.Usage.Id)=true from beq_self_eq_true _]
  ·rw [show (a.Usage.Id==r.Usage.Id)=false from beq_eq_false_iff_ne.2 (h'.1 r hr)]
   exact ih h'.2 hr
theorem Ax {ν:Type} {a b:Int} {y:ν}:∀{l:List (Int×ν)},Q0 (k:=.int .i64) a (Vq (k:=.int .i64) b y l)=if a=b then some y else Q0 (k:=.int .i64) a l
 | []=>by
  by_cases h:a=b
  ·simp [Vq,Q0,eqK,h]
  ·simp [Vq,Q0,eqK,h,beq_eq_false_iff_ne.2 h]
 | x::l=>by
  have ih:=Ax (a:=a) (b:=b) (y:=y) (l:=l)
  by_cases h:a=b
  ·subst h
   rw [if_pos rfl] at ih ⊢
   simp only [Vq]
   cases hb:eqK (.int .i64) a x.1 with
   | true=>simp [Q0,eqK]
   | false=>simp only [cond_false,Q0,hb]; exact ih
  ·rw [if_neg h] at ih ⊢
   simp only [Vq]
   cases hb:eqK (.int .i64) b x.1 with
   | true =>
    have hbx:b=x.1:=by simpa [eqK] using hb
    have hax:eqK (.int .i64) a x.1=false:=by simp [eqK]; rw [←hbx]; exact h
    have hab:eqK (.int .i64) a b=false:=by simpa [eqK] using h
    simp only [cond_true,Q0,hab,hax,cond_false]
   | false=>simp only [cond_false,Q0,ih]
theorem Qx4 (l:List Ql) (hl:l.length≤100) (hn:ndR l) (id:Int):∃b,K2 128 l id=some b∧((b = -1∧K0 l id=none)∨∃(j:Nat) (r:Ql),b=(j:Int)∧l[j]?=some r∧K0 l id=some r):=by
 obtain ⟨r,e1,p1⟩:=Z8 (f:=Xd 128 l id) l.length (fun i s=>s=(i:Int)∧∀(k:Nat) y,k<i→l[k]?=some y→y.Usage.Id≠id)
  (fun r=>(r=.inl ()∧K0 l id=none)∨∃(j:Nat) (y:Ql),r=.inr (j:Int)∧l[j]?=some y∧K0 l id=some y) (fun i s hi ⟨hs,hI⟩=>by
   subst hs
   unfold Xd
   by_cases hlt:i<l.length
   ·rw [if_pos (by simpa using hlt),Xm hlt,Option.bind_some]
    by_cases he:(l[i].Usage.Id==id)=true
    ·rw [if_pos he]
     have he':l[i].Usage.Id=id:=by simpa using he
     exact .inr ⟨_,rfl,.inr ⟨i,l[i],rfl,List.getElem?_eq_getElem hlt,by rw [←he']; exact Po hn _ (List.getElem_mem hlt)⟩⟩
    ·rw [if_neg he]
     refine .inl ⟨_,hlt,rfl,Zv (by rw [Vh]; omega),fun k y hk hy=>?_⟩
     rcases Nat.lt_or_ge k i with h | h
     ·exact hI k y h hy
     ·have hki:k=i:=by omega
      subst hki
      rw [List.getElem?_eq_getElem hlt] at hy
      injection hy with hy
      subst hy
      simpa using he
   ·rw [if_neg (by simpa using hlt)]
    refine .inr ⟨_,rfl,.inl ⟨rfl,Eb.2 fun r hr=>?_⟩⟩
    obtain ⟨k,hk⟩:=List.getElem?_of_mem hr
    exact hI k r (by have:=(List.getElem?_eq_some_iff.1 hk).1; omega) hk) (n:=128) (s:=0) (by omega) ⟨rfl,fun k y hk=>by omega⟩
 unfold K2
 rw [e1,Option.bind_some]
 rcases p1 with ⟨rfl,h⟩ | ⟨j,y,rfl,h1,h2⟩
 ·exact ⟨-1,rfl,.inl ⟨rfl,h⟩⟩
 ·exact ⟨_,rfl,.inr ⟨j,y,rfl,h1,h2⟩⟩
def Qx5 (l:List Ql) (m:List (Int×Int)):Prop:=∀id,(match Q0 (k:=.int .i64) id m with | none=>K0 l id=none | some z=>∃(j:Nat) (r:Ql),z=(j:Int)∧l[j]?=some r∧K0 l id=some r)
theorem Jj9 {l:List Ql} (hl:l.length≤100) (hn:ndR l):∃m,Qx (V6 128 l) 128 (0,[])=some m∧Qx5 l m:=by
 obtain ⟨m,e1,p1⟩:=Z8 (f:=V6 128 l) l.length (fun i s=>s.1=(i:Int)∧∀id,(match Q0 (k:=.int .i64) id s.2 with | none=>∀(k:Nat) y,k<i→l[k]?=some y→y.Usage.Id≠id | some z=>∃(j:Nat) (r:Ql),z=(j:Int)∧l[j]?=some r∧r.Usage.Id=id))
  (fun m=>Qx5 l m) (fun i s hi ⟨hs,hI⟩=>by
   obtain ⟨a,m⟩:=s
   have hs:a=(i:Int):=hs
   subst hs
   unfold V6
   dsimp only
   by_cases hlt:i<l.length
   ·rw [if_pos (by simpa using hlt),Xm hlt,Option.bind_some]
    refine .inl ⟨_,hlt,rfl,Zv (by rw [Vh]; omega),fun id=>?_⟩
    have h:=hI id
    show match Q0 (k:=.int .i64) id (Vq (k:=.int .i64) l[i].Usage.Id (i:Int) m) with | none=>_ | some z=>_
    rw [Ax]
    by_cases he:id=l[i].Usage.Id
    ·rw [if_pos he]
     exact ⟨i,l[i],rfl,List.getElem?_eq_getElem hlt,he.symm⟩
    ·rw [if_neg he]
     simp only at h
     split
     ·rename_i hf
      rw [hf] at h
      intro k y hk hy
      rcases Nat.lt_or_ge k i with h1 | h1
      ·exact h k y h1 hy
      ·have hki:k=i:=by omega
       subst hki
       rw [List.getElem?_eq_getElem hlt] at hy
       injection hy with hy
       subst hy
       exact fun e=>he e.symm
     ·rename_i z hf
      rw [hf] at h
      exact h
   ·rw [if_neg (by simpa using hlt)]
    refine .inr ⟨_,rfl,fun id=>?_⟩
    have h:=hI id
    simp only at h
    split
    ·rename_i hf
     rw [hf] at h
     refine Eb.2 fun r hr=>?_
     obtain ⟨k,hk⟩:=List.getElem?_of_mem hr
     exact h k r (by have:=(List.getElem?_eq_some_iff.1 hk).1; omega) hk
    ·rename_i z hf
     rw [hf] at h
     obtain ⟨j,r,h1,h2,h3⟩:=h
     exact ⟨j,r,h1,h2,by rw [←h3]; exact Po hn r (List.mem_of_getElem? h2)⟩) (n:=128) (s:=(0,[])) (by omega) ⟨rfl,fun id=>by simp [Q0]⟩
 exact ⟨m,e1,p1⟩
end Gx
namespace Gx
open Go Gd
set_option linter.unusedVariables false
set_option linter.unusedSimpArgs false
def Ua (l:List Qa) (id:Int):Option Qa:=l.find? fun a=>a.Usage==id
def amt (l:List Qa) (id:Int):Int×Int:=match Ua l id with | none=>(0,0) | some a=>(a.Paid,a.Owed)
theorem B7 {l:List Qa} {id:Int} {r:Qa} (h:Ua l id=some r):r∈l∧r.Usage=id:=⟨List.mem_of_find?_eq_some h,by simpa using List.find?_some h⟩
theorem Gp {l:List Qa} {id:Int}:Ua l id=none↔∀r∈l,r.Usage≠id:=by
 unfold Ua
 rw [List.find?_eq_none]
 simp
theorem E8 {l:List Qa} (h:nd l) (r:Qa) (hr:r∈l):Ua l r.Usage=some r:=by
 induction l with
 | nil=>cases hr
 | cons a l ih =>
  have h':=List.pairwise_cons.1 h
  unfold Ua
  rw [List.find?_cons]
  rcases List.mem_cons.1 hr with e | hr
  ·rw [←e,show (r.Usage==r.Usage)=true from beq_self_eq_true _]
  ·rw [show (a.Usage==r.Usage)=false from beq_eq_false_iff_ne.2 (h'.1 r hr)]
   exact ih h'.2 hr
theorem Qfe {l:List Qa} (h:nd l) {a:Qa} (ha:a∈l):amt l a.Usage=(a.Paid,a.Owed):=by
 unfold amt; rw [E8 h a ha]
theorem E9 {l:List Qa} (h:nd l) {a:Qa} {id:Int} (ha:a∈l) (he:a.Usage=id):amt l id=(a.Paid,a.Owed):=by
 rw [←he]; exact Qfe h ha
theorem Fa {l:List Qa} {id:Int} (h:∀a∈l,a.Usage≠id):amt l id=(0,0):=by
 unfold amt; rw [Gp.2 h]
theorem Ay {y:Qa}:∀{l acc:List Qa},y∈l.foldl E7 acc↔y∈acc∨(y∈l∧zA y=false)
 | [],acc=>by simp
 | x::l,acc=>by
  rw [List.foldl_cons,Ay (l:=l),List.mem_cons]
  unfold E7
  cases hz:zA x with
  | true =>
   simp only [cond_true]
   constructor
   ·rintro (h | ⟨h,h2⟩)
    ·exact .inl h
    ·exact .inr ⟨.inr h,h2⟩
   ·rintro (h | ⟨rfl | h,h2⟩)
    ·exact .inl h
    ·rw [hz] at h2; cases h2
    ·exact .inr ⟨h,h2⟩
  | false =>
   simp only [cond_false,Qbk]
   constructor
   ·rintro ((rfl | h) | ⟨h,h2⟩)
    ·exact .inr ⟨.inl rfl,hz⟩
    ·exact .inl h
    ·exact .inr ⟨.inr h,h2⟩
   ·rintro (h | ⟨rfl | h,h2⟩)
    ·exact .inl (.inr h)
    ·exact .inl (.inl rfl)
    ·exact .inr ⟨h,h2⟩
theorem Jbm {l:List Qa} {x:Qa} (h:nd l) (hu:∀y∈l,y.Usage≠x.Usage):nd (Qfb l x):=by
 unfold Qfb
 have e:=List.takeWhile_append_dropWhile (p:=fun y=>ltA y x) (l:=l)
 have h2:=h
 rw [←e] at h2
 obtain ⟨p1,p2,p3⟩:=List.pairwise_append.1 h2
 rw [nd,List.pairwise_append]
 refine ⟨p1,List.pairwise_cons.2 ⟨fun y hy=>(hu y ?_).symm,p2⟩,fun a ha b hb=>?_⟩
 ·rw [←e]; exact List.mem_append_right _ hy
 ·rcases List.mem_cons.1 hb with rfl | hb
  ·exact hu a (by rw [←e]; exact List.mem_append_left _ ha)
  ·exact p3 a ha b hb
theorem Qjs:∀{l acc:List Qa},nd acc→nd l→(∀a∈acc,∀b∈l,a.Usage≠b.Usage)→nd (l.foldl E7 acc)
 | [],acc,h,_,_=>h
 | x::l,acc,h,hn,hd=>by
  have hn':=List.pairwise_cons.1 hn
  have hu:∀y∈acc,y.Usage≠x.Usage:=fun y hy=>hd y hy x (.head _)
  refine Qjs (l:=l) ?_ hn'.2 fun a ha b hb=>?_
  ·unfold E7
   cases zA x with
   | true=>exact h
   | false=>exact Jbm h hu
  ·unfold E7 at ha
   cases hz:zA x with
   | true=>rw [hz] at ha; exact hd a ha b (.tail _ hb)
   | false =>
    rw [hz] at ha
    rcases Qbk.1 ha with rfl | ha
    ·exact hn'.1 b hb
    ·exact hd a ha b (.tail _ hb)
abbrev fz (L:List Qa):List Qa:=L.foldl E7 []
theorem Qde {L:List Qa} (h:nd L):nd (fz L):=Qjs .nil h fun a ha=>by cases ha
theorem Qpn {L:List Qa}:∀a∈fz L,zA a=false:=fun a ha=>by
 rcases Ay.1 ha with h | h
 ·cases h
 ·exact h.2
theorem Ms {L:List Qa} (h:nd L) (id:Int):amt (fz L) id=amt L id:=by
 cases he:Ua L id with
 | none =>
  have hn:=Gp.1 he
  rw [Fa hn]
  refine Fa fun a ha=>hn a ?_
  rcases Ay.1 ha with h | h
  ·cases h
  ·exact h.1
 | some a =>
  obtain ⟨ha,hu⟩:=B7 he
  rw [E9 h ha hu]
  cases hz:zA a with
  | false=>exact E9 (Qde h) (Ay.2 (.inr ⟨ha,hz⟩)) hu
  | true =>
   have hz2:a.Paid=0∧a.Owed=0:=by simpa [zA] using hz
   rw [hz2.1,hz2.2]
   refine Fa fun b hb e=>?_
   rcases Ay.1 hb with h1 | h1
   ·cases h1
   ·have h3:=E8 h b h1.1
    rw [e,←hu,E8 h a ha] at h3
    injection h3 with h3
    rw [h3,h1.2] at hz
    cases hz
theorem Qx6 {l:List Qa} (h:nd l) (hz:∀a∈l,zA a=false) {id:Int}:amt l id=(0,0)↔∀a∈l,a.Usage≠id:=by
 constructor
 ·intro h0 a ha hu
  rw [E9 h ha hu] at h0
  have:=hz a ha
  injection h0 with h1 h2
  simp [zA,h1,h2] at this
 ·exact Fa
theorem Qx7 {p q:List Qa} (hp:nd p) (hq:nd q) (zp:∀a∈p,zA a=false) (zq:∀a∈q,zA a=false) (h:∀id,amt q id=(0,0)→amt p id=(0,0)):p.length≤q.length:=by
 have h1:(p.map Qa.Usage).Nodup:=by
  rw [List.nodup_iff_pairwise_ne,List.pairwise_map]; exact hp
 have:=List.Nodup.length_le_of_subset (l₂:=q.map Qa.Usage) h1 (fun u hu=>by
  obtain ⟨a,ha,rfl⟩:=List.mem_map.1 hu
  refine Classical.byContradiction fun hn=>?_
  have:=(Qx6 hp zp).1 (h a.Usage (Fa fun b hb e=>hn (List.mem_map.2 ⟨b,hb,e⟩)))
  exact this a ha rfl)
 simpa using this
theorem Qx8 {p q:List Qa} (hp:nd p) (hq:nd q) (zp:∀a∈p,zA a=false) (zq:∀a∈q,zA a=false) (h:∀id,amt q id=(0,0)↔amt p id=(0,0)):p.length=q.length :=
 Nat.le_antisymm (Qx7 hp hq zp zq fun id=>(h id).1) (Qx7 hq hp zq zp fun id=>(h id).2)
end Gx
namespace Gx
open Go Gd
set_option linter.unusedVariables false
set_option linter.unusedSimpArgs false
def ofR (r:Ql):Qa:=(r.Usage.Id,r.Usage.Account,r.Usage.Sub,r.Usage.Kind,r.Usage.Start,r.Paid,r.Owed)
def Jmy (x y:Ql):Qa:=(y.Usage.Id,y.Usage.Account,y.Usage.Sub,y.Usage.Kind,y.Usage.Start,IntKind.wrap .i64 (y.Paid - x.Paid),IntKind.wrap .i64 (y.Owed - x.Owed))
def Qjt (r:Ql):Qa:=(r.Usage.Id,r.Usage.Account,r.Usage.Sub,r.Usage.Kind,r.Usage.Start,IntKind.wrap .i64 (0 - r.Paid),IntKind.wrap .i64 (0 - r.Owed))
def Rv (old:List Ql) (y:Ql):Qa:=match K0 old y.Usage.Id with | none=>ofR y | some x=>Jmy x y
def Wa (old new:List Ql):List Qa:=new.map (Rv old)++(old.filter fun x=>(K0 new x.Usage.Id).isNone).map Qjt
theorem Qx9 (l:List Ql) (id:Int):(K0 l id).isSome=l.any fun r=>r.Usage.Id==id:=by
 unfold K0
 induction l with
 | nil=>rfl
 | cons a l ih =>
  rw [List.find?_cons,List.any_cons]
  cases h:a.Usage.Id==id with
  | true=>simp
  | false=>simpa using ih
theorem Ul {α:Type} {l:List α} {i:Nat} (h:i<l.length):l.take (i+1)=l.take i++[l[i]]:=by
 rw [List.take_add_one,List.getElem?_eq_getElem h]; rfl
theorem Jm6 {x0 x1:List Ql} {m:List (Int×Int)} (hm:Qx5 x0 m) (h1:x1.length≤100):∃r:List (Int×Bool)×List Qa,Qx (U5 128 x1 m x0) 128 (0,[],[])=some r∧(∀id,(Q0 (k:=.int .i64) id r.1).getD false=((K0 x0 id).isSome&&(K0 x1 id).isSome))∧r.2=x1.map (Rv x0):=by
 refine Z8 x1.length (fun i (s:Int×List (Int×Bool)×List Qa)=>s.1=(i:Int)∧(∀id,(Q0 (k:=.int .i64) id s.2.1).getD false=((K0 x0 id).isSome&&(x1.take i).any fun r=>r.Usage.Id==id))∧s.2.2=(x1.take i).map (Rv x0)) (fun (r:List (Int×Bool)×List Qa)=>(∀id,(Q0 (k:=.int .i64) id r.1).getD false=((K0 x0 id).isSome&&(K0 x1 id).isSome))∧r.2=x1.map (Rv x0)) (fun i s hi ⟨hs,hI,hO⟩=>?_) (n:=128) (s:=(0,[],[])) (by omega) ⟨rfl,fun id=>by simp [Q0],rfl⟩
 obtain ⟨a,m2,out⟩:=s
 have hs:a=(i:Int):=hs
 have hO:out=(x1.take i).map (Rv x0):=hO
 subst hs; subst hO
 unfold U5
 dsimp only
 by_cases hlt:i<x1.length
 ·have hw:IntKind.wrap .i64 ((i:Int)+1)=((i+1:Nat):Int):=Zv (by rw [Vh]; omega)
  rw [if_pos (by simpa using hlt),Xm hlt,Option.bind_some,show Ze 128 x1[i]=some x1[i].Usage.Id from rfl,Option.bind_some]
  have hk:=hm x1[i].Usage.Id
  cases hf:Q0 (k:=.int .i64) x1[i].Usage.Id m with
  | none =>
   rw [hf] at hk
   have hk:K0 x0 x1[i].Usage.Id=none:=hk
   rw [if_neg (by simp),show Xw 128 x1[i]=some (ofR x1[i]) from rfl,Option.bind_some,Bb (by simp; omega),Option.bind_some,Option.bind_some,hw]
   refine .inl ⟨_,hlt,rfl,rfl,fun id=>?_,?_⟩
   ·rw [Ul hlt,List.any_append]
    have h:=hI id
    simp only at h ⊢
    rw [h]
    by_cases he:id=x1[i].Usage.Id
    ·rw [he,hk]; rfl
    ·simp [show (x1[i].Usage.Id==id)=false from beq_eq_false_iff_ne.2 fun e=>he e.symm]
   ·rw [Ul hlt,List.map_append]
    simp [Rv,hk]
  | some z =>
   rw [hf] at hk
   obtain ⟨j,r,hz,hj,hl⟩:=hk
   subst hz
   have hij:idx x0 (j:Int)=some r:=by
    obtain ⟨h2,h3⟩:=List.getElem?_eq_some_iff.1 hj
    rw [Xm h2,h3]
   rw [if_pos (by simp)]
   simp only [Option.getD_some]
   rw [hij,Option.bind_some,show Hf 128 r x1[i]=some (Jmy r x1[i]) from rfl,Option.bind_some,Bb (by simp; omega),Option.bind_some,Option.bind_some,hw]
   refine .inl ⟨_,hlt,rfl,rfl,fun id=>?_,?_⟩
   ·rw [Ul hlt,List.any_append]
    have h:=hI id
    simp only at h ⊢
    rw [Ax]
    by_cases he:id=x1[i].Usage.Id
    ·rw [if_pos he,he,hl]; simp
    ·rw [if_neg he,h]
     simp [show (x1[i].Usage.Id==id)=false from beq_eq_false_iff_ne.2 fun e=>he e.symm]
   ·rw [Ul hlt,List.map_append]
    simp [Rv,hl]
 ·have hie:i=x1.length:=by omega
  rw [if_neg (by simpa using hlt)]
  refine .inr ⟨_,rfl,fun id=>?_,?_⟩
  ·have h:=hI id
   simp only at h ⊢
   rw [h,Qx9 x1,hie,List.take_length]
  ·rw [hie,List.take_length]
theorem Jm7 {x0 x1:List Ql} {m2:List (Int×Bool)} {o:List Qa} (hm:∀id,(Q0 (k:=.int .i64) id m2).getD false=((K0 x0 id).isSome&&(K0 x1 id).isSome)) (hn:ndR x0) (h0:x0.length≤100) (ho:o.length≤100):Qx (V7 128 x0 m2) 128 (0,o)=some (o++(x0.filter fun x=>(K0 x1 x.Usage.Id).isNone).map Qjt):=by
 obtain ⟨r,e1,rfl⟩:=Z8 (f:=V7 128 x0 m2) x0.length (fun i s=>s.1=(i:Int)∧s.2=o++((x0.take i).filter fun x=>(K0 x1 x.Usage.Id).isNone).map Qjt) (fun r=>r=o++(x0.filter fun x=>(K0 x1 x.Usage.Id).isNone).map Qjt) (fun i s hi ⟨hs,hO⟩=>by
  obtain ⟨a,out⟩:=s
  have hs:a=(i:Int):=hs
  have hO:out=o++((x0.take i).filter fun x=>(K0 x1 x.Usage.Id).isNone).map Qjt:=hO
  subst hs; subst hO
  unfold V7
  dsimp only
  by_cases hlt:i<x0.length
  ·have hw:IntKind.wrap .i64 ((i:Int)+1)=((i+1:Nat):Int):=Zv (by rw [Vh]; omega)
   rw [if_pos (by simpa using hlt),Xm hlt,Option.bind_some,show Ze 128 x0[i]=some x0[i].Usage.Id from rfl,Option.bind_some,hm,Po hn x0[i] (List.getElem_mem hlt)]
   have hlen:(((x0.take i).filter fun x=>(K0 x1 x.Usage.Id).isNone).map Qjt).length≤100:=by
    rw [List.length_map]
    have:=List.length_filter_le (fun x=>(K0 x1 x.Usage.Id).isNone) (x0.take i)
    simp at this; omega
   cases hl:K0 x1 x0[i].Usage.Id with
   | none =>
    rw [if_pos (by rfl),show Xx 128 x0[i]=some (Qjt x0[i]) from rfl,Option.bind_some,Bb (by simp only [List.length_append,List.length_cons,List.length_nil]; omega),Option.bind_some,Option.bind_some,hw]
    refine .inl ⟨_,hlt,rfl,rfl,?_⟩
    rw [Ul hlt,List.filter_append,List.map_append]
    simp [hl]
   | some z =>
    rw [if_neg (by simp),Option.bind_some,hw]
    refine .inl ⟨_,hlt,rfl,rfl,?_⟩
    rw [Ul hlt,List.filter_append,List.map_append]
    simp [hl]
  ·have hie:i=x0.length:=by omega
   rw [if_neg (by simpa using hlt)]
   refine .inr ⟨_,rfl,?_⟩
   rw [hie,List.take_length]) (n:=128) (s:=(0,o)) (by omega) ⟨rfl,by simp⟩
 exact e1
theorem N9 (old:List Ql) (y:Ql):(Rv old y).Usage=y.Usage.Id:=by
 unfold Rv; split<;>rfl
theorem I7 {old new:List Ql} (h0:ndR old) (h1:ndR new):nd (Wa old new):=by
 unfold Wa
 rw [nd,List.pairwise_append]
 refine ⟨?_,?_,fun a ha b hb=>?_⟩
 ·rw [List.pairwise_map]
  exact h1.imp fun h=>by rw [N9,N9]; exact h
 ·rw [List.pairwise_map]
  exact (h0.sublist List.filter_sublist).imp fun h=>h
 ·obtain ⟨y,hy,rfl⟩:=List.mem_map.1 ha
  obtain ⟨x,hx,rfl⟩:=List.mem_map.1 hb
  have hx2:=(List.mem_filter.1 hx).2
  rw [N9]
  exact Eb.1 (show K0 new x.Usage.Id=none by simpa using hx2) y hy
theorem Ik (old new:List Ql):(Wa old new).length≤old.length+new.length:=by
 unfold Wa
 have:=List.length_filter_le (fun x=>(K0 new x.Usage.Id).isNone) old
 simp only [List.length_append,List.length_map]; omega
theorem I8 {x0 x1:List Ql} (h0:x0.length≤50) (h1:x1.length≤50) (n0:ndR x0) (n1:ndR x1):Ux 128 x0 x1=some (fz (Wa x0 x1)):=by
 obtain ⟨m,e1,hm⟩:=Jj9 (l:=x0) (by omega) n0
 obtain ⟨⟨m2,o⟩,e2,p2,p3⟩:=Jm6 (x0:=x0) (x1:=x1) hm (by omega)
 have p3:o=x1.map (Rv x0):=p3
 have e3:=Jm7 (o:=o) p2 n0 (by omega) (by rw [p3]; simp; omega)
 have hlen:=Ik x0 x1
 unfold Ux Z6
 rw [e1,Option.bind_some,e2,Option.bind_some]
 dsimp only
 rw [e3,Option.bind_some,p3]
 show ((U4 128 (Wa x0 x1)).bind fun r39=>some r39).bind (fun r1=>some r1)=_
 rw [Qbl (I7 n0 n1) (by omega)]
 rfl
end Gx
namespace Gx
open Go Gd
set_option linter.unusedVariables false
set_option linter.unusedSimpArgs false
abbrev big:Int:=1125899906842624
def inR (r:Ql):Prop := -big≤r.Paid∧r.Paid≤big ∧ -big≤r.Owed∧r.Owed≤big
structure OkR (l:List Ql):Prop where
 n:ndR l
 len:l.length≤20
 b:∀r∈l,inR r
theorem Az (l:List Ql):∃b,Ue 128 l 20=some b∧(b=true→OkR l):=by
 unfold Ue
 by_cases hl:l.length≤20
 ·rw [if_neg (by simp; omega)]
  obtain ⟨r,e1,p1⟩:=Z8 (f:=Kz 128 l) l.length (fun i s=>s=(i:Int)∧ndR (l.take i)∧∀r∈l.take i,inR r) (fun r=>r=.inr false∨(r=.inl ()∧OkR l)) (fun i s hi ⟨hs,hn,hb⟩=>by
   subst hs
   unfold Kz
   by_cases hlt:i<l.length
   ·rw [if_pos (by simpa using hlt),Xm hlt,Option.bind_some,Qpl (by omega),Option.bind_some]
    obtain ⟨b,e2,p2⟩:=Qx4 (l.take i) (by simp; omega) hn l[i].Usage.Id
    rw [e2,Option.bind_some,Option.bind_some]
    have hw:IntKind.wrap .i64 ((i:Int)+1)=((i+1:Nat):Int):=Zv (by rw [Vh]; omega)
    split
    ·exact .inr ⟨_,rfl,.inl rfl⟩
    ·rename_i hc
     refine .inl ⟨_,hlt,rfl,hw,?_,?_⟩
     ·rw [Ul hlt,ndR,List.pairwise_append]
      refine ⟨hn,List.pairwise_singleton _ _,fun a ha c hc2=>?_⟩
      rw [List.mem_singleton] at hc2
      subst hc2
      rcases p2 with ⟨h1,h2⟩ | ⟨j,r,h1,h2,h3⟩
      ·exact Eb.1 h2 a ha
      ·exact absurd (by simp [h1]) hc
     ·intro r hr
      rw [Ul hlt] at hr
      rcases List.mem_append.1 hr with hr | hr
      ·exact hb r hr
      ·rw [List.mem_singleton] at hr
       subst hr
       simp only [Bool.or_eq_true,decide_eq_true_eq,not_or] at hc
       unfold inR big
       omega
   ·rw [if_neg (by simpa using hlt)]
    have hie:i=l.length:=by omega
    rw [hie,List.take_length] at hn hb
    exact .inr ⟨_,rfl,.inr ⟨rfl,hn,hl,hb⟩⟩) (n:=128) (s:=0) (by omega) ⟨rfl,by simp,by simp⟩
  rw [e1,Option.bind_some]
  rcases p1 with rfl | ⟨rfl,h⟩
  ·exact ⟨false,rfl,by simp⟩
  ·exact ⟨true,rfl,fun _=>h⟩
 ·rw [if_pos (by simp; omega)]
  exact ⟨false,rfl,by simp⟩
theorem Qdf:∀{l acc:List Qa},(l.foldl E7 acc).length≤acc.length+l.length
 | [],acc=>by simp
 | x::l,acc=>by
  have h:(E7 acc x).length≤acc.length+1:=by
   unfold E7 Qfb
   cases zA x with
   | true=>simp
   | false =>
    have:=congrArg List.length (List.takeWhile_append_dropWhile (p:=fun y=>ltA y x) (l:=acc))
    simp only [List.length_append] at this
    simp only [cond_false,List.length_append,List.length_cons]; omega
  have:=Qdf (l:=l) (acc:=E7 acc x)
  simp only [List.foldl_cons,List.length_cons]; omega
theorem Qbm (L:List Qa):(fz L).length≤L.length:=by
 have:=Qdf (l:=L) (acc:=[])
 simpa using this
theorem w0 {r:Ql} (h:inR r):IntKind.wrap .i64 (r.Paid - 0)=r.Paid∧IntKind.wrap .i64 (r.Owed - 0)=r.Owed:=by
 unfold inR big at h
 rw [Int.sub_zero,Int.sub_zero,G7 (by omega) (by omega),G7 (by omega) (by omega)]
 exact ⟨rfl,rfl⟩
end Gx
namespace Gx
open Go Gd
set_option linter.unusedVariables false
set_option linter.unusedSimpArgs false
def Ci (a:Qa):Qa:=a
def Jmz (x y:Qa):Qa:=(y.Usage,y.Account,y.Sub,y.Kind,y.Start,IntKind.wrap .i64 (y.Paid+x.Paid),IntKind.wrap .i64 (y.Owed+x.Owed))
def Oa (old:List Qa) (y:Qa):Qa:=match Ua old y.Usage with | none=>Ci y | some x=>Jmz x y
def Pp (old new:List Qa):List Qa:=new.map (Oa old)++(old.filter fun x=>(Ua new x.Usage).isNone).map Ci
theorem Qsh (l:List Qa) (id:Int):(Ua l id).isSome=l.any fun r=>r.Usage==id:=by
 unfold Ua
 induction l with
 | nil=>rfl
 | cons a l ih =>
  rw [List.find?_cons,List.any_cons]
  cases h:a.Usage==id with
  | true=>simp
  | false=>simpa using ih
def Qme (l:List Qa) (m:List (Int×Int)):Prop:=∀id,(match Q0 (k:=.int .i64) id m with | none=>Ua l id=none | some z=>∃(j:Nat) (r:Qa),z=(j:Int)∧l[j]?=some r∧Ua l id=some r)
theorem Jbn {l:List Qa} (hl:l.length≤100) (hn:nd l):∃m,Qx (Vw 128 l) 128 (0,[])=some m∧Qme l m:=by
 obtain ⟨m,e1,p1⟩:=Z8 (f:=Vw 128 l) l.length (fun i s=>s.1=(i:Int)∧∀id,(match Q0 (k:=.int .i64) id s.2 with | none=>∀(k:Nat) y,k<i→l[k]?=some y→y.Usage≠id | some z=>∃(j:Nat) (r:Qa),z=(j:Int)∧l[j]?=some r∧r.Usage=id))
  (fun m=>Qme l m) (fun i s hi ⟨hs,hI⟩=>by
   obtain ⟨a,m⟩:=s
   have hs:a=(i:Int):=hs
   subst hs
   unfold Vw
   dsimp only
   by_cases hlt:i<l.length
   ·rw [if_pos (by simpa using hlt),Xm hlt,Option.bind_some]
    refine .inl ⟨_,hlt,rfl,Zv (by rw [Vh]; omega),fun id=>?_⟩
    have h:=hI id
    show match Q0 (k:=.int .i64) id (Vq (k:=.int .i64) l[i].Usage (i:Int) m) with | none=>_ | some z=>_
    rw [Ax]
    by_cases he:id=l[i].Usage
    ·rw [if_pos he]
     exact ⟨i,l[i],rfl,List.getElem?_eq_getElem hlt,he.symm⟩
    ·rw [if_neg he]
     simp only at h
     split
     ·rename_i hf
      rw [hf] at h
      intro k y hk hy
      rcases Nat.lt_or_ge k i with h1 | h1
      ·exact h k y h1 hy
      ·have hki:k=i:=by omega
       subst hki
       rw [List.getElem?_eq_getElem hlt] at hy
       injection hy with hy
       subst hy
       exact fun e=>he e.symm
     ·rename_i z hf
      rw [hf] at h
      exact h
   ·rw [if_neg (by simpa using hlt)]
    refine .inr ⟨_,rfl,fun id=>?_⟩
    have h:=hI id
    simp only at h
    split
    ·rename_i hf
     rw [hf] at h
     refine Gp.2 fun r hr=>?_
     obtain ⟨k,hk⟩:=List.getElem?_of_mem hr
     exact h k r (by have:=(List.getElem?_eq_some_iff.1 hk).1; omega) hk
    ·rename_i z hf
     rw [hf] at h
     obtain ⟨j,r,h1,h2,h3⟩:=h
     exact ⟨j,r,h1,h2,by rw [←h3]; exact E8 hn r (List.mem_of_getElem? h2)⟩) (n:=128) (s:=(0,[])) (by omega) ⟨rfl,fun id=>by simp [Q0]⟩
 exact ⟨m,e1,p1⟩
theorem Jm0 {x0 x1:List Qa} {m:List (Int×Int)} (hm:Qme x0 m) (h1:x1.length≤100):∃r:List (Int×Bool)×List Qa,Qx (Uv 128 x1 m x0) 128 (0,[],[])=some r∧(∀id,(Q0 (k:=.int .i64) id r.1).getD false=((Ua x0 id).isSome&&(Ua x1 id).isSome))∧r.2=x1.map (Oa x0):=by
 refine Z8 x1.length (fun i (s:Int×List (Int×Bool)×List Qa)=>s.1=(i:Int)∧(∀id,(Q0 (k:=.int .i64) id s.2.1).getD false=((Ua x0 id).isSome&&(x1.take i).any fun r=>r.Usage==id))∧s.2.2=(x1.take i).map (Oa x0)) (fun (r:List (Int×Bool)×List Qa)=>(∀id,(Q0 (k:=.int .i64) id r.1).getD false=((Ua x0 id).isSome&&(Ua x1 id).isSome))∧r.2=x1.map (Oa x0)) (fun i s hi ⟨hs,hI,hO⟩=>?_) (n:=128) (s:=(0,[],[])) (by omega) ⟨rfl,fun id=>by simp [Q0],rfl⟩
 obtain ⟨a,m2,out⟩:=s
 have hs:a=(i:Int):=hs
 have hO:out=(x1.take i).map (Oa x0):=hO
 subst hs; subst hO
 unfold Uv
 dsimp only
 by_cases hlt:i<x1.length
 ·have hw:IntKind.wrap .i64 ((i:Int)+1)=((i+1:Nat):Int):=Zv (by rw [Vh]; omega)
  rw [if_pos (by simpa using hlt),Xm hlt,Option.bind_some,show Z7 128 x1[i]=some x1[i].Usage from rfl,Option.bind_some]
  have hk:=hm x1[i].Usage
  cases hf:Q0 (k:=.int .i64) x1[i].Usage m with
  | none =>
   rw [hf] at hk
   have hk:Ua x0 x1[i].Usage=none:=hk
   rw [if_neg (by simp),show Wp 128 x1[i]=some (Ci x1[i]) from rfl,Option.bind_some,Bb (by simp; omega),Option.bind_some,Option.bind_some,hw]
   refine .inl ⟨_,hlt,rfl,rfl,fun id=>?_,?_⟩
   ·rw [Ul hlt,List.any_append]
    have h:=hI id
    simp only at h ⊢
    rw [h]
    by_cases he:id=x1[i].Usage
    ·rw [he,hk]; rfl
    ·simp [show (x1[i].Usage==id)=false from beq_eq_false_iff_ne.2 fun e=>he e.symm]
   ·rw [Ul hlt,List.map_append]
    simp [Oa,hk]
  | some z =>
   rw [hf] at hk
   obtain ⟨j,r,hz,hj,hl⟩:=hk
   subst hz
   have hij:idx x0 (j:Int)=some r:=by
    obtain ⟨h2,h3⟩:=List.getElem?_eq_some_iff.1 hj
    rw [Xm h2,h3]
   rw [if_pos (by simp)]
   simp only [Option.getD_some]
   rw [hij,Option.bind_some,show E0 128 r x1[i]=some (Jmz r x1[i]) from rfl,Option.bind_some,Bb (by simp; omega),Option.bind_some,Option.bind_some,hw]
   refine .inl ⟨_,hlt,rfl,rfl,fun id=>?_,?_⟩
   ·rw [Ul hlt,List.any_append]
    have h:=hI id
    simp only at h ⊢
    rw [Ax]
    by_cases he:id=x1[i].Usage
    ·rw [if_pos he,he,hl]; simp
    ·rw [if_neg he,h]
     simp [show (x1[i].Usage==id)=false from beq_eq_false_iff_ne.2 fun e=>he e.symm]
   ·rw [Ul hlt,List.map_append]
    simp [Oa,hl]
 ·have hie:i=x1.length:=by omega
  rw [if_neg (by simpa using hlt)]
  refine .inr ⟨_,rfl,fun id=>?_,?_⟩
  ·have h:=hI id
   simp only at h ⊢
   rw [h,Qsh x1,hie,List.take_length]
  ·rw [hie,List.take_length]
theorem Jm1 {x0 x1:List Qa} {m2:List (Int×Bool)} {o:List Qa} (hm:∀id,(Q0 (k:=.int .i64) id m2).getD false=((Ua x0 id).isSome&&(Ua x1 id).isSome)) (hn:nd x0) (h0:x0.length≤100) (ho:o.length≤100):Qx (Vx 128 x0 m2) 128 (0,o)=some (o++(x0.filter fun x=>(Ua x1 x.Usage).isNone).map Ci):=by
 obtain ⟨r,e1,rfl⟩:=Z8 (f:=Vx 128 x0 m2) x0.length (fun i s=>s.1=(i:Int)∧s.2=o++((x0.take i).filter fun x=>(Ua x1 x.Usage).isNone).map Ci) (fun r=>r=o++(x0.filter fun x=>(Ua x1 x.Usage).isNone).map Ci) (fun i s hi ⟨hs,hO⟩=>by
  obtain ⟨a,out⟩:=s
  have hs:a=(i:Int):=hs
  have hO:out=o++((x0.take i).filter fun x=>(Ua x1 x.Usage).isNone).map Ci:=hO
  subst hs; subst hO
  unfold Vx
  dsimp only
  by_cases hlt:i<x0.length
  ·have hw:IntKind.wrap .i64 ((i:Int)+1)=((i+1:Nat):Int):=Zv (by rw [Vh]; omega)
   rw [if_pos (by simpa using hlt),Xm hlt,Option.bind_some,show Z7 128 x0[i]=some x0[i].Usage from rfl,Option.bind_some,hm,E8 hn x0[i] (List.getElem_mem hlt)]
   have hlen:(((x0.take i).filter fun x=>(Ua x1 x.Usage).isNone).map Ci).length≤100:=by
    rw [List.length_map]
    have:=List.length_filter_le (fun x=>(Ua x1 x.Usage).isNone) (x0.take i)
    simp at this; omega
   cases hl:Ua x1 x0[i].Usage with
   | none =>
    rw [if_pos (by rfl),show Wq 128 x0[i]=some (Ci x0[i]) from rfl,Option.bind_some,Bb (by simp only [List.length_append,List.length_cons,List.length_nil]; omega),Option.bind_some,Option.bind_some,hw]
    refine .inl ⟨_,hlt,rfl,rfl,?_⟩
    rw [Ul hlt,List.filter_append,List.map_append]
    simp [hl]
   | some z =>
    rw [if_neg (by simp),Option.bind_some,hw]
    refine .inl ⟨_,hlt,rfl,rfl,?_⟩
    rw [Ul hlt,List.filter_append,List.map_append]
    simp [hl]
  ·have hie:i=x0.length:=by omega
   rw [if_neg (by simpa using hlt)]
   refine .inr ⟨_,rfl,?_⟩
   rw [hie,List.take_length]) (n:=128) (s:=(0,o)) (by omega) ⟨rfl,by simp⟩
 exact e1
theorem Qff (old:List Qa) (y:Qa):(Oa old y).Usage=y.Usage:=by
 unfold Oa; split<;>rfl
theorem Qfg {old new:List Qa} (h0:nd old) (h1:nd new):nd (Pp old new):=by
 unfold Pp
 rw [nd,List.pairwise_append]
 refine ⟨?_,?_,fun a ha b hb=>?_⟩
 ·rw [List.pairwise_map]
  exact h1.imp fun h=>by rw [Qff,Qff]; exact h
 ·rw [List.pairwise_map]
  exact (h0.sublist List.filter_sublist).imp fun h=>h
 ·obtain ⟨y,hy,rfl⟩:=List.mem_map.1 ha
  obtain ⟨x,hx,rfl⟩:=List.mem_map.1 hb
  have hx2:=(List.mem_filter.1 hx).2
  rw [Qff]
  exact Gp.1 (show Ua new x.Usage=none by simpa using hx2) y hy
theorem Qju (old new:List Qa):(Pp old new).length≤old.length+new.length:=by
 unfold Pp
 have:=List.length_filter_le (fun x=>(Ua new x.Usage).isNone) old
 simp only [List.length_append,List.length_map]; omega
theorem Qmf {x0 x1:List Qa} (h0:x0.length≤50) (h1:x1.length≤50) (n0:nd x0) (n1:nd x1):Hz 128 x0 x1=some (fz (Pp x0 x1)):=by
 obtain ⟨m,e1,hm⟩:=Jbn (l:=x0) (by omega) n0
 obtain ⟨⟨m2,o⟩,e2,p2,p3⟩:=Jm0 (x0:=x0) (x1:=x1) hm (by omega)
 have p3:o=x1.map (Oa x0):=p3
 have e3:=Jm1 (o:=o) p2 n0 (by omega) (by rw [p3]; simp; omega)
 have hlen:=Qju x0 x1
 unfold Hz Zq
 rw [e1,Option.bind_some,e2,Option.bind_some]
 dsimp only
 rw [e3,Option.bind_some,p3]
 show ((U4 128 (Pp x0 x1)).bind fun r39=>some r39).bind (fun r1=>some r1)=_
 rw [Qbl (Qfg n0 n1) (by omega)]
 rfl
end Gx
namespace Gx
open Go Gd
set_option linter.unusedVariables false
set_option linter.unusedSimpArgs false
theorem Qjv (A:List Qa) (y:Qa):(Oa A y).Usage=y.Usage:=by
 unfold Oa; split<;>rfl
end Gx
namespace Gx
open Go Gd
set_option linter.unusedVariables false
set_option linter.unusedSimpArgs false
def A1 (l:List Ql) (id:Int):Int×Int:=match K0 l id with | none=>(0,0) | some r=>(r.Paid,r.Owed)
theorem I9 {l:List Ql} (h:OkR l) (id:Int):(-big≤(A1 l id).1∧(A1 l id).1≤big)∧(-big≤(A1 l id).2∧(A1 l id).2≤big):=by
 unfold A1
 cases hl:K0 l id with
 | none=>simp only [big]; omega
 | some r =>
  have:=h.b r (I6 hl).1
  unfold inR at this
  exact ⟨⟨this.1,this.2.1⟩,⟨this.2.2.1,this.2.2.2⟩⟩
theorem A3 {a b:List Ql} (ha:OkR a) (hb:OkR b) (id:Int):amt (Wa a b) id=((A1 b id).1 - (A1 a id).1,(A1 b id).2 - (A1 a id).2):=by
 have hn:=I7 ha.n hb.n
 cases h1:K0 b id with
 | some y =>
  obtain ⟨hy,hid⟩:=I6 h1
  have hm:Rv a y∈Wa a b:=List.mem_append_left _ (List.mem_map.2 ⟨y,hy,rfl⟩)
  rw [E9 hn hm (by rw [N9,hid])]
  have by_:=hb.b y hy
  unfold inR big at by_
  unfold Rv A1
  rw [hid,h1]
  cases h2:K0 a id with
  | none=>simp [ofR]
  | some x =>
   have bx:=ha.b x (I6 h2).1
   unfold inR big at bx
   show (IntKind.wrap .i64 (y.Paid - x.Paid),IntKind.wrap .i64 (y.Owed - x.Owed))=_
   rw [G7 (by omega) (by omega),G7 (by omega) (by omega)]
 | none =>
  cases h2:K0 a id with
  | some x =>
   obtain ⟨hx,hid⟩:=I6 h2
   have hm:Qjt x∈Wa a b:=List.mem_append_right _ (List.mem_map.2 ⟨x,List.mem_filter.2 ⟨hx,by rw [hid,h1]; rfl⟩,rfl⟩)
   rw [E9 hn hm hid]
   have bx:=ha.b x hx
   unfold inR big at bx
   unfold A1
   rw [h1,h2]
   show (IntKind.wrap .i64 (0 - x.Paid),IntKind.wrap .i64 (0 - x.Owed))=_
   rw [G7 (by omega) (by omega),G7 (by omega) (by omega)]
  | none =>
   rw [Fa]
   ·unfold A1; rw [h1,h2]; rfl
   ·intro z hz
    unfold Wa at hz
    rcases List.mem_append.1 hz with hz | hz
    ·obtain ⟨y,hy,rfl⟩:=List.mem_map.1 hz
     rw [N9]
     exact Eb.1 h1 y hy
    ·obtain ⟨x,hx,rfl⟩:=List.mem_map.1 hz
     exact Eb.1 h2 x (List.mem_filter.1 hx).1
def inA (a:Qa):Prop:=(-(2*big)≤a.Paid∧a.Paid≤2*big)∧(-(2*big)≤a.Owed∧a.Owed≤2*big)
theorem Qya {A B:List Qa} (hA:nd A) (hB:nd B) (bA:∀a∈A,inA a) (bB:∀a∈B,inA a) (id:Int):amt (Pp A B) id=((amt B id).1+(amt A id).1,(amt B id).2+(amt A id).2):=by
 have hn:=Qfg hA hB
 cases h1:Ua B id with
 | some y =>
  obtain ⟨hy,hid⟩:=B7 h1
  have hm:Oa A y∈Pp A B:=List.mem_append_left _ (List.mem_map.2 ⟨y,hy,rfl⟩)
  rw [E9 hn hm (by rw [Qjv,hid])]
  have by_:=bB y hy
  unfold inA big at by_
  unfold Oa amt
  rw [hid,h1]
  cases h2:Ua A id with
  | none=>simp [Ci]
  | some x =>
   have bx:=bA x (B7 h2).1
   unfold inA big at bx
   show (IntKind.wrap .i64 (y.Paid+x.Paid),IntKind.wrap .i64 (y.Owed+x.Owed))=_
   rw [G7 (by omega) (by omega),G7 (by omega) (by omega)]
 | none =>
  cases h2:Ua A id with
  | some x =>
   obtain ⟨hx,hid⟩:=B7 h2
   have hm:Ci x∈Pp A B:=List.mem_append_right _ (List.mem_map.2 ⟨x,List.mem_filter.2 ⟨hx,by rw [hid,h1]; rfl⟩,rfl⟩)
   rw [E9 hn hm hid]
   unfold amt
   rw [h1,h2]
   simp [Ci]
  | none =>
   rw [Fa]
   ·unfold amt; rw [h1,h2]; rfl
   ·intro z hz
    unfold Pp at hz
    rcases List.mem_append.1 hz with hz | hz
    ·obtain ⟨y,hy,rfl⟩:=List.mem_map.1 hz
     rw [Qjv]
     exact Gp.1 h1 y hy
    ·obtain ⟨x,hx,rfl⟩:=List.mem_map.1 hz
     exact Gp.1 h2 x (List.mem_filter.1 hx).1
theorem Qyb {L:List Qa} (hn:nd L) (h:∀id,(-(2*big)≤(amt L id).1∧(amt L id).1≤2*big)∧(-(2*big)≤(amt L id).2∧(amt L id).2≤2*big)):∀a∈L,inA a:=fun a ha=>by
 have:=h a.Usage
 rw [Qfe hn ha] at this
 exact this
theorem Qdg (l:List Qa) (hl:l.length≤100) (id:Int):Uq 128 l id=some (amt l id):=by
 unfold Uq
 obtain ⟨r,e1,p1⟩:=Z8 (f:=Kn 128 l id) l.length (fun i s=>s=(i:Int)∧Ua l id=Ua (l.drop i) id) (fun r=>match r with | .inl _=>amt l id=(0,0) | .inr v=>amt l id=v) (fun i s hi ⟨hs,hI⟩=>by
  subst hs
  unfold Kn
  by_cases hlt:i<l.length
  ·have hw:IntKind.wrap .i64 ((i:Int)+1)=((i+1:Nat):Int):=Zv (by rw [Vh]; omega)
   rw [if_pos (by simpa using hlt)]
   simp only [Xm hlt,Option.bind_some,hw]
   rw [List.drop_eq_getElem_cons hlt] at hI
   by_cases he:l[i].Usage=id
   ·rw [if_pos (by simpa using he)]
    refine .inr ⟨_,rfl,?_⟩
    show amt l id=(l[i].Paid,l[i].Owed)
    unfold amt
    rw [hI]
    unfold Ua
    rw [List.find?_cons,show (l[i].Usage==id)=true by simpa using he]
   ·rw [if_neg (by simpa using he)]
    refine .inl ⟨_,hlt,rfl,rfl,?_⟩
    rw [hI]
    unfold Ua
    rw [List.find?_cons,show (l[i].Usage==id)=false by simpa using he]
  ·rw [if_neg (by simpa using hlt)]
   have hie:i=l.length:=by omega
   refine .inr ⟨_,rfl,?_⟩
   show amt l id=(0,0)
   rw [hie,List.drop_length] at hI
   unfold amt
   rw [hI]; rfl) (n:=128) (s:=0) (by omega) ⟨rfl,rfl⟩
 rw [e1,Option.bind_some]
 cases r with
 | inl _=>exact congrArg some p1.symm
 | inr v=>exact congrArg some p1.symm
theorem Jbo {D M B:List Qa} (hd:D.length≤60) (hm:M.length≤100) (hb:B.length≤100) (h:∀a∈D,amt M a.Usage=(a.Paid,a.Owed)∧amt B a.Usage=(IntKind.wrap .i64 (0 - a.Paid),IntKind.wrap .i64 (0 - a.Owed))):Qx (Vt 128 D) 128 (0,M,B)=some (.inl ()):=by
 obtain ⟨r,e1,rfl⟩:=Z8 (f:=Vt 128 D) D.length (fun i s=>s=((i:Int),M,B)) (fun r=>r=.inl ()) (fun i s hi hs=>by
  subst hs
  unfold Vt
  dsimp only
  by_cases hlt:i<D.length
  ·have hw:IntKind.wrap .i64 ((i:Int)+1)=((i+1:Nat):Int):=Zv (by rw [Vh]; omega)
   obtain ⟨h1,h2⟩:=h D[i] (List.getElem_mem hlt)
   rw [if_pos (by simpa using hlt)]
   simp only [Xm hlt,Option.bind_some,hw,Qdg M hm,Qdg B hb,h1,h2,bne_self_eq_false,Bool.false_eq_true,if_false]
   exact .inl ⟨_,hlt,rfl,rfl⟩
  ·rw [if_neg (by simpa using hlt)]
   exact .inr ⟨_,rfl,rfl⟩) (n:=128) (s:=(0,M,B)) (by omega) rfl
 exact e1
theorem Jka {a b c:List Ql} (ha:OkR a) (hb:OkR b) (hc:OkR c):Yo 128 a b c=some true:=by
 have la:=ha.len
 have lb:=hb.len
 have lc:=hc.len
 obtain ⟨b0,e0,-⟩:=Az a
 obtain ⟨b1,e1,-⟩:=Az b
 obtain ⟨b2,e2,-⟩:=Az c
 have nAC:=I7 ha.n hc.n
 have nAB:=I7 ha.n hb.n
 have nBC:=I7 hb.n hc.n
 have nCA:=I7 hc.n ha.n
 have fAC:=Qde nAC
 have fAB:=Qde nAB
 have fBC:=Qde nBC
 have fCA:=Qde nCA
 have l1:=Ik a c
 have l2:=Ik a b
 have l3:=Ik b c
 have l4:=Ik c a
 have m1:=Qbm (Wa a c)
 have m2:=Qbm (Wa a b)
 have m3:=Qbm (Wa b c)
 have m4:=Qbm (Wa c a)
 have l5:=Qju (fz (Wa a b)) (fz (Wa b c))
 have m5:=Qbm (Pp (fz (Wa a b)) (fz (Wa b c)))
 have nM:=Qfg fAB fBC
 have fM:=Qde nM
 have bAB:∀x∈fz (Wa a b),inA x:=Qyb fAB fun id=>by
  rw [Ms nAB,A3 ha hb]
  have p:=I9 ha id
  have q:=I9 hb id
  simp only [big] at *
  omega
 have bBC:∀x∈fz (Wa b c),inA x:=Qyb fBC fun id=>by
  rw [Ms nBC,A3 hb hc]
  have p:=I9 hb id
  have q:=I9 hc id
  simp only [big] at *
  omega
 have kAC:∀id,amt (fz (Wa a c)) id=((A1 c id).1 - (A1 a id).1,(A1 c id).2 - (A1 a id).2):=fun id=>by rw [Ms nAC,A3 ha hc]
 have kM:∀id,amt (fz (Pp (fz (Wa a b)) (fz (Wa b c)))) id=amt (fz (Wa a c)) id:=fun id=>by
  rw [Ms nM,Qya fAB fBC bAB bBC,kAC,Ms nAB,Ms nBC,A3 ha hb,A3 hb hc]
  simp only [Prod.mk.injEq]
  omega
 have kCA:∀id,amt (fz (Wa c a)) id=((A1 a id).1 - (A1 c id).1,(A1 a id).2 - (A1 c id).2):=fun id=>by rw [Ms nCA,A3 hc ha]
 have lenM:(fz (Wa a c)).length=(fz (Pp (fz (Wa a b)) (fz (Wa b c)))).length:=Qx8 fAC fM Qpn Qpn fun id=>by rw [kM]
 have lenB:(fz (Wa a c)).length=(fz (Wa c a)).length:=Qx8 fAC fCA Qpn Qpn fun id=>by
  rw [kAC,kCA]
  simp only [Prod.mk.injEq]
  omega
 unfold Yo
 rw [e0,Option.bind_some]
 cases b0 with
 | false=>simp only [Bool.not_false,if_true,Option.bind_some,B6]
 | true =>
  rw [if_neg (by decide),e1,Option.bind_some,Option.bind_some]
  cases b1 with
  | false=>simp only [Bool.not_false,if_true,Option.bind_some,B6]
  | true =>
   rw [if_neg (by decide),e2,Option.bind_some,Option.bind_some]
   cases b2 with
   | false=>simp only [Bool.not_false,if_true,Option.bind_some,B6]
   | true =>
    rw [if_neg (by decide),I8 (by omega) (by omega) ha.n hc.n,Option.bind_some,I8 (by omega) (by omega) ha.n hb.n,Option.bind_some,I8 (by omega) (by omega) hb.n hc.n,Option.bind_some,
     Qmf (by omega) (by omega) fAB fBC,Option.bind_some,I8 (by omega) (by omega) hc.n ha.n,Option.bind_some]
    rw [if_neg (by rw [←lenM,←lenB]; simp; omega),Jbo (by omega) (by omega) (by omega) (fun x hx=>?_),Option.bind_some]
    ·simp only [B6,Option.bind_some]
    ·have hk:=Qfe fAC hx
     refine ⟨by rw [kM,hk],?_⟩
     have h2:=kAC x.Usage
     rw [hk] at h2
     have p:=I9 ha x.Usage
     have q:=I9 hc x.Usage
     injection h2 with h3 h4
     simp only [big] at p q
     rw [kCA,G7 (by omega) (by omega),G7 (by omega) (by omega)]
     simp only [Prod.mk.injEq]
     omega
theorem Pq (x0:List Ql) (g0:gd (.sl Jm) x0) (x1:List Ql) (g1:gd (.sl Jm) x1) (x2:List Ql) (g2:gd (.sl Jm) x2):∃N,Yo N x0 x1 x2=some true:=by
 refine ⟨128,?_⟩
 obtain ⟨b0,e0,p0⟩:=Az x0
 obtain ⟨b1,e1,p1⟩:=Az x1
 obtain ⟨b2,e2,p2⟩:=Az x2
 cases b0 with
 | false=>unfold Yo; simp only [e0,Bool.not_false,if_true,Option.bind_some,B6]
 | true =>
  cases b1 with
  | false=>unfold Yo; simp only [e0,e1,Bool.not_false,Bool.not_true,Bool.false_eq_true,if_false,if_true,Option.bind_some,B6]
  | true =>
   cases b2 with
   | false=>unfold Yo; simp only [e0,e1,e2,Bool.not_false,Bool.not_true,Bool.false_eq_true,if_false,if_true,Option.bind_some,B6]
   | true=>exact Jka (p0 rfl) (p1 rfl) (p2 rfl)
end Gx

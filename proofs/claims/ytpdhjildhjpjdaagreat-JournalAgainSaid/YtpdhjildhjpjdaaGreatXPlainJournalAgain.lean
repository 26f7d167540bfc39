/- The plain laws for JournalAgain. -/
import Derived.Test.YtpdhjildhjpjdaaGreatXFns
import Derived.Test.YtpdhjildhjpjdaaGreatGRows
import Derived.Laws.Bits128
import Derived.Lib.RowBridge
import Derived.Test.YtpdhjildhjpjdaaGreatXRo
import Derived.WideShapes
import Derived.ChangeShapes
namespace Gx
open Go Gd
set_option linter.unusedVariables false
set_option linter.unusedSimpArgs false
theorem Jgx{α σ ρ τ:Type}(l:List α)(hl:l.length≤maxLen){f:ρ→Option (ρ⊕τ)}(mk:σ→Int→ρ)(Inv:Nat→σ→Prop)(go:σ→List α→τ)
  (h0:∀s,Inv l.length s→decide (((l.length:Nat):Int)<(l.length:Int))=false→f (mk s (l.length:Int))=some (.inr (go s [])))
  (h1:∀s (i:Nat) x xs,l[i]?=some x→decide ((i:Int)<(l.length:Int))=true→idx l (i:Int)=some x→IntKind.wrap .i64 ((i:Int)+1)=((i+1:Nat):Int)→l.drop i=x::xs→Inv i s →
   (∃s',f (mk s (i:Int))=some (.inl (mk s' ((i+1:Nat):Int)))∧Inv (i+1) s'∧go s (x::xs)=go s' xs)∨f (mk s (i:Int))=some (.inr (go s (x::xs))))
  {n:Nat} {s:σ} (hn:l.length<n) (hs:Inv 0 s):Qh f n (mk s 0)=some (go s l):=by
 have main:∀(k i n:Nat) (s:σ),l.length=i+k→k<n→Inv i s→Qh f n (mk s (i:Int))=some (go s (l.drop i)):=by
  intro k
  induction k with
  | zero =>
   intro i n s hk hn hI
   obtain⟨m,rfl⟩:∃m,n=m+1:=⟨n - 1,by omega⟩
   have hi:i=l.length:=by omega
   subst hi
   rw[XN]
   simp[Qh,h0 s hI (by simp)]
  | succ k ih =>
   intro i n s hk hn hI
   obtain⟨m,rfl⟩:∃m,n=m+1:=⟨n - 1,by omega⟩
   have hlt:i<l.length:=by omega
   have hd:=List.drop_eq_getElem_cons hlt
   rw[hd]
   rcases h1 s i _ _ (List.getElem?_eq_getElem hlt) (by simpa using hlt) (Jbr (List.getElem?_eq_getElem hlt)) (Jff (by omega)) hd hI with⟨s',e1,e2,e3⟩ | e1
   ·simp only[Qh,e1,QJ,e3]
    exact ih (i+1) m s' (by omega) (by omega) e2
   ·simp only[Qh,e1,QJ]
 simpa using main l.length 0 n s (by omega) hn hs
theorem Jdp{α:Type}{l:List α}{i:Nat}(h:i<l.length):idx l (i:Int)=some l[i]:=Jbr (List.getElem?_eq_getElem h)
theorem Q00(n:Int):IntKind.wrap .u64 n=n % 18446744073709551616:=by
 simp[IntKind.wrap,IntKind.bits,IntKind.signed]
theorem wu8(n:Int):IntKind.wrap .u8 n=n % 256:=by
 simp[IntKind.wrap,IntKind.bits,IntKind.signed]
theorem Ib{n:Int}(h0 : -9223372036854775808≤n)(h1:n≤9223372036854775807):IntKind.wrap .i64 n=n:=by
 rw[IntKind.wrap_i64]; omega
theorem Qmx(x y:Nat)(hx:x<2 ^ 64)(hy:y<2 ^ 64):Go.bits .and .u64 x y=((x &&& y:Nat):Int)∧Go.bits .or .u64 x y=((x ||| y:Nat):Int)∧Go.bits .xor .u64 x y=((x ^^^ y:Nat):Int):=by
 have ex:(BitVec.ofInt 64 (x:Int)).toNat=x:=by rw[BitVec.toNat_ofInt]; omega
 have ey:(BitVec.ofInt 64 (y:Int)).toNat=y:=by rw[BitVec.toNat_ofInt]; omega
 have ha:(x &&& y:Nat)<2 ^ 64:=Nat.lt_of_le_of_lt Nat.and_le_left hx
 have ho:(x ||| y:Nat)<2 ^ 64:=Nat.or_lt_two_pow hx hy
 have hx2:(x ^^^ y:Nat)<2 ^ 64:=Nat.xor_lt_two_pow hx hy
 refine⟨?_,?_,?_⟩
 ·show IntKind.u64.wrap ((BitVec.ofInt 64 (x:Int) &&& BitVec.ofInt 64 (y:Int)).toNat:Nat)=_
  rw[BitVec.toNat_and,ex,ey,Q00]; omega
 ·show IntKind.u64.wrap ((BitVec.ofInt 64 (x:Int) ||| BitVec.ofInt 64 (y:Int)).toNat:Nat)=_
  rw[BitVec.toNat_or,ex,ey,Q00]; omega
 ·show IntKind.u64.wrap ((BitVec.ofInt 64 (x:Int) ^^^ BitVec.ofInt 64 (y:Int)).toNat:Nat)=_
  rw[BitVec.toNat_xor,ex,ey,Q00]; omega
theorem Jdq(x y:Nat)(hx:x<2 ^ 8)(hy:y<2 ^ 8):Go.bits .and .u8 x y=((x &&& y:Nat):Int)∧Go.bits .or .u8 x y=((x ||| y:Nat):Int):=by
 have ex:(BitVec.ofInt 8 (x:Int)).toNat=x:=by rw[BitVec.toNat_ofInt]; omega
 have ey:(BitVec.ofInt 8 (y:Int)).toNat=y:=by rw[BitVec.toNat_ofInt]; omega
 have ha:(x &&& y:Nat)<2 ^ 8:=Nat.lt_of_le_of_lt Nat.and_le_left hx
 have ho:(x ||| y:Nat)<2 ^ 8:=Nat.or_lt_two_pow hx hy
 refine⟨?_,?_⟩
 ·show IntKind.u8.wrap ((BitVec.ofInt 8 (x:Int) &&& BitVec.ofInt 8 (y:Int)).toNat:Nat)=_
  rw[BitVec.toNat_and,ex,ey,wu8]; omega
 ·show IntKind.u8.wrap ((BitVec.ofInt 8 (x:Int) ||| BitVec.ofInt 8 (y:Int)).toNat:Nat)=_
  rw[BitVec.toNat_or,ex,ey,wu8]; omega
theorem Jxg(u:Nat):Go.bits .or .u8 (IntKind.wrap .u8 (u:Int)) 128=((128+u % 128:Nat):Int):=by
 have h0:∀y:Nat,y<128→(128 ||| y:Nat)=128+y:=fun y hy=>(XW (i:=7) (b:=y) hy 1).symm
 have h:∀x,x<256→(x ||| 128:Nat)=128+x % 128:=fun x hx=>by
  by_cases hlt:x<128
  ·rw[ZT,h0 x hlt,ZA hlt]
  ·obtain⟨y,rfl⟩:∃y,x=128+y:=⟨x - 128,by omega⟩
   rw[←h0 y (by omega),ZT 128 y,Nat.or_assoc,Nat.or_self,ZT,h0 y (by omega)]
   omega
 rw[wu8,show((u:Int) % 256)=((u % 256:Nat):Int) by omega,show(128:Int)=((128:Nat):Int)from rfl,(Jdq (u % 256) 128 (by omega) (by omega)).2,h _ (by omega)]
 omega
theorem Jvb{x:Int}(h0:0≤x)(h1:x<256):Go.bits .and .u8 x 127=x % 128:=by
 have h:∀x,x<256→(x &&& 127:Nat)=x % 128:=fun x _=>Nat.and_two_pow_sub_one_eq_mod x 7
 obtain⟨n,rfl⟩:∃n:Nat,x=n:=⟨x.toNat,by omega⟩
 rw[show(127:Int)=((127:Nat):Int)from rfl,(Jdq n 127 (by omega) (by omega)).1,h _ (by omega)]
 omega
theorem Jdr(x y:Int)(hx0 : -9223372036854775808≤x)(hx:x≤9223372036854775807):Go.bits .xor .i64 x 0=x∧Go.bits .xor .i64 x (-1) = -x - 1:=by
 have e0:BitVec.ofInt 64 0=0#64:=by decide
 have e1:BitVec.ofInt 64 (-1)=BitVec.allOnes 64:=by decide
 refine⟨?_,?_⟩
 ·show IntKind.i64.wrap ((BitVec.ofInt 64 x ^^^ BitVec.ofInt 64 0).toNat:Nat)=_
  rw[e0,BitVec.xor_zero,BitVec.toNat_ofInt,IntKind.wrap_i64]; omega
 ·show IntKind.i64.wrap ((BitVec.ofInt 64 x ^^^ BitVec.ofInt 64 (-1)).toNat:Nat)=_
  rw[e1,BitVec.xor_allOnes,BitVec.toNat_not,BitVec.toNat_ofInt,IntKind.wrap_i64]; omega
theorem Jmc(u:Nat)(h:u<2 ^ 64):(u ^^^ 18446744073709551615:Nat)=18446744073709551615 - u:=by
 have:=congrArg BitVec.toNat (BitVec.xor_allOnes (x:=BitVec.ofNat 64 u))
 rw[BitVec.toNat_xor,BitVec.toNat_not,BitVec.toNat_ofNat,BitVec.toNat_allOnes,ZA h]at this
 simpa using this
def zig(x:Int):Nat:=if x<0 then(2*(-(x+1))+1).toNat else(2*x).toNat
def unz(u:Nat):Int:=if u % 2=0 then((u / 2:Nat):Int)else -((u / 2:Nat):Int) - 1
def Rh(x:Int):Prop := -9223372036854775808≤x∧x≤9223372036854775807
theorem Q01{x:Int}(h:Rh x):zig x<2 ^ 64:=by
 obtain⟨h0,h1⟩:=h
 unfold zig; split<;>omega
theorem Jp0{x:Int}:unz (zig x)=x:=by
 unfold unz zig
 split<;>split<;>omega
theorem Jp1(u:Nat):zig (unz u)=u:=by
 unfold unz zig
 split<;>split<;>omega
theorem Jp2{u:Nat}(h:u<2 ^ 64):Rh (unz u):=by
 unfold unz Rh; split<;>omega
theorem Jmd(N:Nat){x:Int}(h:Rh x):No N x=some (zig x:Int):=by
 obtain⟨h0,h1⟩:=h
 have e1:Qce .u64 (IntKind.wrap .u64 x) 1=some (((2*x) % 18446744073709551616:Int)):=by
  simp only[Qce]
  rw[if_neg (by omega),Q00,Q00]
  simp only[IntKind.bits]
  congr 1
  have:(2:Int) ^ min (1:Int).toNat 64=2:=by decide
  rw[this]; omega
 have e2:Td .i64 x 63=some (if x<0 then -1 else 0):=by
  simp only[Td]
  rw[if_neg (by omega)]
  congr 1
  have:(2:Int) ^ min (63:Int).toNat IntKind.i64.bits=9223372036854775808:=by decide
  rw[this,JY _ (by omega)]
  split<;>omega
 unfold No
 rw[e1,QJ,e2,QJ]
 congr 1
 unfold zig
 split
 ·rw[Q00,show((-1:Int) % 18446744073709551616)=((18446744073709551615:Nat):Int) by decide,show((2*x) % 18446744073709551616:Int)=(((2*x) % 18446744073709551616).toNat:Nat) by omega,
   (Qmx _ _ (by omega) (by omega)).2.2,Jmc _ (by omega)]
  omega
 ·rw[Q00,show((0:Int) % 18446744073709551616)=((0:Nat):Int) by decide,show((2*x) % 18446744073709551616:Int)=(((2*x) % 18446744073709551616).toNat:Nat) by omega,
   (Qmx _ _ (by omega) (by omega)).2.2,Nat.xor_zero]
  omega
theorem Jvc(N:Nat){u:Nat}(h:u<2 ^ 64):Qdg N (u:Int)=some (unz u):=by
 have e1:Td .u64 (u:Int) 1=some ((u / 2:Nat):Int):=by
  simp only[Td]
  rw[if_neg (by omega)]
  congr 1
  have:(2:Int) ^ min (1:Int).toNat IntKind.u64.bits=2:=by decide
  rw[this,JY _ (by omega)]; omega
 unfold Qdg
 rw[e1,QJ]
 congr 1
 have e2:Go.bits .and .u64 (u:Int) 1=((u % 2:Nat):Int):=by
  rw[show(1:Int)=((1:Nat):Int)from rfl,(Qmx u 1 h (by omega)).1,Nat.and_one_is_mod]
 rw[e2,Ib (n:=((u / 2:Nat):Int)) (by omega) (by omega),Ib (n:=((u % 2:Nat):Int)) (by omega) (by omega)]
 unfold unz
 split
 ·rename_i h0
  rw[h0,show IntKind.wrap .i64 (0 - ((0:Nat):Int))=0 by decide]
  exact(Jdr _ 0 (by omega) (by omega)).1
 ·rename_i h0
  have:u % 2=1:=by omega
  rw[this,show IntKind.wrap .i64 (0 - ((1:Nat):Int)) = -1 by decide]
  exact(Jdr _ 0 (by omega) (by omega)).2
def vb:Nat→Nat→List Int
 | 0,_=>[]
 | k+1,u=>if u<128 then [(u:Int)]else((128+u % 128:Nat):Int)::vb k (u / 128)
def isB(l:List Int):Prop:=∀b∈l,0≤b∧b<256
theorem Uh{l m:List Int}(h:isB l)(h2:isB m):isB (l++m):=fun b hb=>(QZ.1 hb).elim (h b) (h2 b)
theorem Jme:∀(k u:Nat),(vb k u).length≤k
 | 0,u=>QU _
 | k+1,u=>by
  simp only[vb]
  split
  ·simp
  ·simp[Jme k]
theorem Jxh:∀(k u:Nat),isB (vb k u)
 | 0,u=>fun b hb=>by simp[vb]at hb
 | k+1,u=>by
  simp only[vb]
  split
  ·intro b hb
   simp at hb; omega
  ·intro b hb
   rcases QX.1 hb with rfl | hb
   ·omega
   ·exact Jxh k _ b hb
theorem S9{α:Type}{xs ys:List α}(h:xs.length+ys.length≤100000):app 1 xs ys=some (xs++ys):=by
 unfold app
 rw[if_pos (by omega)]
theorem Jds(N:Nat):∀(k u:Nat) (m:List Int) (fuel:Nat),0<k→u<128 ^ k→k<fuel→u<2 ^ 64→m.length+k≤100000 →
  ((Qh (Qdf N) fuel ((u:Int),m)).bind fun(v6,v7)=>(app 1 v7 ([(IntKind.wrap .u8 v6)]:List Int)).bind fun q8=>some q8)=some (m++vb k u)
 | 0,u,m,fuel,h0,_,_,_,_=>by omega
 | k+1,u,m,fuel,_,h,hf,h64,hm=>by
  obtain⟨f,rfl⟩:∃f,fuel=f+1:=⟨fuel - 1,by omega⟩
  simp only[Qh,Qdf]
  by_cases hu:u<128
  ·rw[show decide ((u:Int)≥128)=false by simp; omega]
   simp only[JZ,if_false,QJ,vb,if_pos hu]
   rw[wu8,show((u:Int) % 256)=(u:Int) by omega,S9 (by simp; omega)]
   rfl
  ·rw[show decide ((u:Int)≥128)=true by simp; omega]
   have es:Td .u64 (u:Int) 7=some ((u / 128:Nat):Int):=by
    simp only[Td]
    rw[if_neg (by omega)]
    congr 1
    have:(2:Int) ^ min (7:Int).toNat IntKind.u64.bits=128:=by decide
    rw[this,JY _ (by omega)]; omega
   have hk:0<k:=by
    rcases Nat.eq_zero_or_pos k with h0 | h0
    ·subst h0; simp at h; omega
    ·exact h0
   simp only[if_true,vb,if_neg hu]
   rw[S9 (by simp; omega),QJ,es,QJ,QJ,Jxg]
   have:=Jds N k (u / 128) (m++[((128+u % 128:Nat):Int)]) f hk (by rw[KU]at h; omega) (by omega) (by omega) (by simp; omega)
   simpa using this
def vz(x:Int):List Int:=vb 10 (zig x)
theorem Vq(x:Int):(vz x).length≤10:=Jme _ _
theorem Qwb(x:Int):isB (vz x):=Jxh _ _
theorem Jp3{x:Int}(h:Rh x):zig x<128 ^ 10:=by
 have:=Q01 h
 have e:(128:Nat) ^ 10=1180591620717411303424:=by decide
 omega
theorem Jtu{N:Nat}(hN:1000≤N){x:Int}(h:Rh x){m:List Int}(hm:m.length≤10000):Qbr N x m=some (m++vz x):=by
 unfold Qbr
 rw[Jmd N h,QJ]
 exact Jds N 10 (zig x) m N (by omega) (Jp3 h) (by omega) (Q01 h) (by omega)
theorem Jdt(N:Nat){m:List Int}(hm:m.length≤10000){k:Int}(h0:0≤k)(h1:k≤10000):Lj N m k=some m:=by
 unfold Lj
 have e:mkL 1 (List.length m:Int) (IntKind.wrap .i64 ((List.length m:Int)+k)) (0:Int)=some (List.replicate m.length 0):=by
  unfold mkL
  rw[Ib (by omega) (by omega),if_pos (by omega)]
  simp
 rw[e,QJ]
 unfold Ga
 have:Nat.min m.length (List.replicate m.length (0:Int)).length=m.length:=by rw[ZR]; exact Nat.min_self _
 rw[this]
 simp
theorem Ta{N:Nat}(hN:1000≤N){x:Int}(h:Rh x){m:List Int}(hm:m.length≤10000):U4 N m x=some (m++vz x):=by
 unfold U4
 rw[Jdt N hm (by omega) (by omega),QJ,Jtu hN h hm]
 rfl
theorem Qh4{α:Type}{l:List α}(h:l.length≤10000):Rh (l.length:Int):=⟨by omega,by omega⟩
theorem Jgy{N:Nat}(hN:1000≤N){s:Str}(h:s.length≤1000){m:List Int}(hm:m.length≤9000):Ik N m s=some (m++vz (s.length:Int)++Yv s):=by
 unfold Ik
 have hl:=Vq (s.length:Int)
 rw[Ib (by omega) (by omega),Jdt N (by omega) (by omega) (by omega),QJ,Jtu hN (Qh4 (by omega)) (by omega),QJ,S9 (by simp[Yv]; omega)]
 rfl
def Gh(r:Qq):List Int:=[r.1,r.2.1,r.2.2.1,r.2.2.2.1,r.2.2.2.2.1,r.2.2.2.2.2.1].foldl (fun m x=>m++vz x) []++vz (r.2.2.2.2.2.2.1.length:Int)++Yv r.2.2.2.2.2.2.1++vz r.2.2.2.2.2.2.2.1++vz r.2.2.2.2.2.2.2.2
def Q02(r:Qq):Prop:=Rh r.1∧Rh r.2.1∧Rh r.2.2.1∧Rh r.2.2.2.1∧Rh r.2.2.2.2.1∧Rh r.2.2.2.2.2.1∧Rh r.2.2.2.2.2.2.2.1∧Rh r.2.2.2.2.2.2.2.2∧r.2.2.2.2.2.2.1.length≤1000
theorem Q03(r:Qq):Gh r=vz r.1++vz r.2.1++vz r.2.2.1++vz r.2.2.2.1++vz r.2.2.2.2.1++vz r.2.2.2.2.2.1++vz (r.2.2.2.2.2.2.1.length:Int)++Yv r.2.2.2.2.2.2.1++vz r.2.2.2.2.2.2.2.1++vz r.2.2.2.2.2.2.2.2:=by
 unfold Gh; simp
theorem Jp4{N:Nat}(hN:1000≤N){r:Qq}(h:Q02 r):Qh (Uw N r) N (0,([]:List Int))=some ([r.1,r.2.1,r.2.2.1,r.2.2.2.1,r.2.2.2.2.1,r.2.2.2.2.2.1].foldl (fun m x=>m++vz x) []):=by
 obtain⟨h1,h2,h3,h4,h5,h6,h7,h8,h9⟩:=h
 have l1:=Vq r.1; have l2:=Vq r.2.1; have l3:=Vq r.2.2.1; have l4:=Vq r.2.2.2.1; have l5:=Vq r.2.2.2.2.1; have l6:=Vq r.2.2.2.2.2.1
 have step:∀(i:Nat) (x:Int) (m:List Int) (f:Nat),[r.1,r.2.1,r.2.2.1,r.2.2.2.1,r.2.2.2.2.1,r.2.2.2.2.2.1][i]?=some x→Rh x→m.length≤10000→Qh (Uw N r) (f+1) ((i:Int),m)=Qh (Uw N r) f (((i+1:Nat):Int),m++vz x):=by
  intro i x m f hx hxB hm
  have hi:i<6:=by have:=(List.getElem?_eq_some_iff.1 hx).1; simpa using this
  conv=>lhs; unfold Qh
  simp only[Uw]
  rw[if_pos (by simp; omega)]
  have hix:idx [r.1,r.2.1,r.2.2.1,r.2.2.2.1,r.2.2.2.2.1,r.2.2.2.2.2.1] (i:Int)=some x:=by
   unfold idx; rw[if_pos (by omega)]; simpa using hx
  rw[hix,QJ,Ta hN hxB hm,QJ,Ib (by omega) (by omega)]
  rfl
 obtain⟨f,rfl⟩:∃f,N=f+7:=⟨N - 7,by omega⟩
 have e0:=step 0 r.1 [] (f+6) rfl h1 (by simp)
 have e1:=step 1 r.2.1 (vz r.1) (f+5) rfl h2 (by omega)
 have e2:=step 2 r.2.2.1 (vz r.1++vz r.2.1) (f+4) rfl h3 (by simp; omega)
 have e3:=step 3 r.2.2.2.1 (vz r.1++vz r.2.1++vz r.2.2.1) (f+3) rfl h4 (by simp; omega)
 have e4:=step 4 r.2.2.2.2.1 (vz r.1++vz r.2.1++vz r.2.2.1++vz r.2.2.2.1) (f+2) rfl h5 (by simp; omega)
 have e5:=step 5 r.2.2.2.2.2.1 (vz r.1++vz r.2.1++vz r.2.2.1++vz r.2.2.2.1++vz r.2.2.2.2.1) (f+1) rfl h6 (by simp; omega)
 refine(e0.trans ?_)
 rw[QE]
 refine e1.trans (e2.trans (e3.trans (e4.trans (e5.trans ?_))))
 conv=>lhs; unfold Qh
 simp only[Uw]
 rw[if_neg (by simp)]
 simp
theorem Jmf{N:Nat}(hN:1000≤N){r:Qq}(h:Q02 r):Wa N r=some (Gh r):=by
 have hl:=Jp4 hN h
 obtain⟨h1,h2,h3,h4,h5,h6,h7,h8,h9⟩:=h
 have l1:=Vq r.1; have l2:=Vq r.2.1; have l3:=Vq r.2.2.1; have l4:=Vq r.2.2.2.1; have l5:=Vq r.2.2.2.2.1; have l6:=Vq r.2.2.2.2.2.1
 have l7:=Vq (r.2.2.2.2.2.2.1.length:Int); have l8:=Vq r.2.2.2.2.2.2.2.1
 unfold Wa
 rw[hl,QJ,Jgy hN h9 (by simp; omega),QJ,Ta hN h7 (by simp[Yv]; omega),QJ,Ta hN h8 (by simp[Yv]; omega),QJ]
 rfl
def sc:Nat→List Int→Int×Nat×List Int
 | _,[]=>(2,0,[])
 | i,b::t=>if(i=9∧b≠1)∨(0<i∧b=0)then(1,0,[])else if b<128 then(0,b.toNat,t)else((sc (i+1) t).1,(b - 128).toNat+128*(sc (i+1) t).2.1,(sc (i+1) t).2.2)
theorem Qut{b:Int}{t:List Int}(h:isB (b::t)):isB t:=fun x hx=>h x (.tail _ hx)
theorem Jmg:∀(i:Nat) (l:List Int),(sc i l).1=0∨(sc i l).1=1∨(sc i l).1=2
 | _,[]=>.inr (.inr rfl)
 | i,b::t=>by
  simp only[sc]
  split
  ·exact .inr (.inl rfl)
  ·split
   ·exact .inl rfl
   ·exact Jmg (i+1) t
theorem Jdu:∀(i:Nat) (l:List Int),i≤9→isB l→(sc i l).1=0→(sc i l).2.1<2 ^ (64 - 7*i)∧(0<i→0<(sc i l).2.1)∧(sc i l).2.2.length<l.length∧isB (sc i l).2.2 ∧
  l=vb (10 - i) (sc i l).2.1++(sc i l).2.2∧(sc i l).2.2=l.drop (l.length - (sc i l).2.2.length)
 | _,[],_,_,h=>by simp[sc]at h
 | i,b::t,hi,hB,h=>by
  have hb:=hB b (.head _)
  simp only[sc]at h ⊢
  obtain⟨k,hk⟩:∃k,10 - i=k+1:=⟨9 - i,by omega⟩
  by_cases c1:(i=9∧b≠1)∨(0<i∧b=0)
  ·rw[if_pos c1]at h; simp at h
  ·rw[if_neg c1]at h ⊢
   by_cases c2:b<128
   ·rw[if_pos c2]at h ⊢
    refine⟨?_,fun h0=>?_,by simp,Qut hB,?_,?_⟩
    ·simp only
     by_cases h9:i=9
     ·subst h9
      have:b=1:=by omega
      subst this; decide
     ·have h7:(2:Nat) ^ 7≤2 ^ (64 - 7*i):=XP (by omega) (by omega)
      have:(2:Nat) ^ 7=128:=by decide
      omega
    ·simp only; omega
    ·simp only[hk,vb]
     rw[if_pos (by omega)]
     simp; omega
    ·simp
   ·rw[if_neg c2]at h ⊢
    have h8:i≤8:=by omega
    obtain⟨r1,r2,r3,r4,r5,r6⟩:=Jdu (i+1) t (by omega) (Qut hB) h
    simp only
    have hp:(2:Nat) ^ (64 - 7*i)=128*2 ^ (64 - 7*(i+1)):=by
     rw[show 64 - 7*i=7+(64 - 7*(i+1)) by omega,KQ]
    have hpos:=r2 (by omega)
    generalize hu:(sc (i+1) t).2.1=u at *
    generalize ht:(sc (i+1) t).2.2=t' at *
    refine⟨by omega,fun _=>by omega,by simp; omega,r4,?_,?_⟩
    ·rw[hk]
     simp only[vb]
     rw[if_neg (by omega)]
     have e1:((b - 128).toNat+128*u) / 128=u:=by omega
     have e2:((128+((b - 128).toNat+128*u) % 128:Nat):Int)=b:=by omega
     rw[e1,e2,QF,show k=10 - (i+1) by omega,←r5]
    ·rw[List.length_cons,show t.length+1 - t'.length=(t.length - t'.length)+1 by omega,List.drop_succ_cons]
     exact r6
theorem Jtv:∀(i u:Nat) (t:List Int),i≤9→u<2 ^ (64 - 7*i)→(0<i→0<u)→sc i (vb (10 - i) u++t)=(0,u,t)
 | i,u,t,hi,hu,h0=>by
  obtain⟨k,hk⟩:∃k,10 - i=k+1:=⟨9 - i,by omega⟩
  rw[hk]
  simp only[vb]
  have hu9:i=9→u<2:=fun e=>by subst e; simpa using hu
  by_cases c:u<128
  ·rw[if_pos c]
   simp only[QF,QE,sc]
   rw[if_neg (by omega),if_pos (by omega)]
   simp
  ·rw[if_neg c]
   have h8:i≤8:=by
    rcases Nat.lt_or_ge i 9 with q | q
    ·omega
    ·have:=hu9 (by omega); omega
   have hp:(2:Nat) ^ (64 - 7*i)=128*2 ^ (64 - 7*(i+1)):=by
    rw[show 64 - 7*i=7+(64 - 7*(i+1)) by omega,KQ]
   have ih:=Jtv (i+1) (u / 128) t (by omega) (by omega) (fun _=>by omega)
   rw[show 10 - (i+1)=k by omega]at ih
   simp only[QF,sc]
   rw[if_neg (by omega),if_neg (by omega),ih]
   simp only[Prod.mk.injEq,true_and,and_true]
   omega
termination_by i _ _=>10 - i
theorem Jyl{v i b:Nat}(hv:v<128 ^ i)(hb:b<128)(hs:v+b*128 ^ i<2 ^ 64):Go.bits .or .u64 (v:Int) ((b*128 ^ i:Nat):Int)=((v+b*128 ^ i:Nat):Int):=by
 rw[(Qmx v (b*128 ^ i) (by omega) (by omega)).2.1]
 congr 1
 have e:(128:Nat) ^ i=2 ^ (7*i):=by rw[show(128:Nat)=2 ^ 7 by decide,←KH]
 rw[e]at hv ⊢
 have:=XW hv b
 rw[XH b,ZT,←this,XC]
theorem Jxi{i:Nat}(hi:i≤9):128 ^ i*2 ^ (64 - 7*i)=2 ^ 64:=by
 rw[show(128:Nat) ^ i=2 ^ (7*i) by rw[show(128:Nat)=2 ^ 7 by decide,←KH],←KQ]
 congr 1; omega
def scG(len v i:Nat)(r:Int×Nat×List Int):Unit⊕(Int×Int×Int) :=
 if r.1=2 then .inl ()else if r.1=1 then .inr (0,0,1)else .inr (unz (v+128 ^ i*r.2.1),((len - r.2.2.length:Nat):Int),0)
theorem Jvd{i:Nat}{b:Int}{t:List Int}(h:(i=9∧b≠1)∨(0<i∧b=0)):sc i (b::t)=(1,0,[]):=by simp only[sc]; rw[if_pos h]
theorem Jp5{i:Nat}{b:Int}{t:List Int}(h:¬((i=9∧b≠1)∨(0<i∧b=0)))(h2:b<128):sc i (b::t)=(0,b.toNat,t):=by simp only[sc]; rw[if_neg h,if_pos h2]
theorem Jdv{i:Nat}{b:Int}{t:List Int}(h:¬((i=9∧b≠1)∨(0<i∧b=0)))(h2:¬ b<128):sc i (b::t)=((sc (i+1) t).1,(b - 128).toNat+128*(sc (i+1) t).2.1,(sc (i+1) t).2.2):=by simp only[sc]; rw[if_neg h,if_neg h2]
theorem Q52(N:Nat)(x0:List Int)(hlen:x0.length≤100000):∀(l:List Int) (i v fuel:Nat),x0.drop i=l→isB l→i≤9→v<128 ^ i→l.length<fuel→i≤x0.length→Qh (E7 N x0) fuel ((v:Int),(i:Int))=some (scG x0.length v i (sc i l))
 | [],i,v,fuel,hd,_,hi,hv,hf,hix=>by
  obtain⟨f,rfl⟩:∃f,fuel=f+1:=⟨fuel - 1,by simp at hf; omega⟩
  have hge:x0.length≤i:=by
   have:=congrArg List.length hd
   simp at this; omega
  simp only[Qh,E7]
  rw[if_neg (by simp; omega)]
  simp[scG,sc]
 | b::t,i,v,fuel,hd,hB,hi,hv,hf,hix=>by
  obtain⟨f,rfl⟩:∃f,fuel=f+1:=⟨fuel - 1,by simp at hf; omega⟩
  have hb:=hB b (.head _)
  have hlt:i<x0.length:=by
   have:=congrArg List.length hd
   simp at this; omega
  have hx:idx x0 (i:Int)=some b:=by
   unfold idx
   rw[if_pos (by omega)]
   have:=congrArg (fun l=>l[0]?) hd
   simpa using this
  have hd2:x0.drop (i+1)=t:=by
   have:=congrArg List.tail hd
   simpa using this
  simp only[Qh,E7]
  rw[if_pos (by simpa using hlt),hx,QJ]
  by_cases c1:(i=9∧b≠1)∨(0<i∧b=0)
  ·rw[Jvd c1,if_pos (by simp; omega)]
   simp[scG]
  ·rw[if_neg (by simp; omega)]
   have e7:IntKind.wrap .i64 (7*(i:Int))=((7*i:Nat):Int):=by rw[Ib (by omega) (by omega)]; omega
   have eb:IntKind.wrap .u64 (Go.bits .and .u8 b 127)=((b.toNat % 128:Nat):Int):=by rw[Jvb hb.1 hb.2,Q00]; omega
   have h9:i=9→b=1:=fun e=>by omega
   have hp:=Jxi hi
   have hbm:b.toNat % 128<2 ^ (64 - 7*i)∧(i≤8→128≤2 ^ (64 - 7*i)):=by
    refine⟨?_,fun h8=>?_⟩
    ·by_cases e9:i=9
     ·rw[h9 e9,e9]; decide
     ·have h7:(2:Nat) ^ 7≤2 ^ (64 - 7*i):=XP (by omega) (by omega)
      have:(2:Nat) ^ 7=128:=by decide
      omega
    ·have h7:(2:Nat) ^ 7≤2 ^ (64 - 7*i):=XP (by omega) (by omega)
     simpa using h7
   have hmul:v+b.toNat % 128*128 ^ i<2 ^ 64:=by
    have h1:(b.toNat % 128+1)*128 ^ i≤2 ^ (64 - 7*i)*128 ^ i:=QB _ hbm.1
    rw[XH (2 ^ (64 - 7*i)),hp,Nat.add_mul,ZH]at h1
    omega
   have es:Qce .u64 (IntKind.wrap .u64 (Go.bits .and .u8 b 127)) (IntKind.wrap .i64 (7*(i:Int)))=some ((b.toNat % 128*128 ^ i:Nat):Int):=by
    simp only[Qce]
    rw[eb,e7,if_neg (by omega),Q00]
    congr 1
    have e2:min ((7*i:Nat):Int).toNat IntKind.u64.bits=7*i:=by
     show min ((7*i:Nat):Int).toNat 64=7*i
     omega
    rw[e2]
    have e3:(128:Nat) ^ i=2 ^ (7*i):=by rw[show(128:Nat)=2 ^ 7 by decide,←KH]
    rw[e3]at hmul ⊢
    have e4:((b.toNat % 128:Nat):Int)*2 ^ (7*i)=((b.toNat % 128*2 ^ (7*i):Nat):Int):=by simp
    rw[e4]; omega
   rw[es,QJ,Jyl hv (by omega) hmul]
   by_cases c2:b<128
   ·rw[Jp5 c1 c2,if_pos (by simpa using c2),Jvc N hmul]
    simp only[QJ]
    have e1:IntKind.wrap .i64 ((i:Int)+1)=((x0.length - t.length:Nat):Int):=by
     rw[Ib (by omega) (by omega)]
     have:=congrArg List.length hd2
     simp at this; omega
    have e2:b.toNat % 128=b.toNat:=by omega
    rw[e1,e2,XH b.toNat]
    simp[scG]
   ·rw[Jdv c1 c2,if_neg (by simpa using c2)]
    have h8:i≤8:=by omega
    have hv2:v+b.toNat % 128*128 ^ i<128 ^ (i+1):=by
     have h1:(b.toNat % 128+1)*128 ^ i≤128*128 ^ i:=QB _ (by omega)
     rw[Nat.add_mul,ZH]at h1
     rw[KU,XH (128 ^ i)]; omega
    have ih:=Q52 N x0 hlen t (i+1) (v+b.toNat % 128*128 ^ i) f hd2 (Qut hB) (by omega) hv2 (by simp at hf; omega) (by omega)
    simp only[QJ]
    rw[Ib (by omega) (by omega)]
    refine(Eq.trans ?_ (ih.trans ?_))
    ·rfl
    ·unfold scG
     simp only
     congr 1
     have hb2:b.toNat % 128=(b - 128).toNat:=by omega
     have e5:v+b.toNat % 128*128 ^ i+128 ^ (i+1)*(sc (i+1) t).2.1=v+128 ^ i*((b - 128).toNat+128*(sc (i+1) t).2.1):=by
      rw[hb2,KU,Nat.mul_add,XH (b - 128).toNat,Nat.mul_assoc,Nat.add_assoc]
     rw[e5]
def pnG(r:Int×Nat×List Int):Int×Int×List Int:=if r.1=0 then(unz r.2.1,0,r.2.2)else(0,r.1,[])
def pn(l:List Int):Int×Int×List Int:=pnG (sc 0 l)
theorem Jmh{N:Nat}(hN:2000≤N){l:List Int}(hB:isB l)(hl:l.length≤1000):Pu N l=some (if(sc 0 l).1=0 then(unz (sc 0 l).2.1,((l.length - (sc 0 l).2.2.length:Nat):Int),0)else(0,0,(sc 0 l).1)):=by
 unfold Pu
 have:=Q52 N l (by omega) l 0 0 N rfl hB (by omega) (by simp) (by omega) (by omega)
 rw[show Qh (E7 N l) N (0,0)=_ from this,QJ]
 unfold scG
 rcases Jmg 0 l with h | h | h
 ·rw[if_neg (by omega),if_neg (by omega),if_pos h]; simp
 ·rw[if_neg (by omega),if_pos h,if_neg (by omega),h]
 ·rw[if_pos h,if_neg (by omega),h]
theorem Jmi{N:Nat}{l:List Int}(hl:l.length≤1000){k:Nat}(hk:k≤l.length):Pv N l (k:Int)=some (l.drop k)∧True:=by
 have e1:mkL 1 (IntKind.wrap .i64 ((List.length l:Int) - (k:Int))) (IntKind.wrap .i64 ((List.length l:Int) - (k:Int))) (0:Int)=some (List.replicate (l.length - k) 0):=by
  unfold mkL
  rw[Ib (by omega) (by omega),if_pos (by omega)]
  congr 2; omega
 have e2:slc l (k:Int) (List.length l:Int)=some (l.drop k):=by
  unfold slc
  rw[if_pos (by omega),JU,List.take_of_length_le (by simp)]
 have e3:Ga (List.replicate (l.length - k) (0:Int)) (l.drop k)=l.drop k:=by
  unfold Ga
  have:Nat.min (l.drop k).length (List.replicate (l.length - k) (0:Int)).length=l.length - k:=by simp
  rw[this,List.take_of_length_le (by simp)]; simp
 constructor
 ·unfold Pv
  rw[e1,QJ,e2]
  simp[chk,e3]
 ·trivial
theorem Quu{N:Nat}(hN:2000≤N){l:List Int}(hB:isB l)(hl:l.length≤1000):(Ca N l)=some (pn l):=by
 unfold Ca
 rw[Jmh hN hB hl,QJ]
 unfold pn pnG
 by_cases h:(sc 0 l).1=0
 ·obtain⟨_,_,h3,_,_,h6⟩:=Jdu 0 l (by omega) hB h
  rw[if_pos h,if_pos h]
  simp only
  rw[if_neg (by simp),(Jmi (N:=N) hl (k:=l.length - (sc 0 l).2.2.length) (by omega)).1,QJ,←h6]
 ·rw[if_neg h,if_neg h]
  simp only
  rw[if_pos (by simpa using h)]
theorem Jtw{l:List Int}(hB:isB l):isB (pn l).2.2∧(pn l).2.2.length≤l.length∧((pn l).2.1=0→Rh (pn l).1∧l=vz (pn l).1++(pn l).2.2):=by
 unfold pn pnG
 by_cases h:(sc 0 l).1=0
 ·obtain⟨h1,_,h3,h4,h5,h6⟩:=Jdu 0 l (by omega) hB h
  rw[if_pos h]
  exact⟨h4,by simp only; omega,fun _=>⟨Jp2 h1,by simp only[vz,Jp1]; exact h5⟩⟩
 ·rw[if_neg h]
  exact⟨fun b hb=>by simp at hb,by simp,fun h0=>absurd h0 h⟩
theorem Jdw{x:Int}(h:Rh x)(t:List Int):pn (vz x++t)=(x,0,t):=by
 have:=Jtv 0 (zig x) t (by omega) (Q01 h) (by omega)
 unfold pn pnG vz
 rw[show(10:Nat)=10 - 0 from rfl,this]
 simp[Jp0]
def ptG(p:Int×Int×List Int):Str×List Int×Int :=
 if p.2.1≠0 then([],[],p.2.1)else if p.1<0 then([],[],1)else if p.1>1048576 then([],[],5)else if p.1>(p.2.2.length:Int)then([],[],2)else(Qjt (p.2.2.take p.1.toNat),p.2.2.drop p.1.toNat,0)
def pt(l:List Int):Str×List Int×Int:=ptG (pn l)
theorem Jmj{N:Nat}(hN:2000≤N){l:List Int}(hB:isB l)(hl:l.length≤1000):Qdi N l=some ((pt l).1,(pt l).2.2,(pt l).2.1):=by
 unfold Qdi Qdh pt
 rw[Jmh hN hB hl,QJ]
 unfold pn pnG
 by_cases h:(sc 0 l).1=0
 ·obtain⟨_,_,h3,_,_,h6⟩:=Jdu 0 l (by omega) hB h
  rw[if_pos h,if_pos h]
  generalize (sc 0 l).2.1=u at *
  generalize (sc 0 l).2.2=r at *
  have eG:ptG (unz u,0,r)=(if unz u<0 then([],[],1)else if unz u>1048576 then([],[],5)else if unz u>(r.length:Int)then([],[],2)else(Qjt (r.take (unz u).toNat),r.drop (unz u).toNat,0)):=by
   unfold ptG; rw[if_neg (by simp)]
  rw[eG]
  simp only
  rw[if_neg (by decide)]
  by_cases h1:unz u<0
  ·rw[if_pos (by simpa using h1),if_pos h1]; rfl
  ·rw[if_neg (by simpa using h1),if_neg h1]
   by_cases h4:unz u>1048576
   ·rw[if_pos (by simpa using h4),if_pos h4]; rfl
   ·rw[if_neg (by simpa using h4),if_neg h4,QJ]
    simp only
    rw[if_neg (by decide),Ib (n:=(List.length l:Int) - _) (by omega) (by omega)]
    by_cases h5:unz u>(r.length:Int)
    ·rw[if_pos (by simp; omega),if_pos h5]
    ·rw[if_neg (by simp; omega),if_neg h5]
     obtain⟨n,hn⟩:∃n:Nat,unz u=n:=⟨(unz u).toNat,by omega⟩
     rw[hn]at h5 ⊢
     have e1:IntKind.wrap .i64 (((l.length - r.length:Nat):Int)+(n:Int))=((l.length - r.length+n:Nat):Int):=by rw[Ib (by omega) (by omega)]; omega
     rw[e1,(Jmi (N:=N) hl (k:=l.length - r.length+n) (by omega)).1]
     unfold slc
     rw[if_pos (by omega),QJ,QJ,JU,←h6]
     have e2:(((l.length - r.length+n:Nat):Int) - ((l.length - r.length:Nat):Int)).toNat=n:=by omega
     have e3:l.drop (l.length - r.length+n)=r.drop n:=by rw[←List.drop_drop,←h6]
     rw[e2,e3]
     simp
 ·rw[if_neg h,if_neg h]
  unfold ptG
  simp only
  rw[if_pos (by simpa using h),if_pos (by simpa using h),QJ]
  simp only
  rw[if_pos (by simpa using h)]
abbrev RdS:=List Int×Int
def rdN(s:RdS):Int×RdS:=if s.2≠0 then(0,s)else((pn s.1).1,(pn s.1).2.2,(pn s.1).2.1)
def rt7(s:RdS):Str×RdS:=if s.2≠0 then([],s)else pt s.1
def okS(s:RdS):Prop:=isB s.1∧s.1.length≤1000
theorem Qky{s:RdS}(h:okS s):okS (rdN s).2:=by
 unfold rdN
 split
 ·exact h
 ·obtain⟨h1,h2,_⟩:=Jtw h.1
  exact⟨h1,QY h2 h.2⟩
theorem Qri{l m:List Int}(h:isB l)(hs:∀x∈m,x∈l):isB m:=fun b hb=>h b (hs b hb)
theorem Jxj{l:List Int}(hB:isB l):isB (pt l).2.1∧(pt l).2.1.length≤l.length:=by
 obtain⟨h1,h2,_⟩:=Jtw hB
 have hn:isB ([]:List Int)∧([]:List Int).length≤l.length:=⟨fun b hb=>by simp at hb,by simp⟩
 unfold pt ptG
 split
 ·exact hn
 ·split
  ·exact hn
  ·split
   ·exact hn
   ·split
    ·exact hn
    ·exact⟨Qri h1 fun x hx=>KJ hx,by simp only[List.length_drop]; omega⟩
theorem Jve{s:RdS}(h:okS s):okS (rt7 s).2:=by
 unfold rt7
 split
 ·exact h
 ·obtain⟨h1,h2⟩:=Jxj h.1
  exact⟨h1,QY h2 h.2⟩
theorem Qhf{N:Nat}(hN:2000≤N){s:RdS}(h:okS s):Qt N s=some (rdN s):=by
 unfold Qt rdN
 by_cases h0:s.2≠0
 ·rw[if_pos h0,if_pos (by simpa using h0)]
 ·rw[if_neg h0,if_neg (by simpa using h0),Quu hN h.1 h.2]; rfl
theorem Jp6{N:Nat}(hN:2000≤N){s:RdS}(h:okS s):U7 N s=some (rt7 s):=by
 unfold U7 rt7
 by_cases h0:s.2≠0
 ·rw[if_pos h0,if_pos (by simpa using h0)]
 ·rw[if_neg h0,if_neg (by simpa using h0),Jmj hN h.1 h.2]; rfl
def rs1(l:List Int):=rdN (l,0)
def rs2(l:List Int):=rdN (rs1 l).2
def rs3(l:List Int):=rdN (rs2 l).2
def rs4(l:List Int):=rdN (rs3 l).2
def rs5(l:List Int):=rdN (rs4 l).2
def rs6(l:List Int):=rdN (rs5 l).2
def rs7(l:List Int):=rt7 (rs6 l).2
def rs8(l:List Int):=rdN (rs7 l).2
def rs9(l:List Int):=rdN (rs8 l).2
def Jp7(l:List Int):Qq×Int :=
 if(rs9 l).2.2≠0 then((0,0,0,0,0,0,[],0,0),(rs9 l).2.2)else if 0<(rs9 l).2.1.length then((0,0,0,0,0,0,[],0,0),3)else
  (((rs1 l).1,(rs2 l).1,(rs3 l).1,(rs4 l).1,(rs5 l).1,(rs6 l).1,(rs7 l).1,(rs8 l).1,(rs9 l).1),0)
theorem Jxk{l:List Int}(hB:isB l)(hl:l.length≤1000):okS (l,0)∧okS (rs1 l).2∧okS (rs2 l).2∧okS (rs3 l).2∧okS (rs4 l).2∧okS (rs5 l).2∧okS (rs6 l).2∧okS (rs7 l).2∧okS (rs8 l).2:=by
 have h0:okS (l,0):=⟨hB,hl⟩
 have h1:=Qky h0; have h2:=Qky (s:=(rs1 l).2) h1; have h3:=Qky (s:=(rs2 l).2) h2; have h4:=Qky (s:=(rs3 l).2) h3; have h5:=Qky (s:=(rs4 l).2) h4; have h6:=Qky (s:=(rs5 l).2) h5
 have h7:=Jve (s:=(rs6 l).2) h6; have h8:=Qky (s:=(rs7 l).2) h7
 exact⟨h0,h1,h2,h3,h4,h5,h6,h7,h8⟩
theorem Jmk{N:Nat}(hN:2000≤N){l:List Int}(hB:isB l)(hl:l.length≤1000):Cc N l=some (Jp7 l):=by
 obtain⟨h0,h1,h2,h3,h4,h5,h6,h7,h8⟩:=Jxk hB hl
 have e1:Qt N (l,0)=some ((rs1 l).1,(rs1 l).2.1,(rs1 l).2.2):=Qhf hN h0
 have e2:Qt N ((rs1 l).2.1,(rs1 l).2.2)=some ((rs2 l).1,(rs2 l).2.1,(rs2 l).2.2):=Qhf hN h1
 have e3:Qt N ((rs2 l).2.1,(rs2 l).2.2)=some ((rs3 l).1,(rs3 l).2.1,(rs3 l).2.2):=Qhf hN h2
 have e4:Qt N ((rs3 l).2.1,(rs3 l).2.2)=some ((rs4 l).1,(rs4 l).2.1,(rs4 l).2.2):=Qhf hN h3
 have e5:Qt N ((rs4 l).2.1,(rs4 l).2.2)=some ((rs5 l).1,(rs5 l).2.1,(rs5 l).2.2):=Qhf hN h4
 have e6:Qt N ((rs5 l).2.1,(rs5 l).2.2)=some ((rs6 l).1,(rs6 l).2.1,(rs6 l).2.2):=Qhf hN h5
 have e7:U7 N ((rs6 l).2.1,(rs6 l).2.2)=some ((rs7 l).1,(rs7 l).2):=Jp6 hN h6
 have e8:Qt N (rs7 l).2=some ((rs8 l).1,(rs8 l).2.1,(rs8 l).2.2):=Qhf hN h7
 have e9:Qt N ((rs8 l).2.1,(rs8 l).2.2)=some ((rs9 l).1,(rs9 l).2.1,(rs9 l).2.2):=Qhf hN h8
 unfold Cc
 rw[e1,QJ]
 simp only
 rw[e2,QJ]
 simp only
 rw[e3,QJ]
 simp only
 rw[e4,QJ]
 simp only
 rw[e5,QJ]
 simp only
 rw[e6,QJ]
 simp only
 rw[e7,QJ]
 simp only
 rw[e8,QJ]
 simp only
 rw[e9,QJ]
 unfold Jp7
 clear e9
 generalize rs9 l=p
 obtain⟨v,b,e⟩:=p
 simp only
 by_cases c1:e≠0
 ·rw[if_pos c1,if_pos (by simpa using c1)]
 ·rw[if_neg c1,if_neg (by simpa using c1)]
  by_cases c2:0<b.length
  ·rw[if_pos c2,if_pos (by simpa using c2)]
  ·rw[if_neg c2,if_neg (by simpa using c2)]
theorem Q53(s:Str):Qjt (Yv s)=s:=by
 unfold Yv Qjt
 rw[ZQ]
 refine(List.map_congr_left fun b hb=>?_).trans (List.map_id _)
 simp only[Function.comp,id,JU]
 exact UInt8.ofNat_toNat
theorem Qkz(s:Str):(Yv s).length=s.length:=by simp[Yv]
theorem Qp1{x:Int}(h:Rh x)(t:List Int):rdN (vz x++t,0)=(x,t,0):=by
 unfold rdN
 rw[if_neg (by simp)]
 simp only
 rw[Jdw h]
theorem Jp8{r:Qq}(h:Q02 r):Jp7 (Gh r)=(r,0):=by
 obtain⟨h1,h2,h3,h4,h5,h6,h7,h8,h9⟩:=h
 have hl:pt (vz (r.2.2.2.2.2.2.1.length:Int)++(Yv r.2.2.2.2.2.2.1++(vz r.2.2.2.2.2.2.2.1++(vz r.2.2.2.2.2.2.2.2++[]))))=(r.2.2.2.2.2.2.1,vz r.2.2.2.2.2.2.2.1++(vz r.2.2.2.2.2.2.2.2++[]),0):=by
  unfold pt ptG
  rw[Jdw (Qh4 (by omega))]
  simp only
  rw[if_neg (by simp),if_neg (by omega),if_neg (by omega),if_neg (by simp[Yv]; omega),JU,List.take_left' (Qkz _),List.drop_left' (Qkz _),Q53]
 have e:Gh r=vz r.1++(vz r.2.1++(vz r.2.2.1++(vz r.2.2.2.1++(vz r.2.2.2.2.1++(vz r.2.2.2.2.2.1++(vz (r.2.2.2.2.2.2.1.length:Int)++(Yv r.2.2.2.2.2.2.1++(vz r.2.2.2.2.2.2.2.1++(vz r.2.2.2.2.2.2.2.2++[]))))))))):=by
  rw[Q03]; simp only[List.append_assoc,QG]
 generalize ht9:vz r.2.2.2.2.2.2.2.2++([]:List Int)=t9 at *
 generalize ht8:vz r.2.2.2.2.2.2.2.1++t9=t8 at *
 generalize ht7:vz (r.2.2.2.2.2.2.1.length:Int)++(Yv r.2.2.2.2.2.2.1++t8)=t7 at *
 generalize ht6:vz r.2.2.2.2.2.1++t7=t6 at *
 generalize ht5:vz r.2.2.2.2.1++t6=t5 at *
 generalize ht4:vz r.2.2.2.1++t5=t4 at *
 generalize ht3:vz r.2.2.1++t4=t3 at *
 generalize ht2:vz r.2.1++t3=t2 at *
 have s1:rs1 (Gh r)=(r.1,t2,0):=by unfold rs1; rw[e]; exact Qp1 h1 _
 have s2:rs2 (Gh r)=(r.2.1,t3,0):=by unfold rs2; rw[s1,←ht2]; exact Qp1 h2 _
 have s3:rs3 (Gh r)=(r.2.2.1,t4,0):=by unfold rs3; rw[s2,←ht3]; exact Qp1 h3 _
 have s4:rs4 (Gh r)=(r.2.2.2.1,t5,0):=by unfold rs4; rw[s3,←ht4]; exact Qp1 h4 _
 have s5:rs5 (Gh r)=(r.2.2.2.2.1,t6,0):=by unfold rs5; rw[s4,←ht5]; exact Qp1 h5 _
 have s6:rs6 (Gh r)=(r.2.2.2.2.2.1,t7,0):=by unfold rs6; rw[s5,←ht6]; exact Qp1 h6 _
 have s7:rs7 (Gh r)=(r.2.2.2.2.2.2.1,t8,0):=by unfold rs7; rw[s6]; unfold rt7; rw[if_neg (by simp)]; exact hl
 have s8:rs8 (Gh r)=(r.2.2.2.2.2.2.2.1,t9,0):=by unfold rs8; rw[s7,←ht8]; exact Qp1 h7 _
 have s9:rs9 (Gh r)=(r.2.2.2.2.2.2.2.2,[],0):=by unfold rs9; rw[s8,←ht9]; exact Qp1 h8 _
 unfold Jp7
 rw[s1,s2,s3,s4,s5,s6,s7,s8,s9]
 simp
theorem Quv(r:Qq):isB (Gh r):=by
 have hs:isB (Yv r.2.2.2.2.2.2.1):=fun b hb=>by
  obtain⟨c,_,rfl⟩:=QK.1 hb
  have:=c.toNat_lt
  omega
 rw[Q03]
 exact Uh (Uh (Uh (Uh (Uh (Uh (Uh (Uh (Uh (Qwb _) (Qwb _)) (Qwb _)) (Qwb _)) (Qwb _)) (Qwb _)) (Qwb _)) hs) (Qwb _)) (Qwb _)
theorem Qhg{r:Qq}(h:r.2.2.2.2.2.2.1.length≤100):(Gh r).length≤200:=by
 have l1:=Vq r.1; have l2:=Vq r.2.1; have l3:=Vq r.2.2.1; have l4:=Vq r.2.2.2.1; have l5:=Vq r.2.2.2.2.1; have l6:=Vq r.2.2.2.2.2.1
 have l7:=Vq (r.2.2.2.2.2.2.1.length:Int); have l8:=Vq r.2.2.2.2.2.2.2.1; have l9:=Vq r.2.2.2.2.2.2.2.2
 rw[Q03]
 simp only[List.length_append,Qkz]
 omega
def Q04(n b:Int):Int:=IntKind.wrap .u32 ((Go.bits .xor .u32 n (IntKind.wrap .u32 b))*16777619)
def Qao(l:List Int):Int:=l.foldl Q04 2166136261
theorem Jp9(n:Int):IntKind.wrap .u32 n=n % 4294967296:=by simp[IntKind.wrap,IntKind.bits,IntKind.signed]
theorem Quw(n b:Int):0≤Q04 n b∧Q04 n b<4294967296:=by unfold Q04; rw[Jp9]; omega
theorem Qp2:∀(l:List Int) (n:Int),0≤n→n<4294967296→0≤l.foldl Q04 n∧l.foldl Q04 n<4294967296
 | [],n,h0,h1=>⟨h0,h1⟩
 | b::l,n,_,_=>Qp2 l (Q04 n b) (Quw n b).1 (Quw n b).2
theorem Qux(l:List Int):0≤Qao l∧Qao l<4294967296:=Qp2 l _ (by decide) (by decide)
def s4(n:Int):List Int:=[n / 16777216 % 256,n / 65536 % 256,n / 256 % 256,n % 256]
def frm(p:List Int):List Int:=vz (p.length:Int)++s4 (Qao p)++p
theorem Qmy(p:List Int):(frm p).length≤p.length+14∧p.length+4≤(frm p).length:=by
 have:=Vq (p.length:Int)
 simp only[frm,s4,List.length_append,List.length_cons,JX]; omega
theorem Jym(n:Int):isB (s4 n):=by
 intro b hb
 simp only[s4,QX,JE,or_false]at hb
 rcases hb with rfl | rfl | rfl | rfl<;>omega
theorem Jml{p:List Int}(h:isB p):isB (frm p):=Uh (Uh (Qwb _) (Jym _)) h
theorem Jxl{n:Int}(h0:0≤n)(h1:n<4294967296):Td .u32 n 24=some (n / 16777216)∧Td .u32 n 16=some (n / 65536)∧Td .u32 n 8=some (n / 256):=by
 have e24:(2:Int) ^ min (24:Int).toNat IntKind.u32.bits=16777216:=by decide
 have e16:(2:Int) ^ min (16:Int).toNat IntKind.u32.bits=65536:=by decide
 have e8:(2:Int) ^ min (8:Int).toNat IntKind.u32.bits=256:=by decide
 refine⟨?_,?_,?_⟩<;>simp only[Td]<;>rw[if_neg (by omega)]<;>congr 1
 ·rw[e24,JY _ (by omega)]
 ·rw[e16,JY _ (by omega)]
 ·rw[e8,JY _ (by omega)]
def cat(l:List (List Int)):List Int:=l.flatMap frm
theorem Q54(l:List (List Int))(p:List Int):cat (l++[p])=cat l++frm p:=by simp[cat]
theorem Qhh(p:List Int)(l:List (List Int)):cat (p::l)=frm p++cat l:=by simp[cat]
def Q55(q:List Int):Prop:=∃p,isB p∧p.length≤200∧q <+: frm p∧q.length<(frm p).length
theorem Quy:Q55 []:=⟨[],fun b hb=>by simp at hb,by simp,List.nil_prefix,by have:=(Qmy []).2; simp at this ⊢; omega⟩
theorem Jmm{q:List Int}(h:Q55 q):isB q:=by
 obtain⟨p,hp,_,hq,_⟩:=h
 exact Qri (Jml hp) fun x hx=>hq.subset hx
theorem Q56{q:List Int}(h:Q55 q):q.length≤214:=by
 obtain⟨p,_,hp,_,hq⟩:=h
 have:=(Qmy p).1
 omega
def Qwc(l:List (List Int)):Prop:=∀p∈l,isB p∧p.length≤200
theorem Qrj:∀{l:List (List Int)},Qwc l→(cat l).length≤214*l.length
 | [],_=>by simp[cat]
 | p::l,h=>by
  rw[Qhh,List.length_append,List.length_cons]
  have h1:=(Qmy p).1
  have h2:=(h p (.head _)).2
  have h3:=Qrj (l:=l) fun q hq=>h q (.tail _ hq)
  omega
theorem Jxm{l:List (List Int)}(h:Qwc l):isB (cat l):=by
 intro b hb
 simp only[cat,List.mem_flatMap]at hb
 obtain⟨p,hp,hb⟩:=hb
 exact Jml (h p hp).1 b hb
theorem Jxn{N:Nat}{x:List Int}(hl:x.length<N)(hm:x.length≤100000):Qbs N x=some (Qao x):=by
 unfold Qbs
 rw[Jgx x (QY hm (by decide)) (f:=Np N x) (fun s i=>(s,i)) (fun _ _=>True) (fun s l=>l.foldl Q04 s) ?_ ?_ hl trivial (s:=2166136261)]
 ·rfl
 ·intro s _ h
  simp only[Np]
  rw[h]; rfl
 ·intro s i b xs h1 h2 h3 h4 h5 _
  left
  refine⟨Q04 s b,?_,trivial,rfl⟩
  simp only[Np]
  rw[if_pos h2,h3,QJ,h4]
  rfl
theorem Jvf{N:Nat}(hN:1000≤N){p:List Int}(hp:isB p)(hl:p.length≤200):Ps N p=some (0,frm p):=by
 unfold Ps
 have hv:=Vq (p.length:Int)
 rw[if_neg (by simp; omega)]
 have e1:mkL 1 0 (IntKind.wrap .i64 ((List.length p:Int)+14)) (0:Int)=some []:=by
  unfold mkL
  rw[Ib (by omega) (by omega),if_pos (by omega)]
  rfl
 rw[e1,QJ]
 unfold T6
 obtain⟨r0,r1⟩:=Qux p
 obtain⟨s1,s2,s3⟩:=Jxl r0 r1
 rw[Jxn (by omega) (by omega),QJ,Ta hN (Qh4 (by omega)) (by simp),QJ,S9 (by simp; omega),QJ,s1,QJ,s2,QJ,s3,QJ,
  S9 (by simp; omega),QJ,S9 (by simp; omega),QJ,wu8,wu8,wu8,wu8]
 rfl
theorem Jmn{n:Int}:Qce .u32 n 24=some (n*16777216 % 4294967296)∧Qce .u32 n 16=some (n*65536 % 4294967296)∧Qce .u32 n 8=some (n*256 % 4294967296):=by
 have e24:(2:Int) ^ min (24:Int).toNat IntKind.u32.bits=16777216:=by decide
 have e16:(2:Int) ^ min (16:Int).toNat IntKind.u32.bits=65536:=by decide
 have e8:(2:Int) ^ min (8:Int).toNat IntKind.u32.bits=256:=by decide
 refine⟨?_,?_,?_⟩<;>simp only[Qce]<;>rw[if_neg (by omega),Jp9]
 ·rw[e24]
 ·rw[e16]
 ·rw[e8]
theorem Jdx:∀(i u:Nat) (q:List Int),i≤9→u<2 ^ (64 - 7*i)→(0<i→0<u)→q <+: vb (10 - i) u→q.length<(vb (10 - i) u).length→(sc i q).1=2
 | i,u,[],_,_,_,_,_=>rfl
 | i,u,b::q,hi,hu,h0,hq,hl=>by
  obtain⟨k,hk⟩:∃k,10 - i=k+1:=⟨9 - i,by omega⟩
  rw[hk]at hq hl
  simp only[vb]at hq hl
  by_cases c:u<128
  ·rw[if_pos c]at hl; simp at hl
  ·rw[if_neg c]at hq hl
   obtain⟨hb,hq'⟩:=List.cons_prefix_cons.1 hq
   have hu9:i=9→u<2:=fun e=>by subst e; simpa using hu
   have h8:i≤8:=by
    rcases Nat.lt_or_ge i 9 with q | q
    ·omega
    ·have:=hu9 (by omega); omega
   have hp:(2:Nat) ^ (64 - 7*i)=128*2 ^ (64 - 7*(i+1)):=by
    rw[show 64 - 7*i=7+(64 - 7*(i+1)) by omega,KQ]
   have ih:=Jdx (i+1) (u / 128) q (by omega) (by omega) (fun _=>by omega) (by rw[show 10 - (i+1)=k by omega]; exact hq') (by rw[show 10 - (i+1)=k by omega]; simpa using hl)
   rw[hb,Jdv (by omega) (by omega)]
   exact ih
theorem Jqa{x:Int}(h:Rh x){q:List Int}(hq:q <+: vz x)(hl:q.length<(vz x).length):pn q=(0,2,[]):=by
 have:=Jdx 0 (zig x) q (by omega) (Q01 h) (by omega) hq hl
 unfold pn pnG
 rw[if_neg (by omega),this]
def Qjk:Nat→Nat→List (List Int)→List (Int×Int)
 | _,_,[]=>[]
 | n,off,p::l=>(((n+1:Nat):Int),((off+(frm p).length:Nat):Int))::Qjk (n+1) (off+(frm p).length) l
def Quz(l:List (List Int)):List (Int×Int):=Qjk 0 0 l
theorem Qyf:∀(n off:Nat) (l:List (List Int)),(Qjk n off l).length=l.length
 | _,_,[]=>rfl
 | n,off,p::l=>by simp[Qjk,Qyf]
theorem Q57(l:List (List Int)):(Quz l).length=l.length:=Qyf 0 0 l
theorem Qu0:∀(n off:Nat) (l:List (List Int)) (k:Nat),n<k→k≤n+l.length→Qj (k:=.int .i64) (k:Int) (Qjk n off l)=some ((off+(cat (l.take (k - n))).length:Nat):Int)
 | n,off,[],k,h1,h2=>by simp at h2; omega
 | n,off,p::l,k,h1,h2=>by
  simp only[Qjk,Qj,eqK]
  by_cases h:k=n+1
  ·subst h
   have e:n+1 - n=1:=by omega
   have eb:(((n+1:Nat):Int)==((n+1:Nat):Int))=true:=by simp
   rw[eb,e]
   simp[cat]
  ·have hb:(((k:Nat):Int)==((n+1:Nat):Int))=false:=by simp; omega
   rw[hb]
   simp only[cond_false]
   rw[Qu0 (n+1) (off+(frm p).length) l k (by omega) (by simp at h2; omega)]
   have e:k - n=(k - (n+1))+1:=by omega
   rw[e,List.take_succ_cons,Qhh,List.length_append]
   congr 2; omega
theorem Qyg:∀(n off:Nat) (l:List (List Int)) (p:List Int),Jc (k:=.int .i64) (((n+l.length+1:Nat)):Int) ((off+(cat (l++[p])).length:Nat):Int) (Qjk n off l)=Qjk n off (l++[p])
 | n,off,[],p=>by simp[Qjk,Jc,cat]
 | n,off,q::l,p=>by
  simp only[Qjk,Jc,eqK,QF]
  have hb:(((n+(q::l).length+1:Nat):Int)==((n+1:Nat):Int))=false:=by simp; omega
  rw[hb]
  simp only[cond_false]
  have:=Qyg (n+1) (off+(frm q).length) l p
  rw[←this]
  congr 2
  ·simp; omega
  ·rw[Qhh,List.length_append]; omega
theorem Jah(l:List (List Int)):(Qj (k:=.int .i64) (List.length (Quz l):Int) (Quz l)).getD 0=((cat l).length:Int):=by
 rw[Q57]
 rcases Nat.eq_zero_or_pos l.length with h | h
 ·have:l=[]:=List.length_eq_zero_iff.1 h
  subst this; rfl
 ·unfold Quz
  rw[Qu0 0 0 l l.length h (by omega)]
  simp
structure Jqb(n:Nat)(l:List (List Int))(q:List Int)(safe:Int):Prop where
 pl:Qwc l
 tq:Q55 q
 s0:0≤safe
 s1:safe≤((cat l++q).length:Int)
 ln:l.length≤n
theorem Jqc(a b:Int):(if a<b then a else b)=min a b:=by
 by_cases h:a<b
 ·rw[if_pos h]; omega
 ·rw[if_neg h]; omega
theorem Jvg{N:Nat}{l:List (List Int)}{q:List Int}{safe:Int}:Zq N safe (cat l++q) (Quz l)=some (min ((cat l).length:Int) safe,Quz l,cat l):=by
 unfold Zq
 rw[Jah]
 have e:slc (cat l++q) 0 ((cat l).length:Int)=some (cat l):=by
  unfold slc
  rw[if_pos (by simp; omega)]
  simp
 rw[e,QJ,Jqc]
theorem Jmo(N:Nat)(s:Int)(b:List Int)(m:List (Int×Int)):Ug N s b m=some true:=rfl
theorem Jxo{N:Nat}(hN:20000≤N){r:Qq}(hR:Q02 r)(hr:r.2.2.2.2.2.2.1.length≤100){l:List (List Int)}{q:List Int}{safe:Int}{n:Nat}(h:Jqb n l q safe)(hn:n≤30) :
  Yw N r safe (cat l++q) (Quz l)=some (0,min ((cat l).length:Int) safe,Quz (l++[Gh r]),cat (l++[Gh r])):=by
 have hel:=Qhg hr
 have hc:=Qrj h.pl
 have hln:=h.ln
 have hf:=Qmy (Gh r)
 unfold Yw
 rw[Jmo,QJ]
 rw[if_neg (by simp),Jmf (by omega) hR,QJ,Jvf (by omega) (Quv r) hel,QJ]
 simp only
 rw[if_neg (by simp),Jvg,QJ]
 simp only
 rw[S9 (by omega),QJ,Q57,Ib (by omega) (by omega),←Q54]
 have:=Qyg 0 0 l (Gh r)
 simp only[QW]at this
 unfold Quz
 rw[←this]
 rfl
theorem Jgz{l:List (List Int)}{r:Qq}(hl:Qwc l)(hr:r.2.2.2.2.2.2.1.length≤100):Qwc (l++[Gh r]):=by
 intro p hp
 rcases QZ.1 hp with hp | hp
 ·exact hl p hp
 ·have:p=Gh r:=by simpa using hp
  subst this
  exact⟨Quv r,Qhg hr⟩
theorem Jqd{r:Qq}(hr:r.2.2.2.2.2.2.1.length≤100){l:List (List Int)}{q:List Int}{safe:Int}{n:Nat}(h:Jqb n l q safe):Jqb (n+1) (l++[Gh r]) [] (min ((cat l).length:Int) safe):=by
 have hs:=h.s0
 exact⟨Jgz h.pl hr,Quy,by omega,by rw[Q54]; simp; omega,by have:=h.ln; simp; omega⟩
theorem Jdy{N:Nat}{s:Int}{b:List Int}{m:List (Int×Int)}(h:b.length≤100000):Y9 N s b m=some (b,b):=by
 unfold Y9
 rw[Jmo,QJ]
 rw[if_neg (by simp)]
 unfold Qj8
 rw[S9 (by simp; omega)]
 rfl
theorem Jvh(i a b:Nat)(hb:b<2 ^ i)(h:2 ^ i*a+b<2 ^ 32):Go.bits .or .u32 ((2 ^ i*a:Nat):Int) (b:Int)=((2 ^ i*a+b:Nat):Int):=by
 have ex:(BitVec.ofInt 32 ((2 ^ i*a:Nat):Int)).toNat=2 ^ i*a:=by rw[BitVec.toNat_ofInt]; omega
 have ey:(BitVec.ofInt 32 (b:Int)).toNat=b:=by rw[BitVec.toNat_ofInt]; omega
 show IntKind.u32.wrap ((BitVec.ofInt 32 ((2 ^ i*a:Nat):Int) ||| BitVec.ofInt 32 (b:Int)).toNat:Nat)=_
 rw[BitVec.toNat_or,ex,ey,←XW hb,Jp9]; omega
theorem or4{n:Int}(h0:0≤n)(h1:n<4294967296):Go.bits .or .u32 (Go.bits .or .u32 (Go.bits .or .u32 (IntKind.wrap .u32 (n / 16777216 % 256)*16777216 % 4294967296) (IntKind.wrap .u32 (n / 65536 % 256)*65536 % 4294967296)) (IntKind.wrap .u32 (n / 256 % 256)*256 % 4294967296)) (IntKind.wrap .u32 (n % 256))=n:=by
 obtain⟨k,rfl⟩:∃k:Nat,n=k:=⟨n.toNat,by omega⟩
 simp only[Jp9]
 have e1:(k:Int) / 16777216 % 256 % 4294967296*16777216 % 4294967296=((2 ^ 24*(k / 16777216):Nat):Int):=by omega
 have e2:(k:Int) / 65536 % 256 % 4294967296*65536 % 4294967296=((k / 65536 % 256*65536:Nat):Int):=by omega
 have e3:(k:Int) / 256 % 256 % 4294967296*256 % 4294967296=((k / 256 % 256*256:Nat):Int):=by omega
 have e4:(k:Int) % 256 % 4294967296=((k % 256:Nat):Int):=by omega
 rw[e1,e2,e3,e4,Jvh 24 _ _ (by omega) (by omega)]
 have f1:2 ^ 24*(k / 16777216)+k / 65536 % 256*65536=2 ^ 16*(k / 65536):=by omega
 rw[f1,Jvh 16 _ _ (by omega) (by omega)]
 have f2:2 ^ 16*(k / 65536)+k / 256 % 256*256=2 ^ 8*(k / 256):=by omega
 rw[f2,Jvh 8 _ _ (by omega) (by omega)]
 omega
theorem Jmp{x0:List Int}:slc x0 0 (if 10<(List.length x0:Int)then 10 else(List.length x0:Int))=some (x0.take 10):=by
 unfold slc
 split
 ·rw[if_pos (by omega)]; rfl
 ·rw[if_pos (by omega)]
  simp only[Int.toNat_zero,List.drop_zero,Int.sub_zero,JU,List.take_length]
  rw[List.take_of_length_le (by omega)]
theorem Jtx{x0:List Int}:chk (decide ((if 10<(List.length x0:Int)then 10 else(List.length x0:Int))≤(if 10<(List.length x0:Int)then 10 else(List.length x0:Int)))&&decide ((if 10<(List.length x0:Int)then 10 else(List.length x0:Int))≤(List.length x0:Int)))=some ():=by
 have:(decide ((if 10<(List.length x0:Int)then 10 else(List.length x0:Int))≤(if 10<(List.length x0:Int)then 10 else(List.length x0:Int)))&&decide ((if 10<(List.length x0:Int)then 10 else(List.length x0:Int))≤(List.length x0:Int)))=true:=by
  simp only[QQ,decide_eq_true_eq]
  exact⟨JC _,by split<;>omega⟩
 rw[this]; rfl
theorem Jdz{x:Int}(r:List Int):(vz x++r).take 10=vz x++r.take (10 - (vz x).length):=by
 rw[XG,List.take_of_length_le (Vq x)]
theorem Jai{N:Nat}(hN:20000≤N){p t:List Int}(hp:isB p)(ht:isB t)(hl:p.length≤200)(hlt:(frm p++t).length≤10000) :
  Ef N (frm p++t)=some ((((vz (p.length:Int)).length+4:Nat):Int),((frm p).length:Int),0):=by
 have hB:isB (frm p++t):=Uh (Jml hp) ht
 have hv:=Vq (p.length:Int)
 have hx:frm p++t=vz (p.length:Int)++(s4 (Qao p)++p++t):=by unfold frm; simp
 have hfl:(frm p).length=(vz (p.length:Int)).length+4+p.length:=by simp[frm,s4]; omega
 have htk:(frm p++t).take 10=vz (p.length:Int)++(s4 (Qao p)++p++t).take (10 - (vz (p.length:Int)).length):=by rw[hx]; exact Jdz _
 have hpn:pn ((frm p++t).take 10)=((p.length:Int),0,(s4 (Qao p)++p++t).take (10 - (vz (p.length:Int)).length)):=by rw[htk]; exact Jdw (Qh4 (by omega)) _
 have hk:(List.length ((frm p++t).take 10):Int) - (List.length ((s4 (Qao p)++p++t).take (10 - (vz (p.length:Int)).length)):Int)=((vz (p.length:Int)).length:Int):=by
  rw[htk,List.length_append]; omega
 generalize hV:(vz (p.length:Int)).length=v at *
 have hlen:(frm p++t).length=v+4+p.length+t.length:=by rw[List.length_append,hfl]
 unfold Ef
 rw[Jtx,QJ,Jmp,QJ,Quu (by omega) (Qri hB fun x hx=>XU hx) (by rw[List.length_take]; omega),QJ,hpn]
 dsimp only
 rw[if_neg (by simp),if_neg (by simp),if_neg (by simp; omega),hk,Ib (n:=(v:Int)) (by omega) (by omega),hlen,Ib (n:=4+(p.length:Int)) (by omega) (by omega),Ib (n:=((v+4+p.length+t.length:Nat):Int) - (v:Int)) (by omega) (by omega)]
 rw[if_neg (by simp; omega),Ib (n:=(v:Int)+1) (by omega) (by omega),Ib (n:=(v:Int)+2) (by omega) (by omega),Ib (n:=(v:Int)+3) (by omega) (by omega),Ib (n:=(v:Int)+4) (by omega) (by omega),Ib (n:=(v:Int)+4+(p.length:Int)) (by omega) (by omega)]
 have ix:∀(j:Nat),j<4→idx (frm p++t) ((v:Int)+(j:Int))=(s4 (Qao p))[j]?:=by
  intro j hj
  have h4:(s4 (Qao p)).length=4:=rfl
  unfold idx
  rw[if_pos (by omega)]
  have:((v:Int)+(j:Int)).toNat=v+j:=by omega
  rw[this,hx,JK (by omega),hV,JI,List.append_assoc,JJ (by omega)]
 have i0:idx (frm p++t) (v:Int)=some (Qao p / 16777216 % 256):=(by simpa using ix 0 (by omega):idx (frm p++t) (v:Int)=(s4 (Qao p))[0]?)
 have i1:idx (frm p++t) ((v:Int)+1)=some (Qao p / 65536 % 256):=ix 1 (by omega)
 have i2:idx (frm p++t) ((v:Int)+2)=some (Qao p / 256 % 256):=ix 2 (by omega)
 have i3:idx (frm p++t) ((v:Int)+3)=some (Qao p % 256):=ix 3 (by omega)
 rw[i0,QJ,Jmn.1,QJ,i1,QJ,Jmn.2.1,QJ,i2,QJ,Jmn.2.2,QJ,i3,QJ]
 have hs:slc (frm p++t) ((v:Int)+4) ((v:Int)+4+(p.length:Int))=some p:=by
  unfold slc
  rw[if_pos (by omega)]
  have e1:((v:Int)+4).toNat=(vz (p.length:Int)++s4 (Qao p)).length:=by simp[s4]; omega
  have e2:((v:Int)+4+(p.length:Int) - ((v:Int)+4)).toNat=p.length:=by omega
  rw[e1,e2,show frm p++t=(vz (p.length:Int)++s4 (Qao p))++(p++t) by unfold frm; simp,List.drop_left,List.take_left]
 obtain⟨r0,r1⟩:=Qux p
 rw[hs,QJ,Jxn (by omega) (by omega),QJ,or4 r0 r1,if_neg (by simp),hfl]
 simp
theorem Q58{N:Nat}(hN:20000≤N){q:List Int}(h:Q55 q):∃a b e,Ef N q=some (a,b,e)∧e≠0:=by
 have hB:=Jmm h
 have hlen:=Q56 h
 obtain⟨p,hp,hl,hq,hlt⟩:=h
 have hv:=Vq (p.length:Int)
 unfold Ef
 rw[Jtx,QJ,Jmp,QJ,Quu (by omega) (Qri hB fun x hx=>XU hx) (by rw[List.length_take]; omega),QJ]
 have hf:frm p=vz (p.length:Int)++(s4 (Qao p)++p):=by unfold frm; simp
 rw[hf]at hq hlt
 rcases Nat.lt_or_ge q.length (vz (p.length:Int)).length with hc | hc
 ·have hq2:q <+: vz (p.length:Int):=XI hq (ZZ _ _) (by omega)
  rw[List.take_of_length_le (by omega),Jqa (Qh4 (by omega)) hq2 hc]
  exact⟨0,0,2,by simp,by decide⟩
 ·obtain⟨r,hr⟩:∃r,q=vz (p.length:Int)++r:=by
   obtain⟨r,hr⟩:=XI (ZZ _ _) hq hc
   exact⟨r,hr.symm⟩
  subst hr
  have hr:r.length<4+p.length:=by
   simp only[List.length_append,s4,List.length_cons,JX]at hlt; omega
  have hk:(List.length (vz (p.length:Int)++r.take (10 - (vz (p.length:Int)).length)):Int) - (List.length (r.take (10 - (vz (p.length:Int)).length)):Int)=((vz (p.length:Int)).length:Int):=by
   rw[List.length_append]; omega
  rw[Jdz,Jdw (Qh4 (by omega))]
  dsimp only
  rw[if_neg (by simp),if_neg (by simp),if_neg (by simp; omega),hk,Ib (n:=((vz (p.length:Int)).length:Int)) (by omega) (by omega),List.length_append,Ib (n:=4+(p.length:Int)) (by omega) (by omega),Ib (by omega) (by omega)]
  rw[if_pos (by simp; omega)]
  exact⟨0,0,2,rfl,by decide⟩
theorem Jmq{N:Nat}{x0 a p t:List Int}(h:x0=a++(p++t))(hl:x0.length≤100000):Nq N x0 (a.length:Int) ((a.length+p.length:Nat):Int)=some p:=by
 have hlen:x0.length=a.length+p.length+t.length:=by rw[h]; simp; omega
 unfold Nq
 have e0:IntKind.wrap .i64 (((a.length+p.length:Nat):Int) - (a.length:Int))=(p.length:Int):=by rw[Ib (by omega) (by omega)]; omega
 have e1:mkL 1 (p.length:Int) (p.length:Int) (0:Int)=some (List.replicate p.length 0):=by
  unfold mkL
  rw[if_pos (by omega)]
  simp
 have e2:slc x0 (a.length:Int) ((a.length+p.length:Nat):Int)=some p:=by
  unfold slc
  rw[if_pos (by omega)]
  have:(((a.length+p.length:Nat):Int) - (a.length:Int)).toNat=p.length:=by omega
  rw[this,JU,h,List.drop_left,List.take_left]
 have e3:chk (decide (((a.length+p.length:Nat):Int)≤((a.length+p.length:Nat):Int))&&decide (((a.length+p.length:Nat):Int)≤(List.length x0:Int)))=some ():=by
  have:(decide (((a.length+p.length:Nat):Int)≤((a.length+p.length:Nat):Int))&&decide (((a.length+p.length:Nat):Int)≤(List.length x0:Int)))=true:=by
   simp only[QQ,decide_eq_true_eq]
   exact⟨JC _,by omega⟩
  rw[this]; rfl
 have e4:Ga (List.replicate p.length (0:Int)) p=p:=by
  unfold Ga
  have:Nat.min p.length (List.replicate p.length (0:Int)).length=p.length:=by simp
  rw[this,List.take_of_length_le (QU _)]; simp
 rw[e0,e1,QJ,e3,QJ,e2,QJ,e4]
theorem Jd0{N:Nat}(hN:20000≤N){x0:List Int}(hx:x0.length≤10000):∀(l:List (List Int)) (q a:List Int) (acc:List (List Int)) (f:Nat),Qwc l→Q55 q→x0=a++(cat l++q)→acc.length+l.length≤1000→l.length<f →
  Qh (Cb N x0) f ((a.length:Int),acc)=some ((((a++cat l).length:Nat):Int),acc++l)
 | [],q,a,acc,f,hl,hq,h,ha,hf=>by
  obtain⟨f,rfl⟩:∃g,f=g+1:=⟨f - 1,by simp at hf; omega⟩
  have h':x0=a++q:=by rw[h]; simp[cat]
  have hs:slc x0 (a.length:Int) (List.length x0:Int)=some q:=by
   unfold slc
   rw[if_pos (by rw[h']; simp only[List.length_append]; omega),JU,h',List.drop_left,List.take_of_length_le (by simp only[List.length_append]; omega)]
  simp only[Qh,Cb]
  by_cases h0:(a.length:Int)<(List.length x0:Int)
  ·rw[if_pos (by simpa using h0),hs,QJ]
   obtain⟨c,d,e,h1,h2⟩:=Q58 hN hq
   rw[h1,QJ]
   dsimp only
   rw[if_pos (by simpa using h2)]
   simp[cat]
  ·rw[if_neg (by simpa using h0)]
   simp[cat]
 | p::l,q,a,acc,f,hl,hq,h,ha,hf=>by
  obtain⟨f,rfl⟩:∃g,f=g+1:=⟨f - 1,by simp at hf; omega⟩
  have hp:=hl p (.head _)
  have hl':Qwc l:=fun x hx=>hl x (.tail _ hx)
  have h':x0=a++(frm p++(cat l++q)):=by rw[h,Qhh,List.append_assoc]
  have hlen:x0.length=a.length+(frm p).length+(cat l++q).length:=by rw[h']; simp only[List.length_append]; omega
  have hs:slc x0 (a.length:Int) (List.length x0:Int)=some (frm p++(cat l++q)):=by
   unfold slc
   rw[if_pos (by omega),JU,h',List.drop_left,List.take_of_length_le (by simp only[List.length_append]; omega)]
  have hpos:=(Qmy p).2
  have hv:=Vq (p.length:Int)
  have hfl:(frm p).length=(vz (p.length:Int)).length+4+p.length:=by simp[frm,s4]; omega
  simp only[Qh,Cb]
  rw[if_pos (by simp; omega),hs,QJ,Jai hN hp.1 (Uh (Jxm hl') (Jmm hq)) hp.2 (by rw[List.length_append]; omega),QJ]
  dsimp only
  rw[if_neg (by simp),Ib (n:=(a.length:Int)+(((vz (p.length:Int)).length+4:Nat):Int)) (by omega) (by omega),Ib (n:=(a.length:Int)+((frm p).length:Int)) (by omega) (by omega)]
  have e1:(a.length:Int)+(((vz (p.length:Int)).length+4:Nat):Int)=((a++(vz (p.length:Int)++s4 (Qao p))).length:Int):=by simp[s4]
  have e2:(a.length:Int)+((frm p).length:Int)=(((a++(vz (p.length:Int)++s4 (Qao p))).length+p.length:Nat):Int):=by rw[hfl]; simp[s4]; omega
  have e3:(((a++(vz (p.length:Int)++s4 (Qao p))).length+p.length:Nat):Int)=((a++frm p).length:Int):=by simp[frm,s4]; omega
  rw[e1,e2,Jmq (t:=cat l++q) (by rw[h']; unfold frm; simp) (by omega),QJ]
  have e4:app 24 acc ([p]:List (List Int))=some (acc++[p]):=by
   unfold app
   simp only[List.length_cons]at ha
   rw[if_pos (by simp; omega)]
  rw[e4,QJ,QJ]
  dsimp only
  rw[e3]
  have:=Jd0 hN hx l q (a++frm p) (acc++[p]) f hl' hq (by rw[h']; simp) (by simp at ha ⊢; omega) (by simp at hf; omega)
  rw[this]
  simp[Qhh]
theorem Jxp{N:Nat}(hN:20000≤N){l:List (List Int)}{q:List Int}(hl:Qwc l)(hq:Q55 q)(hn:l.length≤40):Qh3 N (cat l++q)=some (((cat l).length:Int),l):=by
 have h1:=Qrj hl
 have h2:=Q56 hq
 unfold Qh3
 have:=Jd0 hN (x0:=cat l++q) (by simp only[List.length_append]; omega) l q [] [] N hl hq rfl (by simp; omega) (by omega)
 rw[show Qh (Cb N (cat l++q)) N (0,([]:List (List Int)))=_ from this,QJ]
 simp
theorem Jmr(a b:Nat):((max a b:Nat):Int)=max (a:Int) (b:Int):=by omega
def W{α:Type}(o:Option α)(R:α→Prop):Prop:=∃r,o=some r∧R r
class WP{α:Type}(o:Option α)(T:outParam ((α→Prop)→Prop)):Prop where
 spec:∀R,T R→W o R
class WPf{α β:Type}(f:α→Option β)(T:outParam (α→(β→Prop)→Prop)):Prop where
 spec:∀a R,T a R→W (f a) R
theorem wp{α:Type}{o:Option α}{T:(α→Prop)→Prop}[h:WP o T]{R:α→Prop}(k:T R):W o R:=h.spec R k
theorem W.mono{α:Type}{o:Option α}{R S:α→Prop}(h:W o R)(k:∀r,R r→S r):W o S:=let⟨r,e,hr⟩:=h; ⟨r,e,k r hr⟩
theorem Qhi{α:Type}{o:Option α}{P:Prop}{Q:α→Prop}(h:P→W o Q):WP o (fun R=>P∧∀r,Q r→R r):=⟨fun R k=>(h k.1).mono k.2⟩
instance wpSome {α:Type} (a:α):WP (some a) (fun R=>R a):=⟨fun R h=>⟨a,rfl,h⟩⟩
instance wpNone {α:Type}:WP (none:Option α) (fun _=>False):=⟨fun _ h=>h.elim⟩
instance wpIte {α:Type} {c:Prop} [Decidable c] {a b:Option α} {A B:(α→Prop)→Prop} [ha:WP a A] [hb:WP b B]:WP (if c then a else b) (fun R=>(c→A R)∧(¬ c→B R)):=⟨fun R h=>by
 split
 ·rename_i hc; exact ha.spec R (h.1 hc)
 ·rename_i hc; exact hb.spec R (h.2 hc)⟩
instance wpBind {α β:Type} {o:Option α} {f:α→Option β} {A:(α→Prop)→Prop} {B:α→(β→Prop)→Prop} [ha:WP o A] [hb:WPf f B]:WP (o.bind f) (fun R=>A fun r=>B r R):=⟨fun R h=>by
 obtain⟨r,e,hr⟩:=ha.spec _ h
 rw[e]; exact hb.spec r R hr⟩
instance (priority:=1100) wpAnd {β:Type} {c:Prop} [Decidable c] {a:Option Bool} {f:Bool→Option β} {A:(Bool→Prop)→Prop} {B C:(β→Prop)→Prop} [ha:WP a A] [hb:WP (f true) B] [hc:WP (f false) C] :
  WP ((if c then a else some false).bind f) (fun R=>(c→A fun b=>b=true→B R)∧(c→A fun _=>True)∧C R):=⟨fun R h=>by
 by_cases h0:c
 ·rw[if_pos h0]
  obtain⟨r,e,hr⟩:=ha.spec _ (h.1 h0)
  rw[e]
  cases r with
  | true=>exact hb.spec R (hr rfl)
  | false=>exact hc.spec R h.2.2
 ·rw[if_neg h0]; exact hc.spec R h.2.2⟩
instance (priority:=1100) wpOr {β:Type} {c:Prop} [Decidable c] {a:Option Bool} {f:Bool→Option β} {A:(Bool→Prop)→Prop} {B C:(β→Prop)→Prop} [ha:WP a A] [hb:WP (f true) B] [hc:WP (f false) C] :
  WP ((if c then some true else a).bind f) (fun R=>(¬ c→A fun b=>b=false→C R)∧(¬ c→A fun _=>True)∧B R):=⟨fun R h=>by
 by_cases h0:c
 ·rw[if_pos h0]; exact hb.spec R h.2.2
 ·rw[if_neg h0]
  obtain⟨r,e,hr⟩:=ha.spec _ (h.1 h0)
  rw[e]
  cases r with
  | true=>exact hb.spec R h.2.2
  | false=>exact hc.spec R (hr rfl)⟩
instance (priority:=1200) wpBindT {α β:Type} {a b:Option α} {f:α→Option β} {A:(β→Prop)→Prop} [ha:WP (a.bind f) A]:WP ((if true=true then a else b).bind f) A:=⟨fun R h=>by rw [if_pos rfl]; exact ha.spec R h⟩
instance (priority:=1200) wpBindF {α β:Type} {a b:Option α} {f:α→Option β} {A:(β→Prop)→Prop} [ha:WP (b.bind f) A]:WP ((if false=true then a else b).bind f) A:=⟨fun R h=>by rw [if_neg (by decide)]; exact ha.spec R h⟩
instance (priority:=1200) wpIteT {α:Type} {a b:Option α} {A:(α→Prop)→Prop} [ha:WP a A]:WP (if true=true then a else b) A:=⟨fun R h=>by rw [if_pos rfl]; exact ha.spec R h⟩
instance (priority:=1200) wpIteF {α:Type} {a b:Option α} {A:(α→Prop)→Prop} [ha:WP b A]:WP (if false=true then a else b) A:=⟨fun R h=>by rw [if_neg (by decide)]; exact ha.spec R h⟩
instance (priority:=1000) wpfVar {α β:Type} {f:α→Option β} {T:α→(β→Prop)→Prop} [h:∀a,WP (f a) (T a)]:WPf f T:=⟨fun a R k=>(h a).spec R k⟩
instance (priority:=900) wpfSum {α β γ:Type} {f:α⊕β→Option γ} {A:α→(γ→Prop)→Prop} {B:β→(γ→Prop)→Prop} [ha:WPf (fun a=>f (.inl a)) A] [hb:WPf (fun b=>f (.inr b)) B] :
  WPf f (fun s R=>(∀a,s=.inl a→A a R)∧(∀b,s=.inr b→B b R)):=⟨fun s R k=>by
 cases s with
 | inl a=>exact ha.spec a R (k.1 a rfl)
 | inr b=>exact hb.spec b R (k.2 b rfl)⟩
instance (priority:=850) wpfPairSum {α β γ δ:Type} {f:(α⊕β)×γ→Option δ} {A:α→γ→(δ→Prop)→Prop} {B:β→γ→(δ→Prop)→Prop} [ha:∀a,WPf (fun c=>f (.inl a,c)) (A a)] [hb:∀b,WPf (fun c=>f (.inr b,c)) (B b)] :
  WPf f (fun p R=>(∀a,p.1=.inl a→A a p.2 R)∧(∀b,p.1=.inr b→B b p.2 R)):=⟨fun p R k=>by
 obtain⟨s,c⟩:=p
 cases s with
 | inl a=>exact(ha a).spec c R (k.1 a rfl)
 | inr b=>exact(hb b).spec c R (k.2 b rfl)⟩
instance (priority:=800) wpfPair {α β γ:Type} {f:α×β→Option γ} {A:α→β→(γ→Prop)→Prop} [h:∀a,WPf (fun b=>f (a,b)) (A a)]:WPf f (fun p R=>A p.1 p.2 R):=⟨fun p R k=>(h p.1).spec p.2 R k⟩
class Sz(α:Type) where
 sz:α→Nat
open Sz
instance:Sz Int:=⟨fun _=>0⟩
instance:Sz Bool:=⟨fun _=>0⟩
instance:Sz Unit:=⟨fun _=>0⟩
instance {α β:Type} [Sz α] [Sz β]:Sz (α×β):=⟨fun p=>max (sz p.1) (sz p.2)⟩
instance {α β:Type} [Sz α] [Sz β]:Sz (α⊕β):=⟨fun p=>match p with | .inl a=>sz a | .inr b=>sz b⟩
def szL{α:Type}[Sz α]:List α→Nat
 | []=>0
 | x::l=>max (sz x) (szL l)
instance {α:Type} [Sz α]:Sz (List α):=⟨fun l=>max l.length (szL l)⟩
instance (priority:=2000) szStr:Sz (List UInt8):=⟨fun _=>0⟩
mutual
def rsz{α:Type}:K9 α→Nat
 | .mk _ ks=>max ks.length (Jg0 ks)
def Jg0{α:Type}:List (K9 α)→Nat
 | []=>0
 | x::l=>max (rsz x) (Jg0 l)
end
instance {α:Type}:Sz (K9 α):=⟨rsz⟩
theorem Jms(x:Int):sz x=0:=rfl
section
variable {α β:Type} [Sz α] [Sz β]
theorem Qrk(p:α×β):sz p=max (sz p.1) (sz p.2):=rfl
theorem Ui{l:List α}:l.length≤sz l:=Nat.le_max_left _ _
theorem Jvi{l:List α}:szL l≤sz l:=Nat.le_max_right _ _
theorem Jd1:∀{l:List α} {x:α},x∈l→sz x≤szL l
 | y::l,x,h=>by
  rcases QX.1 h with rfl | h
  ·exact Nat.le_max_left _ _
  ·exact QY (Jd1 h) (Nat.le_max_right _ _)
theorem Jmt{l:List α}{x:α}(h:x∈l):sz x≤sz l:=QY (Jd1 h) Jvi
theorem Q05{K:Nat}:∀{l:List α},(∀x∈l,sz x≤K)→szL l≤K
 | [],_=>QO _
 | x::l,h=>ZK.2 ⟨h x (.head _),Q05 fun y hy=>h y (.tail _ hy)⟩
theorem Q59{K:Nat}{l:List α}(hl:l.length≤K)(h:∀x∈l,sz x≤K):sz l≤K:=ZK.2 ⟨hl,Q05 h⟩
theorem Jmu{l m:List α}(hl:l.length≤m.length)(h:∀x∈l,x∈m):sz l≤sz m:=Q59 (QY hl Ui) fun x hx=>Jmt (h x hx)
theorem Jvj:sz ([]:List α)=0:=rfl
theorem Qu1:∀l m:List α,szL (l++m)=max (szL l) (szL m)
 | [],m=>by simp[szL]
 | x::l,m=>by simp only[QF,szL,Qu1 l m]; omega
theorem Jg1(l m:List α):sz (l++m)=max (l.length+m.length) (max (sz l) (sz m)):=by
 show max (l++m).length (szL (l++m))=max _ (max (max l.length (szL l)) (max m.length (szL m)))
 rw[List.length_append,Qu1]; omega
theorem Qdv(x:α)(l:List α):sz (x::l)=max (l.length+1) (max (sz x) (sz l)):=by
 show max (l.length+1) (max (sz x) (szL l))=max _ (max _ (max l.length (szL l)))
 omega
theorem Jd2:∀(l:List α) (i:Nat) (x:α),szL (l.set i x)≤max (szL l) (sz x)
 | [],i,x=>QO _
 | y::l,0,x=>by simp only[List.set_cons_zero,szL]; omega
 | y::l,i+1,x=>by
  have:=Jd2 l i x
  simp only[List.set_cons_succ,szL]; omega
theorem Qdw(l:List α)(i:Nat)(x:α):sz (l.set i x)≤max (sz l) (sz x):=by
 have h1:=Jd2 l i x
 show max (l.set i x).length (szL (l.set i x))≤max (max l.length (szL l)) (sz x)
 rw[List.length_set]; omega
theorem Jmv{α:Type}{e:K9 α}:sz e.ks≤sz e:=by
 have:∀l:List (K9 α),szL l=Jg0 l:=fun l=>by
  induction l with
  | nil=>rfl
  | cons x l ih=>simp only[szL,Jg0,ih]; rfl
 cases e with
 | mk x ks =>
  show max ks.length (szL ks)≤rsz (.mk x ks)
  rw[this]; simp only[rsz]; exact QU _
end
class Qhj(α:Type)[Sz α]:Prop where
 flat:∀x:α,sz x=0
instance:Qhj Int:=⟨fun _=>rfl⟩
instance:Qhj Bool:=⟨fun _=>rfl⟩
instance (priority:=2000):Qhj (List UInt8):=⟨fun _=>rfl⟩
instance {α β:Type} [Sz α] [Sz β] [ha:Qhj α] [hb:Qhj β]:Qhj (α×β):=⟨fun x=>by rw [Qrk,ha.flat,hb.flat]; rfl⟩
theorem Qmz{α:Type}[Sz α][h:Qhj α](l:List α):sz l=l.length:=by
 have:szL l≤0:=Q05 fun x _=>Nat.le_of_eq (h.flat x)
 show max l.length (szL l)=l.length
 omega
structure Qjl{α:Type}(P:α→Prop)(l:List α)(v:Int):Prop where
 at_:∀j:Nat,(j:Int)<v→∀a,l[j]?=some a→P a
theorem Xk{α:Type}{P:α→Prop}{l:List α}:Qjl P l 0:=⟨fun j h=>by omega⟩
theorem Qk0{α:Type}{P:α→Prop}{l:List α}{v:Int}{x:α}(h0:0≤v)(h:Qjl P l v)(hx:l[v.toNat]?=some x)(px:P x):Qjl P l (v+1):=⟨fun j hj a ha=>by
 by_cases hjv:(j:Int)<v
 ·exact h.at_ j hjv a ha
 ·have:j=v.toNat:=by omega
  subst this; rw[hx]at ha; exact Option.some.inj ha▸px⟩
theorem Qos{α:Type}{P:α→Prop}{l:List α}{v:Int}(h:Qjl P l v)(hl:l.length≤v):∀a∈l,P a:=fun a ha=>by
 obtain⟨i,hi,e⟩:=List.getElem_of_mem ha
 exact h.at_ i (by omega) a (by rw[List.getElem?_eq_getElem hi,e])
theorem Q06{α:Type}[Sz α]{B:Int}{l:List α}(h:∀y∈l,(sz y:Int)≤B)(h0:0≤B):(szL l:Int)≤B:=by
 have:=Q05 (K:=B.toNat) fun x hx=>by have:=h x hx; omega
 omega
theorem Ri{α:Type}[Sz α](l:List α):sz l=max l.length (szL l):=rfl
class Sh(α:Type) where
 sh:α→Prop
open Sh
instance:Sh Int:=⟨fun _=>True⟩
instance:Sh Bool:=⟨fun _=>True⟩
instance:Sh Unit:=⟨fun _=>True⟩
instance {α β:Type} [Sh α] [Sh β]:Sh (α×β):=⟨fun p=>sh p.1∧sh p.2⟩
instance {α β:Type} [Sh α] [Sh β]:Sh (α⊕β):=⟨fun p=>match p with | .inl a=>sh a | .inr b=>sh b⟩
structure ShL{α:Type}[Sh α](l:List α):Prop where
 all:∀x∈l,sh x
instance {α:Type} [Sh α]:Sh (List α):=⟨ShL⟩
instance (priority:=2000) shStr:Sh (List UInt8):=⟨fun s=>s.length≤9223372036854775807⟩
instance {α:Type}:Sh (K9 α):=⟨fun _=>True⟩
theorem Jmw{α:Type}[Sh α]{l:List α}{x:α}(h:x∈l)(hl:sh l):sh x:=hl.all x h
theorem Qhk{x:List UInt8}(h:sh x):x.length≤9223372036854775807:=h
theorem Jg2{α:Type}[Sh α](l m:List α):sh (l++m)=(sh l∧sh m):=propext ⟨fun h=>⟨⟨fun x hx=>h.all x (List.mem_append_left _ hx)⟩,⟨fun x hx=>h.all x (List.mem_append_right _ hx)⟩⟩,fun h=>⟨fun x hx=>(QZ.1 hx).elim (h.1.all x) (h.2.all x)⟩⟩
theorem Jqe{α:Type}[Sh α](x:α)(l:List α):sh (x::l)=(sh x∧sh l):=propext ⟨fun h=>⟨h.all x (.head _),⟨fun y hy=>h.all y (.tail _ hy)⟩⟩,fun h=>⟨fun y hy=>(QX.1 hy).elim (fun e=>e▸h.1) (h.2.all y)⟩⟩
theorem Qk1{α:Type}[Sh α]{l:List α}{i:Nat}{x:α}(hl:sh l)(hx:sh x):sh (l.set i x):=⟨fun y hy=>(ZU hy).elim (hl.all y) (fun e=>e▸hx)⟩
theorem Qdx{α:Type}[Sz α]{K:Int}{l:List α}{i:Nat}{x:α}(h1:(sz l:Int)≤K)(h2:(sz x:Int)≤K):((sz (l.set i x):Nat):Int)≤K:=by
 have:=Qdw l i x
 omega
theorem Qh5{α:Type}[Sz α]{K:Nat}{l:List α}{i:Nat}{x:α}(h1:sz l≤K)(h2:sz x≤K):sz (l.set i x)≤K:=by
 have:=Qdw l i x
 omega
section
variable {V:Type} [Sz V]
theorem Il(key:Int)(v:V):∀m:List (Int×V),sz (Jc (k:=.int .i64) key v m:List (Int×V))≤max (sz m+1) (sz v)
 | []=>by
  show sz [((key,v):Int×V)]≤_
  rw[Qdv,Qrk]; simp only[Jms,Jvj,JX]; omega
 | x::m=>by
  have ih:=Il key v m
  unfold Jc
  cases h:eqK (.int .i64) key x.1 with
  | true =>
   show sz ((key,v)::m:List (Int×V))≤_
   rw[Qdv,Qdv,Qrk]; simp only[Jms]; omega
  | false =>
   show sz (x::(Jc (k:=.int .i64) key v m:List (Int×V)))≤_
   rw[Qdv,Qdv]
   have:=Ui (l:=(Jc (k:=.int .i64) key v m:List (Int×V)))
   have h2:(Jc (k:=.int .i64) key v m:List (Int×V)).length≤m.length+1:=by
    clear ih h this
    induction m with
    | nil=>exact QU _
    | cons y m ih =>
     unfold Jc
     cases eqK (.int .i64) key y.1 with
     | true=>exact ZE _
     | false=>exact XJ ih
   omega
theorem H3{W:Type}(key:Int)(v:W):∀m:List (Int×W),(Jc (k:=.int .i64) key v m).length≤m.length+1
 | []=>QU _
 | x::m=>by
  have ih:=H3 key v m
  unfold Jc
  cases eqK (.int .i64) key x.1 with
  | true=>exact ZE _
  | false=>exact XJ ih
theorem Lv{W:Type}(key:Str)(v:W):∀m:List (Str×W),(Jc (k:=.str) key v m).length≤m.length+1
 | []=>QU _
 | x::m=>by
  have ih:=Lv key v m
  unfold Jc
  cases eqK .str key x.1 with
  | true=>exact ZE _
  | false=>exact XJ ih
theorem Lw{W:Type}(key:Str):∀m:List (Str×W),(Ba (k:=.str) key m).length≤m.length
 | []=>QU _
 | x::m=>by
  have ih:=Lw key m
  unfold Ba
  cases eqK .str key x.1 with
  | true=>exact ZE _
  | false=>exact XJ ih
theorem Ci{W:Type}(key:Int):∀m:List (Int×W),(Ba (k:=.int .i64) key m).length≤m.length
 | []=>QU _
 | x::m=>by
  have ih:=Ci key m
  unfold Ba
  cases eqK (.int .i64) key x.1 with
  | true=>exact ZE _
  | false=>exact XJ ih
theorem Q6a{W:Type}{key:Int}{y:Int×W}:∀{m:List (Int×W)},y∈(Ba (k:=.int .i64) key m:List (Int×W))→y∈m
 | x::m,h=>by
  unfold Ba at h
  cases hk:eqK (.int .i64) key x.1 with
  | true=>rw[hk]at h; exact .tail _ h
  | false =>
   rw[hk]at h
   rcases QX.1 h with h | h
   ·exact h▸.head _
   ·exact .tail _ (Q6a h)
theorem Qdy(key:Int)(m:List (Int×V)):sz (Ba (k:=.int .i64) key m:List (Int×V))≤sz m:=Jmu (Ci key m) fun _ h=>Q6a h
theorem Cj(key:Int)(d:V):∀m:List (Int×V),sz ((Qj (k:=.int .i64) key m).getD d)≤max (sz m) (sz d)
 | []=>Nat.le_max_right _ _
 | x::m=>by
  have ih:=Cj key d m
  unfold Qj
  rw[Qdv,Qrk]
  cases eqK (.int .i64) key x.1 with
  | true=>show sz x.2≤_; omega
  | false=>show sz ((Qj (k:=.int .i64) key m).getD d)≤_; omega
end
theorem Qca(x:Int):eqK (.int .i64) x x=true:=by simp[eqK]
theorem Qjm(x:Str):eqK .str x x=true:=by simp[eqK]
class Cm(N:Nat):Prop where
 le:18446744073709551616≤N
section
variable {α β σ τ:Type}
instance wpIdx [Sz α] [Sh α] {l:List α} {i:Int}:WP (idx l i) (fun R=>(0≤i∧i<l.length)∧∀x,x∈l→sz x≤sz l→(Sh.sh l→Sh.sh x)→l[i.toNat]?=some x→R x):=⟨fun R h=>by
 obtain⟨⟨h0,h1⟩,hR⟩:=h
 have hi:i.toNat<l.length:=by omega
 have hm:l[i.toNat]∈l:=ZC hi
 refine⟨l[i.toNat],?_,hR _ hm (Jmt hm) (Jmw hm) (List.getElem?_eq_getElem hi)⟩
 unfold idx
 rw[if_pos h0,List.getElem?_eq_getElem hi]⟩
instance wpSidx {s:Str} {i:Int}:WP (A9 s i) (fun R=>(0≤i∧i<s.length)∧∀x,0≤x→x<256→R x):=⟨fun R h=>by
 obtain⟨⟨h0,h1⟩,hR⟩:=h
 have hi:i.toNat<s.length:=by omega
 refine⟨((s[i.toNat]).toNat:Int),?_,hR _ (by omega) (by have:=UInt8.toNat_lt s[i.toNat]; omega)⟩
 unfold A9 idx
 rw[if_pos h0,List.getElem?_eq_getElem hi]; rfl⟩
instance wpSlc [Sz α] [Sh α] {l:List α} {a b:Int}:WP (slc l a b) (fun R=>(0≤a∧a≤b∧b≤l.length)∧∀s,(s.length:Int)=b - a→(∀x∈s,x∈l)→sz s≤sz l→(Sh.sh l→Sh.sh s)→R s):=⟨fun R h=>by
 obtain⟨⟨h0,h1,h2⟩,hR⟩:=h
 have hlen:(((l.drop a.toNat).take (b - a).toNat).length:Int)=b - a:=by rw[List.length_take,List.length_drop]; omega
 have hm:∀x∈(l.drop a.toNat).take (b - a).toNat,x∈l:=fun x hx=>KJ (XU hx)
 refine⟨(l.drop a.toNat).take (b - a).toNat,?_,hR _ hlen hm (Jmu (by rw[List.length_take,List.length_drop]; omega) hm) (fun h=>⟨fun x hx=>h.all x (hm x hx)⟩)⟩
 unfold slc
 rw[if_pos ⟨h0,h1,h2⟩]⟩
instance wpApp {b:Nat} {l m:List α}:WP (app b l m) (fun R=>(l.length+m.length)*b≤140737488355328∧R (l++m)):=⟨fun R h=>⟨l++m,by unfold app; rw [if_pos h.1],h.2⟩⟩
instance wpMkL {b:Nat} {l c:Int} {z:α}:WP (mkL b l c z) (fun R=>(0≤l∧l≤c∧(b:Int)*c≤281474976710656)∧R (List.replicate l.toNat z)):=⟨fun R h=>⟨_,by unfold mkL; rw [if_pos h.1],h.2⟩⟩
instance wpQuo {k:IntKind} {x y:Int}:WP (Q87 k x y) (fun R=>y≠0∧R (k.wrap (x.tdiv y))):=⟨fun R h=>⟨_,by unfold Q87; rw [if_neg h.1],h.2⟩⟩
instance wpRem {x y:Int}:WP (Ji0 x y) (fun R=>y≠0∧R (x.tmod y)):=⟨fun R h=>⟨_,by unfold Ji0; rw [if_neg h.1],h.2⟩⟩
instance wpShr {k:IntKind} {x y:Int}:WP (Td k x y) (fun R=>0≤y∧∀r,R r):=⟨fun R h=>⟨_,by unfold Td; rw [if_neg (by omega)],h.2 _⟩⟩
instance wpShl {k:IntKind} {x y:Int}:WP (Qce k x y) (fun R=>0≤y∧∀r,R r):=⟨fun R h=>⟨_,by unfold Qce; rw [if_neg (by omega)],h.2 _⟩⟩
instance wpScat {a b:Str}:WP (Joo a b) (fun R=>a.length+b.length≤9223372036854775807∧R (a++b)):=⟨fun R h=>⟨_,by unfold Joo; rw [if_pos h.1],h.2⟩⟩
instance wpChk {b:Bool}:WP (chk b) (fun R=>b=true∧R ()):=⟨fun R h=>⟨(),by rw [h.1]; rfl,h.2⟩⟩
theorem Jvk{f:σ→α→Option σ}{es:List α}(I:Int→σ→Prop)(step:∀(n:Int) s e,e∈es→0≤n→n<es.length→I n s→W (f s e) (I (n+1))){s:σ}:WP (Qpk f es s) (fun R=>I 0 s∧∀r,I es.length r→R r):=Qhi fun h=>by
 have main:∀(l:List α) (n:Int) (s:σ),(∀e∈l,e∈es)→0≤n→n+l.length=es.length→I n s→W (Qpk f l s) (I es.length):=by
  intro l
  induction l with
  | nil=>intro n s hm h0 hn hI; exact⟨s,rfl,by rw[←hn]; simpa using hI⟩
  | cons x l ih =>
   intro n s hm h0 hn hI
   simp only[List.length_cons]at hn
   obtain⟨s1,e1,h1⟩:=step n s x (hm x (.head _)) h0 (by omega) hI
   show W ((f s x).bind fun s'=>Qpk f l s') _
   rw[e1]
   exact ih (n+1) s1 (fun e he=>hm e (.tail _ he)) (by omega) (by omega) h1
 exact main es 0 s (fun _ h=>h) (JC _) (by simp) h
theorem Jaj{f:σ→Option (σ⊕τ)}{N:Nat}[hN:Cm N](μ:σ→Nat)(I:σ→Prop)(Q:τ→Prop)(hμ:∀s,I s→μ s<18446744073709551616)
  (step:∀s,I s→W (f s) fun r=>match r with | .inl s'=>I s'∧μ s'<μ s | .inr t=>Q t) (s:σ):WP (Qh f N s) (fun R=>I s∧∀r,Q r→R r):=Qhi fun h=>by
 have main:∀(k n:Nat) (s:σ),I s→μ s≤k→k<n→W (Qh f n s) Q:=by
  intro k
  induction k with
  | zero =>
   intro n s hI hk hn
   obtain⟨m,rfl⟩:∃m,n=m+1:=⟨n - 1,by omega⟩
   obtain⟨r,e,hr⟩:=step s hI
   cases r with
   | inl s'=>exact absurd hr.2 (by omega)
   | inr t=>exact⟨t,by simp[Qh,e],hr⟩
  | succ k ih =>
   intro n s hI hk hn
   obtain⟨m,rfl⟩:∃m,n=m+1:=⟨n - 1,by omega⟩
   obtain⟨r,e,hr⟩:=step s hI
   cases r with
   | inl s' =>
    obtain⟨t,e2,ht⟩:=ih m s' hr.1 (by have:=hr.2; omega) (by omega)
    exact⟨t,by simp[Qh,e,e2],ht⟩
   | inr t=>exact⟨t,by simp[Qh,e],hr⟩
 exact main (μ s) N s h (QU _) (QC (hμ s h) hN.le)
theorem ss:(∀(p:Prop) [Decidable p],(decide p=true)=p)∧(∀(p:Prop) [Decidable p],(decide p=false)=¬ p)∧(∀b:Bool,(¬ b=true)=(b=false))∧(∀a b:Bool,((a&&b)=true)=(a=true∧b=true))∧(∀a b:Bool,((a||b)=true)=(a=true∨b=true)) ∧
  (∀b:Bool,((!b)=true)=(b=false))∧(∀b:Bool,((!b)=false)=(b=true))∧(∀a b:Bool,((a&&b)=false)=(a=true→b=false))∧(∀a b:Bool,((a||b)=false)=(a=false∧b=false)) ∧
  (∀a b:Int,((a==b)=true)=(a=b))∧(∀a b:Int,((a==b)=false)=¬ a=b)∧(∀a b:Int,((a != b)=true)=¬ a=b)∧(∀a b:Int,((a != b)=false)=(a=b))∧(∀p q:Prop,(¬ (p∧q))=(p→¬ q))∧(∀p q:Prop,(¬ (p∨q))=(¬ p∧¬ q)):=by
 refine⟨?_,?_,?_,?_,?_,?_,?_,?_,?_,?_,?_,?_,?_,?_,?_⟩
 all_goals intros
 all_goals simp
theorem sz1:(∀(α β:Type) [Sz α] [Sz β] (p:α×β),sz p=max (sz p.1) (sz p.2))∧(∀x:Int,sz x=0)∧(∀x:Bool,sz x=0)∧(∀x:Unit,sz x=0)∧(∀x:List UInt8,sz x=0)∧(∀(α β:Type) [Sz α] [Sz β] (a:α),sz (Sum.inl a:α⊕β)=sz a) ∧
  (∀(α β:Type) [Sz α] [Sz β] (b:β),sz (Sum.inr b:α⊕β)=sz b)∧(∀(α:Type) [Sz α] [Qhj α] (l:List α),sz l=l.length) ∧
  (∀(α:Type) [Sz α] (l m:List α),sz (l++m)=max (l.length+m.length) (max (sz l) (sz m)))∧(∀(α:Type) [Sz α] (x:α) (l:List α),sz (x::l)=max (l.length+1) (max (sz x) (sz l)))∧(∀(α:Type) [Sz α],sz ([]:List α)=0) :=
 ⟨fun _ _ _ _ _=>rfl,fun _=>rfl,fun _=>rfl,fun _=>rfl,fun _=>rfl,fun _ _ _ _ _=>rfl,fun _ _ _ _ _=>rfl,fun _ _ _ l=>Qmz l,fun _ _=>Jg1,fun _ _=>Qdv,fun _ _=>rfl⟩
theorem sh1:(∀(α β:Type) [Sh α] [Sh β] (p:α×β),Sh.sh p=(Sh.sh p.1∧Sh.sh p.2))∧(∀x:Int,Sh.sh x=True)∧(∀x:Bool,Sh.sh x=True)∧(∀x:Unit,Sh.sh x=True)∧(∀(α:Type) (x:K9 α),Sh.sh x=True)∧(∀(α β:Type) [Sh α] [Sh β] (a:α),Sh.sh (Sum.inl a:α⊕β)=Sh.sh a) ∧
  (∀(α β:Type) [Sh α] [Sh β] (b:β),Sh.sh (Sum.inr b:α⊕β)=Sh.sh b)∧(∀(α:Type) [Sh α] (l m:List α),Sh.sh (l++m)=(Sh.sh l∧Sh.sh m))∧(∀(α:Type) [Sh α] (x:α) (l:List α),Sh.sh (x::l)=(Sh.sh x∧Sh.sh l))∧(∀(α:Type) [Sh α],Sh.sh ([]:List α)=True)∧Sh.sh ([]:List UInt8)=True :=
 ⟨fun _ _ _ _ _=>rfl,fun _=>rfl,fun _=>rfl,fun _=>rfl,fun _ _=>rfl,fun _ _ _ _ _=>rfl,fun _ _ _ _ _=>rfl,fun _ _=>Jg2,fun _ _=>Jqe,fun _ _=>propext ⟨fun _=>trivial,fun _=>⟨fun _ h=>by cases h⟩⟩,propext ⟨fun _=>trivial,fun _=>by show([]:List UInt8).length≤_; decide⟩⟩
theorem mx1:(∀n:Nat,max 0 n=n)∧(∀n:Nat,max n 0=n)∧(∀a b c:Nat,(max a b≤c)=(a≤c∧b≤c))∧(∀a b:Nat,((max a b:Nat):Int)=max (a:Int) (b:Int))∧(∀a b c:Int,(max a b≤c)=(a≤c∧b≤c)) :=
 ⟨KG,ZL,fun _ _ _=>propext ZK,Jmr,fun _ _ _=>propext Int.max_le⟩
theorem sS:(((∀(α β:Type) (p:α⊕β→Prop),(∀x,p x)=((∀a,p (.inl a))∧∀b,p (.inr b)))∧(∀(α β:Type) (a b:α),((Sum.inl a:α⊕β)=.inl b)=(a=b))∧(∀(α β:Type) (a b:β),((Sum.inr a:α⊕β)=.inr b)=(a=b))∧(∀(α:Type) (p:α→Prop) (a:α),(∀b,a=b→p b)=p a)∧(∀(α:Type) (p:α→Prop) (a:α),(∀b,b=a→p b)=p a)) ∧
  (∀p:Prop,(False→p)=True)∧(∀α:Type,(α→True)=True)∧(∀p:Prop,(p→True)=True)∧(∀p:Prop,(True→p)=p)∧(∀p:Prop,(p∧True)=p)∧(∀p:Prop,(True∧p)=p)∧(∀(α:Type) [Nonempty α] (p:Prop),(α→p)=p)∧(∀(α:Type) [BEq α] [LawfulBEq α] (a b:α),((a==b)=true)=(a=b))∧(∀(α:Type) [BEq α] [LawfulBEq α] (a b:α),((a != b)=true)=(a≠b))∧(∀(α:Type) (a b:α),(a≠b)=¬ (a=b)) ∧
  (∀(α:Type) (l m:List α),(l++m).length=l.length+m.length)∧(∀(α:Type) (x:α) (l:List α),(x::l).length=l.length+1)∧(∀(α:Type),([]:List α).length=0)∧(∀(α:Type) (l:List α) (i:Nat) (x:α),(l.set i x).length=l.length)∧(∀(α:Type) (l:List α),[]++l=l)∧∀n:Nat,0+n=n)∧(type_of% ss)∧(type_of% sz1)∧(type_of% sh1)∧type_of% mx1:=by
 refine⟨⟨⟨fun _ _ p=>propext Sum.forall,?_,?_,?_,?_⟩,?_,?_,?_,?_,?_,?_,fun _ _ _=>propext (forall_const _),fun _ _ _ a b=>propext beq_iff_eq,fun _ _ _ a b=>propext bne_iff_ne,?_,?_,?_,?_,?_,?_,?_⟩,ss,sz1,sh1,mx1⟩
 all_goals simp
theorem lv{P:Prop}(h:P:=by first | assumption | omega | exact Xk | ((simp (disch:=omega) only [Q5] at *)<;>omega) | ((first | refine Qdx ?_ ?_ | refine Qh5 ?_ ?_)<;>(try simp only [sz1,mx1])<;>first | omega | ((simp (disch:=omega) only [Q5] at *)<;>omega)) | exact QY Ui (by omega) | exact Qca _ | exact Qjm _ | grind [Ri,Qdw,Qk1,Il,Qdy,Cj,H3,Lv,Ci,Lw]):P:=h
theorem mkW {o o':Option α} {T:(α→Prop)→Prop} (e:o=o') [hw:WP o' T] (P:Prop) (Q:α→Prop) (k:P→T Q:=by
  intro h
  try simp only[sS,reduceCtorEq]at *
  repeat' (first | intro _ | apply And.intro)
  all_goals first | assumption | omega | exact Xk | ((simp (disch:=omega) only [Q5]at *)<;>omega) | ((first | refine Qdx ?_ ?_ | refine Qh5 ?_ ?_)<;>(try simp only[sz1,mx1])<;>first | omega | ((simp (disch:=omega) only [Q5]at *)<;>omega)) | exact QY Ui (by omega) | exact Qca _ | exact Qjm _ | grind [Ri,Qdw,Qk1,Il,Qdy,Cj,H3,Lv,Ci,Lw]):WP o (fun R=>P∧∀r,Q r→R r):=Qhi fun h=>by rw[e]; exact hw.spec Q (k h)
theorem Jxq{f:σ→Option (σ⊕τ)}{N:Nat}[hN:Cm N](ix:σ→Int)(len:Nat)(I:σ→Prop)(Q:τ→Prop)(hl:∀s,I s→len≤9223372036854775807)
  (step:∀s,I s→0≤ix s→ix s≤len→(ix s<len→IntKind.wrap .i64 (ix s+1)=ix s+1)→W (f s) fun r=>match r with | .inl s'=>I s'∧ix s<len∧ix s'=IntKind.wrap .i64 (ix s+1) | .inr t=>Q t) (s:σ) :
  WP (Qh f N s) (fun R=>(I s∧0≤ix s∧ix s≤len)∧∀r,Q r→R r) :=
 Jaj (fun s=>((len:Int) - ix s).toNat) (fun s=>I s∧0≤ix s∧ix s≤len) Q (fun s h=>by have:=hl s h.1; omega) (fun s h=>by
  have hl':=hl s h.1
  have hw:ix s<len→IntKind.wrap .i64 (ix s+1)=ix s+1:=fun hlt=>by
   exact Q5 (by omega) (by omega)
  refine(step s h.1 h.2.1 h.2.2 hw).mono fun r hr=>?_
  cases r with
  | inl s' =>
   obtain⟨h1,h2,h3⟩:=hr
   rw[hw h2]at h3
   exact⟨⟨h1,by omega,by omega⟩,by omega⟩
  | inr t=>exact hr) s
theorem upL {f f':σ→Option (σ⊕τ)} {B:σ→(σ⊕τ→Prop)→Prop} (e:∀s,f s=f' s) [hf:WPf f' B] {N:Nat} [hN:Cm N] (ix:σ→Int) (len:Nat) (I:σ→Prop) (Q:τ→Prop) (hl:∀s,I s→len≤9223372036854775807:=by
  intro s h
  try simp only[sz1,sh1,mx1]at *
  first | omega | exact QY Ui (by omega) | grind [Ri])
  (step:∀s,I s→0≤ix s→ix s≤len→len≤9223372036854775807→(ix s<len→IntKind.wrap .i64 (ix s+1)=ix s+1)→B s (fun r=>match r with | .inl s'=>I s'∧ix s<len∧ix s'=IntKind.wrap .i64 (ix s+1) | .inr t=>Q t):=by
  intro s h h0 h1 h2 hw
  try simp only[sS,reduceCtorEq]at *
  repeat' (first | intro _ | apply And.intro)
  all_goals first | assumption | omega | ((simp (disch:=omega) only [Q5]at *)<;>omega) | ((first | refine Qdx ?_ ?_ | refine Qh5 ?_ ?_)<;>(try simp only[sz1,mx1])<;>first | omega | ((simp (disch:=omega) only [Q5]at *)<;>omega)) | exact QY Ui (by omega) | exact Qca _ | exact Qjm _ | grind [Ri,Qdw,Qk1,Il,Qdy,Cj,H3,Lv,Ci,Lw]) {s:σ} :
  WP (Qh f N s) (fun R=>(I s∧0≤ix s∧ix s≤len)∧∀r,Q r→R r):=Jxq ix len I Q hl (fun s h h0 h1 hw=>by rw[e s]; exact hf.spec s _ (step s h h0 h1 (hl s h) hw)) s
theorem Qm0 {α ε:Type} {f f':Int→Option (Int⊕(Unit⊕ε))} {B:Int→(Int⊕(Unit⊕ε)→Prop)→Prop} (e:∀s,f s=f' s) [hf:WPf f' B] {N:Nat} [hN:Cm N] (l:List α) (I:Prop) (P:α→Prop) (C:Prop) (E:ε→Prop) (hl:I→l.length≤9223372036854775807:=by
  intro h
  try simp only[sz1,sh1,mx1]at *
  first | omega | exact QY Ui (by omega) | grind [Ri])
  (fin:I→(∀y∈l,P y)→C:=by
  intro h hall
  first | exact hall | exact Q06 hall (by omega))
  (step:∀s:Int,I→0≤s→s≤l.length→l.length≤9223372036854775807→(s<l.length→IntKind.wrap .i64 (s+1)=s+1)→B s (fun r=>match r with | .inl s'=>(∃x,l[s.toNat]?=some x∧P x)∧s<l.length∧s'=IntKind.wrap .i64 (s+1) | .inr t=>(∀u,t=.inl u→l.length≤s)∧∀u,t=.inr u→E u):=by
  intro s h h0 h1 h2 hw
  try simp only[sS,reduceCtorEq]at *
  repeat' (first | intro _ | apply And.intro)
  all_goals first | assumption | omega | ((simp (disch:=omega) only [Q5]at *)<;>omega) | (refine⟨_,by assumption,?_⟩; first | assumption | omega | ((simp (disch:=omega) only [Q5]at *)<;>omega) | ((first | refine Qdx ?_ ?_ | refine Qh5 ?_ ?_)<;>(try simp only[sz1,mx1])<;>first | omega | ((simp (disch:=omega) only [Q5]at *)<;>omega)) | exact QY Ui (by omega) | exact Qca _ | exact Qjm _ | grind [Ri,Qdw,Qk1,Il,Qdy,Cj,H3,Lv,Ci,Lw]) | exact QY Ui (by omega) | exact Qca _ | exact Qjm _ | grind [Ri,Qdw,Qk1,Il,Qdy,Cj,H3,Lv,Ci,Lw]) {s:Int} :
  WP (Qh f N s) (fun R=>(I∧Qjl P l s∧0≤s∧s≤l.length)∧∀r:Unit⊕ε,((∀u,r=.inl u→C)∧∀u,r=.inr u→E u)→R r):=⟨fun R h=>by
 have hw:=Jxq (f:=f) (N:=N) (fun s=>s) l.length (fun s=>I∧Qjl P l s) (fun r:Unit⊕ε=>(∀u,r=.inl u→C)∧∀u,r=.inr u→E u) (fun s h=>hl h.1) (fun s h h0 h1 hw=>by
  rw[e s]
  refine(hf.spec s _ (step s h.1 h0 h1 (hl h.1) hw)).mono fun r hr=>?_
  cases r with
  | inl s' =>
   obtain⟨x1,x2,x3⟩:=hr
   refine⟨⟨h.1,?_⟩,x2,x3⟩
   rw[x3,hw x2]
   obtain⟨x,y1,y2⟩:=x1
   exact Qk0 h0 h.2 y1 y2
  | inr t =>
   refine⟨fun u hu=>?_,hr.2⟩
   have hge:=hr.1 u hu
   exact fin h.1 (Qos h.2 hge)) s
 exact hw.spec R ⟨⟨⟨h.1.1,h.1.2.1⟩,h.1.2.2⟩,h.2⟩⟩
theorem Jxr{f:σ→Option (σ⊕τ)}{N:Nat}[hN:Cm N](ix:σ→Int)(E:Int)(I:σ→Prop)(Q:τ→Prop)(hl:∀s,I s→E≤9223372036854775807)
  (step:∀s,I s→0≤ix s→(ix s<E→IntKind.wrap .i64 (ix s+1)=ix s+1)→W (f s) fun r=>match r with | .inl s'=>I s'∧ix s<E∧ix s'=IntKind.wrap .i64 (ix s+1) | .inr t=>Q t) (s:σ) :
  WP (Qh f N s) (fun R=>(I s∧0≤ix s)∧∀r,Q r→R r) :=
 Jaj (fun s=>(E - ix s).toNat) (fun s=>I s∧0≤ix s) Q (fun s h=>by have:=hl s h.1; omega) (fun s h=>by
  have hl':=hl s h.1
  have hw:ix s<E→IntKind.wrap .i64 (ix s+1)=ix s+1:=fun hlt=>by
   exact Q5 (by omega) (by omega)
  refine(step s h.1 h.2 hw).mono fun r hr=>?_
  cases r with
  | inl s' =>
   obtain⟨h1,h2,h3⟩:=hr
   rw[hw h2]at h3
   exact⟨⟨h1,by omega⟩,by omega⟩
  | inr t=>exact hr) s
theorem upI {f f':σ→Option (σ⊕τ)} {B:σ→(σ⊕τ→Prop)→Prop} (e:∀s,f s=f' s) [hf:WPf f' B] {N:Nat} [hN:Cm N] (ix:σ→Int) (E:Int) (I:σ→Prop) (Q:τ→Prop) (hl:∀s,I s→E≤9223372036854775807:=by
  intro s h
  try simp only[sz1,sh1,mx1]at *
  first | omega | grind [Ri])
  (step:∀s,I s→0≤ix s→(ix s<E→IntKind.wrap .i64 (ix s+1)=ix s+1)→B s (fun r=>match r with | .inl s'=>I s'∧ix s<E∧ix s'=IntKind.wrap .i64 (ix s+1) | .inr t=>Q t):=by
  intro s h h0 hw
  try simp only[sS,reduceCtorEq]at *
  repeat' (first | intro _ | apply And.intro)
  all_goals first | assumption | omega | ((simp (disch:=omega) only [Q5]at *)<;>omega) | ((first | refine Qdx ?_ ?_ | refine Qh5 ?_ ?_)<;>(try simp only[sz1,mx1])<;>first | omega | ((simp (disch:=omega) only [Q5]at *)<;>omega)) | exact QY Ui (by omega) | exact Qca _ | exact Qjm _ | grind [Ri,Qdw,Qk1,Il,Qdy,Cj,H3,Lv,Ci,Lw]) {s:σ} :
  WP (Qh f N s) (fun R=>(I s∧0≤ix s)∧∀r,Q r→R r):=Jxr ix E I Q hl (fun s h h0 hw=>by rw[e s]; exact hf.spec s _ (step s h h0 hw)) s
theorem mkL {f f':σ→Option (σ⊕τ)} {B:σ→(σ⊕τ→Prop)→Prop} (e:∀s,f s=f' s) [hf:WPf f' B] {N:Nat} [hN:Cm N] (μ:σ→Nat) (I:σ→Prop) (Q:τ→Prop) (hμ:∀s,I s→μ s<18446744073709551616:=by
  intro s h
  try simp only[sz1,sh1,mx1]at *
  first | omega | grind [Ri])
  (step:∀s,I s→B s (fun r=>match r with | .inl s'=>I s'∧μ s'<μ s | .inr t=>Q t):=by
  intro s h
  try simp only[sS,reduceCtorEq]at *
  repeat' (first | intro _ | apply And.intro)
  all_goals first | assumption | omega | ((simp (disch:=omega) only [Q5]at *)<;>omega) | ((first | refine Qdx ?_ ?_ | refine Qh5 ?_ ?_)<;>(try simp only[sz1,mx1])<;>first | omega | ((simp (disch:=omega) only [Q5]at *)<;>omega)) | exact QY Ui (by omega) | exact Qca _ | exact Qjm _ | grind [Ri,Qdw,Qk1,Il,Qdy,Cj,H3,Lv,Ci,Lw]) {s:σ} :
  WP (Qh f N s) (fun R=>I s∧∀r,Q r→R r):=Jaj μ I Q hμ (fun s h=>by rw[e s]; exact hf.spec s _ (step s h)) s
end
mutual
def dpt{α:Type}:K9 α→Nat
 | .mk _ ks=>Jg3 ks+1
def Jg3{α:Type}:List (K9 α)→Nat
 | []=>0
 | x::l=>max (dpt x) (Jg3 l)
end
theorem Q6b{α:Type}:∀{l:List (K9 α)} {x:K9 α},x∈l→dpt x≤Jg3 l
 | y::l,x,h=>by
  rw[Jg3]
  rcases QX.1 h with rfl | h
  ·omega
  ·have:=Q6b h; omega
theorem Jmx{α:Type}{e x:K9 α}(h:x∈e.ks):dpt x<dpt e:=by
 cases e with
 | mk a ks=>rw[dpt]; have:=Q6b (l:=ks) h; omega
theorem Jd3{α:Type}{K:Nat}:∀{l:List (K9 α)},(∀x∈l,dpt x≤K)→Jg3 l≤K
 | [],_=>QO _
 | x::l,h=>by rw[Jg3]; exact ZK.2 ⟨h x (.head _),Jd3 fun y hy=>h y (.tail _ hy)⟩
theorem Jvl{α:Type}{e:K9 α}{K:Nat}(h:∀x∈e.ks,dpt x≤K):dpt e≤K+1:=by
 cases e with
 | mk a ks=>rw[dpt]; have:=Jd3 (l:=ks) h; omega
structure Qu{α:Type}(P:α→Prop)(l:List α):Prop where
 all:∀x∈l,P x
structure A8(x:Q3):Prop where
 deep:∀d∈x.2.2.2.2.2.2,dpt d.2.1≤4096
open Go Gd Sz
theorem Q07(m:List (Int×Int×Int×Int×Str×List Str×List Str×Bool×Bool))(x:Int) :
  ((Qj (k:=.int .i64) x m).getD (0,0,0,([]:Str),([]:List Str),([]:List Str),false,false)).2.2.2.2.1.length≤sz m∧((Qj (k:=.int .i64) x m).getD (0,0,0,([]:Str),([]:List Str),([]:List Str),false,false)).2.2.2.2.2.1.length≤sz m:=by
 have h:=Cj x ((0,0,0,([]:Str),([]:List Str),([]:List Str),false,false):Int×Int×Int×Str×List Str×List Str×Bool×Bool) m
 simp only[sz1,mx1,JX,ZL,KG]at h ⊢
 omega
theorem Jd4(m:List (Int×Int×Int×Int×Bool×Bool×List Int))(x:Int) :
  ((Qj (k:=.int .i64) x m).getD (0,0,0,false,false,([]:List Int))).2.2.2.2.2.length≤sz m:=by
 have h:=Cj x ((0,0,0,false,false,([]:List Int)):Int×Int×Int×Bool×Bool×List Int) m
 simp only[sz1,mx1,JX,ZL,KG]at h ⊢
 omega
theorem Q6c(m:List (Int×List Int))(x:Int):((Qj (k:=.int .i64) x m).getD ([]:List Int)).length≤sz m:=by
 have h:=Cj x ([]:List Int) m
 simp only[sz1,mx1,JX,ZL]at h ⊢
 omega
theorem Jqf{V:Type}[Sz V]{K:Int}{x:Int}{v:V}{m:List (Int×V)}(h1:(sz m:Int)+1≤K)(h2:(sz v:Int)≤K):((sz (Jc (k:=.int .i64) x v m:List (Int×V)):Nat):Int)≤K:=by
 have:=Il x v m
 omega
theorem Ic{α:Type}{l:List α}{i:Int}{x:α}(h0:0≤i)(h:l[i.toNat]?=some x):l.take i.toNat++[x]=l.take (i+1).toNat:=by
 have e:(i+1).toNat=i.toNat+1:=by omega
 rw[e,List.take_add_one,h]; rfl
theorem Rj{α:Type}{l:List α}{i:Int}(h:(l.length:Int)≤i):l.take i.toNat=l:=List.take_of_length_le (by omega)
instance (priority:=2000) wpSlcS {l:Str} {a b:Int}:WP (slc l a b) (fun R=>(0≤a∧a≤b∧b≤(List.length l:Int))∧∀s:Str,(List.length s:Int)=b - a→R s):=⟨fun R h=>by
 obtain⟨⟨h0,h1,h2⟩,hR⟩:=h
 refine⟨(l.drop a.toNat).take (b - a).toNat,?_,hR _ (by rw[List.length_take,List.length_drop]; omega)⟩
 unfold slc
 rw[if_pos ⟨h0,h1,h2⟩]⟩
def lpd(y:Int):Int:=if(y.tmod 4=0∧y.tmod 100≠0)∨y.tmod 400=0 then 1 else 0
def bef(y:Int):Int:=365*(y - 2000)+(if y>2000 then(y - 2001) / 4 - (y - 2001) / 100+(y - 2001) / 400+1 else 0)
theorem Qu2(y:Int):0≤lpd y∧lpd y≤1:=by unfold lpd; split<;>omega
theorem Qu3(y:Int)(h:2000≤y):bef (y+1)=bef y+365+lpd y:=by
 unfold bef lpd
 rw[JF (by omega),JF (by omega),JF (by omega)]
 split<;>split<;>split<;>omega
theorem Qu4(y:Int)(h:2000≤y):365*(y - 2000)≤bef y∧bef y≤366*(y - 2000):=by
 unfold bef
 split<;>omega
theorem Jmy:bef 2400=146097:=by decide
def mon(y m:Int):Int:=if m=2 then 28+lpd y else if m=4∨m=6∨m=9∨m=11 then 30 else 31
def lft(y m:Int):Int:=if m=1 then 365+lpd y else if m=2 then 334+lpd y else if m=3 then 306 else if m=4 then 275 else if m=5 then 245 else if m=6 then 214 else if m=7 then 184 else if m=8 then 153 else if m=9 then 122 else if m=10 then 92 else if m=11 then 61 else if m=12 then 31 else 0
theorem Qm1(y m:Int)(h:1≤m∧m≤12):lft y m=mon y m+lft y (m+1):=by
 have hx:m=1∨m=2∨m=3∨m=4∨m=5∨m=6∨m=7∨m=8∨m=9∨m=10∨m=11∨m=12:=by omega
 rcases hx with rfl | rfl | rfl | rfl | rfl | rfl | rfl | rfl | rfl | rfl | rfl | rfl<;>simp[lft,mon]<;>omega
theorem Jd5(y:Int):lft y 1=365+lpd y:=by simp[lft]
theorem Jak(y:Int):lft y 13=0:=by simp[lft]
theorem Qu5{W:Type}{key:Int}{v:W}{y:Int×W}:∀{m:List (Int×W)},y∈(Jc (k:=.int .i64) key v m:List (Int×W))→y=(key,v)∨y∈m
 | [],h=>by
  unfold Jc at h
  rcases QX.1 h with h | h
  ·exact .inl h
  ·exact .inr h
 | x::m,h=>by
  unfold Jc at h
  cases hk:eqK (.int .i64) key x.1 with
  | true =>
   rw[hk]at h
   rcases QX.1 h with h | h
   ·exact .inl h
   ·exact .inr (.tail _ h)
  | false =>
   rw[hk]at h
   rcases QX.1 h with h | h
   ·exact .inr (h▸.head _)
   ·rcases Qu5 h with h | h
    ·exact .inl h
    ·exact .inr (.tail _ h)
theorem Qyh{W:Type}{key:Int}:∀{m:List (Int×W)} {v:W},Qj (k:=.int .i64) key m=some v→∃p∈m,p.2=v
 | x::m,v,h=>by
  unfold Qj at h
  cases hk:eqK (.int .i64) key x.1 with
  | true=>rw[hk]at h; exact⟨x,.head _,Option.some.inj h⟩
  | false =>
   rw[hk]at h
   obtain⟨p,hp,e⟩:=Qyh h
   exact⟨p,.tail _ hp,e⟩
structure Qu6(m:List (Int×Int))(n:Int):Prop where
 all:∀p∈m,0≤p.2∧p.2<n
theorem Qyi{n:Int}:Qu6 [] n:=⟨fun _ h=>absurd h JE⟩
theorem Qyj{m:List (Int×Int)}{n key v:Int}(h:Qu6 m n)(h0:0≤v)(h1:v<n):Qu6 (Jc (k:=.int .i64) key v m) n:=⟨fun p hp=>by
 rcases Qu5 hp with e | hp
 ·rw[e]; exact⟨h0,h1⟩
 ·exact h.all p hp⟩
theorem Qyk{m:List (Int×Int)}{n key d:Int}(h:Qu6 m n)(hs:(Qj (k:=.int .i64) key m).isSome=true):0≤(Qj (k:=.int .i64) key m).getD d∧(Qj (k:=.int .i64) key m).getD d<n:=by
 cases e:Qj (k:=.int .i64) key m with
 | none=>rw[e]at hs; exact absurd hs (by decide)
 | some v =>
  obtain⟨p,hp,e2⟩:=Qyh e
  have:=h.all p hp
  rw[e2]at this; exact this
theorem Qyl{W:Type}{key:Str}{v:W}:∀{m:List (Str×W)},Qj (k:=.str) key (Jc (k:=.str) key v m:List (Str×W))=some v
 | []=>by
  unfold Jc Qj
  rw[Qjm]; rfl
 | x::m=>by
  unfold Jc
  cases hk:eqK .str key x.1 with
  | true=>show Qj (k:=.str) key ((key,v)::m:List (Str×W))=_; unfold Qj; rw[Qjm]; rfl
  | false =>
   show Qj (k:=.str) key (x::(Jc (k:=.str) key v m:List (Str×W)))=_
   unfold Qj
   rw[hk]; exact Qyl
theorem Yz{α:Type}{P:α→Prop}:Qu P []:=⟨fun _ h=>absurd h JE⟩
theorem V8{α:Type}{P:α→Prop}{l m:List α}(h:Qu P l)(k:Qu P m):Qu P (l++m):=⟨fun x hx=>(QZ.1 hx).elim (h.all x) (k.all x)⟩
theorem K8{α:Type}{P:α→Prop}{x:α}(h:P x):Qu P [x]:=⟨fun y hy=>by rw[XZ.1 hy]; exact h⟩
theorem Q6d{α:Type}{P:α→Prop}{x y:α}(h:P x)(k:P y):Qu P [x,y]:=⟨fun z hz=>by
 rcases QX.1 hz with e | hz
 ·rw[e]; exact h
 ·rw[XZ.1 hz]; exact k⟩
theorem allL_set{α:Type}{P:α→Prop}{l:List α}{i:Nat}{x:α}(h:Qu P l)(k:P x):Qu P (l.set i x):=⟨fun y hy=>(ZU hy).elim (h.all y) (fun e=>e▸k)⟩
theorem Qh6{α:Type}{P Q:α→Prop}{l:List α}(h:Qu P l)(k:∀x,P x→Q x):Qu Q l:=⟨fun x hx=>k x (h.all x hx)⟩
structure Jxs(B:Int)(c:Int×Int×Int):Prop where
 side:0≤c.2.1∧c.2.1≤1
 time:0≤c.1∧c.1≤B
instance wpSortF {l:List (Int×Int×Int)}:WP (Qi9 (fun x:Int×Int×Int=>x.1) l) (fun R=>(l.length≤1099511627776∧Qu (Jxs 12622780800) l)∧∀r,r.length=l.length→(∀P:Int×Int×Int→Prop,Qu P l→Qu P r)→R r):=⟨fun R h=>by
 obtain⟨⟨h1,h2⟩,hR⟩:=h
 have hk:l.all (fun x=>kOk x.1)=true:=QP.2 fun x hx=>by
  have:=(h2.all x hx).time
  unfold kOk
  simp only[QQ,decide_eq_true_eq]
  omega
 have he:∃r,Qi9 (fun x:Int×Int×Int=>x.1) l=some r:=by
  unfold Qi9
  rw[hk]
  have:decide (l.length<4611686018427387904)=true:=decide_eq_true (by omega)
  rw[this]
  simp only[Bool.and_self,cond_true]
  cases Nat.ble l.length 12&&Q93 (fun x:Int×Int×Int=>x.1) l<;>exact⟨_,rfl⟩
 obtain⟨r,e⟩:=he
 have hp:=(Qtu _ e).1
 exact⟨r,e,hR r hp.length_eq (fun P hP=>⟨fun x hx=>hP.all x (hp.mem_iff.1 hx)⟩)⟩⟩
theorem Jd6{β:Type}{c:Prop}[Decidable c]{a:Option Bool}{f:Bool→Option β}{A:(Bool→Prop)→Prop}{B C:(β→Prop)→Prop}[ha:WP a A][hb:WP (f true) B][hc:WP (f false) C] :
  WP ((if c then some true else a).bind f) (fun R=>(c→B R)∧(¬ c→A fun b=>(b=true→B R)∧(b=false→C R))):=⟨fun R h=>by
 by_cases h0:c
 ·rw[if_pos h0]; exact hb.spec R (h.1 h0)
 ·rw[if_neg h0]
  obtain⟨r,e,hr⟩:=ha.spec _ (h.2 h0)
  rw[e]
  cases r with
  | true=>exact hb.spec R (hr.1 rfl)
  | false=>exact hc.spec R (hr.2 rfl)⟩
theorem Jvm{β:Type}{c:Prop}[Decidable c]{a:Option Bool}{f:Bool→Option β}{A:(Bool→Prop)→Prop}{B C:(β→Prop)→Prop}[ha:WP a A][hb:WP (f true) B][hc:WP (f false) C] :
  WP ((if c then a else some false).bind f) (fun R=>(c→A fun b=>(b=true→B R)∧(b=false→C R))∧(¬ c→C R)):=⟨fun R h=>by
 by_cases h0:c
 ·rw[if_pos h0]
  obtain⟨r,e,hr⟩:=ha.spec _ (h.1 h0)
  rw[e]
  cases r with
  | true=>exact hb.spec R (hr.1 rfl)
  | false=>exact hc.spec R (hr.2 rfl)
 ·rw[if_neg h0]; exact hc.spec R (h.2 h0)⟩
instance (priority:=900) wpfOpt {α γ:Type} {f:Option α→Option γ} {A:α→(γ→Prop)→Prop} {B:(γ→Prop)→Prop} [ha:WPf (fun a=>f (some a)) A] [hb:WP (f none) B]:WPf f (fun s R=>(∀a,s=some a→A a R)∧(s=none→B R)):=⟨fun s R k=>by
 cases s with
 | some a=>exact ha.spec a R (k.1 a rfl)
 | none=>exact hb.spec R (k.2 rfl)⟩
theorem Jg4{α:Type}{o:Option α}(h:o=none):isNone o=true:=by rw[h]; rfl
theorem Jmz{W:Type}{key:Str}{v:W}{m:List (Str×W)}{C:Prop}(h:Qj (k:=.str) key (Jc (k:=.str) key v m:List (Str×W))=none):C:=by
 rw[Qyl]at h; exact absurd h (by simp)
instance wpSortZ {l:List Int}:WP (Jrn l) (fun R=>l.length≤1099511627776∧∀r,r.length=l.length→R r):=⟨fun R h=>by
 refine⟨Qcz l,?_,h.2 _ (Au l).length_eq⟩
 unfold Jrn
 rw[decide_eq_true (by omega)]; rfl⟩
instance wpCompactZ {l:List Int}:WP (Q45 l) (fun R=>l.length≤1099511627776∧∀r,r.length≤l.length→R r):=⟨fun R h=>by
 refine⟨Lib.compact l,?_,h.2 _ (Lib.compact_length_le l)⟩
 unfold Q45
 rw[decide_eq_true (by omega)]; rfl⟩
instance wpFiltZ {p:Int→Bool} {l:List Int}:WP (Jkv p l) (fun R=>l.length≤1099511627776∧∀r,r.length≤l.length→R r):=⟨fun R h=>by
 refine⟨l.filter fun x=>!p x,?_,h.2 _ (ZP _ _)⟩
 unfold Jkv
 rw[decide_eq_true (by omega)]; rfl⟩
def Q6e(K:Int):List Int→Prop
 | []=>True
 | a::l=>(0≤a∧a≤K)∧Q6e K l
theorem Q6f{K:Int}:∀{l:List Int},(∀y∈l,0≤y∧y≤K)→Q6e K l
 | [],_=>True.intro
 | a::l,h=>⟨h a (.head _),Q6f fun y hy=>h y (.tail _ hy)⟩
structure Qot(s:Int×Int×Int):Prop where
 upto:0≤s.1∧s.1≤1099511627776
 inc:1≤s.2.1∧s.2.1≤1099511627776
 price:0≤s.2.2∧s.2.2≤1125899906842624
theorem Jg5{s:Int×Int×Int}(h1:Q6e 1099511627776 [s.1,s.2.1])(h2:s.2.1≠0)(h3:Q6e 1125899906842624 [s.2.2]):Qot s:=⟨h1.1,⟨by have:=h1.2.1; omega,h1.2.1.2⟩,h3.1⟩
theorem Jm0(v a i:Int)(h1:1≤i)(h2:i≤1099511627776)(h3:a<v)(h4:0≤a)(h5:v≤2199023255552):IntKind.wrap .i64 (Int.tdiv (IntKind.wrap .i64 (IntKind.wrap .i64 (IntKind.wrap .i64 (v - a)+i) - 1)) i)≠0:=by
 rw[Q5 (n:=v - a) (by omega) (by omega),Q5 (n:=v - a+i) (by omega) (by omega),Q5 (n:=v - a+i - 1) (by omega) (by omega),QM (by omega)]
 have h6:1≤(v - a+i - 1) / i:=by
  rw[Int.le_ediv_iff_mul_le (by omega)]; omega
 have h7:(v - a+i - 1) / i≤v - a+i - 1:=Int.ediv_le_self _ (by omega)
 rw[Q5 (by omega) (by omega)]; omega
theorem Jxt{v a i:Int}(h:IntKind.wrap .i64 (Int.tdiv (IntKind.wrap .i64 (IntKind.wrap .i64 (IntKind.wrap .i64 (v - a)+i) - 1)) i)=0)(h1:1≤i∧i≤1099511627776)(h3:¬ v≤a)(h4:0≤a)(h5:v≤2199023255552):False:=Jm0 v a i h1.1 h1.2 (by omega) h4 h5 h
structure Jyn(b:Q7):Prop where
 ev:b.1.length≤32
 tarL:sz b.2.1≤4096
 tarS:Sh.sh b.2.1
 tarO:Qu A8 b.2.1
 prodL:b.2.2.1.length≤32
 prodS:sz b.2.2.1≤4096
 prodO:Qu (fun p:Qo=>p.2.2.2.2.2.length≤32) b.2.2.1
 hol:b.2.2.2.2.1.length≤4096
theorem Jal(y m:Int):28≤mon y m∧mon y m≤31:=by
 have:=Qu2 y
 unfold mon
 split
 ·omega
 ·split<;>omega
theorem Jm1(y m:Int)(h:1≤m∧m≤13):0≤lft y m∧lft y m≤366:=by
 have:=Qu2 y
 have hx:m=1∨m=2∨m=3∨m=4∨m=5∨m=6∨m=7∨m=8∨m=9∨m=10∨m=11∨m=12∨m=13:=by omega
 rcases hx with rfl | rfl | rfl | rfl | rfl | rfl | rfl | rfl | rfl | rfl | rfl | rfl | rfl<;>simp[lft]<;>omega
def em(M:Int):Int:=bef (2000+M / 12)+(365+lpd (2000+M / 12) - lft (2000+M / 12) (M % 12+1))
theorem Jxu{y m:Int}(h:1≤m∧m≤12):em (12*(y - 2000)+m - 1)=bef y+(365+lpd y - lft y m):=by
 unfold em
 have e1:2000+(12*(y - 2000)+m - 1) / 12=y:=by omega
 have e2:(12*(y - 2000)+m - 1) % 12+1=m:=by omega
 rw[e1,e2]
theorem Qrl{M:Int}(h:0≤M):em M+28≤em (M+1)∧em (M+1)≤em M+31:=by
 have h0:=Jal (2000+M / 12) (M % 12+1)
 have h1:=Qm1 (2000+M / 12) (M % 12+1) (by omega)
 unfold em
 by_cases hc:M % 12=11
 ·have e1:2000+(M+1) / 12=2000+M / 12+1:=by omega
  have e2:(M+1) % 12=0:=by omega
  have h2:=Qu3 (2000+M / 12) (by omega)
  have h3:=Jd5 (2000+M / 12+1)
  have h4:=Jak (2000+M / 12)
  rw[hc]at h0 h1 ⊢
  rw[e1,e2,h2]
  simp only[Int.zero_add]at *
  rw[h3]
  have e5:(11:Int)+1+1=13:=by decide
  rw[e5,h4]at h1
  omega
 ·have e1:(M+1) / 12=M / 12:=by omega
  have e2:(M+1) % 12+1=M % 12+1+1:=by omega
  rw[e1,e2]
  omega
theorem Jd7{a:Int}(h0:0≤a):∀k:Nat,em a+28*k≤em (a+k)∧em (a+k)≤em a+31*k
 | 0=>by simp
 | k+1=>by
  have ih:=Jd7 h0 k
  have:=Qrl (M:=a+k) (by omega)
  have e:a+((k+1:Nat):Int)=a+k+1:=by omega
  rw[e]; omega
theorem Jm2{a b:Int}(h0:0≤a)(h:a≤b):em a+28*(b - a)≤em b∧em b≤em a+31*(b - a):=by
 have:=Jd7 h0 (b - a).toNat
 have e:a+((b - a).toNat:Int)=b:=by omega
 rw[e]at this; omega
theorem Jxv:em 0=0:=by decide
theorem Jd8:em 4800=146097:=by decide
structure Qp3(a x r:Int):Prop where
 lo : -1≤r
 hi:r≤4799
 le:0≤r→em r+a - 1≤x / 86400
 lt:r<4799→x / 86400<em (r+1)+a - 1
theorem Jm3{y m d x a:Int}(hy:2000≤y∧y≤2399)(hm:1≤m∧m≤12)(hd:1≤d∧d≤mon y m)(hx:x / 86400=bef y+(365+lpd y - lft y m)+d - 1)(ha:1≤a∧a≤28) :
  (d<a→Qp3 a x (12*(y - 2000)+m - 1 - 1))∧(¬ d<a→Qp3 a x (12*(y - 2000)+m - 1)):=by
 have he:=Jxu (y:=y) (m:=m) hm
 obtain⟨M,hM⟩:∃M,M=12*(y - 2000)+m - 1:=⟨_,rfl⟩
 rw[←hM]at he ⊢
 have h0:0≤M∧M≤4799:=by omega
 refine⟨fun hc=>⟨by omega,by omega,fun h=>?_,fun h=>?_⟩,fun hc=>⟨by omega,by omega,fun h=>by omega,fun h=>?_⟩⟩
 ·have:=Qrl (M:=M - 1) (by omega)
  have e:M - 1+1=M:=by omega
  rw[e]at this; omega
 ·have e:M - 1+1=M:=by omega
  rw[e]; omega
 ·have h1:em (M+1)=em M+mon y m:=by
   have h1:=Qm1 y m hm
   have ey:y=2000+M / 12:=by omega
   have em':m=M % 12+1:=by omega
   unfold em
   by_cases hc:M % 12=11
   ·have e1:2000+(M+1) / 12=y+1:=by omega
    have e2:(M+1) % 12=0:=by omega
    have h2:=Qu3 y (by omega)
    have h3:=Jd5 (y+1)
    have h4:=Jak y
    have e5:m=12:=by omega
    rw[←em',←ey,e1,e2,h2]
    simp only[Int.zero_add]at *
    rw[h3]
    rw[e5]at h1 ⊢
    have e6:(12:Int)+1=13:=by decide
    rw[e6,h4]at h1
    omega
   ·have e1:2000+(M+1) / 12=y:=by omega
    have e2:(M+1) % 12+1=m+1:=by omega
    rw[←em',←ey,e1,e2]
    omega
  omega
def bgn(a M:Int):Int:=if M=4800 then 12622780800 else 86400*(em M+a - 1)
structure Jty(a v:Int)(p:Int×Int):Prop where
 fr:p.1=if v<0 then 0 else bgn a v
 to_:p.2=bgn a (v+1)
theorem Qu7{a M:Int}(ha:1≤a∧a≤28)(h0:0≤M)(h1:M≤4799):bgn a M<bgn a (M+1)∧bgn a (M+1)≤bgn a M+2678400:=by
 have h:=Qrl h0
 unfold bgn
 by_cases hc:M=4799
 ·subst hc
  have:=Jd8
  rw[if_neg (by decide),if_pos (by decide)]
  have e:(4799:Int)+1=4800:=by decide
  rw[e]at h
  omega
 ·rw[if_neg (by omega),if_neg (by omega)]
  omega
theorem Q08{a M K:Int}(ha:1≤a∧a≤28)(h0:0≤M)(h:M≤K)(h1:K≤4800):bgn a M≤bgn a K:=by
 have e:=Jm2 h0 h
 unfold bgn
 by_cases hc:K=4800
 ·subst hc
  have:=Jd8
  split
  ·exact JC _
  ·have:=Qrl h0
   have h2:=Jm2 (a:=M+1) (b:=4800) (by omega) (by omega)
   rw[if_pos rfl]; omega
 ·rw[if_neg (by omega),if_neg hc]; omega
structure Jg6(lo hi:Int)(p:Int×Int):Prop where
 fr:lo - 2678400≤p.1
 to_:p.2≤hi+2678400
theorem Jm4{a v x y m n:Int}{p:Int×Int}(ha:1≤a∧a≤28)(hx:0≤x)(hxy:x<y)(hy:y≤12622780800)(hp:Jty a v p)(hm:Qp3 a x m)(hn:Qp3 a (y - 1) n)(h1:m≤v)(h2:v≤n):Jg6 x y p:=by
 have hlo:=hm.lo; have hhi:=hn.hi
 refine⟨?_,?_⟩
 ·rw[hp.fr]
  split
  ·rename_i hv
   have hlt:=hm.lt (by omega)
   have e:m+1=0:=by omega
   rw[e,Jxv]at hlt
   omega
  ·have h3:x<bgn a (m+1)∨m=4799:=by
    by_cases hc:m<4799
    ·left
     have hlt:=hm.lt hc
     unfold bgn; rw[if_neg (by omega)]; omega
    ·right; have:=hm.hi; omega
   rcases h3 with h3 | h3
   ·by_cases hc:m<0
    ·have:=Q08 ha (M:=m+1) (K:=v) (by omega) (by omega) (by omega)
     omega
    ·have h4:=Qu7 ha (M:=m) (by omega) (by have:=hm.hi; omega)
     have h5:=Q08 ha (M:=m) (K:=v) (by omega) h1 (by omega)
     omega
   ·have h5:=Q08 ha (M:=m) (K:=v) (by omega) h1 (by omega)
    have h6:=hm.le (by omega)
    have h7:=Qu7 ha (M:=m) (by omega) (by omega)
    have h8:bgn a (m+1)=12622780800:=by unfold bgn; rw[h3]; rfl
    omega
 ·rw[hp.to_]
  by_cases hc:v<0
  ·have e:v+1=0:=by omega
   rw[e]
   have e0:bgn a 0=86400*(a - 1):=by unfold bgn; rw[if_neg (by decide),Jxv]; omega
   omega
  ·have h4:=Qu7 ha (M:=v) (by omega) (by omega)
   have h5:=Q08 ha (M:=v) (K:=n) (by omega) h2 (by omega)
   have h6:=hn.le (by omega)
   have h7:bgn a n≤y - 1:=by unfold bgn; rw[if_neg (by omega)]; omega
   omega
theorem Jm5{a x y m n:Int}(ha:1≤a∧a≤28)(hx:0≤x)(hxy:x<y)(hy:y≤12622780800)(hm:Qp3 a x m)(hn:Qp3 a (y - 1) n)(h:m≤n):n - m≤(y - x) / 2419200+2:=by
 have hlo:=hm.lo; have hhi:=hn.hi
 by_cases hc:m<n
 ·have h1:=hm.lt (by omega)
  have h2:=hn.le (by omega)
  have h3:=Jm2 (a:=m+1) (b:=n) (by omega) (by omega)
  omega
 ·omega
class Y4 where
 lo:Int
 hi:Int
 ge:0≤hi
 le:hi≤12622780801
 ok:hi - lo≤69206400
structure Aft[Y4](t:Int):Prop where
 c:Y4.lo≤t
abbrev Nr[Y4]:Int×Int→Prop:=Jg6 Y4.lo Y4.hi
structure Qiy[Y4](c:Int×Int×Int):Prop where
 side:0≤c.2.1∧c.2.1≤1
 time:Y4.lo - 2678400≤c.1∧c.1≤Y4.hi+2678400
 all:0≤c.1∧c.1≤12622780800
theorem Zj{α:Type}{P:α→Prop}{l:List α}{x:α}(hx:x∈l)(h:Qu P l):P x:=h.all x hx
theorem Q6g{α:Type}{P:α→Prop}{l m:List α}(h:Qu P m)(k:∀x∈l,x∈m):Qu P l:=⟨fun x hx=>h.all x (k x hx)⟩
theorem Jqg[Y4]{x y:Int}{l:List (Int×Int)}(h:Qu (Jg6 x y) l)(h1:Y4.lo≤x)(h2:y≤Y4.hi):Qu Nr l:=Qh6 h fun p hp=>⟨by have:=hp.fr; omega,by have:=hp.to_; omega⟩
theorem Jd9[Y4]{p:Int×Int}{k d:Int}{b:Bool}(h:Nr p)(v:b=true→0≤p.1∧p.1<p.2∧p.2≤12622780800)(hb:b=true)(h0:0≤k)(h1:k≤1):Qiy (p.1,k,d)∧Qiy (p.2,k,d):=by
 have a:=h.fr; have b:=h.to_; have v:=v hb
 exact⟨⟨⟨h0,h1⟩,⟨a,by simp only; omega⟩,by simp only; omega⟩,⟨⟨h0,h1⟩,⟨by simp only; omega,b⟩,by simp only; omega⟩⟩
theorem Jqh[Y4]{c:Int×Int×Int}(h:Qiy c):Nr (c.1,0):=⟨h.time.1,by have:=Y4.ge; simp only; omega⟩
theorem Jqi[Y4]{p:Int×Int}{c:Int×Int×Int}(h:Nr p)(k:Qiy c):Nr (p.1,c.1):=⟨h.fr,k.time.2⟩
theorem Jvn[Y4]{p:Int×Int}(h:Nr p):p.2 - p.1≤74563200:=by have:=h.fr; have:=h.to_; have:=Y4.ok; omega
instance wpCloneF {α:Type} {b:Nat} {l:List α}:WP (Ju b l) (fun R=>l.length*b≤140737488355328∧R l):=⟨fun R h=>⟨l,by
 unfold Ju app
 rw[if_pos (by simpa using h.1)]; rfl,h.2⟩⟩
instance wpCloneR {α:Type} {b:Nat} {l:List α}:WP (Qj8 b l) (fun R=>l.length*b≤140737488355328∧R (l,l)):=⟨fun R h=>⟨(l,l),by
 unfold Qj8 app
 rw[if_pos (by simpa using h.1)]; rfl,h.2⟩⟩
theorem Fh{α:Type}{l:List α}{i:Nat}{x y:α}(h:l[i]?=some x)(e:y=x):l.set i y=l:=by
 subst e
 exact JL fun j=>by
  rw[List.getElem?_set]
  split
  ·rename_i hj; subst hj
   have:=(List.getElem?_eq_some_iff.1 h).1
   rw[if_pos this,h]
  ·rfl
theorem Qdz{l:List Qa}{i:Nat}{x y:Qa}(hx:l[i]?=some x)(hy:l[i]?=some y):l.set i (y.1,y.2.1,y.2.2.1,y.2.2.2.1,y.2.2.2.2.1,x.2.2.2.2.2.1,y.2.2.2.2.2.2.1,y.2.2.2.2.2.2.2.1,y.2.2.2.2.2.2.2.2.1,y.2.2.2.2.2.2.2.2.2.1,y.2.2.2.2.2.2.2.2.2.2)=l:=by
 rw[hx]at hy
 rw[←Option.some.inj hy]
 exact Fh hx rfl
theorem Jqj(n:Int):IntKind.wrap .i64 n≤9223372036854775807:=by
 rw[Jfe]; split<;>omega
structure Lx(b:Q7):Prop where
 ev:b.1.length≤40
 tarL:sz b.2.1≤4096
 tarS:Sh.sh b.2.1
 tarO:Qu A8 b.2.1
 prodL:b.2.2.1.length≤40
 prodS:sz b.2.2.1≤4096
 prodO:Qu (fun p:Qo=>p.2.2.2.2.2.length≤40) b.2.2.1
 hol:b.2.2.2.2.1.length≤4096
set_option linter.defProp false
set_option maxRecDepth 100000
set_option maxHeartbeats 4000000
set_option synthInstance.maxSize 100000
set_option synthInstance.maxHeartbeats 1000000
variable {N:Nat} [Cm N]
@[reducible,instance] def Q71{x0 x1}{s}:=upL (N:=N) (s:=s) (Sf.eq_def N x0 x1) (fun t=>t) x0.length (fun t=>sz x0≤9223372036854775807) (fun r:((Int))=>0≤r∧r≤x0.length)
@[reducible,instance] def Jg7{x0 x1}:=mkW (O8.eq_1 N x0 x1) (sz x0≤1099511627776) (fun r=>sz r≤sz x0+1)
@[reducible,instance] def Q09{x0 x1}{s}:=upL (N:=N) (s:=s) (Lb.eq_def N x0 x1) (fun t=>t.1) x0.length (fun t=>sz x0≤1099511627776∧t.2.length≤t.1∧sz t.2≤(sz x0)) (fun r:(((List Str)))=>sz r≤(sz x0))
@[reducible,instance] def Q72{x0 x1}:=mkW (B0.eq_1 N x0 x1) (sz x0≤1099511627776) (fun r=>sz r≤(sz x0))
@[reducible,instance] def Jg8{x0 x1}:=mkW (O9.eq_1 N x0 x1) (sz x0≤1099511627776) (fun r=>r.2.2.2.2.1.length≤x0.2.2.2.2.1.length+1∧r.2.2.2.2.2.1.length≤x0.2.2.2.2.2.1.length+1)
@[reducible,instance] def Q1a[Y4]{x0 x1}{s}:=upL (N:=N) (s:=s) (Lc.eq_def N x0 x1) (fun t=>t.1) x0.length (fun t=>x0.length≤40∧t.2.1.length≤t.1∧sz t.2.1≤t.1∧sz t.2.2≤t.1∧Qu (fun m:Ql=>Aft m.1) x0∧Qu (fun m:Qm=>Aft m.1) t.2.1) (fun r:(((List Qm)))=>sz r≤40∧Qu (fun m:Qm=>Aft m.1) r) (step:=by
  intro s h h0 h1 h2 hw
  have g0:=h.2.2.2.2.1; have g1:=h.2.2.2.2.2; have g2:=(show 0<s.2.1.length→s.2.1.length≤40→IntKind.wrap .i64 ((s.2.1.length:Int) - 1)=(s.2.1.length:Int) - 1 from fun a b=>Q5 (by omega) (by omega))
  try simp only[sS,reduceCtorEq]at *
  repeat' (first | intro _ | apply And.intro)
  all_goals first | omega | (rw[g2 (by omega) (by omega)]; omega) | ((with_reducible refine allL_set g1 ?_); dsimp only; exact Zj (P:=fun m:Qm=>Aft m.1) (by assumption) g1) | (refine Qdx ?_ ?_<;>(try simp only[sz1,mx1])<;>(rw[hw (by omega)]; omega)) | ((with_reducible refine V8 g1 (K8 ?_)); exact Zj (P:=fun m:Ql=>Aft m.1) (by assumption) g0) | exact lv)
@[reducible,instance] def Q73[Y4]{x0 x1}:=mkW (B1.eq_1 N x0 x1) (x0.length≤40∧Qu (fun m:Ql=>Aft m.1) x0) (fun r=>sz r≤40∧Qu (fun m:Qm=>Aft m.1) r) (k:=by
  intro h
  try simp only[sS,reduceCtorEq]at *
  repeat' (first | intro _ | apply And.intro)
  all_goals first | ((repeat cases ‹_∧_›); first | assumption | exact Yz) | exact lv)
@[reducible,instance] def Q6h{x0 x1}{s}:=upL (N:=N) (s:=s) (Pa.eq_def N x0 x1) (fun t=>t) x0.2.2.2.2.2.1.length (fun t=>sz x0≤9223372036854775807∧sz x1≤9223372036854775807∧x0.2.2.2.2.2.1.length=x1.2.2.2.2.2.1.length) (fun r:((Unit)⊕(Bool))=>True)
@[reducible,instance] def Jea{x0 x1}:=mkW (L4.eq_1 N x0 x1) (sz x0≤9223372036854775807∧sz x1≤9223372036854775807) (fun r=>True)
@[reducible,instance] def Q6i{x0 x1}:=mkW (Ae.eq_1 N x0 x1) (sz x0≤9223372036854775807∧sz x1≤9223372036854775807) (fun r=>True)
@[reducible,instance] def Q6j{x0 x1}:=mkW (Af.eq_1 N x0 x1) (True) (fun r=>r=x0)
@[reducible,instance] def Qhl[Y4]{x0}{s}:=upL (N:=N) (s:=s) (U5.eq_def N x0) (fun t=>t.1) x0.length (fun t=>sz x0≤40∧t.2.length≤t.1∧sz t.2≤40∧Qu (fun m:Qm=>Aft m.1) x0∧Qu (fun m:Qm=>Aft m.1) t.2∧x0.length≤40) (fun r:(((List Qm)))=>sz r≤40∧Qu (fun m:Qm=>Aft m.1) r) (step:=by
  intro s h h0 h1 h2 hw
  try simp only[sS,reduceCtorEq]at *
  repeat' (first | intro _ | apply And.intro)
  all_goals first | ((repeat cases ‹_∧_›); first | assumption | exact allL_set (by assumption) (Zj (P:=fun m:Qm=>Aft m.1) (by assumption) (by assumption)) | exact V8 (by assumption) (K8 (Zj (P:=fun m:Qm=>Aft m.1) (by assumption) (by assumption)))) | exact lv)
@[reducible,instance] def Qjn[Y4]{x0}:=mkW (Vp.eq_1 N x0) (sz x0≤40∧Qu (fun m:Qm=>Aft m.1) x0) (fun r=>sz r≤40∧Qu (fun m:Qm=>Aft m.1) r) (k:=by
  intro h
  try simp only[sS,reduceCtorEq]at *
  repeat' (first | intro _ | apply And.intro)
  all_goals first | ((repeat cases ‹_∧_›); first | assumption | exact Yz) | exact lv)
@[reducible,instance] def Q2c[Y4]{r2}{s}:=upL (N:=N) (s:=s) (M2.eq_def N r2) (fun t=>t.1) r2.length (fun t=>sz r2≤40∧t.2.length≤t.1∧sz t.2≤40∧Qu (fun m:Qm=>Aft m.1) r2∧Qu (fun m:Vn=>Aft m.1.1) t.2∧r2.length≤40) (fun r:(((List Vn)))=>sz r≤40∧Qu (fun m:Vn=>Aft m.1.1) r) (step:=by
  intro s h h0 h1 h2 hw
  try simp only[sS,reduceCtorEq]at *
  repeat' (first | intro _ | apply And.intro)
  all_goals first | ((repeat cases ‹_∧_›); first | assumption | exact V8 (by assumption) (K8 (Zj (P:=fun m:Qm=>Aft m.1) (by assumption) (by assumption)))) | exact lv)
@[reducible,instance] def Jam[Y4]{x0 x1}:=mkW (Ed.eq_1 N x0 x1) (x0.length≤40∧Qu (fun m:Ql=>Aft m.1) x0) (fun r=>sz r≤40∧Qu (fun m:Vn=>Aft m.1.1) r) (k:=by
  intro h
  try simp only[sS,reduceCtorEq]at *
  repeat' (first | intro _ | apply And.intro)
  all_goals first | ((repeat cases ‹_∧_›); first | assumption | exact Yz) | exact lv)
@[reducible,instance] def Jg9{x0}:=mkW (Z3.eq_1 N x0) (True) (fun r=>r=true→0≤x0.1∧x0.1<x0.2∧x0.2≤12622780800)
@[reducible,instance] def Q74{x0 x1}:=mkW (Gz.eq_1 N x0 x1) (True) (fun r=>True)
@[reducible,instance] def Jeb{r1 x2}{s}:=upL (N:=N) (s:=s) (Qec.eq_def N r1 x2) (fun t=>t.1) r1.length (fun t=>sz r1≤9223372036854775807∧r1.length≤9223372036854775807) (fun r:((Qd×Str×Bool×Bool)⊕(Bool×Vn))=>sz r≤(sz r1))
@[reducible,instance] def Jm6[Y4]{x0 x1 x2}:=mkW (Ee.eq_1 N x0 x1 x2) (x0.length≤40∧Qu (fun m:Ql=>Aft m.1) x0) (fun r=>sz r≤40) (k:=by
  intro h
  try simp only[sS,reduceCtorEq]at *
  repeat' (first | intro _ | apply And.intro)
  all_goals first | ((repeat cases ‹_∧_›); first | assumption) | exact lv)
@[reducible,instance] def Jec{x0:Int}:WP (Ku N x0) (fun R=>(2000≤x0∧x0≤2400)∧∀r:Int,r=bef x0→R r):=Qhi fun h=>by
 obtain⟨h0,h1⟩:=h
 have e1:IntKind.wrap .i64 (x0 - 2000)=x0 - 2000:=Q5 (by omega) (by omega)
 have e2:IntKind.wrap .i64 (365*(x0 - 2000))=365*(x0 - 2000):=Q5 (by omega) (by omega)
 rw[Ku.eq_1,e1,e2]
 by_cases hc:x0 - 2000>0
 ·have e3:IntKind.wrap .i64 (x0 - 2000 - 1)=x0 - 2001:=by rw[Q5 (by omega) (by omega)]; omega
  rw[if_pos (by simpa using hc),e3,QM (by omega),QM (by omega),QM (by omega)]
  refine⟨_,rfl,?_⟩
  simp (disch:=omega) only [Q5]
  unfold bef
  rw[if_pos (by omega)]
  try omega
 ·rw[if_neg (by simpa using hc)]
  refine⟨_,rfl,?_⟩
  unfold bef
  rw[if_neg (by omega)]
  try omega
@[reducible,instance] def Qq2{x0:Int}:WP (Tv N x0) (fun R=>True∧∀r:Bool,lpd x0=(if r=true then 1 else 0)→R r):=Qhi fun h=>by
 refine⟨_,rfl,?_⟩
 unfold lpd
 simp only[JB,QQ,beq_iff_eq,bne_iff_ne,ne_eq]
@[reducible,instance] def Jh6{x0 x1:Int}:WP (Xe N x0 x1) (fun R=>(1≤x1∧x1≤12)∧∀r:Int,((28≤r∧r≤31)∧r=mon x0 x1)→R r):=Qhi fun h=>by
 have hx:x1=1∨x1=2∨x1=3∨x1=4∨x1=5∨x1=6∨x1=7∨x1=8∨x1=9∨x1=10∨x1=11∨x1=12:=by omega
 unfold mon
 rcases hx with rfl | rfl | rfl | rfl | rfl | rfl | rfl | rfl | rfl | rfl | rfl | rfl
 case inr.inl =>
  obtain⟨b,e,hb⟩:=(Qq2 (N:=N) (x0:=x0)).spec (fun b=>lpd x0=(if b=true then 1 else 0)) ⟨trivial,fun _ h=>h⟩
  rw[Xe.eq_1,e]
  cases b
  ·exact⟨28,rfl,by simp at hb; rw[hb]; decide⟩
  ·exact⟨29,rfl,by simp at hb; rw[hb]; decide⟩
 all_goals exact⟨_,rfl,by simp⟩
@[reducible,instance] def Jan{x0}{s}:=mkL (N:=N) (s:=s) (Qbh.eq_def N x0) (fun t=>(2400 - t.1).toNat) (fun t=>x0<146097∧2000≤t.1∧t.1≤2399∧bef t.1≤x0∧t.2.1=1∧t.2.2=0) (fun r:((Br))=>2000≤r.1∧r.1≤2399∧bef r.1≤x0∧x0<bef r.1+365+lpd r.1∧r.2.1=1) (step:=by
  intro s h
  have g0:=Qu3 s.1; have g1:=Jmy; have g2:=(show 2000≤s.1∧s.1≤2399→IntKind.wrap .i64 (s.1+1)=s.1+1 from fun a=>Q5 (by omega) (by omega))
  try simp only[sS,reduceCtorEq]at *
  repeat' (first | intro _ | apply And.intro)
  all_goals first | exact lv)
@[reducible,instance] def Jao{s}:=mkL (N:=N) (s:=s) (Qbi.eq_def N) (fun t=>(13 - t.2.2.1).toNat) (fun t=>0≤t.1∧t.1≤366∧1≤t.2.2.1∧t.2.2.1≤12∧2000≤t.2.1∧t.2.1≤2399∧t.1<lft t.2.1 t.2.2.1∧t.2.1=s.2.1∧s.1 - lft s.2.1 s.2.2.1=t.1 - lft t.2.1 t.2.2.1) (fun r:((Int×Br))=>0≤r.1∧r.1≤366∧2000≤r.2.1∧r.2.1≤2399∧1≤r.2.2.1∧r.2.2.1≤12∧r.2.1=s.2.1∧r.1 - lft r.2.1 r.2.2.1=s.1 - lft s.2.1 s.2.2.1∧r.1<mon r.2.1 r.2.2.1) (step:=by
  intro s h
  have g0:=Qu2 s.2.1; have g1:=Qm1 s.2.1 s.2.2.1; have g2:=Jak s.2.1; have g3:=(show 1≤s.2.2.1∧s.2.2.1≤12→IntKind.wrap .i64 (s.2.2.1+1)=s.2.2.1+1 from fun a=>Q5 (by omega) (by omega)); have g4:=(show ∀d:Int,0≤s.1∧s.1≤366→28≤d∧d≤31→IntKind.wrap .i64 (s.1 - d)=s.1 - d from fun d a b=>Q5 (by omega) (by omega))
  try simp only[sS,reduceCtorEq]at *
  repeat' (first | intro _ | apply And.intro)
  all_goals first | exact lv)
@[reducible,instance] def Qq3{x0}:=mkW (Tw.eq_1 N x0) (0≤x0∧x0<146097) (fun r=>(2000≤r.1∧r.1≤2399)∧(1≤r.2.1∧r.2.1≤12)∧(1≤r.2.2∧r.2.2≤mon r.1 r.2.1)∧x0=bef r.1+(365+lpd r.1 - lft r.1 r.2.1)+r.2.2 - 1) (k:=by
  intro h
  have g0:=Qu2; have g1:=Qu4; have g2:=Jd5; have g3:=(show 0≤x0∧x0<146097→IntKind.wrap .i64 (2000+IntKind.wrap .i64 (Int.tdiv x0 366))=2000+x0 / 366 from fun a=>by rw[QM (by omega),Q5 (n:=x0 / 366) (by omega) (by omega),Q5 (by omega) (by omega)]); have g4:=(show ∀y:Int,2000≤y→bef y≤x0→x0<146097→IntKind.wrap .i64 (x0 - bef y)=x0 - bef y from fun y a b c=>by have:=Qu4 y a; exact Q5 (by omega) (by omega)); have g5:=Jal; have g6:=(show ∀d:Int,0≤d∧d≤366→IntKind.wrap .i64 (d+1)=d+1 from fun d a=>Q5 (by omega) (by omega))
  try simp only[sS,reduceCtorEq]at *
  repeat' (first | intro _ | apply And.intro)
  all_goals first | exact lv)
@[reducible,instance] def Qou{x0 x1:Int}:WP (Ht N x0 x1) (fun R=>(0≤x1∧x1≤12622780799∧1≤x0∧x0≤28)∧∀r:Int,Qp3 x0 x1 r→R r):=Qhi fun h=>by
 obtain⟨h0,h1,h2,h3⟩:=h
 have e:IntKind.wrap .i64 (Int.tdiv x1 86400)=x1 / 86400:=by rw[QM (by omega),Q5 (by omega) (by omega)]
 obtain⟨w,ew,q1,q2,q3,q4⟩:=(Qq3 (N:=N) (x0:=x1 / 86400)).spec _ ⟨⟨by omega,by omega⟩,fun r h=>h⟩
 have k:=Jm3 (y:=w.1) (m:=w.2.1) (d:=w.2.2) (x:=x1) (a:=x0) q1 q2 q3 q4 ⟨h2,h3⟩
 have e1:IntKind.wrap .i64 (w.1 - 2000)=w.1 - 2000:=Q5 (by omega) (by omega)
 have e2:IntKind.wrap .i64 (12*(w.1 - 2000))=12*(w.1 - 2000):=Q5 (by omega) (by omega)
 have e3:IntKind.wrap .i64 (12*(w.1 - 2000)+w.2.1)=12*(w.1 - 2000)+w.2.1:=Q5 (by omega) (by omega)
 have e4:IntKind.wrap .i64 (12*(w.1 - 2000)+w.2.1 - 1)=12*(w.1 - 2000)+w.2.1 - 1:=Q5 (by omega) (by omega)
 have e5:IntKind.wrap .i64 (12*(w.1 - 2000)+w.2.1 - 1 - 1)=12*(w.1 - 2000)+w.2.1 - 1 - 1:=Q5 (by omega) (by omega)
 rw[Ht.eq_1,e,ew,QJ,e1,e2,e3,e4,e5]
 by_cases hc:w.2.2<x0
 ·rw[if_pos (by simpa using hc)]
  exact⟨_,rfl,k.1 hc⟩
 ·rw[if_neg (by simpa using hc)]
  exact⟨_,rfl,k.2 hc⟩
@[reducible,instance] def Jed{x0 x1}:=mkW (L7.eq_1 N x0 x1) (True) (fun r=>(r≠0→2000≤x0∧x0≤2399∧1≤x1∧x1≤12∧r≤31)∧(2000≤x0→x0≤2399→1≤x1→x1≤12→28≤r)∧(2399<x0→r=0))
@[reducible,instance] def Jee{x0}{s}:=upI (N:=N) (s:=s) (Qej.eq_def N x0) (fun t=>t.2) (x0.2.1) (fun t=>1≤t.2∧t.2≤x0.2.1∧x0.2.1≤12∧0≤t.1∧t.1≤150000+31*t.2∧t.1=s.1+(lft x0.1 s.2 - lft x0.1 t.2)) (fun r:((Int))=>r=s.1+(lft x0.1 s.2 - lft x0.1 x0.2.1)) (step:=by
  intro s h h0 hw
  have g0:=Qm1 x0.1 s.2; have g1:=Jm1 x0.1 s.2; have g2:=Jal x0.1 s.2; have g3:=(show ∀d:Int,0≤s.1→s.1≤200000→28≤d∧d≤31→IntKind.wrap .i64 (s.1+d)=s.1+d from fun d a b c=>Q5 (by omega) (by omega))
  try simp only[sS,reduceCtorEq]at *
  repeat' (first | intro _ | apply And.intro)
  all_goals first | exact lv)
attribute [local instance 1300] Jd6 in
@[reducible,instance] def Qu8{x0}:=mkW (Qc7.eq_1 N x0) (True) (fun r=>(2000≤x0.1→x0.1≤2399→1≤x0.2.1→x0.2.1≤12→1≤x0.2.2→x0.2.2≤28→r.2=0∧r.1=bef x0.1+(365+lpd x0.1 - lft x0.1 x0.2.1)+x0.2.2 - 1)∧(x0.1=2400→1≤x0.2.2→r.2≠0)) (k:=by
  intro h
  have g0:=Qu4; have g1:=(show 2000≤x0.1∧x0.1≤2399∧1≤x0.2.2∧x0.2.2≤31→IntKind.wrap .i64 (IntKind.wrap .i64 (bef x0.1+x0.2.2) - 1)=bef x0.1+x0.2.2 - 1 from fun a=>by have:=Qu4 x0.1 a.1; rw[Q5 (n:=bef x0.1+x0.2.2) (by omega) (by omega),Q5 (by omega) (by omega)]); have g2:=Jd5 x0.1
  try simp only[sS,reduceCtorEq]at *
  repeat' (first | intro _ | apply And.intro)
  all_goals first | exact lv)
@[reducible,instance] def Jha{x0 x1:Int}:WP (Hu N x0 x1) (fun R=>((0≤x1∧x1≤4800)∧1≤x0∧x0≤28)∧∀r:Int,r=bgn x0 x1→R r):=Qhi fun h=>by
 obtain⟨⟨h0,h1⟩,h2,h3⟩:=h
 have e:IntKind.wrap .i64 (2000+IntKind.wrap .i64 (Int.tdiv x1 12))=2000+x1 / 12:=by rw[QM (by omega),Q5 (n:=x1 / 12) (by omega) (by omega),Q5 (by omega) (by omega)]
 have e2:IntKind.wrap .i64 (Int.tmod x1 12+1)=x1 % 12+1:=by rw[JF (by omega),Q5 (by omega) (by omega)]
 obtain⟨w,ew,q1,q2⟩:=(Qu8 (N:=N) (x0:=(2000+x1 / 12,x1 % 12+1,x0))).spec _ ⟨trivial,fun r h=>h⟩
 rw[Hu.eq_1,e,e2,ew,QJ]
 unfold bgn
 by_cases hc:x1=4800
 ·subst hc
  rw[if_pos (by simpa using q2 rfl h2),if_pos rfl]; exact⟨_,rfl,rfl⟩
 ·have q:=q1 (by simp only; omega) (by simp only; omega) (by simp only; omega) (by simp only; omega) h2 h3
  have hb:=Qu4 (2000+x1 / 12) (by omega)
  have hl:=Jm1 (2000+x1 / 12) (x1 % 12+1) (by omega)
  have hp:=Qu2 (2000+x1 / 12)
  simp only at q
  rw[if_neg (by simp[q.1]),if_neg hc]
  refine⟨_,rfl,?_⟩
  rw[q.2]
  unfold em
  rw[Q5 (by omega) (by omega)]
  omega
@[reducible,instance] def Jhb{x0 x1}:=mkW (Pi.eq_1 N x0 x1) (-1≤x1∧x1≤4799∧1≤x0∧x0≤28) (fun r=>Jty x0 x1 r) (k:=by
  intro h
  have g0:=(show -1≤x1∧x1≤4799→IntKind.wrap .i64 (x1+1)=x1+1 from fun a=>Q5 (by omega) (by omega))
  try simp only[sS,reduceCtorEq]at *
  repeat' (first | intro _ | apply And.intro)
  all_goals first | (refine⟨?_,?_⟩<;>grind) | exact lv)
@[reducible] def Qhm{N:Nat}[Cm N]{x0 m:Int}{x1:Int×Int}(ha:1≤x0∧x0≤28)(hx:0≤x1.1∧x1.1<x1.2∧x1.2≤12622780800)(hm:Qp3 x0 x1.1 m)(s:Int×List (Int×Int)) :=
 mkL (N:=N) (s:=s) (Pj.eq_def N x0 x1) (fun t=>(4801 - t.1).toNat) (fun t=>m≤t.1∧t.1≤4800∧(t.2.length:Int)=t.1 - m∧Qu (Jg6 x1.1 x1.2) t.2∧(t.2.length:Int)≤(x1.2 - x1.1) / 2419200+3) (fun r:List (Int×Int)=>(r.length:Int)≤(x1.2 - x1.1) / 2419200+3∧Qu (Jg6 x1.1 x1.2) r) (hμ:=fun t h=>by have:=hm.lo; have:=h.1; omega) (step:=by
  intro t h
  obtain⟨h1,h2,h3,h4,h5⟩:=h
  have e1:IntKind.wrap .i64 (x1.2 - 1)=x1.2 - 1:=Q5 (by omega) (by omega)
  have hlo:=hm.lo
  have e2:IntKind.wrap .i64 (t.1+1)=t.1+1:=Q5 (by omega) (by omega)
  rw[e1,e2]
  refine⟨⟨by omega,by omega,ha.1,ha.2⟩,fun n hn=>⟨fun hc=>?_,fun hc=>⟨h5,h4⟩⟩⟩
  have hc:=of_decide_eq_true hc
  have hh:=hn.hi
  have q:=Jm5 ha hx.1 hx.2.1 hx.2.2 hm hn (by omega)
  refine⟨⟨by omega,by omega,ha.1,ha.2⟩,fun p hp=>⟨?_,?_⟩⟩
  ·rw[XL]; omega
  ·refine⟨⟨by simp only; omega,by simp only; omega,by simp only[List.length_append,XL]; omega,?_,by simp only[List.length_append,XL]; omega⟩,by simp only; omega⟩
   exact V8 h4 (K8 (Jm4 ha hx.1 hx.2.1 hx.2.2 hp hm hn h1 hc)))
@[reducible,instance] def Jef{x0:Int}{x1:Int×Int}:WP (Gf N x0 x1) (fun R=>True∧∀r:List (Int×Int),((r.length:Int)≤max 0 ((x1.2 - x1.1) / 2419200+3)∧r.length≤30000∧Qu (Jg6 x1.1 x1.2) r)→R r):=Qhi fun _=>by
 rw[Gf.eq_1]
 by_cases hc:(((((decide (x0<1))||(decide (x0>28)))||(decide (x1.1<0)))||(decide (x1.1≥x1.2)))||(decide (x1.2>12622780800)))=true
 ·rw[if_pos hc]
  exact⟨_,rfl,by simp only[JX]; omega,by simp,Yz⟩
 ·rw[if_neg hc]
  simp only[Bool.not_eq_true,JT,decide_eq_false_iff_not]at hc
  obtain⟨m,em,hm⟩:=(Qou (N:=N) (x0:=x0) (x1:=x1.1)).spec _ ⟨⟨by omega,by omega,by omega,by omega⟩,fun r h=>h⟩
  have hlo:=hm.lo; have hhi:=hm.hi
  obtain⟨r,er,h1,h2⟩:=(Qhm (N:=N) (x0:=x0) (x1:=x1) ⟨by omega,by omega⟩ ⟨by omega,by omega,by omega⟩ hm (m,[])).spec _ ⟨⟨JC _,by simp only; omega,by simp,Yz,by simp only[JX]; omega⟩,fun r h=>h⟩
  rw[em,QJ,er]
  exact⟨r,rfl,by omega,by omega,h2⟩
@[reducible,instance] def Qym{x0 ce}{s}:=upL (N:=N) (s:=s) (C6.eq_def N x0 ce) (fun t=>t) x0.2.2.1.length (fun t=>sz x0≤40) (fun r:((Unit)⊕(Bool))=>True)
@[reducible,instance] def Q6k{x0 ce}:=mkW (Ag.eq_1 N x0 ce) (sz x0≤40) (fun r=>True)
@[reducible,instance] def Q6l{x0 x1}:=mkW (Ah.eq_1 N x0 x1) (True) (fun r=>True)
@[reducible,instance] def Q6m{x0 x1}:=mkW (Ai.eq_1 N x0 x1) (True) (fun r=>r=(x0.1,x1.2))
@[reducible,instance] def Qm2[Y4]{x0}{s}:=upL (N:=N) (s:=s) (Xz.eq_def N x0) (fun t=>t.1) x0.length (fun t=>x0.length≤40∧t.2.length≤t.1∧Qu (fun m:Qd=>Aft m.1) x0∧Qu (fun m:Qd=>Aft m.1) t.2) (fun r:(((List Qd)))=>r.length≤40∧Qu (fun m:Qd=>Aft m.1) r) (step:=by
  intro s h h0 h1 h2 hw
  try simp only[sS,reduceCtorEq]at *
  repeat' (first | intro _ | apply And.intro)
  all_goals first | ((repeat cases ‹_∧_›); first | assumption | ((with_reducible refine allL_set (by assumption) ?_); dsimp only; exact Zj (P:=fun m:Qd=>Aft m.1) (by assumption) (by assumption)) | exact V8 (by assumption) (K8 (Zj (P:=fun m:Qd=>Aft m.1) (by assumption) (by assumption)))) | exact lv)
@[reducible,instance] def Qp4[Y4]{x0}:=mkW (Ze.eq_1 N x0) (x0.length≤40∧Qu (fun m:Qd=>Aft m.1) x0) (fun r=>r.length≤40∧Qu (fun m:Qd=>Aft m.1) r) (k:=by
  intro h
  try simp only[sS,reduceCtorEq]at *
  repeat' (first | intro _ | apply And.intro)
  all_goals first | ((repeat cases ‹_∧_›); first | assumption | exact Yz) | exact lv)
@[reducible,instance] def Q2d[Y4]{r1 ce}{s}:=upL (N:=N) (s:=s) (M4.eq_def N r1 ce) (fun t=>t.1) r1.length (fun t=>sz r1≤40∧t.2.length≤t.1∧Qu (fun m:Vn=>Aft m.1.1) r1∧Qu (fun m:Qd=>Aft m.1) t.2∧r1.length≤40) (fun r:(((List Qd)))=>r.length≤40∧Qu (fun m:Qd=>Aft m.1) r) (step:=by
  intro s h h0 h1 h2 hw
  try simp only[sS,reduceCtorEq]at *
  repeat' (first | intro _ | apply And.intro)
  all_goals first | ((repeat cases ‹_∧_›); first | assumption | exact V8 (by assumption) (K8 (Zj (P:=fun m:Vn=>Aft m.1.1) (by assumption) (by assumption)))) | exact lv)
@[reducible,instance] def Jap[Y4]{x0 x1 ce}:=mkW (Dz.eq_1 N x0 x1 ce) (x0.length≤40∧Qu (fun m:Ql=>Aft m.1) x0) (fun r=>r.length≤40∧Qu (fun m:Qd=>Aft m.1) r) (k:=by
  intro h
  try simp only[sS,reduceCtorEq]at *
  repeat' (first | intro _ | apply And.intro)
  all_goals first | ((repeat cases ‹_∧_›); first | assumption | exact Yz) | exact lv)
@[reducible,instance] def Jaq[Y4]{x0 x1 x2}:=mkW (D1.eq_1 N x0 x1 x2) (x0.length≤40∧Qu (fun m:Ql=>Aft m.1) x0) (fun r=>r.length≤40∧Qu (fun m:Qd=>Aft m.1) r) (k:=by
  intro h
  try simp only[sS,reduceCtorEq]at *
  repeat' (first | intro _ | apply And.intro)
  all_goals first | ((repeat cases ‹_∧_›); first | assumption | exact Yz) | exact lv)
@[reducible,instance] def Jh7{x0 x1}:=mkW (Tu.eq_1 N x0 x1) (True) (fun r=>True)
@[reducible,instance] def Q6n{v17 x1 x21 r53}{s}:=upL (N:=N) (s:=s) (Pg.eq_def N v17 x1 x21 r53) (fun t=>t) v17.length (fun t=>v17.length≤40) (fun r:((Int))=>0≤r∧r≤v17.length)
@[reducible,instance] def Q6o{x0 x1}:=mkW (W5.eq_1 N x0 x1) (True) (fun r=>r.2=true→r.1.1<r.1.2∧0≤r.1.1∧r.1.2≤x0.2∧r.1.2≤x1.2∧(r.2=true→x0.1≤r.1.1))
@[reducible,instance] def Q6p[Y4]{x0 ce cd cj}:=mkW (Aj.eq_1 N x0 ce cd cj) (0≤ce∧ce<Y4.hi∧Aft x0.1∧cd.length≤51200∧Qu Nr cd) (fun r=>(r.length:Int)≤cd.length+32∧Qu Nr r) (k:=by
  intro h
  have g0:=(show 0≤ce∧ce≤12622780800→IntKind.wrap .i64 (ce+1)=ce+1 from fun a=>Q5 (by omega) (by omega)); have g1:=(Y4.ok); have g2:=(Y4.le); have g3:=h.2.2.1.c; have g4:=h.2.2.2.2
  try simp only[sS,reduceCtorEq]at *
  repeat' (first | intro _ | apply And.intro)
  all_goals first | exact V8 g4 (Jqg (And.right (And.right (by assumption))) (by grind) (by grind)) | exact lv)
@[reducible,instance] def Qyn[Y4]{x0 x1}{s}:=upL (N:=N) (s:=s) (C7.eq_def N x0 x1) (fun t=>t.1) x0.length (fun t=>x0.length≤51200∧Qu Nr x0∧0≤x1∧x1≤1∧s.2.length≤102400∧0≤s.1∧t.2.length≤s.2.length+2*(t.1 - s.1)∧Qu Qiy t.2) (fun r:(((List Q8)))=>r.length≤s.2.length+2*x0.length∧Qu Qiy r) (step:=by
  intro s h h0 h1 h2 hw
  try simp only[sS,reduceCtorEq]at *
  repeat' (first | intro _ | apply And.intro)
  all_goals first | ((repeat cases ‹_∧_›); have q:=fun d=>Jd9 (k:=x1) (d:=d) (Zj (P:=Nr) (by assumption) (by assumption)) (by assumption) (by assumption) (by assumption) (by assumption); exact V8 (by assumption) (Q6d (q 1).1 (q (-1)).2)) | exact lv)
@[reducible,instance] def Q6q[Y4]{x0 x1 c7}:=mkW (Ak.eq_1 N x0 x1 c7) (x0.length≤51200∧Qu Nr x0∧0≤x1∧x1≤1∧c7.length≤102400∧Qu Qiy c7) (fun r=>r.length≤c7.length+2*x0.length∧Qu Qiy r)
@[reducible,instance] def Qu9[Y4]{x0 x1}{s}:=upL (N:=N) (s:=s) (E5.eq_def N x0 x1) (fun t=>t.1) x0.length (fun t=>x0.length≤51200∧Qu Nr x0∧0≤x1∧x1≤1∧s.2.length≤102400∧0≤s.1∧t.2.length≤s.2.length+2*(t.1 - s.1)∧Qu Qiy t.2) (fun r:(((List Q8)))=>r.length≤s.2.length+2*x0.length∧Qu Qiy r) (step:=by
  intro s h h0 h1 h2 hw
  try simp only[sS,reduceCtorEq]at *
  repeat' (first | intro _ | apply And.intro)
  all_goals first | ((repeat cases ‹_∧_›); have q:=fun d=>Jd9 (k:=x1) (d:=d) (Zj (P:=Nr) (by assumption) (by assumption)) (by assumption) (by assumption) (by assumption) (by assumption); exact V8 (by assumption) (Q6d (q 1).1 (q (-1)).2)) | exact lv)
@[reducible,instance] def Qyo[Y4]{x0 x1 c7}:=mkW (Gm.eq_1 N x0 x1 c7) (x0.length≤51200∧Qu Nr x0∧0≤x1∧x1≤1∧c7.length≤102400∧Qu Qiy c7) (fun r=>r.length≤c7.length+2*x0.length∧Qu Qiy r)
@[reducible,instance] def Jar{x0 x1}:=mkW (D2.eq_1 N x0 x1) (True) (fun r=>True)
@[reducible,instance] def Q2e[Y4]{r3}{s}:=upL (N:=N) (s:=s) (M5.eq_def N r3) (fun t=>t.2.1) r3.length (fun t=>r3.length≤204800∧Qu Qiy r3∧t.2.2.2.length=2∧t.2.2.1.length≤t.2.1∧(t.1=true→1≤t.2.2.1.length)∧Qu Nr t.2.2.1) (fun r:(((List Qd)))=>r.length≤204800∧Qu Nr r) (step:=by
  intro s h h0 h1 h2 hw
  have g0:=h.2.1; have g1:=h.2.2.2.2.2; have g2:=(show ∀c∈r3,0≤c.2.1∧c.2.1≤1 from fun c hc=>(h.2.1.all c hc).side); have g3:=(show s.2.2.1.length≤204800→1≤s.2.2.1.length→IntKind.wrap .i64 ((s.2.2.1.length:Int) - 1)=(s.2.2.1.length:Int) - 1 from fun a b=>Q5 (by omega) (by omega))
  try simp only[sS,reduceCtorEq]at *
  repeat' (first | intro _ | apply And.intro)
  all_goals first | assumption | exact(g2 _ (by assumption)).1 | exact Int.lt_of_le_of_lt (g2 _ (by assumption)).2 (by omega) | exact V8 (by assumption) (K8 (Jqh (Zj (by assumption) g0))) | exact allL_set (by assumption) (Jqi (Zj (P:=Nr) (by assumption) (by assumption)) (Zj (P:=Qiy) (by assumption) g0)) | exact lv)
@[reducible,instance] def Jas[Y4]{x0 x1}:=mkW (D3.eq_1 N x0 x1) (x0.length≤51200∧Qu Nr x0∧x1.length≤51200∧Qu Nr x1) (fun r=>r.length≤204800∧Qu Nr r) (k:=by
  intro h
  try simp only[sS,reduceCtorEq]at *
  repeat' (first | intro _ | apply And.intro)
  all_goals first | exact Yz | exact Qh6 (P:=Qiy) (by grind) (fun c h=>⟨h.side,h.all⟩) | exact lv)
@[reducible,instance] def Jhc[Y4]{x0}:=mkW (Pk.eq_1 N x0) (x0.length≤51200∧Qu Nr x0) (fun r=>r.length≤204800∧Qu Nr r) (k:=by
  intro h
  try simp only[sS,reduceCtorEq]at *
  repeat' (first | intro _ | apply And.intro)
  all_goals first | exact Yz | exact Qh6 (P:=Qiy) (by grind) (fun c h=>⟨h.side,h.all⟩) | exact lv)
@[reducible,instance] def Jat[Y4]{x22}{s}:=upL (N:=N) (s:=s) (Qbj.eq_def N x22) (fun t=>t.1) x22.2.2.2.length (fun t=>x22.2.2.2.length≤40∧0≤t.2.2.1∧t.2.2.1<Y4.hi∧0≤s.1∧s.2.2.2.length≤49920∧t.2.2.2.length≤s.2.2.2.length+32*(t.1 - s.1)∧Qu Nr t.2.2.2∧t.2.2.1=s.2.2.1∧Qu (fun m:Qd=>Aft m.1) x22.2.2.2) (fun r:((Int×Int×(List Qd)))=>r.2.1=s.2.2.1∧r.2.2.length≤s.2.2.2.length+1280∧Qu Nr r.2.2) (step:=by
  intro s h h0 h1 h2 hw
  try simp only[sS,reduceCtorEq]at *
  repeat' (first | intro _ | apply And.intro)
  all_goals first | ((repeat cases ‹_∧_›); first | assumption | omega | exact Zj (P:=fun m:Qd=>Aft m.1) (by assumption) (by assumption)) | exact lv)
@[reducible,instance] def Jau[Y4]{x0}{s}:=upL (N:=N) (s:=s) (Qbk.eq_def N x0) (fun t=>t.1) x0.length (fun t=>sz x0≤40∧0≤t.2.2.1∧t.2.2.1<Y4.hi∧t.2.2.2.length≤1280*t.1∧Qu Nr t.2.2.2∧Qu (fun h:Qz=>Qu (fun m:Qd=>Aft m.1) h.2.2.2) x0∧x0.length≤40) (fun r:((Int×(List Qd)))=>r.2.length≤51200∧Qu Nr r.2) (step:=by
  intro s h h0 h1 h2 hw
  try simp only[sS,reduceCtorEq]at *
  repeat' (first | intro _ | apply And.intro)
  all_goals first | ((repeat cases ‹_∧_›); first | assumption | omega | exact Yz | exact Zj (P:=fun h:Qz=>Qu (fun m:Qd=>Aft m.1) h.2.2.2) (by assumption) (by assumption)) | exact lv)
@[reducible,instance] def Jav[Y4]{r35 v33}{s}:=upL (N:=N) (s:=s) (Qbl.eq_def N r35 v33) (fun t=>t.1) r35.length (fun t=>r35.length≤204800∧Qu Nr r35∧t.2.length≤35*t.1) (fun r:(((List Qd)))=>r.length≤7168000) (step:=by
  intro s h h0 h1 h2 hw
  have g0:=(fun p (hp:p∈r35)=>Jvn (h.2.1.all p hp):∀p∈r35,p.2 - p.1≤74563200)
  try simp only[sS,reduceCtorEq]at *
  repeat' (first | intro _ | apply And.intro)
  all_goals first | exact lv)
@[reducible,instance] def Jh8[Y4]{x0 x1 x2}:=mkW (Tx.eq_1 N x0 x1 x2) (sz x0≤40∧0≤x2∧x2<Y4.hi∧Qu (fun h:Qz=>Qu (fun m:Qd=>Aft m.1) h.2.2.2) x0) (fun r=>r.length≤7168000) (k:=by
  intro h
  try simp only[sS,reduceCtorEq]at *
  repeat' (first | intro _ | apply And.intro)
  all_goals first | exact Yz | exact lv)
@[reducible,instance] def Q6r[Y4]{x0 x1}{s}:=upL (N:=N) (s:=s) (Ph.eq_def N x0 x1) (fun t=>t.1) x0.length (fun t=>x0.length≤40∧t.2.2.2.length≤t.1∧sz t.2.2.2≤40∧Qu (fun m:Ql=>Aft m.1) x0∧Qu (fun h:Qz=>Qu (fun m:Qd=>Aft m.1) h.2.2.2) t.2.2.2) (fun r:(((List Qz)))=>sz r≤40∧Qu (fun h:Qz=>Qu (fun m:Qd=>Aft m.1) h.2.2.2) r) (step:=by
  intro s h h0 h1 h2 hw
  try simp only[sS,reduceCtorEq]at *
  repeat' (first | intro _ | apply And.intro)
  all_goals first | ((repeat cases ‹_∧_›); first | assumption | exact Qjm _ | exact Jg4 (by assumption) | exact Jmz (by assumption) | ((with_reducible refine V8 (V8 (Q6g (by assumption) (by assumption)) (K8 ?_)) (Q6g (by assumption) (by assumption))); dsimp only; assumption)) | exact lv)
@[reducible,instance] def Jeg[Y4]{x0 x1}:=mkW (L6.eq_1 N x0 x1) (x0.length≤40∧Qu (fun m:Ql=>Aft m.1) x0) (fun r=>sz r≤40∧Qu (fun h:Qz=>Qu (fun m:Qd=>Aft m.1) h.2.2.2) r) (k:=by
  intro h
  try simp only[sS,reduceCtorEq]at *
  repeat' (first | intro _ | apply And.intro)
  all_goals first | ((repeat cases ‹_∧_›); first | assumption | exact Yz) | exact lv)
@[reducible,instance] def Jm7{x0 ce c7}:=mkW (Qc8.eq_1 N x0 ce c7) (True) (fun r=>True)
@[reducible,instance] def Qm7{x0 ce c7}{s}:=upL (N:=N) (s:=s) (Wj.eq_def N x0 ce c7) (fun t=>t.1) x0.length (fun t=>x0.length≤40∧sz x0≤4096∧Qu (fun p:Qo=>p.2.2.2.2.2.length≤40) x0∧t.2.length≤t.1∧sz t.2≤4096∧Qu (fun p:Qo=>p.2.2.2.2.2.length≤40) t.2∧x0.length≤4096) (fun r:(((List Qo)))=>r.length≤40∧sz r≤4096∧Qu (fun p:Qo=>p.2.2.2.2.2.length≤40) r) (step:=by
  intro s h h0 h1 h2 hw
  try simp only[sS,reduceCtorEq]at *
  repeat' (first | intro _ | apply And.intro)
  all_goals first | exact Yz | exact V8 (by grind) (K8 (by grind [Qu.all])) | exact lv)
@[reducible,instance] def Qq4{x0 ce c7}:=mkW (Z4.eq_1 N x0 ce c7) (x0.length≤40∧sz x0≤4096∧Qu (fun p:Qo=>p.2.2.2.2.2.length≤40) x0) (fun r=>r.length≤40∧sz r≤4096∧Qu (fun p:Qo=>p.2.2.2.2.2.length≤40) r) (k:=by
  intro h
  try simp only[sS,reduceCtorEq]at *
  repeat' (first | intro _ | apply And.intro)
  all_goals first | exact Yz | exact lv)
@[reducible,instance] def Jaw{x0}{s}:=upL (N:=N) (s:=s) (Qbm.eq_def N x0) (fun t=>t.1) x0.2.2.2.2.2.length (fun t=>x0.2.2.2.2.2.length≤40∧sz x0≤4096∧t.2=x0.2.2.2.2.2.take t.1.toNat) (fun r:(((List Yk)))=>r=x0.2.2.2.2.2) (step:=by
  intro s h h0 h1 h2 hw
  try simp only[sS,reduceCtorEq]at *
  repeat' (first | intro _ | apply And.intro)
  all_goals first | grind [Ic,Rj,A8.deep] | exact lv)
@[reducible,instance] def Jh9{x0}:=mkW (Tz.eq_1 N x0) (x0.2.2.2.2.2.length≤40∧sz x0≤4096) (fun r=>r=x0)
@[reducible,instance] def Jqk{x0 x1 x2}:=mkW (Qkg.eq_1 N x0 x1 x2) (x0.length≤40∧sz x0≤4096∧Qu (fun p:Qo=>p.2.2.2.2.2.length≤40) x0) (fun r=>r.2.2.2.2.2.2.length≤40∧sz r.2.2.2.2.2.2≤4096) (k:=by
  intro h
  have g0:=(fun p l hp q=>q.all p hp:∀(p:Qo) (l:List Qo),p∈l→Qu (fun p:Qo=>p.2.2.2.2.2.length≤40) l→p.2.2.2.2.2.length≤40)
  try simp only[sS,reduceCtorEq]at *
  repeat' (first | intro _ | apply And.intro)
  all_goals first | assumption | omega | ((simp (disch:=omega) only [Q5]at *)<;>omega) | exact g0 _ _ (by assumption) (And.right (And.right (by assumption))) | exact lv)
@[reducible,instance] def Qvm{r12 x0 r4}{s}:=upL (N:=N) (s:=s) (A1.eq_def N r12 x0 r4) (fun t=>t.1) r12.length (fun t=>r12.length≤40∧sz r12≤4096∧t.2.length≤t.1∧sz t.2≤4096∧r12.length≤4096) (fun r:(((List Yq)))=>r.length≤40∧sz r≤4096)
@[reducible,instance] def Qvn{x0 x2 x1}{s}:=upL (N:=N) (s:=s) (A3.eq_def N x0 x2 x1) (fun t=>t) x0.2.2.2.length (fun t=>x0.2.2.2.length≤40∧x1.length≤40∧sz x1≤4096∧Qu (fun p:Qo=>p.2.2.2.2.2.length≤40) x1∧x1.length≤4096) (fun r:((Unit)⊕((List Yq)))=>∀t,r=.inr t→t.length≤40∧sz t≤4096)
@[reducible,instance] def Q1b{x0 x1 x2}:=mkW (Hv.eq_1 N x0 x1 x2) (sz x0≤40∧x1.length≤40∧sz x1≤4096∧Qu (fun p:Qo=>p.2.2.2.2.2.length≤40) x1) (fun r=>r.length≤40∧sz r≤4096)
@[reducible,instance] def Q6s{x0}{s}:=upL (N:=N) (s:=s) (Pl.eq_def N x0) (fun t=>t.1) x0.length (fun t=>sz x0≤1000000000000∧t.2=x0.take t.1.toNat∧x0.length≤1000000000000) (fun r:(((List Qa)))=>r=x0) (step:=by
  intro s h h0 h1 h2 hw
  try simp only[sS,reduceCtorEq]at *
  repeat' (first | intro _ | apply And.intro)
  all_goals first | grind [Ic,Rj,A8.deep] | exact lv)
@[reducible,instance] def Jeh{x0}:=mkW (L8.eq_1 N x0) (sz x0≤1000000000000) (fun r=>r=x0)
@[reducible,instance] def Jia{x0}:=mkW (T1.eq_1 N x0) (sz x0≤1000000000000) (fun r=>r=x0)
@[reducible,instance] def Q75{x0 x1 x2}{s}:=upL (N:=N) (s:=s) (Sm.eq_def N x0 x1 x2) (fun t=>t) x0.length (fun t=>x0.length≤40) (fun r:((Unit)⊕(Bool))=>True)
@[reducible,instance] def Jhd{x0 x1 x2}:=mkW (Pm.eq_1 N x0 x1 x2) (x0.length≤40) (fun r=>True)
@[reducible,instance] def Q76{x0}{s}:=upL (N:=N) (s:=s) (Sn.eq_def N x0) (fun t=>t.1) x0.length (fun t=>x0.length≤1000000000000∧Qu6 t.2 x0.length) (fun r:(((List (Int×Int))))=>Qu6 r x0.length) (step:=by
  intro s h h0 h1 h2 hw
  try simp only[sS,reduceCtorEq]at *
  repeat' (first | intro _ | apply And.intro)
  all_goals first | exact Qyi | exact Qyj (by grind) (by omega) (by omega) | exact lv)
@[reducible,instance] def Jhe{x0}:=mkW (Pn.eq_1 N x0) (x0.length≤1000000000000) (fun r=>Qu6 r x0.length) (k:=by
  intro h
  try simp only[sS,reduceCtorEq]at *
  repeat' (first | intro _ | apply And.intro)
  all_goals first | exact Qyi | exact Qyj (by grind) (by omega) (by omega) | exact lv)
@[reducible,instance] def Jei{x0 x1}{s}:=upL (N:=N) (s:=s) (Qek.eq_def N x0 x1) (fun t=>t) x0.length (fun t=>x0.length≤1000000000000) (fun r:((Int))=>0≤r∧r≤x0.length)
@[reducible,instance] def Jm8{x0 x1}:=mkW (Qda.eq_1 N x0 x1) (x0.length≤1000000000000) (fun r=>0≤r.1∧r.1<r.2.length∧r.2.length≤x0.length+1) (k:=by
  intro h
  try simp only[sS,reduceCtorEq]at *
  repeat' (first | intro _ | apply And.intro)
  all_goals first | exact(Qyk (by assumption) (by assumption)).1 | exact(Qyk (by assumption) (by assumption)).2 | exact lv)
@[reducible,instance] def Q77{x0 x1 x2}:=mkW (Yg.eq_1 N x0 x1 x2) (True) (fun r=>True)
@[reducible,instance] def Jm9{x0}:=mkW (Nl.eq_1 N x0) (True) (fun r=>True)
@[reducible,instance] def Jna{x0}:=mkW (K4.eq_1 N x0) (True) (fun r=>True)
@[reducible,instance] def Jib{x0 x1}:=mkW (Yr.eq_1 N x0 x1) (True) (fun r=>True)
@[reducible,instance] def Jic{x0 x1}:=mkW (T2.eq_1 N x0 x1) (True) (fun r=>True)
@[reducible,instance] def Q78{x0 x1 ce}:=mkW (G3.eq_1 N x0 x1 ce) (True) (fun r=>True)
@[reducible,instance] def Jnb{x0 x1}:=mkW (Qdb.eq_1 N x0 x1) (True) (fun r=>True)
@[reducible,instance] def Q6t{x0 x2 r8 r7 x3}{s}:=upL (N:=N) (s:=s) (Po.eq_def N x0 x2 r8 r7 x3) (fun t=>t.1) x0.length (fun t=>x0.length≤40∧0≤r7∧r7<r8.length) (fun r:((Qc))=>True)
@[reducible,instance] def Jej{x0 x1 x2 x3}:=mkW (Fn.eq_1 N x0 x1 x2 x3) (x0.length≤40∧sz x1≤1000000000000) (fun r=>r.1=x1.1∧r.2.1.length≤x1.2.1.length+1∧r.2.2=x1.2.2)
@[reducible,instance] def Jnc{x0}:=mkW (B3.eq_1 N x0) (sz x0≤1000000000000) (fun r=>r.2.2.2.2.2.2.2.2.2.2.length=x0.2.2.2.2.2.1.length)
@[reducible,instance] def Jtz{x0}:=mkW (Qbf.eq_1 N x0) (sz x0≤9223372036854775807) (fun r=>True)
@[reducible,instance] def Jax{x0 x1}{s}:=upL (N:=N) (s:=s) (Qbg.eq_def N x0 x1) (fun t=>t) x0.length (fun t=>x0.length≤40) (fun r:((Unit)⊕(Int))=>∀u,r=.inr u→0<x0.length)
@[reducible,instance] def Jid{x0 x1}:=mkW (Tt.eq_1 N x0 x1) (x0.length≤40) (fun r=>r≠0→0<x0.length)
@[reducible,instance] def Jek{x0 x1}:=mkW (Fl.eq_1 N x0 x1) (True) (fun r=>True)
@[reducible,instance] def Jnd{x0 x1 x2}:=mkW (Qc9.eq_1 N x0 x1 x2) (sz x1≤4096) (fun r=>r.2.2.2.2.2.2.2.2.2.2.length≤4096)
@[reducible,instance] def Jie{x0 x1}:=mkW (T0.eq_1 N x0 x1) (True) (fun r=>True)
@[reducible,instance] def Q2f{c7 x1}{s}:=upL (N:=N) (s:=s) (M6.eq_def N c7 x1) (fun t=>t.1) c7.length (fun t=>c7.length≤1000000000000∧t.2.2.2.2.2.2.2.2.2.2.2.length≤4096∧sz c7≤1000000000000) (fun r:((Int×Int×Str×Int×Int×Qd×Int×Int×Int×Bool×(List Str)))=>r.2.2.2.2.2.2.2.2.2.2.length≤4096)
@[reducible,instance] def Q2g{c7 v40 v41 v42 v43 v44 v50 v45 v46 v47 v48 v49}{s}:=upL (N:=N) (s:=s) (M7.eq_def N c7 v40 v41 v42 v43 v44 v50 v45 v46 v47 v48 v49) (fun t=>t) c7.length (fun t=>c7.length≤1000000000000) (fun r:((Int))=>0≤r∧r≤c7.length)
@[reducible,instance] def Jay{x1 c7 cd}:=mkW (D4.eq_1 N x1 c7 cd) (c7.length≤999999999999∧sz c7≤1000000000000∧sz x1≤4096) (fun r=>r.2.length≤c7.length+1∧sz r.2≤1000000000000)
@[reducible,instance] def Q79{x2}{s}:=upL (N:=N) (s:=s) (Sg.eq_def N x2) (fun t=>t.1) x2.1.length (fun t=>x2.1.length≤1000000000000∧sz x2.1≤1000000000000∧t.2.1.length≤t.1∧sz t.2.1≤1000000000000) (fun r:(((List Qa)×(List (Q4×Bool))))=>r.1.length≤x2.1.length∧sz r.1≤1000000000000)
@[reducible,instance] def Q8a{r118 x4}{s}:=upL (N:=N) (s:=s) (Si.eq_def N r118 x4) (fun t=>t.1) r118.length (fun t=>r118.length≤40∧sz r118≤4096∧0≤s.1∧s.2.1.length≤999999999900∧t.2.1.length≤s.2.1.length+(t.1 - s.1)∧sz t.2.1≤1000000000000∧r118.length≤4096) (fun r:(((List Qa)×(List (Q4×Bool))))=>r.1.length≤s.2.1.length+40∧sz r.1≤1000000000000)
@[reducible,instance] def Q8b{r54 x1 x109 x4}{s}:=upL (N:=N) (s:=s) (Sj.eq_def N r54 x1 x109 x4) (fun t=>t.1) r54.length (fun t=>r54.length≤40∧sz r54≤40∧x1.length≤40∧sz x1≤4096∧Qu (fun p:Qo=>p.2.2.2.2.2.length≤40) x1∧0≤s.1∧s.2.1.length≤999999990000∧t.2.1.length≤s.2.1.length+40*(t.1 - s.1)∧sz t.2.1≤1000000000000∧x1.length≤4096) (fun r:(((List Qa)×(List (Q4×Bool))))=>r.1.length≤s.2.1.length+1600∧sz r.1≤1000000000000)
@[reducible,instance] def Q8c{r56 r54 x1 x4}{s}:=upL (N:=N) (s:=s) (Sl.eq_def N r56 r54 x1 x4) (fun t=>t.1) r56.length (fun t=>r56.length≤7168000∧r54.length≤40∧sz r54≤40∧x1.length≤40∧sz x1≤4096∧Qu (fun p:Qo=>p.2.2.2.2.2.length≤40) x1∧0≤s.1∧s.2.1.length≤900000000000∧t.2.1.length≤s.2.1.length+1600*(t.1 - s.1)∧sz t.2.1≤1000000000000∧x1.length≤4096) (fun r:(((List Qa)×(List (Q4×Bool))))=>r.1.length≤s.2.1.length+11468800000∧sz r.1≤1000000000000)
@[reducible,instance] def Jhf[Y4]{x0 x1 x2 x3 x4}:=mkW (B4.eq_1 N x0 x1 x2 x3 x4) (x0.length≤40∧x1.length≤40∧sz x1≤4096∧Qu (fun p:Qo=>p.2.2.2.2.2.length≤40) x1∧x2.1.length≤900000000000∧sz x2.1≤1000000000000∧x2.2.1.length≤1099511627∧x2.2.2.length≤1099511627∧Qu (fun m:Ql=>Aft m.1) x0∧(0<x0.length→x4<Y4.hi)) (fun r=>r.1.length≤x2.1.length+11468800000∧sz r.1≤1000000000000∧r.2.1=x2.2.1∧r.2.2=x2.2.2) (k:=by
  intro h
  have g0:=h.2.2.2.2.2.2.2.2.1; have g1:=h.2.2.2.2.2.2.2.2.2
  try simp only[sS,reduceCtorEq]at *
  repeat' (first | intro _ | apply And.intro)
  all_goals first | exact g0 | omega | exact lv)
@[reducible,instance] def Jne{x0}:=mkW (Qdc.eq_1 N x0) (sz x0≤1000000000000) (fun r=>r.2.2.2.2.2.2.2.2.2.2.length=x0.2.2.2.2.2.1.length)
@[reducible,instance] def Jaz{x0}{s}:=upL (N:=N) (s:=s) (Qbn.eq_def N x0) (fun t=>t.1) x0.length (fun t=>sz x0≤1000000000000∧t.2.length=t.1∧sz t.2≤1000000000000∧x0.length≤1000000000000) (fun r:(((List Qa)))=>r.length=x0.length∧sz r≤1000000000000)
@[reducible,instance] def Jif{x0}:=mkW (Ih.eq_1 N x0) (sz x0≤1000000000000) (fun r=>r.length=x0.length∧sz r≤1000000000000)
@[reducible,instance] def Jhg{x0 x1}:=mkW (X4.eq_1 N x0 x1) (True) (fun r=>True)
@[reducible,instance] def Jhh{x0 x1}:=mkW (Pp.eq_1 N x0 x1) (True) (fun r=>True)
theorem Qk2{N:Nat}[Cm N]{x2:Int}{L:Int}{s:Int×List Int}:WP (Qh (D5 N x2) N s) (fun R=>((0≤s.1∧s.1≤x2∧x2≤L∧L≤1000000000000)∧s.2=[])∧∀r:List Int,((r.length:Int)=x2 - s.1∧Qu (fun i:Int=>0≤i∧i<L) r)→R r):=⟨fun R h=>(mkL (N:=N) (s:=s) (D5.eq_def N x2) (fun t=>(x2 - t.1).toNat) (fun t=>0≤s.1∧s.1≤t.1∧t.1≤x2∧x2≤L∧L≤1000000000000∧(t.2.length:Int)=t.1 - s.1∧Qu (fun i:Int=>0≤i∧i<L) t.2) (fun r:List Int=>(r.length:Int)=x2 - s.1∧Qu (fun i:Int=>0≤i∧i<L) r) (step:=by
  intro t h
  try simp only[sS,reduceCtorEq]at *
  repeat' (first | intro _ | apply And.intro)
  all_goals first | assumption | omega | ((simp (disch:=omega) only [Q5]at *)<;>omega) | exact V8 (by grind) (K8 (by grind)) | grind)).spec R ⟨⟨h.1.1.1,JC _,h.1.1.2.1,h.1.1.2.2.1,h.1.1.2.2.2,by rw[h.1.2]; simp,by rw[h.1.2]; exact Yz⟩,h.2⟩⟩
attribute [local instance 1300] Jd6 in
@[reducible,instance] def Ja0{r6 r7 x0}{s}:=mkL (N:=N) (s:=s) (Qbo.eq_def N r6 r7 x0) (fun t=>(r6.length - t.1+(r7.length - t.2.1)).toNat) (fun t=>r6.length+r7.length≤1000000000000∧Qu (fun i:Int=>0≤i∧i<(x0.length:Int)) r6∧Qu (fun i:Int=>0≤i∧i<(x0.length:Int)) r7∧0≤t.1∧t.1≤r6.length∧0≤t.2.1∧t.2.1≤r7.length∧(t.2.2.length:Int)=t.1+t.2.1∧Qu (fun i:Int=>0≤i∧i<(x0.length:Int)) t.2.2) (fun r:(((List Int)))=>r.length=r6.length+r7.length∧Qu (fun i:Int=>0≤i∧i<(x0.length:Int)) r) (step:=by
  intro s h
  have g0:=(fun i hi=>h.2.1.all i hi:∀i∈r6,0≤i∧i<(x0.length:Int)); have g1:=(fun i hi=>h.2.2.1.all i hi:∀i∈r7,0≤i∧i<(x0.length:Int))
  try simp only[sS,reduceCtorEq]at *
  repeat' (first | intro _ | apply And.intro)
  all_goals first | assumption | omega | ((simp (disch:=omega) only [Q5]at *)<;>omega) | exact(g0 _ (by assumption)).1 | exact(g0 _ (by assumption)).2 | exact(g1 _ (by assumption)).1 | exact(g1 _ (by assumption)).2 | exact V8 (by grind) (K8 (g0 _ (by assumption))) | exact V8 (by grind) (K8 (g1 _ (by assumption))) | exact lv)
theorem Ck{N:Nat}[Cm N]{x0:List Qa}(hx:x0.length≤1000000000000):∀(n:Nat) (x1 x2:Int),0≤x1→x1≤x2→x2≤x0.length→x2 - x1<n→W (U3 N n x0 x1 x2) fun r=>(r.length:Int)=x2 - x1∧Qu (fun i:Int=>0≤i∧i<(x0.length:Int)) r
 | 0,x1,x2,h0,h1,h2,h3=>by omega
 | n+1,x1,x2,h0,h1,h2,h3=>by
  unfold U3
  have e1:IntKind.wrap .i64 (x2 - x1)=x2 - x1:=Q5 (by omega) (by omega)
  have e2:IntKind.wrap .i64 (Int.tdiv (x2 - x1) 2)=(x2 - x1) / 2:=by rw[QM (by omega),Q5 (by omega) (by omega)]
  have e3:IntKind.wrap .i64 (x1+(x2 - x1) / 2)=x1+(x2 - x1) / 2:=Q5 (by omega) (by omega)
  rw[e1,e2,e3]
  by_cases hc:x2 - x1<2
  ·rw[if_pos (by simpa using hc)]
   obtain⟨r,e,hr⟩:=(Qk2 (N:=N) (x2:=x2) (L:=x0.length) (s:=(x1,[]))).spec _ ⟨⟨⟨h0,h1,h2,by omega⟩,rfl⟩,fun r h=>h⟩
   rw[e]; exact⟨r,rfl,hr⟩
  ·rw[if_neg (by simpa using hc)]
   obtain⟨r6,f6,k6⟩:=Ck (N:=N) hx n x1 (x1+(x2 - x1) / 2) h0 (by omega) (by omega) (by omega)
   obtain⟨r7,f7,k7⟩:=Ck (N:=N) hx n (x1+(x2 - x1) / 2) x2 (by omega) (by omega) (by omega) (by omega)
   rw[f6]
   show W ((U3 N n x0 (x1+(x2 - x1) / 2) x2).bind _) _
   rw[f7]
   refine wp ?_
   refine⟨⟨by omega,by omega,by omega⟩,⟨by omega,k6.2,k7.2,JC _,Int.natCast_nonneg _,JC _,Int.natCast_nonneg _,rfl,Yz⟩,fun r h=>⟨by omega,h.2⟩⟩
@[reducible,instance] def Jig{N:Nat}[hN:Cm N]{x0:List Qa}{x1 x2:Int}:WP (Qje N x0 x1 x2) (fun R=>(x0.length≤1000000000000∧0≤x1∧x1≤x2∧x2≤x0.length)∧∀r:List Int,((r.length:Int)=x2 - x1∧Qu (fun i:Int=>0≤i∧i<(x0.length:Int)) r)→R r):=Qhi (by
  intro h
  have:=hN.le
  exact Ck (N:=N) h.1 N x1 x2 h.2.1 h.2.2.1 h.2.2.2 (by omega))
@[reducible,instance] def Ja1{x0 x4}{s}:=upL (N:=N) (s:=s) (Qbp.eq_def N x0 x4) (fun t=>t) x0.2.2.2.2.2.1.length (fun t=>x0.2.2.2.2.2.1.length≤1000000000000) (fun r:((Unit)⊕(Bool))=>True)
@[reducible,instance] def Jih{x0 x1 x2 x3 x4 x5 x6}:=mkW (T3.eq_1 N x0 x1 x2 x3 x4 x5 x6) (x0.2.2.2.2.2.1.length≤1000000000000) (fun r=>True)
@[reducible,instance] def Jt0{x0}:=mkW (Qh2.eq_1 N x0) (True) (fun r=>True)
@[reducible,instance] def Jhi{r2 x0 x1 x2 x3 x4 x5 x6}{s}:=upL (N:=N) (s:=s) (Qf1.eq_def N r2 x0 x1 x2 x3 x4 x5 x6) (fun t=>t.2.1) r2.length (fun t=>r2.length≤1000000000000∧Qu (fun i:Int=>0≤i∧i<(x0.length:Int)) r2∧sz x0≤1000000000000∧t.2.2.1.length=x0.length∧sz t.2.2.1≤1000000000000∧t.2.2.2.length≤t.2.1∧x0.length≤1000000000000) (fun r:((Int×(List Qa)×(List Qn)))=>r.2.1.length=x0.length∧sz r.2.1≤1000000000000∧r.2.2.length≤r2.length) (step:=by
  intro s h h0 h1 h2 hw
  have g0:=(fun i hi=>h.2.1.all i hi:∀i∈r2,0≤i∧i<(x0.length:Int))
  try simp only[sS,reduceCtorEq]at *
  repeat' (first | intro _ | apply And.intro)
  all_goals first | assumption | omega | exact(g0 _ (by assumption)).1 | exact(g0 _ (by assumption)).2 | exact Int.lt_of_lt_of_le (g0 _ (by assumption)).2 (by omega) | exact lv)
@[reducible,instance] def Joc{x0 x1 x2 x3 x4 x5 x6 x7}:=mkW (Ld.eq_1 N x0 x1 x2 x3 x4 x5 x6 x7) (sz x0≤1000000000000) (fun r=>r.2.1.length=x0.length∧sz r.2.1≤1000000000000∧r.2.2.length≤x0.length)
@[reducible,instance] def Jhj:=mkW (Pb.eq_1 N) (True) (fun r=>sz r≤0)
@[reducible,instance] def Jii{x0 x1}:=mkW (To.eq_1 N x0 x1) (sz x0≤9223372036854775807) (fun r=>r.1.length=x0.length)
@[reducible,instance] def Q6u{x1 x2}{s}:=upL (N:=N) (s:=s) (Pd.eq_def N x1 x2) (fun t=>t.1) x1.length (fun t=>x1.length≤40∧t.2.length≤t.1) (fun r:(((Unit)⊕(Unit))×(List Ql))=>r.2.length≤40)
@[reducible,instance] def Jel{x1 x2}:=mkW (L5.eq_1 N x1 x2) (x1.length≤40) (fun r=>r.length≤40)
@[reducible,instance] def Qyp{x0 x1}{s}:=upL (N:=N) (s:=s) (C5.eq_def N x0 x1) (fun t=>t) x0.length (fun t=>sz x0≤9223372036854775807) (fun r:((Int))=>0≤r∧r≤x0.length)
@[reducible,instance] def Q6v{x0 x1}:=mkW (Wx.eq_1 N x0 x1) (sz x0≤1099511627776) (fun r=>r.length≤x0.length+1)
@[reducible,instance] def Qva{x0 x1}{s}:=upL (N:=N) (s:=s) (E3.eq_def N x0 x1) (fun t=>t) x0.length (fun t=>sz x0≤9223372036854775807) (fun r:((Int))=>0≤r∧r≤x0.length)
@[reducible,instance] def Qyq{x0 x1}:=mkW (Kc.eq_1 N x0 x1) (sz x0≤1099511627776) (fun r=>r.length≤x0.length+1)
@[reducible,instance] def Q6w{x0 x1}{s}:=upL (N:=N) (s:=s) (Pe.eq_def N x0 x1) (fun t=>t.1) x0.length (fun t=>sz x0≤1099511627776∧t.2.length≤t.1∧sz t.2≤(sz x0)) (fun r:(((List Str)))=>sz r≤(sz x0))
@[reducible,instance] def Jem{x0 x1}:=mkW (Fk.eq_1 N x0 x1) (sz x0≤1099511627776) (fun r=>sz r≤(sz x0))
@[reducible,instance] def Qwd{x1 x2 c7 cd cj cw d6 d8 d7}:=mkW (Wy.eq_1 N x1 x2 c7 cd cj cw d6 d8 d7) (sz x1≤1099511627) (fun r=>sz r.1≤sz x1+1∧r.2.length≤cw.length+1)
@[reducible,instance] def Qq5{x1 cd}{s}:=upL (N:=N) (s:=s) (Hr.eq_def N x1 cd) (fun t=>t.1) ((((Qj (k:=(.int .i64)) x1.2.2.2.1 cd).getD (0,0,0,([]:Str),([]:List Str),([]:List Str),false,false)).2.2.2.2.1)).length (fun t=>sz cd≤1099511627∧t.2.length≤s.2.length∧cd.length≤1099511627) (fun r:(((List (Str×Int))))=>r.length≤s.2.length) (fun t h=>by have:=Q07 cd x1.2.2.2.1; omega)
@[reducible,instance] def Qvo{x1 c7 cd cj cw d6 d8 d7}:=mkW (Xy.eq_1 N x1 c7 cd cj cw d6 d8 d7) (sz c7≤1099511627∧sz cd≤1099511627∧cj.length≤1099511627∧cw.length≤1099511627∧d6.length≤1099511627∧d8.length≤1099511627∧d7.length≤1099511627) (fun r=>sz r.1≤sz c7+1∧sz r.2.1≤sz cd+1∧r.2.2.1.length≤cj.length+1∧r.2.2.2.1.length≤cw.length+1∧r.2.2.2.2.1.length≤d6.length+1∧r.2.2.2.2.2.1.length≤d8.length+1∧r.2.2.2.2.2.2.length≤d7.length+1) (k:=by
  intro h
  have g0:=Q07 cd; have g1:=Jd4 c7
  try simp only[sS,reduceCtorEq]at *
  repeat' (first | intro _ | apply And.intro)
  all_goals first | (refine QY (Il _ _ _) (ZK.2 ⟨?_,?_⟩)<;>(try simp only[sz1,mx1])<;>grind) | exact lv)
@[reducible,instance] def Qp5{d7 cd}{s}:=upL (N:=N) (s:=s) (G0.eq_def N d7 cd) (fun t=>t.1) d7.length (fun t=>d7.length≤1099511627∧sz cd≤1099511627∧(sz t.2.1:Int)≤t.1∧t.2.2.length≤t.1∧sz t.2.2≤t.1+sz cd∧cd.length≤1099511627) (fun r:(((List (Int×(List Int)))×(List Jq)))=>sz r.1≤d7.length∧sz r.2≤d7.length+sz cd) (step:=by
  intro s h h0 h1 h2 hw
  have g0:=Q07 cd; have g1:=Q6c s.2.1
  try simp only[sS,reduceCtorEq]at *
  repeat' (first | intro _ | apply And.intro)
  all_goals first | (refine Jqf ?_ ?_<;>(try simp only[sz1,mx1,List.length_append,List.length_cons,JX])<;>grind) | exact lv)
@[reducible,instance] def Qp6{d8 c7 v20}{s}:=upL (N:=N) (s:=s) (G1.eq_def N d8 c7 v20) (fun t=>t.1) d8.length (fun t=>d8.length≤1099511627∧sz c7≤1099511627∧sz v20≤1099511627∧t.2.1.length≤t.1∧sz t.2.1≤3298534881∧sz t.2.2≤10995116270∧c7.length≤1099511627∧v20.length≤1099511627) (fun r:(((List Q6)×(List Jq)))=>sz r.1≤3298534881∧sz r.2≤10995116270) (step:=by
  intro s h h0 h1 h2 hw
  have g0:=Jd4 c7; have g1:=Q6c v20
  try simp only[sS,reduceCtorEq]at *
  repeat' (first | intro _ | apply And.intro)
  all_goals first | exact lv)
@[reducible,instance] def Qvb{c7 cd cj cw d6 d8 d7}:=mkW (Xc.eq_1 N c7 cd cj cw d6 d8 d7) (sz c7≤1099511627∧sz cd≤1099511627∧cj.length≤1099511627∧cw.length≤1099511627∧d6.length≤1099511627∧d8.length≤1099511627∧d7.length≤1099511627) (fun r=>sz r.1≤10995116270∧sz r.2≤10995116270)
@[reducible,instance] def Q8d{es:List Ql}{s:(List (Int×Q6))×(List (Int×Jq))×(List (Int×Bool))×(List (Str×Int))×(List (Int×Int))×(List Int)×(List Int)}:=Jvk (f:=G2 N) (es:=es) (fun n s=>es.length≤40∧(sz s.1:Int)≤n∧(sz s.2.1:Int)≤n∧(s.2.2.1.length:Int)≤n∧(s.2.2.2.1.length:Int)≤n∧(s.2.2.2.2.1.length:Int)≤n∧(s.2.2.2.2.2.1.length:Int)≤n∧(s.2.2.2.2.2.2.length:Int)≤n) (by
  intro n s e he h0 hn h
  show W (G2 N s e) _
  rw[G2.eq_1]
  refine wp ?_
  try simp only[sS,reduceCtorEq]at *
  repeat' (first | intro _ | apply And.intro)
  all_goals first | assumption | omega) (s:=s)
@[reducible,instance] def Jhk{x0 x1}:=mkW (B2.eq_1 N x0 x1) (x0.length≤40) (fun r=>sz r.1≤10995116270∧sz r.2≤10995116270)
@[reducible,instance] def Jen{r2 x1}{s}:=upL (N:=N) (s:=s) (Qed.eq_def N r2 x1) (fun t=>t.1) r2.length (fun t=>sz r2≤10995116270∧r2.length≤10995116270) (fun r:((Int×Int×Int×Str×Bool×Bool)⊕(Bool×Jq))=>∀t,r=.inr t→sz t.2≤10995116270)
@[reducible,instance] def Jnf{x0 x1 x2}:=mkW (Qc3.eq_1 N x0 x1 x2) (x0.length≤40) (fun r=>sz r.1≤10995116270)
@[reducible,instance] def Q2h{r1 x1}{s}:=upL (N:=N) (s:=s) (M8.eq_def N r1 x1) (fun t=>t.1) r1.length (fun t=>sz r1≤10995116270∧r1.length≤10995116270) (fun r:((Int×Int×Int×Bool×Bool)⊕(Bool×Q6))=>∀t,r=.inr t→sz t.2≤10995116270)
@[reducible,instance] def Ja2{x0 x1 x2}:=mkW (X5.eq_1 N x0 x1 x2) (x0.length≤40) (fun r=>sz r.1≤10995116270)
@[reducible,instance] def Q1c{x0}:=mkW (Hs.eq_1 N x0) (x0.length≤4096) (fun r=>r=x0)
@[reducible,instance] def Qwe{x0}:=mkW (Wz.eq_1 N x0) (x0.length≤4096) (fun r=>r=x0)
@[reducible,instance] def Qwf{x0}:=mkW (W0.eq_1 N x0) (x0.length≤4096) (fun r=>r=x0)
theorem Qer{N:Nat}[Cm N]:∀(n:Nat) (e:Ja),dpt e≤n→sz e≤4096→W (Xd N n e) fun r=>r=e
 | 0,e,h,hs=>by cases e with | mk a ks=>rw[dpt]at h; omega
 | n+1,e,h,hs=>by
  unfold Xd
  have hk:=Jmv (e:=e)
  have hlen:=Ui (l:=e.ks)
  have ih:∀x:Ja,WP (Xd N n x) (fun R=>(x∈e.ks∧sz x≤4096)∧∀r:Ja,r=x→R r):=fun x=>Qhi fun hx=>Qer n x (by have:=Jmx hx.1; omega) hx.2
  have loop:=fun s:Int×List Ja=>upL (N:=N) (s:=s) (Qft.eq_def N (Xd N n) e) (fun s=>s.1) e.ks.length (fun s=>e.ks.length≤4096∧s.2=e.ks.take s.1.toNat) (fun r:List Ja=>r=e.ks) (step:=by
   intro s h h0 h1 h2 hw
   try simp only[sS,reduceCtorEq]at *
   repeat' (first | intro _ | apply And.intro)
   all_goals first | assumption | omega | grind [Ic,Rj])
  refine wp ?_
  simp only[forall_eq]
  refine⟨⟨⟨by omega,by simp⟩,by omega,by omega⟩,?_⟩
  cases e with
  | mk a ks=>rfl
@[reducible,instance] def Jod{N:Nat}[hN:Cm N]{x0:Ja}:WP (Qpp N x0) (fun R=>(sz x0≤4096∧dpt x0≤4096)∧∀r:Ja,r=x0→R r):=Qhi (by
  intro h
  have:=hN.le
  exact Qer N x0 (by omega) h.1)
@[reducible,instance] def Jeo{x0}{s}:=upL (N:=N) (s:=s) (Qee.eq_def N x0) (fun t=>t.1) x0.2.2.2.1.length (fun t=>sz x0≤4096∧t.2.1=x0.1∧t.2.2.1=x0.2.1∧t.2.2.2.1=x0.2.2.1∧t.2.2.2.2=x0.2.2.2.1.take t.1.toNat) (fun r:((Str×Int×Bool×(List Q2)))=>r.1=x0.1∧r.2.1=x0.2.1∧r.2.2.1=x0.2.2.1∧r.2.2.2=x0.2.2.2.1) (step:=by
  intro s h h0 h1 h2 hw
  try simp only[sS,reduceCtorEq]at *
  repeat' (first | intro _ | apply And.intro)
  all_goals first | grind [Ic,Rj,A8.deep] | exact lv)
@[reducible,instance] def Jep{x0}{s}:=upL (N:=N) (s:=s) (Qef.eq_def N x0) (fun t=>t.1) x0.2.2.2.2.1.length (fun t=>sz x0≤4096∧t.2.1=x0.1∧t.2.2.1=x0.2.1∧t.2.2.2.1=x0.2.2.1∧t.2.2.2.2.1=x0.2.2.2.1∧t.2.2.2.2.2=x0.2.2.2.2.1.take t.1.toNat) (fun r:((Str×Int×Bool×(List Q2)×(List Jg)))=>r.1=x0.1∧r.2.1=x0.2.1∧r.2.2.1=x0.2.2.1∧r.2.2.2.1=x0.2.2.2.1∧r.2.2.2.2=x0.2.2.2.2.1) (step:=by
  intro s h h0 h1 h2 hw
  try simp only[sS,reduceCtorEq]at *
  repeat' (first | intro _ | apply And.intro)
  all_goals first | grind [Ic,Rj,A8.deep] | exact lv)
@[reducible,instance] def Jeq{x0}{s}:=upL (N:=N) (s:=s) (Qeg.eq_def N x0) (fun t=>t.1) x0.2.2.2.2.2.1.length (fun t=>sz x0≤4096∧t.2.1=x0.1∧t.2.2.1=x0.2.1∧t.2.2.2.1=x0.2.2.1∧t.2.2.2.2.1=x0.2.2.2.1∧t.2.2.2.2.2.1=x0.2.2.2.2.1∧t.2.2.2.2.2.2=x0.2.2.2.2.2.1.take t.1.toNat) (fun r:((Str×Int×Bool×(List Q2)×(List Jg)×(List Y5)))=>r.1=x0.1∧r.2.1=x0.2.1∧r.2.2.1=x0.2.2.1∧r.2.2.2.1=x0.2.2.2.1∧r.2.2.2.2.1=x0.2.2.2.2.1∧r.2.2.2.2.2=x0.2.2.2.2.2.1) (step:=by
  intro s h h0 h1 h2 hw
  try simp only[sS,reduceCtorEq]at *
  repeat' (first | intro _ | apply And.intro)
  all_goals first | grind [Ic,Rj,A8.deep] | exact lv)
@[reducible,instance] def Jer{x0}{s}:=upL (N:=N) (s:=s) (Qeh.eq_def N x0) (fun t=>t.1) x0.2.2.2.2.2.2.length (fun t=>sz x0≤4096∧A8 x0∧t.2.1=x0.1∧t.2.2.1=x0.2.1∧t.2.2.2.1=x0.2.2.1∧t.2.2.2.2.1=x0.2.2.2.1∧t.2.2.2.2.2.1=x0.2.2.2.2.1∧t.2.2.2.2.2.2.1=x0.2.2.2.2.2.1∧t.2.2.2.2.2.2.2=x0.2.2.2.2.2.2.take t.1.toNat) (fun r:((Str×Int×Bool×(List Q2)×(List Jg)×(List Y5)×(List Jl)))=>r.1=x0.1∧r.2.1=x0.2.1∧r.2.2.1=x0.2.2.1∧r.2.2.2.1=x0.2.2.2.1∧r.2.2.2.2.1=x0.2.2.2.2.1∧r.2.2.2.2.2.1=x0.2.2.2.2.2.1∧r.2.2.2.2.2.2=x0.2.2.2.2.2.2) (step:=by
  intro s h h0 h1 h2 hw
  try simp only[sS,reduceCtorEq]at *
  repeat' (first | intro _ | apply And.intro)
  all_goals first | grind [Ic,Rj,A8.deep] | exact lv)
@[reducible,instance] def Jng{x0}:=mkW (Qc4.eq_1 N x0) (sz x0≤4096∧A8 x0) (fun r=>r=x0)
@[reducible,instance] def Jnh{x0 x1 x2}{s}:=upL (N:=N) (s:=s) (Ql9.eq_def N x0 x1 x2) (fun t=>t.2) x0.length (fun t=>x0.length≤4096 ∧ -1≤t.1∧t.1<x0.length) (fun r:((Int)) => -1≤r∧r<x0.length)
@[reducible,instance] def Jt1{x0 x1 x2}:=mkW (Qoa.eq_1 N x0 x1 x2) (sz x0≤4096∧Sh.sh x0∧Qu A8 x0) (fun r=>sz r≤4096∧Sh.sh r∧Qu (fun d=>dpt d.2.1≤4096) r.2.2.2.2.2.2.2) (k:=by
  intro h
  try simp only[sS,reduceCtorEq]at *
  repeat' (first | intro _ | apply And.intro)
  all_goals first | exact⟨fun _ h=>absurd h JE⟩ | exact⟨fun d hd=>absurd hd JE⟩ | exact Qu.all (And.right (And.right (by assumption))) _ (by assumption) | exact⟨A8.deep (Qu.all (And.right (And.right (by assumption))) _ (by assumption))⟩ | exact lv)
@[reducible,instance] def Jij{x0}{s}:=upL (N:=N) (s:=s) (Qjb.eq_def N x0) (fun t=>t) x0.length (fun t=>Sh.sh x0) (fun r:((Unit)⊕(Bool))=>True) (fun _ h=>Qhk (by grind))
@[reducible,instance] def Jql{x0}:=mkW (Qkb.eq_1 N x0) (Sh.sh x0) (fun r=>True)
@[reducible,instance] def Jik{x0 ce}:=mkW (Tp.eq_1 N x0 ce) (True) (fun r=>True)
@[reducible,instance] def Qov{x0 ce}{s}:=upL (N:=N) (s:=s) (Gb.eq_def N x0 ce) (fun t=>t) x0.length (fun t=>x0.length≤9223372036854775807) (fun r:((Unit)⊕(Int))=>∀t,r=.inr t→0≤t∧t<x0.length)
@[reducible,instance] def Qrm{x0 ce}:=mkW (Ko.eq_1 N x0 ce) (x0.length≤9223372036854775807) (fun r => -1≤r∧r<x0.length)
@[reducible,instance] def Qow{x0 ce}:=mkW (U0.eq_1 N x0 ce) (x0.length≤9223372036854775807) (fun r=>True)
@[reducible,instance] def Jni{x0}:=mkW (Qc2.eq_1 N x0) (True) (fun r=>True)
@[reducible,instance] def Jes{x0}{s}:=upL (N:=N) (s:=s) (Qeb.eq_def N x0) (fun t=>t) x0.length (fun t=>Sh.sh x0) (fun r:((Unit)⊕(Bool))=>True) (fun _ h=>Qhk (by grind))
@[reducible,instance] def Jnj{x0}:=mkW (Ec.eq_1 N x0) (Sh.sh x0) (fun r=>True)
@[reducible,instance] def Jhl{x4}{s}:=upL (N:=N) (s:=s) (Qfu.eq_def N x4) (fun t=>t.1) x4.2.length (fun t=>x4.2.length≤9223372036854775807∧Sh.sh x4) (fun r:(((List (Str×Str)))⊕(Int))=>∀c,r=.inr c→c≠0)
@[reducible,instance] def Jhm{x0}{s}:=upL (N:=N) (s:=s) (Qfv.eq_def N x0) (fun t=>t.1) x0.length (fun t=>sz x0≤9223372036854775807∧Sh.sh x0∧x0.length≤9223372036854775807) (fun r:(((List (Str×Str)))⊕(Int))=>∀c,r=.inr c→c≠0)
@[reducible,instance] def Joe{x0}:=mkW (Qfw.eq_1 N x0) (sz x0≤9223372036854775807∧Sh.sh x0) (fun r=>∀c,r=.inr c→c≠0)
@[reducible,instance] def Ja3{x1 ce}{s}:=mkL (N:=N) (s:=s) (Qbe.eq_def N x1 ce) (fun t=>t.toNat) (fun t=>List.length x1≤9223372036854775807∧t≤List.length x1) (fun r:((Unit)⊕(Str×Bool))=>True)
@[reducible,instance] def Jil{x1 x2 ce}:=mkW (Tq.eq_1 N x1 x2 ce) (List.length x1≤9223372036854775807∧x2≤List.length x1) (fun r=>True)
@[reducible,instance] def Jqm{x0 x1}:=mkW (Qkc.eq_1 N x0 x1) (sz x0≤9223372036854775807∧Sh.sh x0∧Sh.sh x1∧List.length x1≤9223372036854775807) (fun r=>True)
@[reducible,instance] def Jim{x0}{s}:=upL (N:=N) (s:=s) (Qjc.eq_def N x0) (fun t=>t) x0.length (fun t=>Sh.sh x0) (fun r:((Unit)⊕(Bool))=>True) (fun _ h=>Qhk (by grind))
@[reducible,instance] def Jqn{x0}:=mkW (Qkd.eq_1 N x0) (Sh.sh x0) (fun r=>True)
@[reducible,instance] def Jin{x0 ce}:=mkW (Tr.eq_1 N x0 ce) (True) (fun r=>True)
@[reducible,instance] def Qox{x0 ce}{s}:=upL (N:=N) (s:=s) (Gc.eq_def N x0 ce) (fun t=>t) x0.length (fun t=>x0.length≤9223372036854775807) (fun r:((Unit)⊕(Int))=>True)
@[reducible,instance] def Qrn{x0 ce}:=mkW (Kp.eq_1 N x0 ce) (x0.length≤9223372036854775807) (fun r=>True)
@[reducible,instance] def Qoy{x0 ce}:=mkW (U1.eq_1 N x0 ce) (x0.length≤9223372036854775807) (fun r=>True)
@[reducible,instance] def Jhn{x0}{s}:=upL (N:=N) (s:=s) (Qfx.eq_def N x0) (fun t=>t) x0.length (fun t=>sz x0≤9223372036854775807) (fun r:((Unit)⊕(Int))=>True)
@[reducible,instance] def Jof{x0}:=mkW (Qfy.eq_1 N x0) (sz x0≤9223372036854775807) (fun r=>True)
@[reducible,instance] def Jho{x0}{s}:=upL (N:=N) (s:=s) (Qfz.eq_def N x0) (fun t=>t) x0.length (fun t=>sz x0≤4096∧x0.length≤64∧Sh.sh x0∧x0.length≤4096) (fun r:((Unit)⊕(Int))=>∀c,r=.inr c→c≠0)
@[reducible,instance] def Jog{x0}:=mkW (Qf0.eq_1 N x0) (sz x0≤4096∧Sh.sh x0) (fun r=>r=0→1≤x0.length∧x0.length≤64)
@[reducible,instance] def Q2i{x0 x1}{s}:=upL (N:=N) (s:=s) (M3.eq_def N x0 x1) (fun t=>t) x0.length (fun t=>x0.length≤9223372036854775807) (fun r:((Unit)⊕(Int))=>True)
@[reducible,instance] def Ja4{x0 x1}:=mkW (Dw.eq_1 N x0 x1) (x0.length≤9223372036854775807) (fun r=>True)
@[reducible,instance] def Q2j{x0 x1}:=mkW (Eu.eq_1 N x0 x1) (x0.length≤9223372036854775807) (fun r=>True)
@[reducible,instance] def Ja5{x0}:=mkW (Dy.eq_1 N x0) (True) (fun r=>0≤x0→x0<146097→0≤r) (k:=by
  intro h
  try simp only[sS,reduceCtorEq]at *
  repeat' (first | intro _ | apply And.intro)
  all_goals first | (rw[Q5 (by omega) (by omega),JF (by omega)]; omega) | exact lv)
@[reducible,instance] def Jt2{x0 x1}:=mkW (Qob.eq_1 N x0 x1) (x0.length≤9223372036854775807∧0≤x1∧x1<146097) (fun r=>True)
@[reducible,instance] def Jnk{x0 ce c7}:=mkW (Qc5.eq_1 N x0 ce c7) (True) (fun r=>True)
@[reducible,instance] def Qoz{x0 ce c7}{s}:=upL (N:=N) (s:=s) (Ge.eq_def N x0 ce c7) (fun t=>t) x0.length (fun t=>x0.length≤9223372036854775807) (fun r:((Unit)⊕(Int))=>True)
@[reducible,instance] def Qro{x0 ce c7}:=mkW (Kq.eq_1 N x0 ce c7) (x0.length≤9223372036854775807) (fun r=>True)
@[reducible,instance] def Qo0{x0 ce c7}:=mkW (U2.eq_1 N x0 ce c7) (x0.length≤9223372036854775807) (fun r=>True)
@[reducible,instance] def Jio{x0 x1 x2}{s}:=upL (N:=N) (s:=s) (Qjd.eq_def N x0 x1 x2) (fun t=>t) x0.length (fun t=>sz x0≤4096∧x0.length≤4096) (fun r:((Unit)⊕(Str))=>True)
@[reducible,instance] def Jqo{x0 x1 x2}:=mkW (Qke.eq_1 N x0 x1 x2) (sz x0≤4096∧1≤x0.length) (fun r=>True) (k:=by
  intro h
  have g0:=(Ui (l:=x0))
  try simp only[sS,reduceCtorEq]at *
  repeat' (first | intro _ | apply And.intro)
  all_goals first | exact lv)
@[reducible,instance] def Jvo{x0 x1 x2}:=mkW (Qt0.eq_1 N x0 x1 x2) (sz x0≤4096∧Sh.sh x0∧x1.length≤4096) (fun r=>True) (k:=by
  intro h
  have g0:=(show 0≤x2∧x2≤12622780799→IntKind.wrap .i64 (Int.tdiv x2 86400)=x2 / 86400 from fun a=>by rw[QM (by omega),Q5 (by omega) (by omega)])
  try simp only[sS,reduceCtorEq]at *
  repeat' (first | intro _ | apply And.intro)
  all_goals first | exact lv)
@[reducible,instance] def Jhp{x0 ce c7 cd}:=mkW (Pf.eq_1 N x0 ce c7 cd) (True) (fun r=>True)
@[reducible,instance] def Jet{x0 x1 x2 x3}{s}:=upL (N:=N) (s:=s) (Qei.eq_def N x0 x1 x2 x3) (fun t=>t.1) x0.2.2.2.2.2.1.length (fun t=>sz x0≤4096∧x0.2.2.2.2.2.1.length≤4096) (fun r:((Int×Str×Str×Int)⊕(Bool×Int×Str×Str×Int×(List Qw)))=>∀t,r=.inr t→t.2.2.2.2.2.length≤4096)
@[reducible,instance] def Jnl{x0 x1 x2 x3}:=mkW (Qc6.eq_1 N x0 x1 x2 x3) (sz x0≤4096) (fun r=>r.2.2.2.2.2.length≤4096)
@[reducible,instance] def Q8e{x1 x0}{s}:=Qm0 (N:=N) (s:=s) (Sp.eq_def N x1 x0) x1 (x1.length≤9223372036854775807) (fun y=>0≤y∧y≤x0) (∀y∈x1,0≤y∧y≤x0) (fun u=>u=false)
@[reducible,instance] def Jhq{x0 x1}:=mkW (B5.eq_1 N x0 x1) (x1.length≤9223372036854775807) (fun r=>r=true→Q6e x0 x1) (k:=by
  intro h
  try simp only[sS,reduceCtorEq]at *
  repeat' (first | intro _ | apply And.intro)
  all_goals first | exact Q6f (by assumption) | exact lv)
@[reducible,instance] def Ja6{x0}{s}:=upL (N:=N) (s:=s) (Qbq.eq_def N x0) (fun t=>t.2) x0.length (fun t=>x0.length≤64∧Qjl Qot x0 t.2) (fun r:((Unit)⊕(Int))=>(∀u,r=.inl u→∀y∈x0,Qot y)∧∀u,r=.inr u→u≠0) (step:=by
  intro s h h0 h1 h2 hw
  try simp only[sS,reduceCtorEq]at *
  repeat' (first | intro _ | apply And.intro)
  all_goals first | exact Xk | (rw[hw (by assumption)]; exact Qk0 h0 h.2 (by assumption) (Jg5 (by grind) (by grind) (by grind))) | exact Qos h.2 (by omega) _ (by assumption) | exact lv)
@[reducible,instance] def Jip{x0}:=mkW (T4.eq_1 N x0) (x0.length≤9223372036854775807) (fun r=>r=0→Qu Qot x0∧x0.length≤64) (k:=by
  intro h
  try simp only[sS,reduceCtorEq]at *
  repeat' (first | intro _ | apply And.intro)
  all_goals first | exact⟨by assumption⟩ | exact lv)
@[reducible,instance] def Q1d{r1}{s}:=upL (N:=N) (s:=s) (La.eq_def N r1) (fun t=>t.1) r1.length (fun t=>sz r1≤1000000000000∧t.2=r1∧r1.length≤1000000000000) (fun r:(((List Qa)))=>r=r1) (step:=by
  intro s h h0 h1 h2 hw
  try simp only[sS,reduceCtorEq]at *
  repeat' (first | intro _ | apply And.intro)
  all_goals first | ((repeat cases ‹_∧_›); subst_vars; exact Qdz (by assumption) (by assumption)) | grind [Qdz] | exact lv)
@[reducible,instance] def Q8f{x0}:=mkW (Gy.eq_1 N x0) (sz x0.1≤1000000000000∧x0.2.1.length≤1000000000000∧x0.2.2.length≤1000000000000) (fun r=>r=x0)
@[reducible,instance] def Q2k{r1}{s}:=upL (N:=N) (s:=s) (Mz.eq_def N r1) (fun t=>t.1) r1.length (fun t=>sz r1≤1000000000000∧t.2=r1∧r1.length≤1000000000000) (fun r:(((List Qa)))=>r=r1) (step:=by
  intro s h h0 h1 h2 hw
  try simp only[sS,reduceCtorEq]at *
  repeat' (first | intro _ | apply And.intro)
  all_goals first | ((repeat cases ‹_∧_›); subst_vars; exact Qdz (by assumption) (by assumption)) | grind [Qdz] | exact lv)
@[reducible,instance] def Ja7{x0}:=mkW (Eb.eq_1 N x0) (sz x0.1≤1000000000000∧x0.2.1.length≤1000000000000∧x0.2.2.length≤1000000000000) (fun r=>r=x0)
@[reducible,instance] def Q2l{x0}:=mkW (Xo.eq_1 N x0) (x0.2.2.2.2.2.2.1.length≤1000000000000∧x0.2.2.2.2.1.2.2.2.2.2.2.1.2.2.2.2.length≤4096) (fun r=>r=(x0.1,x0.2.1,x0.2.2.1,x0.2.2.2.1,x0.2.2.2.2.1.1,x0.2.2.2.2.1.2.1,x0.2.2.2.2.1.2.2.1,x0.2.2.2.2.1.2.2.2.1,x0.2.2.2.2.1.2.2.2.2.1,x0.2.2.2.2.1.2.2.2.2.2.1,x0.2.2.2.2.1.2.2.2.2.2.2.1.1,x0.2.2.2.2.1.2.2.2.2.2.2.1.2.1,x0.2.2.2.2.1.2.2.2.2.2.2.1.2.2.1,x0.2.2.2.2.1.2.2.2.2.2.2.1.2.2.2.1,x0.2.2.2.2.1.2.2.2.2.2.2.2.1,x0.2.2.2.2.1.2.2.2.2.2.2.2.2,x0.2.2.2.2.2.1,x0.2.2.2.2.2.2.2.1,x0.2.2.2.2.2.2.2.2.1,x0.2.2.2.2.2.2.2.2.2.1,x0.2.2.2.2.2.2.2.2.2.2,x0.2.2.2.2.1.2.2.2.2.2.2.1.2.2.2.2,x0.2.2.2.2.2.2.1))
@[reducible,instance] def Jeu{x0 x1 x2 x3}:=mkW (Uz.eq_1 N x0 x1 x2 x3) (sz x0.1≤1000000000000∧x0.2.1.length≤1000000000000∧x0.2.2.length≤1000000000000∧x1.2.2.2.2.2.2.1.length≤1000000000000∧x1.2.2.2.2.1.2.2.2.2.2.2.1.2.2.2.2.length≤4096) (fun r=>r=(x1.1,x1.2.1,x1.2.2.1,x1.2.2.2.1,x1.2.2.2.2.1.1,x1.2.2.2.2.1.2.1,x1.2.2.2.2.1.2.2.1,x1.2.2.2.2.1.2.2.2.1,x1.2.2.2.2.1.2.2.2.2.1,x1.2.2.2.2.1.2.2.2.2.2.1,x1.2.2.2.2.1.2.2.2.2.2.2.1.1,x1.2.2.2.2.1.2.2.2.2.2.2.1.2.1,x1.2.2.2.2.1.2.2.2.2.2.2.1.2.2.1,x1.2.2.2.2.1.2.2.2.2.2.2.1.2.2.2.1,x1.2.2.2.2.1.2.2.2.2.2.2.2.1,x1.2.2.2.2.1.2.2.2.2.2.2.2.2,x1.2.2.2.2.2.1,x1.2.2.2.2.2.2.2.1,x1.2.2.2.2.2.2.2.2.1,x1.2.2.2.2.2.2.2.2.2.1,x1.2.2.2.2.2.2.2.2.2.2,(x2.1,x2.2.1,0,0,x3),x0.1,x0.2.1,x0.2.2,x1.2.2.2.2.1.2.2.2.2.2.2.1.2.2.2.2,x1.2.2.2.2.2.2.1))
@[reducible,instance] def Jiq{x0 x1}:=mkW (E4.eq_1 N x0 x1) (sz x0.1≤1000000000000∧x0.2.1.length≤1000000000000∧x0.2.2.length≤1000000000000∧x1.2.2.2.2.2.2.1.length≤1000000000000∧x1.2.2.2.2.1.2.2.2.2.2.2.1.2.2.2.2.length≤4096) (fun r=>r=(x1.1,x1.2.1,x1.2.2.1,x1.2.2.2.1,x1.2.2.2.2.1.1,x1.2.2.2.2.1.2.1,x1.2.2.2.2.1.2.2.1,x1.2.2.2.2.1.2.2.2.1,x1.2.2.2.2.1.2.2.2.2.1,x1.2.2.2.2.1.2.2.2.2.2.1,x1.2.2.2.2.1.2.2.2.2.2.2.1.1,x1.2.2.2.2.1.2.2.2.2.2.2.1.2.1,x1.2.2.2.2.1.2.2.2.2.2.2.1.2.2.1,x1.2.2.2.2.1.2.2.2.2.2.2.1.2.2.2.1,x1.2.2.2.2.1.2.2.2.2.2.2.2.1,x1.2.2.2.2.1.2.2.2.2.2.2.2.2,x1.2.2.2.2.2.1,x1.2.2.2.2.2.2.2.1,x1.2.2.2.2.2.2.2.2.1,x1.2.2.2.2.2.2.2.2.2.1,x1.2.2.2.2.2.2.2.2.2.2,x1.2.2.2.2.1.2.2.2.2.2.2.1.2.2.2.2,x1.2.2.2.2.2.2.1,x0.1,x0.2.1,x0.2.2))
@[reducible,instance] def Jnm{x0 x1}:=mkW (K5.eq_1 N x0 x1) (True) (fun r=>r=true→0≤x0∧x0≤x1)
@[reducible,instance] def Q6x{x0 x1}{s}:=upL (N:=N) (s:=s) (Pq.eq_def N x0 x1) (fun t=>t.2.2) x0.length (fun t=>x0.length≤64∧Qu Qot x0∧0≤t.2.1∧t.2.1≤2199023255552∧x1≤2199023255552) (fun r:((Int)⊕(Int×Bool))=>True) (step:=by
  intro s h h0 h1 h2 hw
  have g0:=(fun y hy=>⟨(h.2.1.all y hy).upto,(h.2.1.all y hy).inc,(h.2.1.all y hy).price⟩:∀y∈x0,(0≤y.1∧y.1≤1099511627776)∧(1≤y.2.1∧y.2.1≤1099511627776)∧(0≤y.2.2∧y.2.2≤1125899906842624)); have g1:=Jm0
  try simp only[sS,reduceCtorEq]at *
  repeat' (first | intro _ | apply And.intro)
  all_goals first | exact Jxt (by assumption) (g0 _ (by assumption)).2.1 (by assumption) h.2.2.1 (by first | omega | (have k:=(g0 _ (by assumption)).1.2; split<;>omega)) | (have k:=(g0 _ (by assumption)).1.2; split<;>omega) | exact lv)
@[reducible,instance] def Jev{x0 x1}:=mkW (L9.eq_1 N x0 x1) (x0.length≤64∧Qu Qot x0∧x1≤2199023255552) (fun r=>True)
@[reducible,instance] def Jnn{x0 x1}:=mkW (Qdd.eq_1 N x0 x1) (x0.length≤4096) (fun r=>True)
@[reducible,instance] def Q6y{x0 x1}:=mkW (W6.eq_1 N x0 x1) (x0.2.2.2.2.2.2.1.2.2.2.2.length≤4096) (fun r=>True)
@[reducible,instance] def Q8g{x0 x1}:=mkW (K6.eq_1 N x0 x1) (x0.2.2.2.2.2.2.1.2.2.2.2.length≤4096) (fun r=>True)
@[reducible,instance] def Q2m{x0 ce c7}:=mkW (Ev.eq_1 N x0 ce c7) (ce.2.2.2.2.2.2.1.2.2.2.2.length≤4096) (fun r=>True)
@[reducible,instance] def Q1e{x0 x2}{s}:=mkL (N:=N) (s:=s) (Le.eq_def N x0 x2) (fun t=>(t.2 - t.1).toNat) (fun t=>x0.2.2.2.2.2.2.1.2.2.2.2.length≤4096∧0≤t.1∧t.1≤t.2∧t.2≤9223372036854775807) (fun r:((Int))=>True) (step:=by
  intro s h
  have g0:=(show 0≤s.1∧s.1<s.2∧s.2≤9223372036854775807→IntKind.wrap .i64 (s.2 - IntKind.wrap .i64 (Int.tdiv (IntKind.wrap .i64 (s.2 - s.1)) 2))=s.2 - (s.2 - s.1) / 2∧IntKind.wrap .i64 (s.2 - (s.2 - s.1) / 2 - 1)=s.2 - (s.2 - s.1) / 2 - 1 from fun a=>by rw[Q5 (n:=s.2 - s.1) (by omega) (by omega),QM (by omega),Q5 (n:=(s.2 - s.1) / 2) (by omega) (by omega),Q5 (by omega) (by omega),Q5 (by omega) (by omega)]; exact⟨rfl,rfl⟩)
  try simp only[sS,reduceCtorEq]at *
  repeat' (first | intro _ | apply And.intro)
  all_goals first | ((have q:=(by assumption:_∧_∧_∧_); have k:=g0 ⟨q.2.1,(by assumption),q.2.2.2⟩; simp only[k.1,k.2]); omega) | exact lv)
@[reducible,instance] def Q8h{x0 x1 x2}:=mkW (B6.eq_1 N x0 x1 x2) (x0.2.2.2.2.2.2.1.2.2.2.2.length≤4096∧x1≤9223372036854775807) (fun r=>True)
@[reducible,instance] def Joh{x0}:=mkW (So.eq_1 N x0) (True) (fun r=>True)
@[reducible,instance] def Q8i{ce x2}{s}:=upL (N:=N) (s:=s) (Sr.eq_def N ce x2) (fun t=>t) ce.length (fun t=>ce.length≤1000000000000) (fun r:((Unit)⊕(Int))=>True)
@[reducible,instance] def Jhr{x0 x1_0 x1_2 x2 x3 ce}:=mkW (Pr.eq_1 N x0 x1_0 x1_2 x2 x3 ce) (x0.1.length≤40∧ce.length≤1000000000000) (fun r=>True)
@[reducible,instance] def Jhs[Y4]{x0 x1_0 x1_2 x2 x3 x4 ce}:=mkW (B7.eq_1 N x0 x1_0 x1_2 x2 x3 x4 ce) (x0.1.length≤40∧Qu (fun m:Ql=>Aft m.1) x0.1∧sz x1_0≤1000000000000∧ce.length≤1000000000000∧x2.2.2.2.2.2.2.1.2.2.2.2.length≤4096) (fun r=>True) (k:=by
  intro h
  have g0:=h.2.1; have g1:=Jqj
  try simp only[sS,reduceCtorEq]at *
  repeat' (first | intro _ | apply And.intro)
  all_goals first | exact g0 | exact g1 _ | exact lv)
@[reducible,instance] def Jqp{x0 x1}:=mkW (Qde.eq_1 N x0 x1) (x0.2.2.2.2.2.2.1.2.2.2.2.length≤4096) (fun r=>True)
@[reducible,instance] def Jno{x0 x1 x2}:=mkW (Nm.eq_1 N x0 x1 x2) (x0.2.2.2.2.2.2.1.2.2.2.2.length≤4096) (fun r=>r.2.2.2.2.2.2.2.2.2.2.2.2.2.2.length≤4096)
@[reducible,instance] def Joi{x0 x1}:=mkW (Sq.eq_1 N x0 x1) (True) (fun r=>True)
@[reducible,instance] def Jir{x0 x1 x2}:=mkW (Ii.eq_1 N x0 x1 x2) (True) (fun r=>True)
@[reducible,instance] def Jqq[Y4]{x0 x1 x2 x3 x4 x5}:=mkW (Qkf.eq_1 N x0 x1 x2 x3 x4 x5) (Lx x0∧Qu (fun m:Ql=>Aft m.1) x0.1∧Sh.sh x4∧List.length x4≤9223372036854775807) (fun r=>r.2.2.2.2.2.2.2.2.2.2.2.2.2.length≤4096∧(r.2.2.2.2.2.2.2.2.2.2.2.2.1=0→x5<12622780800)) (k:=by
  intro h
  have g0:=h.1.ev; have g1:=h.1.tarL; have g2:=h.1.tarS; have g3:=h.1.tarO; have g4:=h.1.hol; have g5:=h.2.1
  try simp only[sS,reduceCtorEq]at *
  repeat' (first | intro _ | apply And.intro)
  all_goals first | assumption | exact lv)
@[reducible,instance] def Joj{x0 x1 x2}:=mkW (Qf2.eq_1 N x0 x1 x2) (True) (fun r=>True)
@[reducible,instance] def Jht{v6 x7}{s}:=upL (N:=N) (s:=s) (Qf3.eq_def N v6 x7) (fun t=>t.2) v6.length (fun t=>v6.length≤1000000000000∧t.1 = -1) (fun r:((Int)) => -1≤r∧r<v6.length)
@[reducible,instance] def Jhu{x1}{s}:=upL (N:=N) (s:=s) (Qf4.eq_def N x1) (fun t=>t.1) x1.length (fun t=>x1.length≤1000000000000∧t.2.length=s.2.length∧s.2.length≤1000000000000∧sz t.2≤1000000000000) (fun r:(((List Qa))⊕(Int))=>∀t,r=.inl t→t.length=s.2.length∧sz t≤1000000000000)
@[reducible,instance] def Jok{x0 x1}:=mkW (Ss.eq_1 N x0 x1) (sz x0≤1000000000000∧x1.length≤1000000000000) (fun r=>r.2.length≤x0.length∧sz r.2≤1000000000000)
@[reducible,instance] def Qq6{x0 gm gn gp gq gk gr gt gw gx gy gj j9 cd cj}:=mkW (Z5.eq_1 N x0 gm gn gp gq gk gr gt gw gx gy gj j9 cd cj) (True) (fun r=>True)
@[reducible,instance] def Qjo{ce du dv dw dx dy dz ga gb gc gg d9 gi cj}{s}:=upL (N:=N) (s:=s) (Kg.eq_def N ce du dv dw dx dy dz ga gb gc gg d9 gi cj) (fun t=>t) ce.length (fun t=>ce.length≤1000000000000) (fun r:((Unit)⊕(Int))=>∀t,r=.inr t→0≤t∧t<ce.length)
@[reducible,instance] def Qm3{ce du dv dw dx dy dz ga gb gc gg d9 gi cj}:=mkW (Y6.eq_1 N ce du dv dw dx dy dz ga gb gc gg d9 gi cj) (ce.length≤1000000000000) (fun r => -1≤r∧r<ce.length)
@[reducible,instance] def Qvc{cm cy cp cz d5 ck cx ct cq d3 cg ci c7 cd}:=mkW (Xf.eq_1 N cm cy cp cz d5 ck cx ct cq d3 cg ci c7 cd) (cd.length≤1000000000000) (fun r => -1≤r.1∧r.1<cd.length∧r.2=cd)
@[reducible,instance] def Qvd{cm cy cp cz d5 ck cx ct cq d3 cg ci c7 cd}:=mkW (Xg.eq_1 N cm cy cp cz d5 ck cx ct cq d3 cg ci c7 cd) (cd.length≤1000000000000) (fun r => -1≤r.1∧r.1<cd.length∧r.2.1=cm∧r.2.2.1=cy∧r.2.2.2.1=cp∧r.2.2.2.2.1=cz∧r.2.2.2.2.2.1=d5∧r.2.2.2.2.2.2.1=ck∧r.2.2.2.2.2.2.2.1=cx∧r.2.2.2.2.2.2.2.2.1=ct∧r.2.2.2.2.2.2.2.2.2.1=cq∧r.2.2.2.2.2.2.2.2.2.2.1=d3∧r.2.2.2.2.2.2.2.2.2.2.2.1=cg∧r.2.2.2.2.2.2.2.2.2.2.2.2.1=ci∧r.2.2.2.2.2.2.2.2.2.2.2.2.2.1=c7∧r.2.2.2.2.2.2.2.2.2.2.2.2.2.2=cd)
@[reducible,instance] def Qq7{x0 gm gn gp gq gk gr gt gw gx gy gj cd cj cw}:=mkW (Z6.eq_1 N x0 gm gn gp gq gk gr gt gw gx gy gj cd cj cw) (True) (fun r=>True)
@[reducible,instance] def Qjp{ce du dv dw dx dy dz ga gb gc gg d9 cj cw}{s}:=upL (N:=N) (s:=s) (Kh.eq_def N ce du dv dw dx dy dz ga gb gc gg d9 cj cw) (fun t=>t) ce.length (fun t=>ce.length≤1000000000000) (fun r:((Unit)⊕(Int))=>∀t,r=.inr t→0≤t∧t<ce.length)
@[reducible,instance] def Qm4{ce du dv dw dx dy dz ga gb gc gg d9 cj cw}:=mkW (Ue.eq_1 N ce du dv dw dx dy dz ga gb gc gg d9 cj cw) (ce.length≤1000000000000) (fun r => -1≤r.1∧r.1<ce.length∧r.2.1=ce∧r.2.2.1=du∧r.2.2.2.1=dv∧r.2.2.2.2.1=dw∧r.2.2.2.2.2.1=dx∧r.2.2.2.2.2.2.1=dy∧r.2.2.2.2.2.2.2.1=dz∧r.2.2.2.2.2.2.2.2.1=ga∧r.2.2.2.2.2.2.2.2.2.1=gb∧r.2.2.2.2.2.2.2.2.2.2.1=gc∧r.2.2.2.2.2.2.2.2.2.2.2.1=gg∧r.2.2.2.2.2.2.2.2.2.2.2.2.1=d9∧r.2.2.2.2.2.2.2.2.2.2.2.2.2.1=cj∧r.2.2.2.2.2.2.2.2.2.2.2.2.2.2=cw)
@[reducible,instance] def Qve{cm cy cp cz da db de dg dh di dj dl dm dn jc dp dq ck cx ct cq d3 cg c7 cd cj}:=mkW (Xh.eq_1 N cm cy cp cz da db de dg dh di dj dl dm dn jc dp dq ck cx ct cq d3 cg c7 cd cj) (cd.length≤1000000000000) (fun r => -1≤r.1∧r.1<cd.length∧r.2.1=cm∧r.2.2.1=cy∧r.2.2.2.1=cp∧r.2.2.2.2.1=cz∧r.2.2.2.2.2.1.1=da∧r.2.2.2.2.2.1.2.1=db∧r.2.2.2.2.2.1.2.2.1=de∧r.2.2.2.2.2.1.2.2.2.1=dg∧r.2.2.2.2.2.1.2.2.2.2.1=dh∧r.2.2.2.2.2.1.2.2.2.2.2.1=di∧r.2.2.2.2.2.1.2.2.2.2.2.2.1.1=dj∧r.2.2.2.2.2.1.2.2.2.2.2.2.1.2.1=dl∧r.2.2.2.2.2.1.2.2.2.2.2.2.1.2.2.1=dm∧r.2.2.2.2.2.1.2.2.2.2.2.2.1.2.2.2.1=dn∧r.2.2.2.2.2.1.2.2.2.2.2.2.1.2.2.2.2=jc∧r.2.2.2.2.2.1.2.2.2.2.2.2.2.1=dp∧r.2.2.2.2.2.1.2.2.2.2.2.2.2.2=dq∧r.2.2.2.2.2.2.1=ck∧r.2.2.2.2.2.2.2.1=cx∧r.2.2.2.2.2.2.2.2.1=ct∧r.2.2.2.2.2.2.2.2.2.1=cq∧r.2.2.2.2.2.2.2.2.2.2.1=d3∧r.2.2.2.2.2.2.2.2.2.2.2.1=cg∧r.2.2.2.2.2.2.2.2.2.2.2.2.1=c7∧r.2.2.2.2.2.2.2.2.2.2.2.2.2.1=cd∧r.2.2.2.2.2.2.2.2.2.2.2.2.2.2=cj)
@[reducible,instance] def Qq8{x0 jd gj j9 cd}:=mkW (Z7.eq_1 N x0 jd gj j9 cd) (True) (fun r=>True)
@[reducible,instance] def Qjq{ce ja d9 gi}{s}:=upL (N:=N) (s:=s) (Ki.eq_def N ce ja d9 gi) (fun t=>t) ce.length (fun t=>ce.length≤1000000000000) (fun r:((Unit)⊕(Int))=>∀t,r=.inr t→0≤t∧t<ce.length)
@[reducible,instance] def Qm5{ce ja d9 gi}:=mkW (Uf.eq_1 N ce ja d9 gi) (ce.length≤1000000000000) (fun r => -1≤r∧r<ce.length)
@[reducible,instance] def Qvf{ca cg ci c7}:=mkW (Xi.eq_1 N ca cg ci c7) (c7.length≤1000000000000) (fun r => -1≤r.1∧r.1<c7.length∧r.2=c7)
@[reducible,instance] def Qrp{x1 cm cy cp cz d5 ck cx ct cq d3 cg ci c7 cd}:=mkW (Kr.eq_1 N x1 cm cy cp cz d5 ck cx ct cq d3 cg ci c7 cd) (cd.length≤1000000000000∧d5.2.2.2.2.2.2.1.2.2.2.2.length≤4096) (fun r=>r.1=cm∧r.2.1=cy∧r.2.2.1=cp∧r.2.2.2.1=cz∧r.2.2.2.2.1=d5∧r.2.2.2.2.2.1=ck∧r.2.2.2.2.2.2.2.1=ct∧r.2.2.2.2.2.2.2.2.1=cq∧r.2.2.2.2.2.2.2.2.2.1=d3∧r.2.2.2.2.2.2.2.2.2.2.1=cg∧r.2.2.2.2.2.2.2.2.2.2.2.1=ci∧r.2.2.2.2.2.2.2.2.2.2.2.2.1=c7∧r.2.2.2.2.2.2.2.2.2.2.2.2.2.length=cd.length)
@[reducible,instance] def Qrq{x1 ca cg ci c7}:=mkW (Ks.eq_1 N x1 ca cg ci c7) (c7.length≤1000000000000∧ca.2.2.2.2.2.2.1.length≤1000000000000∧ca.2.2.2.2.1.2.2.2.2.2.2.1.2.2.2.2.length≤4096) (fun r=>r.1.1=ca.1∧r.1.2.1=ca.2.1∧r.1.2.2.1=ca.2.2.1∧r.1.2.2.2.1=ca.2.2.2.1∧r.1.2.2.2.2.1=ca.2.2.2.2.1∧r.1.2.2.2.2.2.1=ca.2.2.2.2.2.1∧r.1.2.2.2.2.2.2.1=ca.2.2.2.2.2.2.1∧r.1.2.2.2.2.2.2.2.2.1=ca.2.2.2.2.2.2.2.2.1∧r.1.2.2.2.2.2.2.2.2.2.1=ca.2.2.2.2.2.2.2.2.2.1∧r.1.2.2.2.2.2.2.2.2.2.2=ca.2.2.2.2.2.2.2.2.2.2∧r.2.1=cg∧r.2.2.1=ci∧r.2.2.2.length=c7.length)
@[reducible,instance] def Qvg{c7 x1}{s}:=upL (N:=N) (s:=s) (E6.eq_def N c7 x1) (fun t=>t.2.1) c7.length (fun t=>c7.length≤1000000000000∧t.2.2.length≤t.2.1) (fun r:((Int×(List Qn)))=>r.2.length≤c7.length)
@[reducible,instance] def Qp7{cd x1}{s}:=upL (N:=N) (s:=s) (G4.eq_def N cd x1) (fun t=>t.2.1) cd.length (fun t=>cd.length≤1000000000000∧t.2.2.length≤t.2.1) (fun r:((Int×(List Qn)))=>r.2.length≤cd.length)
@[reducible,instance] def Qyr{x1 cm cy cp cz d5 ck cx ct cq d3 cg ci c7 cd}:=mkW (Gn.eq_1 N x1 cm cy cp cz d5 ck cx ct cq d3 cg ci c7 cd) (sz cg≤1000000000000∧c7.length≤1000000000000∧cd.length≤1000000000000∧d5.2.2.2.2.2.2.1.2.2.2.2.length≤4096) (fun r=>r.1.1=cm∧r.1.2.1=cy∧r.1.2.2.1=cp∧r.1.2.2.2.1=cz∧r.1.2.2.2.2.2.1=0∧r.1.2.2.2.2.2.2.1=([]:List Qn)∧r.1.2.2.2.2.2.2.2.1=0∧r.1.2.2.2.2.2.2.2.2.2.1=cq∧r.1.2.2.2.2.2.2.2.2.2.2=d3∧r.2.2.1=ci∧r.1.2.2.2.2.2.2.1.length≤1000000000000∧r.1.2.2.2.2.1.2.2.2.2.2.2.1.2.2.2.2.length≤4096∧r.2.1.length≤cg.length∧sz r.2.1≤1000000000000∧r.2.2.2.length=cd.length) (k:=by
  intro h
  try simp only[sS,reduceCtorEq]at *
  repeat' (first | intro _ | apply And.intro)
  all_goals first | ((repeat cases ‹_∧_›); first | assumption | omega | (simp only[*]; first | done | assumption | omega)) | exact lv)
@[reducible,instance] def Qvh{x1 cm cy cp cz da db de dg dh di dj dl dm dn dp dq ck cx ct cq d3 c7 cd cj cw d6}:=mkW (Un.eq_1 N x1 cm cy cp cz da db de dg dh di dj dl dm dn dp dq ck cx ct cq d3 c7 cd cj cw d6) (sz cj≤1000000000000∧cd.length≤1000000000000∧cw.length≤1000000000000∧c7.length≤4096) (fun r=>r.1.1=cm∧r.1.2.1=cy∧r.1.2.2.1=cp∧r.1.2.2.2.1=cz∧r.1.2.2.2.2.2.1=0∧r.1.2.2.2.2.2.2.1=([]:List Qn)∧r.1.2.2.2.2.2.2.2.1=0∧r.1.2.2.2.2.2.2.2.2.2.1=cq∧r.1.2.2.2.2.2.2.2.2.2.2=d3∧r.2.2.2=d6∧r.1.2.2.2.2.2.2.1.length≤1000000000000∧r.1.2.2.2.2.1.2.2.2.2.2.2.1.2.2.2.2.length≤4096∧r.2.1.length≤cj.length∧sz r.2.1≤1000000000000∧r.2.2.1.length=cw.length) (k:=by
  intro h
  try simp only[sS,reduceCtorEq]at *
  repeat' (first | intro _ | apply And.intro)
  all_goals first | ((repeat cases ‹_∧_›); first | assumption | omega | (simp only[*]; first | done | assumption | omega)) | exact lv)
@[reducible,instance] def Q1f[Y4]{x1 x2 x3 cm cy cp cz da db de dg dh di dj dl dm dn dp dq ck cx ct cq d3 c7 cd cj cw d6}:=mkW (Hw.eq_1 N x1 x2 x3 cm cy cp cz da db de dg dh di dj dl dm dn dp dq ck cx ct cq d3 c7 cd cj cw d6) (Lx x1∧Qu (fun m:Ql=>Aft m.1) x1.1∧(0<x1.1.length→x2<Y4.hi)∧cj.length≤900000000000∧sz cj≤1000000000000∧cw.length≤1000000000∧d6.length≤1000000000∧c7.length≤4096∧cd.length≤1000000000000) (fun r=>r.2.1=cm∧r.2.2.1=cy∧r.2.2.2.1=cp∧r.2.2.2.2.2.1=da∧r.2.2.2.2.2.2.1=db∧r.2.2.2.2.2.2.2.1=de∧r.2.2.2.2.2.2.2.2.1=dg∧r.2.2.2.2.2.2.2.2.2.1=dh∧r.2.2.2.2.2.2.2.2.2.2.1=di∧r.2.2.2.2.2.2.2.2.2.2.2.1=dj∧r.2.2.2.2.2.2.2.2.2.2.2.2.1=dl∧r.2.2.2.2.2.2.2.2.2.2.2.2.2.1=dm∧r.2.2.2.2.2.2.2.2.2.2.2.2.2.2.1=dn∧r.2.2.2.2.2.2.2.2.2.2.2.2.2.2.2.1=c7∧r.2.2.2.2.2.2.2.2.2.2.2.2.2.2.2.2.1=dp∧r.2.2.2.2.2.2.2.2.2.2.2.2.2.2.2.2.2.1=dq∧r.2.2.2.2.2.2.2.2.2.2.2.2.2.2.2.2.2.2.2.2.1=ct∧r.2.2.2.2.2.2.2.2.2.2.2.2.2.2.2.2.2.2.2.2.2.1=cq∧r.2.2.2.2.2.2.2.2.2.2.2.2.2.2.2.2.2.2.2.2.2.2.1=d3∧r.2.2.2.2.2.2.2.2.2.2.2.2.2.2.2.2.2.2.2.2.2.2.2.2.1=d6∧r.2.2.2.2.2.2.2.2.2.2.2.2.2.2.2.2.2.2.2.2.2.2.2.1.length≤cj.length+11468800000∧sz r.2.2.2.2.2.2.2.2.2.2.2.2.2.2.2.2.2.2.2.2.2.2.2.1≤1000000000000∧r.2.2.2.2.2.2.2.2.2.2.2.2.2.2.2.2.2.2.2.2.2.2.2.2.2.1.length≤1000000000000∧r.2.2.2.2.2.2.2.2.2.2.2.2.2.2.2.2.2.2.2.2.2.2.2.2.2.2.length≤cw.length+1) (k:=by
  intro h
  have g0:=h.1.ev; have g1:=h.1.tarL; have g2:=h.1.tarS; have g3:=h.1.tarO; have g4:=h.1.prodL; have g5:=h.1.prodS; have g6:=h.1.prodO; have g7:=h.1.hol
  try simp only[sS,reduceCtorEq]at *
  repeat' (first | intro _ | apply And.intro)
  all_goals first | ((repeat cases ‹_∧_›); first | assumption | omega | (simp only[*]; first | done | assumption | omega) | grind) | exact lv)
@[reducible,instance] def Qvp[Y4]{x1 x2 x3 ca cg c7 cd}:=mkW (X8.eq_1 N x1 x2 x3 ca cg c7 cd) (Lx x1∧Qu (fun m:Ql=>Aft m.1) x1.1∧(0<x1.1.length→x2<Y4.hi)∧cg.length≤900000000000∧sz cg≤1000000000000∧c7.length≤1000000000∧cd.length≤1000000000∧ca.2.2.2.2.2.2.1.length≤1000000000000∧ca.2.2.2.2.1.2.2.2.2.2.2.1.2.2.2.2.length≤4096) (fun r=>r.2.1.1=ca.1∧r.2.1.2.1=ca.2.1∧r.2.1.2.2.1=ca.2.2.1∧r.2.1.2.2.2.2.1=ca.2.2.2.2.1∧r.2.1.2.2.2.2.2.2.2.2.1=ca.2.2.2.2.2.2.2.2.1∧r.2.1.2.2.2.2.2.2.2.2.2.1=ca.2.2.2.2.2.2.2.2.2.1∧r.2.1.2.2.2.2.2.2.2.2.2.2=ca.2.2.2.2.2.2.2.2.2.2∧r.2.2.2.1=cd∧r.2.1.2.2.2.2.2.2.1.length≤1000000000000∧r.2.1.2.2.2.2.1.2.2.2.2.2.2.1.2.2.2.2.length≤4096∧r.2.2.1.length≤cg.length+11468800000∧sz r.2.2.1≤1000000000000∧r.2.2.2.2.length≤c7.length+1) (k:=by
  intro h
  have g0:=h.1.ev; have g1:=h.1.tarL; have g2:=h.1.tarS; have g3:=h.1.tarO; have g4:=h.1.prodL; have g5:=h.1.prodS; have g6:=h.1.prodO; have g7:=h.1.hol
  try simp only[sS,reduceCtorEq]at *
  repeat' (first | intro _ | apply And.intro)
  all_goals first | ((repeat cases ‹_∧_›); first | assumption | omega | (simp only[*]; first | done | assumption | omega) | grind) | exact lv)
@[reducible,instance] def Q2n{x1 x2 x3 x4 cm cy cp cz d5 ck cx ct cq d3 cg ci c7 cd}:=mkW (Ew.eq_1 N x1 x2 x3 x4 cm cy cp cz d5 ck cx ct cq d3 cg ci c7 cd) (True) (fun r=>r=(cg,ci,cm,x1.2.1,cp,cz,d5,ck,cx,ct,cq,(x1.1,x1.2.1,x2,x3,x4),(x1.1,x1.2.1,x2,x3,x4),cm,x1.2.1,cp,cz,d5,ck,cx,ct,cq,(x1.1,x1.2.1,x2,x3,x4),cg,ci,cd,c7))
@[reducible,instance] def Qwg{x1 x2 x3 x4 ca cg ci c7}:=mkW (Zf.eq_1 N x1 x2 x3 x4 ca cg ci c7) (True) (fun r=>r=(cg,ci,(ca.1,x1.2.1,ca.2.2.1,ca.2.2.2.1,ca.2.2.2.2.1,ca.2.2.2.2.2.1,ca.2.2.2.2.2.2.1,ca.2.2.2.2.2.2.2.1,ca.2.2.2.2.2.2.2.2.1,ca.2.2.2.2.2.2.2.2.2.1,(x1.1,x1.2.1,x2,x3,x4)),(x1.1,x1.2.1,x2,x3,x4),(ca.1,x1.2.1,ca.2.2.1,ca.2.2.2.1,ca.2.2.2.2.1,ca.2.2.2.2.2.1,ca.2.2.2.2.2.2.1,ca.2.2.2.2.2.2.2.1,ca.2.2.2.2.2.2.2.2.1,ca.2.2.2.2.2.2.2.2.2.1,(x1.1,x1.2.1,x2,x3,x4)),cg,ci,c7))
@[reducible,instance] def Qwh{x1 x2 x3 x4 ca cg c7 cd}:=mkW (W7.eq_1 N x1 x2 x3 x4 ca cg c7 cd) (True) (fun r=>r=(cg,(ca.1,x1.2.1,ca.2.2.1,ca.2.2.2.1,ca.2.2.2.2.1,ca.2.2.2.2.2.1,ca.2.2.2.2.2.2.1,ca.2.2.2.2.2.2.2.1,ca.2.2.2.2.2.2.2.2.1,ca.2.2.2.2.2.2.2.2.2.1,(x1.1,x1.2.1,x2,x3,x4)),(x1.1,x1.2.1,x2,x3,x4),(ca.1,x1.2.1,ca.2.2.1,ca.2.2.2.1,ca.2.2.2.2.1,ca.2.2.2.2.2.1,ca.2.2.2.2.2.2.1,ca.2.2.2.2.2.2.2.1,ca.2.2.2.2.2.2.2.2.1,ca.2.2.2.2.2.2.2.2.2.1,(x1.1,x1.2.1,x2,x3,x4)),cg,c7,cd))
@[reducible,instance] def Q1g{x1 ca cg ci c7}:=mkW (Hx.eq_1 N x1 ca cg ci c7) (True) (fun r=>r=((ca.1,ca.2.1,ca.2.2.1,x1,ca.2.2.2.2.1,ca.2.2.2.2.2.1,ca.2.2.2.2.2.2.1,ca.2.2.2.2.2.2.2.1,ca.2.2.2.2.2.2.2.2.1,true,ca.2.2.2.2.2.2.2.2.2.2),cg,ci,c7))
@[reducible,instance] def Qvq{x1 ca cg c7 cd}:=mkW (X7.eq_1 N x1 ca cg c7 cd) (True) (fun r=>r=((ca.1,ca.2.1,ca.2.2.1,x1,ca.2.2.2.2.1,ca.2.2.2.2.2.1,ca.2.2.2.2.2.2.1,ca.2.2.2.2.2.2.2.1,ca.2.2.2.2.2.2.2.2.1,true,ca.2.2.2.2.2.2.2.2.2.2),cg,c7,cd))
@[reducible,instance] def Qvr{x1 x2 cm cy cp cz d5 ck cx ct cq d3 cg ci c7 cd}:=mkW (X6.eq_1 N x1 x2 cm cy cp cz d5 ck cx ct cq d3 cg ci c7 cd) (True) (fun r=>r.1=cg∧r.2.1=ci∧r.2.2.1=cm∧r.2.2.2.1=x1.2.1∧r.2.2.2.2.1=cp∧r.2.2.2.2.2.1=cz∧r.2.2.2.2.2.2.1=d5∧r.2.2.2.2.2.2.2.1=ck∧r.2.2.2.2.2.2.2.2.1=cx∧r.2.2.2.2.2.2.2.2.2.1=ct∧r.2.2.2.2.2.2.2.2.2.2.1=cq∧r.2.2.2.2.2.2.2.2.2.2.2.1.1=x1.1∧r.2.2.2.2.2.2.2.2.2.2.2.1.2.1=x1.2.1∧r.2.2.2.2.2.2.2.2.2.2.2.1.2.2.1=ck∧r.2.2.2.2.2.2.2.2.2.2.2.1.2.2.2.2=x2∧r.2.2.2.2.2.2.2.2.2.2.2.2.1.1=x1.1∧r.2.2.2.2.2.2.2.2.2.2.2.2.1.2.1=x1.2.1∧r.2.2.2.2.2.2.2.2.2.2.2.2.1.2.2.1=ck∧r.2.2.2.2.2.2.2.2.2.2.2.2.1.2.2.2.2=x2∧r.2.2.2.2.2.2.2.2.2.2.2.2.2.1=cm∧r.2.2.2.2.2.2.2.2.2.2.2.2.2.2.1=x1.2.1∧r.2.2.2.2.2.2.2.2.2.2.2.2.2.2.2.1=cp∧r.2.2.2.2.2.2.2.2.2.2.2.2.2.2.2.2.1=cz∧r.2.2.2.2.2.2.2.2.2.2.2.2.2.2.2.2.2.1=d5∧r.2.2.2.2.2.2.2.2.2.2.2.2.2.2.2.2.2.2.1=ck∧r.2.2.2.2.2.2.2.2.2.2.2.2.2.2.2.2.2.2.2.1=cx∧r.2.2.2.2.2.2.2.2.2.2.2.2.2.2.2.2.2.2.2.2.1=ct∧r.2.2.2.2.2.2.2.2.2.2.2.2.2.2.2.2.2.2.2.2.2.1=cq∧r.2.2.2.2.2.2.2.2.2.2.2.2.2.2.2.2.2.2.2.2.2.2.1.1=x1.1∧r.2.2.2.2.2.2.2.2.2.2.2.2.2.2.2.2.2.2.2.2.2.2.1.2.1=x1.2.1∧r.2.2.2.2.2.2.2.2.2.2.2.2.2.2.2.2.2.2.2.2.2.2.1.2.2.1=ck∧r.2.2.2.2.2.2.2.2.2.2.2.2.2.2.2.2.2.2.2.2.2.2.1.2.2.2.2=x2∧r.2.2.2.2.2.2.2.2.2.2.2.2.2.2.2.2.2.2.2.2.2.2.2.1=cg∧r.2.2.2.2.2.2.2.2.2.2.2.2.2.2.2.2.2.2.2.2.2.2.2.2.1=ci∧r.2.2.2.2.2.2.2.2.2.2.2.2.2.2.2.2.2.2.2.2.2.2.2.2.2.1=cd∧r.2.2.2.2.2.2.2.2.2.2.2.2.2.2.2.2.2.2.2.2.2.2.2.2.2.2=c7∧r.2.2.2.2.2.2.2.2.2.2.2.1=r.2.2.2.2.2.2.2.2.2.2.2.2.1) (k:=by
  intro h
  try simp only[sS,reduceCtorEq]at *
  repeat' (first | intro _ | apply And.intro)
  all_goals first | ((repeat cases ‹_∧_›); first | assumption | omega | (simp only[*]; first | done | assumption | omega)) | exact lv)
@[reducible,instance] def Qq9{x1 x2 ca cg ci c7}:=mkW (Z8.eq_1 N x1 x2 ca cg ci c7) (True) (fun r=>r.1=cg∧r.2.1=ci∧r.2.2.1.1=ca.1∧r.2.2.1.2.1=x1.2.1∧r.2.2.1.2.2.1=ca.2.2.1∧r.2.2.1.2.2.2.1=ca.2.2.2.1∧r.2.2.1.2.2.2.2.1=ca.2.2.2.2.1∧r.2.2.1.2.2.2.2.2.1=ca.2.2.2.2.2.1∧r.2.2.1.2.2.2.2.2.2.1=ca.2.2.2.2.2.2.1∧r.2.2.1.2.2.2.2.2.2.2.1=ca.2.2.2.2.2.2.2.1∧r.2.2.1.2.2.2.2.2.2.2.2.1=ca.2.2.2.2.2.2.2.2.1∧r.2.2.1.2.2.2.2.2.2.2.2.2.1=ca.2.2.2.2.2.2.2.2.2.1∧r.2.2.1.2.2.2.2.2.2.2.2.2.2.1=x1.1∧r.2.2.1.2.2.2.2.2.2.2.2.2.2.2.1=x1.2.1∧r.2.2.1.2.2.2.2.2.2.2.2.2.2.2.2.1=ca.2.2.2.2.2.1∧r.2.2.1.2.2.2.2.2.2.2.2.2.2.2.2.2.2=x2∧r.2.2.2.1.1=x1.1∧r.2.2.2.1.2.1=x1.2.1∧r.2.2.2.1.2.2.1=ca.2.2.2.2.2.1∧r.2.2.2.1.2.2.2.2=x2∧r.2.2.2.2.1.1=ca.1∧r.2.2.2.2.1.2.1=x1.2.1∧r.2.2.2.2.1.2.2.1=ca.2.2.1∧r.2.2.2.2.1.2.2.2.1=ca.2.2.2.1∧r.2.2.2.2.1.2.2.2.2.1=ca.2.2.2.2.1∧r.2.2.2.2.1.2.2.2.2.2.1=ca.2.2.2.2.2.1∧r.2.2.2.2.1.2.2.2.2.2.2.1=ca.2.2.2.2.2.2.1∧r.2.2.2.2.1.2.2.2.2.2.2.2.1=ca.2.2.2.2.2.2.2.1∧r.2.2.2.2.1.2.2.2.2.2.2.2.2.1=ca.2.2.2.2.2.2.2.2.1∧r.2.2.2.2.1.2.2.2.2.2.2.2.2.2.1=ca.2.2.2.2.2.2.2.2.2.1∧r.2.2.2.2.1.2.2.2.2.2.2.2.2.2.2.1=x1.1∧r.2.2.2.2.1.2.2.2.2.2.2.2.2.2.2.2.1=x1.2.1∧r.2.2.2.2.1.2.2.2.2.2.2.2.2.2.2.2.2.1=ca.2.2.2.2.2.1∧r.2.2.2.2.1.2.2.2.2.2.2.2.2.2.2.2.2.2.2=x2∧r.2.2.2.2.2.1=cg∧r.2.2.2.2.2.2.1=ci∧r.2.2.2.2.2.2.2=c7∧r.2.2.1.2.2.2.2.2.2.2.2.2.2=r.2.2.2.1) (k:=by
  intro h
  try simp only[sS,reduceCtorEq]at *
  repeat' (first | intro _ | apply And.intro)
  all_goals first | ((repeat cases ‹_∧_›); first | assumption | omega | (simp only[*]; first | done | assumption | omega)) | exact lv)
@[reducible,instance] def Jis{x0 x1 x2 x3}:=mkW (Ij.eq_1 N x0 x1 x2 x3) (True) (fun r=>r=0→x1.1=x0.1∧x1.2.2.2.1<12622780800)
@[reducible,instance] def Jit[Y4]{x0 x1 x2}:=mkW (T5.eq_1 N x0 x1 x2) (Lx x0∧Qu (fun m:Ql=>Aft m.1) x0.1∧x1.1.length≤900000000000∧sz x1.1≤1000000000000∧x1.2.1.length≤1000000000∧x1.2.2.length≤1000000000∧Sh.sh x2.2.2.2.2.2.2.1∧List.length x2.2.2.2.2.2.2.1≤9223372036854775807∧(0<x0.1.length→x2.2.2.2.1<12622780800→x2.2.2.2.1<Y4.hi)) (fun r=>r.2.1=x1.2.2∧r.1.length≤x1.1.length+11468800000∧sz r.1≤1000000000000∧r.2.2.2.2.2.2.2.2.2.2.2.2.2.2.2.2.2.2.2.2.2.2.2.2.2.2.length≤x1.2.1.length+1∧r.2.2.2.2.2.2.2.2.2.2.2.2.2.2.2.2.1.length≤4096∧r.2.2.2.2.2.2.2.2.2.2.2.2.2.2.2.2.2.2.2.2.1.length≤1000000000000∧((r.2.2.1=0∧r.1=x1.1∧r.2.2.2.2.2.2.2.2.2.2.2.2.2.2.2.2.2.2.2.2.2.2.2.2.2.2=x1.2.1)∨(r.2.2.1=x2.1∧1≤x2.1∧r.2.2.2.1=x2.2.1∧r.2.2.2.2.2.2.2.2.2.2.2.2.2.2.2.2.2.2.2.2.2.2.2.2.1=r.2.2.2.2.2.2.2.2.2.2.2.2.2.2.2.2.2.2.2.2.2.2.2.2.2.1))) (k:=by
  intro h
  have g0:=h.1.ev; have g1:=h.1.tarL; have g2:=h.1.tarS; have g3:=h.1.tarO; have g4:=h.1.prodL; have g5:=h.1.prodS; have g6:=h.1.prodO; have g7:=h.1.hol
  try simp only[sS,reduceCtorEq]at *
  repeat' (first | intro _ | apply And.intro)
  all_goals first | ((repeat cases ‹_∧_›); first | assumption | trivial | omega | (simp only[*]; first | done | trivial | assumption | omega) | (refine .inl ?_; (repeat' apply And.intro)<;>first | rfl | assumption | omega | (simp only[*]; done)) | (refine .inr ?_; (repeat' apply And.intro)<;>first | rfl | assumption | omega | (simp only[*]; done) | grind) | grind) | exact lv)
@[reducible,instance] def Jhv[Y4]{x0 x1 x2 x3}:=mkW (B8.eq_1 N x0 x1 x2 x3) (Lx x0∧Qu (fun m:Ql=>Aft m.1) x0.1∧x1.1.length≤900000000000∧sz x1.1≤1000000000000∧x1.2.1.length≤1000000000∧x1.2.2.length≤1000000000∧x2.2.2.2.2.2.2.1.length≤1000000000000∧x2.2.2.2.2.1.2.2.2.2.2.2.1.2.2.2.2.length≤4096∧Sh.sh x3.2.2.2.2.2.2.1∧List.length x3.2.2.2.2.2.2.1≤9223372036854775807∧(0<x0.1.length→x3.2.2.2.1<12622780800→x3.2.2.2.1<Y4.hi)) (fun r=>r.2.1=x1.2.2∧r.2.2.1=x2.1∧r.1.length≤x1.1.length+11468800000∧sz r.1≤1000000000000∧r.2.2.2.2.2.2.2.2.2.2.2.2.2.2.2.2.2.2.2.2.2.2.2.2.2.2.length≤x1.2.1.length+1∧r.2.2.2.2.2.2.2.2.2.2.2.2.2.2.2.2.1.length≤4096∧r.2.2.2.2.2.2.2.2.2.2.2.2.2.2.2.2.2.2.2.2.1.length≤1000000000000∧(((r.2.2.1,r.2.2.2.1,r.2.2.2.2.1,r.2.2.2.2.2.1,(r.2.2.2.2.2.2.1,r.2.2.2.2.2.2.2.1,r.2.2.2.2.2.2.2.2.1,r.2.2.2.2.2.2.2.2.2.1,r.2.2.2.2.2.2.2.2.2.2.1,r.2.2.2.2.2.2.2.2.2.2.2.1,(r.2.2.2.2.2.2.2.2.2.2.2.2.1,r.2.2.2.2.2.2.2.2.2.2.2.2.2.1,r.2.2.2.2.2.2.2.2.2.2.2.2.2.2.1,r.2.2.2.2.2.2.2.2.2.2.2.2.2.2.2.1,r.2.2.2.2.2.2.2.2.2.2.2.2.2.2.2.2.1),r.2.2.2.2.2.2.2.2.2.2.2.2.2.2.2.2.2.1,r.2.2.2.2.2.2.2.2.2.2.2.2.2.2.2.2.2.2.1),r.2.2.2.2.2.2.2.2.2.2.2.2.2.2.2.2.2.2.2.1,r.2.2.2.2.2.2.2.2.2.2.2.2.2.2.2.2.2.2.2.2.1,r.2.2.2.2.2.2.2.2.2.2.2.2.2.2.2.2.2.2.2.2.2.1,r.2.2.2.2.2.2.2.2.2.2.2.2.2.2.2.2.2.2.2.2.2.2.1,r.2.2.2.2.2.2.2.2.2.2.2.2.2.2.2.2.2.2.2.2.2.2.2.1,r.2.2.2.2.2.2.2.2.2.2.2.2.2.2.2.2.2.2.2.2.2.2.2.2.1)=x2∧r.1=x1.1∧r.2.2.2.2.2.2.2.2.2.2.2.2.2.2.2.2.2.2.2.2.2.2.2.2.2.2=x1.2.1∧r.2.2.2.2.2.2.2.2.2.2.2.2.2.2.2.2.2.2.2.2.2.2.2.2.2.1.2.1=x3.2.1∧r.2.2.2.2.2.2.2.2.2.2.2.2.2.2.2.2.2.2.2.2.2.2.2.2.2.1.1=x3.1)∨(r.2.2.2.1=x3.2.1∧r.2.2.2.2.2.2.2.2.2.2.2.2.2.2.2.2.2.2.2.2.2.2.2.2.1=r.2.2.2.2.2.2.2.2.2.2.2.2.2.2.2.2.2.2.2.2.2.2.2.2.2.1))) (k:=by
  intro h
  have g0:=h.1.ev; have g1:=h.1.tarL; have g2:=h.1.tarS; have g3:=h.1.tarO; have g4:=h.1.prodL; have g5:=h.1.prodS; have g6:=h.1.prodO; have g7:=h.1.hol
  try simp only[sS,reduceCtorEq]at *
  repeat' (first | intro _ | apply And.intro)
  all_goals first | ((repeat cases ‹_∧_›); first | assumption | trivial | omega | (simp only[*]; first | done | trivial | assumption | omega) | (refine .inl ?_; (repeat' apply And.intro)<;>first | rfl | assumption | omega | (simp only[*]; done)) | (refine .inr ?_; (repeat' apply And.intro)<;>first | rfl | assumption | omega | (simp only[*]; done) | grind) | grind) | exact lv)
@[reducible,instance] def Jnp[Y4]{x0 x1 x2 x3}:=mkW (Nn.eq_1 N x0 x1 x2 x3) (Lx x0∧Qu (fun m:Ql=>Aft m.1) x0.1∧x1.1.length≤900000000000∧sz x1.1≤1000000000000∧x1.2.1.length≤1000000000∧x1.2.2.length≤1000000000∧x2.2.2.2.2.2.2.1.length≤1000000000000∧x2.2.2.2.2.1.2.2.2.2.2.2.1.2.2.2.2.length≤4096∧Sh.sh x3.2.2.2.2.2.2.1∧List.length x3.2.2.2.2.2.2.1≤9223372036854775807∧(0<x0.1.length→x3.2.2.2.1<12622780800→x3.2.2.2.1<Y4.hi)) (fun r=>r.2.2.2.2.2.2.2.2.2.2.2.2.2.2.2.2.2.2.2.2.2.2.2.2.2.2=x1.2.2∧r.2.1=x2.1∧r.1.length≤x1.1.length+11468800000∧sz r.1≤1000000000000∧r.2.2.2.2.2.2.2.2.2.2.2.2.2.2.2.2.2.2.2.2.2.2.2.2.2.1.length≤x1.2.1.length+1∧r.2.2.2.2.2.2.2.2.2.2.2.2.2.2.2.1.length≤4096∧r.2.2.2.2.2.2.2.2.2.2.2.2.2.2.2.2.2.2.2.1.length≤1000000000000∧(((r.2.1,r.2.2.1,r.2.2.2.1,r.2.2.2.2.1,(r.2.2.2.2.2.1,r.2.2.2.2.2.2.1,r.2.2.2.2.2.2.2.1,r.2.2.2.2.2.2.2.2.1,r.2.2.2.2.2.2.2.2.2.1,r.2.2.2.2.2.2.2.2.2.2.1,(r.2.2.2.2.2.2.2.2.2.2.2.1,r.2.2.2.2.2.2.2.2.2.2.2.2.1,r.2.2.2.2.2.2.2.2.2.2.2.2.2.1,r.2.2.2.2.2.2.2.2.2.2.2.2.2.2.1,r.2.2.2.2.2.2.2.2.2.2.2.2.2.2.2.1),r.2.2.2.2.2.2.2.2.2.2.2.2.2.2.2.2.1,r.2.2.2.2.2.2.2.2.2.2.2.2.2.2.2.2.2.1),r.2.2.2.2.2.2.2.2.2.2.2.2.2.2.2.2.2.2.1,r.2.2.2.2.2.2.2.2.2.2.2.2.2.2.2.2.2.2.2.1,r.2.2.2.2.2.2.2.2.2.2.2.2.2.2.2.2.2.2.2.2.1,r.2.2.2.2.2.2.2.2.2.2.2.2.2.2.2.2.2.2.2.2.2.1,r.2.2.2.2.2.2.2.2.2.2.2.2.2.2.2.2.2.2.2.2.2.2.1,r.2.2.2.2.2.2.2.2.2.2.2.2.2.2.2.2.2.2.2.2.2.2.2.1)=x2∧r.1=x1.1∧r.2.2.2.2.2.2.2.2.2.2.2.2.2.2.2.2.2.2.2.2.2.2.2.2.2.1=x1.2.1∧r.2.2.2.2.2.2.2.2.2.2.2.2.2.2.2.2.2.2.2.2.2.2.2.2.1.2.1=x3.2.1∧r.2.2.2.2.2.2.2.2.2.2.2.2.2.2.2.2.2.2.2.2.2.2.2.2.1.1=x3.1)∨(r.2.2.1=x3.2.1∧r.2.2.2.2.2.2.2.2.2.2.2.2.2.2.2.2.2.2.2.2.2.2.2.1=r.2.2.2.2.2.2.2.2.2.2.2.2.2.2.2.2.2.2.2.2.2.2.2.2.1))) (k:=by
  intro h
  have g0:=h.1.ev; have g1:=h.1.tarL; have g2:=h.1.tarS; have g3:=h.1.tarO; have g4:=h.1.prodL; have g5:=h.1.prodS; have g6:=h.1.prodO; have g7:=h.1.hol
  try simp only[sS,reduceCtorEq]at *
  repeat' (first | intro _ | apply And.intro)
  all_goals first | ((repeat cases ‹_∧_›); first | assumption | trivial | omega | (simp only[*]; first | done | trivial | assumption | omega) | (refine .inl ?_; (repeat' apply And.intro)<;>first | rfl | assumption | omega | (simp only[*]; done)) | (refine .inr ?_; (repeat' apply And.intro)<;>first | rfl | assumption | omega | (simp only[*]; done) | grind) | grind) | exact lv)
structure Wc(p:Int×Qb):Prop where
 key:Fr p.1=true
 id:p.2.1=p.1
 tk:p.2.2.2.2.2.2.2.1.length≤1000000000000
 st:p.2.2.2.2.2.1.2.2.2.2.2.2.1.2.2.2.2.length≤4096
abbrev Q6z:Qb:=(0,0,0,0,(0,0,0,([]:Str),([]:Str),0,(0,([]:Str),([]:Str),0,([]:List Qw)),0,0),0,([]:List Qn),0,0,false,(0,0,0,0,0))
structure Q1h(m:List (Int×Qb))(k q:Int)(a:Qp):Prop where
 ex:∃x:Qb,Qj (k:=.int .i64) k m=some x∧x.2.1=q∧x.2.2.2.2.2.2.2.2.2.2=a
theorem eqI{a b:Int}:eqK (.int .i64) a b=true↔a=b:=Za rfl
section
variable {V:Type} {k:Int} {x y:V}
theorem Qcb:∀{m:List (Int×V)},Qj (k:=.int .i64) k m=some x→(k,x)∈m
 | z::m,h=>by
  unfold Qj at h
  cases hk:eqK (.int .i64) k z.1 with
  | true=>rw[hk]at h; have:=eqI.1 hk; cases Option.some.inj h; subst this; exact .head _
  | false=>rw[hk]at h; exact .tail _ (Qcb h)
theorem Qys:∀{m:List (Int×V)},Qj (k:=.int .i64) k (Jc (k:=.int .i64) k x m:List (Int×V))=some x
 | []=>by simp only[Jc,Qj,Qca,cond_true]
 | z::m=>by
  unfold Jc
  cases hk:eqK (.int .i64) k z.1 with
  | true=>simp only[Qj,Qca,cond_true]
  | false=>simp only[cond_false,Qj,hk]; exact Qys
theorem Cl:∀{m:List (Int×V)},(Jc (k:=.int .i64) k x (Jc (k:=.int .i64) k y m:List (Int×V)):List (Int×V))=Jc (k:=.int .i64) k x m
 | []=>by simp only[Jc,Qca,cond_true]
 | z::m=>by
  cases hk:eqK (.int .i64) k z.1 with
  | true=>simp only[Jc,hk,Qca,cond_true]
  | false=>simp only[cond_false,Jc,hk]; rw[Cl]
theorem Q60:∀{m:List (Int×V)},Qj (k:=.int .i64) k m=none→(Ba (k:=.int .i64) k (Jc (k:=.int .i64) k x m:List (Int×V)):List (Int×V))=m
 | [],_=>by simp only[Jc,Ba,Qca,cond_true]
 | z::m,h=>by
  unfold Qj at h
  unfold Jc
  cases hk:eqK (.int .i64) k z.1 with
  | true=>rw[hk]at h; cases h
  | false=>rw[hk]at h; simp only[cond_false,Ba,hk]; rw[Q60 h]
theorem Qyt:∀{m:List (Int×V)},Qj (k:=.int .i64) k m=some x→(Jc (k:=.int .i64) k x m:List (Int×V))=m
 | z::m,h=>by
  unfold Qj at h
  unfold Jc
  cases hk:eqK (.int .i64) k z.1 with
  | true=>rw[hk]at h; have:=eqI.1 hk; cases Option.some.inj h; subst this; rfl
  | false=>rw[hk]at h; simp only[cond_false]; rw[Qyt h]
theorem Qyu:∀{m:List (Int×V)},k∈m.map Prod.fst→(Qj (k:=.int .i64) k m).isSome=true
 | z::m,h=>by
  unfold Qj
  cases hk:eqK (.int .i64) k z.1 with
  | true=>rfl
  | false =>
   rw[QR]at h
   rcases QX.1 h with h | h
   ·rw[h,Qca]at hk; cases hk
   ·exact Qyu h
end
theorem Jnq{m:List (Int×Qb)}{k:Int}(hs:(Qj (k:=.int .i64) k m).isSome=true)(h:Qu Wc m):Wc (k,(Qj (k:=.int .i64) k m).getD Q6z):=by
 obtain⟨x,hx⟩:=XF.1 hs
 rw[hx]
 exact h.all _ (Qcb hx)
theorem Qd0{m:List (Int×Qb)}{k:Int}(h:Qu Wc m):((Qj (k:=.int .i64) k m).getD Q6z).2.2.2.2.2.2.1.length≤1000000000000:=by
 cases hx:Qj (k:=.int .i64) k m with
 | none=>exact QO _
 | some x=>exact(h.all _ (Qcb hx)).tk
theorem Qd1{m:List (Int×Qb)}{k:Int}(h:Qu Wc m):((Qj (k:=.int .i64) k m).getD Q6z).2.2.2.2.1.2.2.2.2.2.2.1.2.2.2.2.length≤4096:=by
 cases hx:Qj (k:=.int .i64) k m with
 | none=>exact QO _
 | some x=>exact(h.all _ (Qcb hx)).st
theorem Qrr{m:List (Int×Qb)}{k:Int}{x:Qb}(h:Qu Wc m)(hx:Wc (k,x)):Qu Wc (Jc (k:=.int .i64) k x m):=⟨fun p hp=>(Qu5 hp).elim (fun e=>e▸hx) (h.all p)⟩
theorem Jnr{m:List (Int×Qb)}{k:Int}{x y z:Qb}(h:Qu Wc m)(hx:Wc (k,x)):Qu Wc (Jc (k:=.int .i64) k x (Jc (k:=.int .i64) k y (Jc (k:=.int .i64) k z m))):=by
 rw[Cl,Cl]; exact Qrr h hx
theorem Jns{m:List (Int×Qb)}{k:Int}{x y z:Qb}(h:Qj (k:=.int .i64) k m=none):Ba (k:=.int .i64) k (Jc (k:=.int .i64) k x (Jc (k:=.int .i64) k y (Jc (k:=.int .i64) k z m)))=m:=by
 rw[Cl,Cl,Q60 h]
theorem Q61{m:List (Int×Qb)}{k:Int}{x y z:Qb}:(Jc (k:=.int .i64) k x (Jc (k:=.int .i64) k y (Jc (k:=.int .i64) k z m))).length≤m.length+1:=by
 rw[Cl,Cl]; exact H3 k x m
theorem Qvi{m:List (Int×Qb)}{k q:Int}{x:Qb}{a:Qp}(h1:x.2.1=q)(h2:x.2.2.2.2.2.2.2.2.2.2=a):Q1h (Jc (k:=.int .i64) k x m) k q a:=⟨x,Qys,h1,h2⟩
theorem Q62{m:List (Int×Qb)}{k:Int}(hs:(Qj (k:=.int .i64) k m).isSome=true)(h:Qu Wc m):Qj (k:=.int .i64) ((Qj (k:=.int .i64) k m).getD Q6z).1 m=some ((Qj (k:=.int .i64) k m).getD Q6z):=by
 have hi:((Qj (k:=.int .i64) k m).getD Q6z).1=k:=(Jnq hs h).id
 rw[hi]
 obtain⟨x,hx⟩:=XF.1 hs
 rw[hx]; rfl
theorem Jew{α:Type}{o:Option α}(h:o.isSome=false):o=none:=by cases o with | none=>rfl | some x=>cases h
theorem Jex{m:List (Int×Qb)}{k:Int}(hs:¬(Qj (k:=.int .i64) k m).isSome=false)(h:Qu Wc m):Wc (k,(Qj (k:=.int .i64) k m).getD Q6z):=Jnq (KX hs) h
theorem Jey{m:List (Int×Qb)}{k:Int}{x:Qb}(hs:¬(Qj (k:=.int .i64) k m).isSome=false)(e:x=(Qj (k:=.int .i64) k m).getD Q6z):Jc (k:=.int .i64) k x m=m:=by
 obtain⟨y,hy⟩:=XF.1 (KX hs)
 rw[hy]at e
 exact Qyt (hy.trans (congrArg some e.symm))
instance wpSortK {β:Type} {m:List (Int×β)}:WP (Qi7 m) (fun R=>(m.length≤1099511627776∧∀p∈m,Fr p.1=true)∧R (Qcz (m.map Prod.fst))):=⟨fun R h=>⟨_,by
 have h1:Nat.ble (m.length*8) 140737488355328=true:=by rw[Nat.ble_eq]; have:=h.1.1; omega
 have h2:(m.all fun q=>Fr q.1)=true:=QP.2 fun q hq=>h.1.2 q hq
 unfold Qi7
 rw[h1,h2]; rfl,h.2⟩⟩
structure Qk3(l:List Int)(m:List (Int×Qb)):Prop where
 len:l.length=m.length
 all:∀k∈l,(Qj (k:=.int .i64) k m).isSome=true
 on:∀k x,Qj (k:=.int .i64) k m=some x→k∈l
theorem V5(m:List (Int×Qb)):Qk3 (Qcz (m.map Prod.fst)) m:=⟨by rw[(Au _).length_eq,XV],fun k hk=>Qyu ((Au _).mem_iff.1 hk),fun k x hx=>(Au _).mem_iff.2 (QK.2 ⟨_,Qcb hx,rfl⟩)⟩
theorem Fp{m:List (Int×Qb)}(h:Qu Wc m):∀p∈m,Fr p.1=true:=fun p hp=>(h.all p hp).key
structure Jxw(t:Int)(m:List (Int×Qb))(k:Int):Prop where
 ok:∀x:Qb,Qj (k:=.int .i64) k m=some x→x.2.2.2.2.2.2.2.2.2.1=true∨t<x.2.2.2.1
structure Jyo(t:Int)(m:List (Int×Qb)):Prop where
 ok:∀k,Jxw t m k
theorem Jnt{l:List Q2}{i:Nat}{x y:Q2}(hx:l[i]?=some x)(hy:l[i]?=some y):l.set i (y.1,x.2)=l:=by
 rw[hx]at hy
 rw[←Option.some.inj hy]
 exact Fh hx rfl
theorem Jnu{l:List Jg}{i:Nat}{x y:Jg}(hx:l[i]?=some x)(hy:l[i]?=some y):l.set i (y.1,x.2)=l:=by
 rw[hx]at hy
 rw[←Option.some.inj hy]
 exact Fh hx rfl
theorem Jnv{l:List Y5}{i:Nat}{x y:Y5}(hx:l[i]?=some x)(hy:l[i]?=some y):l.set i (y.1,y.2.1,y.2.2.1,y.2.2.2.1,x.2.2.2.2)=l:=by
 rw[hx]at hy
 rw[←Option.some.inj hy]
 exact Fh hx rfl
theorem Jnw{l:List Jl}{i:Nat}{x y:Jl}(hx:l[i]?=some x)(hy:l[i]?=some y):l.set i (y.1,x.2.1,y.2.2)=l:=by
 rw[hx]at hy
 rw[←Option.some.inj hy]
 exact Fh hx rfl
theorem Jnx{l:List Yk}{i:Nat}{x y:Yk}(hx:l[i]?=some x)(hy:l[i]?=some y):l.set i (y.1,x.2.1,y.2.2.1,y.2.2.2.1,y.2.2.2.2.1,y.2.2.2.2.2)=l:=by
 rw[hx]at hy
 rw[←Option.some.inj hy]
 exact Fh hx rfl
theorem Jny{l:List Qo}{i:Nat}{x y:Qo}(hx:l[i]?=some x)(hy:l[i]?=some y):l.set i (y.1,y.2.1,y.2.2.1,y.2.2.2.1,y.2.2.2.2.1,x.2.2.2.2.2)=l:=by
 rw[hx]at hy
 rw[←Option.some.inj hy]
 exact Fh hx rfl
theorem Jqr{l:List Jh}{i:Nat}{x y:Jh}(hx:l[i]?=some x)(hy:l[i]?=some y):l.set i (y.1,y.2.1,y.2.2.1,y.2.2.2.1,x.2.2.2.2.1,y.2.2.2.2.2)=l:=by
 rw[hx]at hy
 rw[←Option.some.inj hy]
 exact Fh hx rfl
structure Q1i(l:List Ql):Prop where
 all:∀e∈l,(0≤e.1∧e.1<12622780800)∧∀a,l[0]?=some a→a.1≤e.1
structure Asc(l:List Ql)(v t:Int):Prop where
 lo:∀j:Nat,(j:Int)<v→∀e,l[j]?=some e→(0≤e.1∧e.1<12622780800)∧∀a,l[0]?=some a→a.1≤e.1
 hi:0<v→∀a,l[0]?=some a→a.1≤t
theorem Jnz{l:List Ql}:Asc l 0 0:=⟨fun j h=>by omega,fun h=>by omega⟩
theorem Jn0{l:List Ql}{v t:Int}{x:Ql}(h0:0≤v)(h:Asc l v t)(hx:l[v.toNat]?=some x)(p:0≤x.1)(p2:x.1<12622780800)(q:t≤x.1):Asc l (v+1) x.1:=by
 have key:∀a,l[0]?=some a→a.1≤x.1:=fun a ha=>by
  by_cases hv:0<v
  ·have:=h.hi hv a ha; omega
  ·have e:v.toNat=0:=by omega
   rw[e,ha]at hx
   cases Option.some.inj hx; exact JC _
 refine⟨fun j hj e he=>?_,fun _=>key⟩
 by_cases hv:(j:Int)<v
 ·exact h.lo j hv e he
 ·have e1:v.toNat=j:=by omega
  rw[e1,he]at hx
  cases Option.some.inj hx
  exact⟨⟨p,p2⟩,key⟩
theorem Jqs{l:List Ql}{v t:Int}(h:Asc l v t)(hv:l.length≤v):Q1i l:=⟨fun e he=>by
 obtain⟨j,hj⟩:=List.mem_iff_getElem?.1 he
 exact h.lo j (by have:=(List.getElem?_eq_some_iff.1 hj).1; omega) e hj⟩
structure Qd2(l:List Ql)(t:Int):Prop where
 at_:∀a,l[0]?=some a→t<69120000∨t - 69120000<a.1
theorem Jhw{l:List Ql}{t:Int}{x:Ql}(hx:l[0]?=some x)(ht:¬t<69120000)(h:t≤9223372036854775807)(h1:x.1>IntKind.wrap .i64 (t - 69120000)):Qd2 l t:=⟨fun a ha=>by
 rw[ha]at hx; cases Option.some.inj hx
 rw[Q5 (by omega) (by omega)]at h1
 exact .inr (by omega)⟩
theorem Qyv{l:List Ql}{t:Int}(ht:t<69120000):Qd2 l t:=⟨fun a ha=>.inl ht⟩
theorem Qvj{l:List Ql}{t:Int}(ht:l.length=0):Qd2 l t:=⟨fun a ha=>by rw[QH ht]at ha; cases ha⟩
@[reducible,instance] def Qyw{ca cg ci c7 cd}:=mkW (Yd.eq_1 N ca cg ci c7 cd) (True) (fun r=>r=true)
@[reducible,instance] def Qyx{ca d4 c7}:=mkW (Kf.eq_1 N ca d4 c7) (True) (fun r=>r=(true,ca,d4,c7))
@[reducible,instance] def Jhx{x0 x1}:=mkW (Us.eq_1 N x0 x1) (True) (fun r=>r=(x0.1,x0.2.1,0,0,x1))
@[reducible,instance] def Qyy{ce}:=mkW (Ke.eq_1 N ce) (True) (fun r=>r=ce)
@[reducible,instance] def Qwi[Y4]{x1 ca cg ci c7 cd}:=mkW (Zg.eq_1 N x1 ca cg ci c7 cd) (Lx ca∧Qu (fun m:Ql=>Aft m.1) ca.1∧cg.length≤900000000000∧sz cg≤1000000000000∧c7.length≤1000000000∧ci.length≤1000000000∧Sh.sh x1.2.2.2.2.2.2.1∧List.length x1.2.2.2.2.2.2.1≤9223372036854775807∧(0<ca.1.length→x1.2.2.2.1<12622780800→x1.2.2.2.1<Y4.hi)∧Qu Wc cd∧cd.length≤1000000000∧Fr x1.1=true∧Qj (k:=.int .i64) x1.1 cd=none) (fun r=>r.2.1=ca∧r.2.2.1.length≤cg.length+11468800000∧sz r.2.2.1≤1000000000000∧r.2.2.2.2.2.length≤c7.length+1∧r.2.2.2.1=ci∧Qu Wc r.2.2.2.2.1∧r.2.2.2.2.1.length≤cd.length+1∧((r.2.2.1=cg∧r.2.2.2.2.2=c7∧r.2.2.2.1=ci∧r.2.2.2.2.1=cd)∨(Q1h r.2.2.2.2.1 x1.1 x1.2.1 r.1))) (k:=by
  intro h
  have g0:=h.1.ev; have g1:=h.1.tarL; have g2:=h.1.tarS; have g3:=h.1.tarO; have g4:=h.1.prodL; have g5:=h.1.prodS; have g6:=h.1.prodO; have g7:=h.1.hol
  try simp only[sS,reduceCtorEq]at *
  repeat' (first | intro _ | apply And.intro)
  all_goals first | ((repeat cases ‹_∧_›); first | assumption | omega | exact Qd0 (by assumption) | exact Qd1 (by assumption) | (rw[Jns (by assumption)]; first | assumption | omega | (refine .inl ?_; grind)) | exact QY Q61 (by omega) | (have k:=(Q61:(Jc (k:=.int .i64) _ _ _:List (Int×Qb)).length≤_); omega) | (refine Jnr (by assumption) ⟨by assumption,?_,?_,?_⟩<;>(dsimp only; first | assumption | omega | grind)) | (refine Qrr (by assumption) ⟨by assumption,?_,?_,?_⟩<;>(dsimp only; first | assumption | omega | grind)) | (refine .inr ?_; rw[Cl,Cl]; refine Qvi ?_ ?_<;>(dsimp only; grind)) | (simp only[*]; first | done | assumption | omega) | grind) | exact lv)
@[reducible,instance] def Qe5[Y4]{x1 ca cg ci c7 cd}:=mkW (V4.eq_1 N x1 ca cg ci c7 cd) (Lx ca∧Qu (fun m:Ql=>Aft m.1) ca.1∧cg.length≤900000000000∧sz cg≤1000000000000∧c7.length≤1000000000∧ci.length≤1000000000∧Sh.sh x1.2.2.2.2.2.2.1∧List.length x1.2.2.2.2.2.2.1≤9223372036854775807∧(0<ca.1.length→x1.2.2.2.1<12622780800→x1.2.2.2.1<Y4.hi)∧Qu Wc cd∧cd.length≤1000000000∧Fr x1.1=true) (fun r=>r.2.1=ca∧r.2.2.1.length≤cg.length+11468800000∧sz r.2.2.1≤1000000000000∧r.2.2.2.2.2.length≤c7.length+1∧r.2.2.2.1=ci∧Qu Wc r.2.2.2.2.1∧r.2.2.2.2.1.length≤cd.length+1∧((r.2.2.1=cg∧r.2.2.2.2.2=c7∧r.2.2.2.1=ci∧r.2.2.2.2.1=cd)∨(1≤x1.2.2.1∧x1.2.2.1≤4∧Q1h r.2.2.2.2.1 x1.1 x1.2.1 r.1))) (k:=by
  intro h
  have g0:=h.1.ev; have g1:=h.1.tarL; have g2:=h.1.tarS; have g3:=h.1.tarO; have g4:=h.1.prodL; have g5:=h.1.prodS; have g6:=h.1.prodO; have g7:=h.1.hol
  try simp only[sS,reduceCtorEq]at *
  repeat' (first | intro _ | apply And.intro)
  all_goals first | assumption | omega | exact QY Ui (by omega) | exact Or.inl trivial | ((repeat cases ‹_∧_›); first | assumption | exact Jew (by assumption) | exact Qd0 (by assumption) | exact Qd1 (by assumption) | exact H3 _ _ _ | (have k1:=(Jex (by assumption) (by assumption)).id; dsimp only at k1; refine Qrr (by assumption) ⟨by assumption,?_,?_,?_⟩<;>dsimp only<;>first | assumption | (exact Eq.trans (by assumption) k1) | omega) | (rcases ‹_∨_› with hh | hh<;>(repeat cases ‹_∧_›)<;>first | exact .inl ⟨by assumption,by assumption,by assumption,by assumption⟩ | exact .inr ⟨by omega,by omega,by assumption⟩ | (refine .inl ⟨?_,?_,?_,Jey (by assumption) (by assumption)⟩<;>assumption) | (refine .inr ⟨?_,?_,Qvi ?_ ?_⟩<;>first | omega | (dsimp only; assumption) | (dsimp only; exact Eq.symm (by assumption)))) | omega) | exact lv)
@[reducible,instance] def Q2o[Y4]{x1 ca cg ci c7 cd}:=mkW (U6.eq_1 N x1 ca cg ci c7 cd) (Lx ca∧Qu (fun m:Ql=>Aft m.1) ca.1∧cg.length≤900000000000∧sz cg≤1000000000000∧c7.length≤1000000000∧ci.length≤1000000000∧Sh.sh x1.2.2.2.2.2.2.1∧List.length x1.2.2.2.2.2.2.1≤9223372036854775807∧(0<ca.1.length→x1.2.2.2.1<12622780800→x1.2.2.2.1<Y4.hi)∧Qu Wc cd∧cd.length≤1000000000∧Fr x1.1=true) (fun r=>r.2.1=ca∧r.2.2.1.length≤cg.length+11468800000∧sz r.2.2.1≤1000000000000∧r.2.2.2.2.2.length≤c7.length+1∧r.2.2.2.1=ci∧Qu Wc r.2.2.2.2.1∧r.2.2.2.2.1.length≤cd.length+1∧((r.2.2.1=cg∧r.2.2.2.2.2=c7∧r.2.2.2.1=ci∧r.2.2.2.2.1=cd)∨(1≤x1.2.2.1∧x1.2.2.1≤4∧Q1h r.2.2.2.2.1 x1.1 x1.2.1 r.1))) (k:=by
  intro h
  have g0:=h.1.ev; have g1:=h.1.tarL; have g2:=h.1.tarS; have g3:=h.1.tarO; have g4:=h.1.prodL; have g5:=h.1.prodS; have g6:=h.1.prodO; have g7:=h.1.hol
  try simp only[sS,reduceCtorEq]at *
  repeat' (first | intro _ | apply And.intro)
  all_goals first | assumption | omega | exact QY Ui (by omega) | exact Or.inl trivial | ((repeat cases ‹_∧_›); first | assumption | exact Jew (by assumption) | exact Qd0 (by assumption) | exact Qd1 (by assumption) | exact H3 _ _ _ | (have k1:=(Jex (by assumption) (by assumption)).id; dsimp only at k1; refine Qrr (by assumption) ⟨by assumption,?_,?_,?_⟩<;>dsimp only<;>first | assumption | (exact Eq.trans (by assumption) k1) | omega) | (rcases ‹_∨_› with hh | hh<;>(repeat cases ‹_∧_›)<;>first | exact .inl ⟨by assumption,by assumption,by assumption,by assumption⟩ | exact .inr ⟨by omega,by omega,by assumption⟩ | (refine .inl ⟨?_,?_,?_,Jey (by assumption) (by assumption)⟩<;>assumption) | (refine .inr ⟨?_,?_,Qvi ?_ ?_⟩<;>first | omega | (dsimp only; assumption) | (dsimp only; exact Eq.symm (by assumption)))) | omega) | exact lv)
@[reducible,instance] def Qyz{ca cg ci c7 cd}:=mkW (V7.eq_1 N ca cg ci c7 cd) (Qu Wc cd∧cd.length≤1000000100) (fun r=>r.1.length≤1000000100∧Qk3 r.1 cd∧r.2=cd) (k:=by
  intro h
  try simp only[sS,reduceCtorEq]at *
  repeat' (first | intro _ | apply And.intro)
  all_goals first | ((repeat cases ‹_∧_›); first | assumption | omega | exact Fp (by assumption) | exact Fp (by assumption) _ (by assumption) | exact V5 _ | exact(V5 _).len▸(by assumption) | exact Yz | exact Qd0 (by assumption) | exact Qd1 (by assumption) | exact Xk | exact Eq.trans (by assumption) (by assumption)  | (simp only[*]; first | done | assumption)) | exact lv)
@[reducible,instance] def Qvk{ca d4 c7}:=mkW (Xj.eq_1 N ca d4 c7) (Qu Wc c7∧c7.length≤1000000100) (fun r=>r.1.length≤1000000100∧Qk3 r.1 c7∧r.2=c7) (k:=by
  intro h
  try simp only[sS,reduceCtorEq]at *
  repeat' (first | intro _ | apply And.intro)
  all_goals first | ((repeat cases ‹_∧_›); first | assumption | omega | exact Fp (by assumption) | exact Fp (by assumption) _ (by assumption) | exact V5 _ | exact(V5 _).len▸(by assumption) | exact Yz | exact Qd0 (by assumption) | exact Qd1 (by assumption) | exact Xk | exact Eq.trans (by assumption) (by assumption)  | (simp only[*]; first | done | assumption)) | exact lv)
@[reducible,instance] def Q63{x0}:=mkW (W8.eq_1 N x0) (x0.2.2.2.2.2.2.1.length≤1000000000000∧x0.2.2.2.2.1.2.2.2.2.2.2.1.2.2.2.2.length≤4096) (fun r=>r=(x0.1,x0.2.1,x0.2.2.1,x0.2.2.2.1,x0.2.2.2.2.1.1,x0.2.2.2.2.1.2.1,x0.2.2.2.2.1.2.2.1,x0.2.2.2.2.1.2.2.2.1,x0.2.2.2.2.1.2.2.2.2.1,x0.2.2.2.2.1.2.2.2.2.2.1,x0.2.2.2.2.1.2.2.2.2.2.2.1.1,x0.2.2.2.2.1.2.2.2.2.2.2.1.2.1,x0.2.2.2.2.1.2.2.2.2.2.2.1.2.2.1,x0.2.2.2.2.1.2.2.2.2.2.2.1.2.2.2.1,x0.2.2.2.2.1.2.2.2.2.2.2.2.1,x0.2.2.2.2.1.2.2.2.2.2.2.2.2,x0.2.2.2.2.2.1,x0.2.2.2.2.2.2.2.1,x0.2.2.2.2.2.2.2.2.1,x0.2.2.2.2.2.2.2.2.2.1,x0.2.2.2.2.2.2.2.2.2.2,x0.2.2.2.2.1.2.2.2.2.2.2.1.2.2.2.2,x0.2.2.2.2.2.2.1))
@[reducible,instance] def Qap{ca cg ci c7 cd}:=mkW (V0.eq_1 N ca cg ci c7 cd) (sz cg≤1000000000000∧c7.length≤1000000000000∧ci.length≤1000000000000) (fun r=>r=(c7,cg,c7,ci))
@[reducible,instance] def Qrs{r5 r6}{s}:=upL (N:=N) (s:=s) (Ek.eq_def N r5 r6) (fun t=>t.1) r5.length (fun t=>r5.length≤1000000100∧Qk3 r5 r6∧Qu Wc r6∧r6.length≤1000000100∧t.2.length≤t.1∧Qu (fun x:Qb=>Qj (k:=.int .i64) x.1 r6=some x) t.2) (fun r:(((List Qb)))=>Qu (fun x:Qb=>Qj (k:=.int .i64) x.1 r6=some x) r∧r.length≤1000000100) (step:=by
  intro s h h0 h1 h2 hw
  try simp only[sS,reduceCtorEq]at *
  repeat' (first | intro _ | apply And.intro)
  all_goals first | ((repeat cases ‹_∧_›); first | assumption | omega | exact Fp (by assumption) | exact Fp (by assumption) _ (by assumption) | exact V5 _ | exact(V5 _).len▸(by assumption) | exact Yz | exact Qd0 (by assumption) | exact Qd1 (by assumption) | exact Xk | exact Eq.trans (by assumption) (by assumption) | exact V8 (by assumption) (K8 (Q62 ((by assumption:Qk3 _ _).all _ (by assumption)) (by assumption))) | (simp only[*]; first | done | assumption)) | exact lv)
@[reducible,instance] def Qaq{ca cg jb ci c7}:=mkW (J8.eq_1 N ca cg jb ci c7) (Qu Wc c7∧c7.length≤1000000100) (fun r=>r.1=ca∧r.2.1=(cg,jb,ci)∧r.2.2.1=c7∧Qu (fun x:Qb=>Qj (k:=.int .i64) x.1 c7=some x) r.2.2.2∧r.2.2.2.length≤1000000100) (k:=by
  intro h
  try simp only[sS,reduceCtorEq]at *
  repeat' (first | intro _ | apply And.intro)
  all_goals first | ((repeat cases ‹_∧_›); first | assumption | omega | exact Fp (by assumption) | exact Fp (by assumption) _ (by assumption) | exact V5 _ | exact(V5 _).len▸(by assumption) | exact Yz | exact Qd0 (by assumption) | exact Qd1 (by assumption) | exact Xk | exact Eq.trans (by assumption) (by assumption)  | (simp only[*]; first | done | assumption)) | exact lv)
@[reducible,instance] def Qo1{r2 r3}{s}:=upL (N:=N) (s:=s) (Vi.eq_def N r2 r3) (fun t=>t.1) r2.length (fun t=>r2.length≤1000000100∧Qk3 r2 r3∧Qu Wc r3∧r3.length≤1000000100∧t.2.length≤t.1∧Qu (fun x:Qb=>Qj (k:=.int .i64) x.1 r3=some x) t.2) (fun r:(((List Qb)))=>Qu (fun x:Qb=>Qj (k:=.int .i64) x.1 r3=some x) r∧r.length≤1000000100) (step:=by
  intro s h h0 h1 h2 hw
  try simp only[sS,reduceCtorEq]at *
  repeat' (first | intro _ | apply And.intro)
  all_goals first | ((repeat cases ‹_∧_›); first | assumption | omega | exact Fp (by assumption) | exact Fp (by assumption) _ (by assumption) | exact V5 _ | exact(V5 _).len▸(by assumption) | exact Yz | exact Qd0 (by assumption) | exact Qd1 (by assumption) | exact Xk | exact Eq.trans (by assumption) (by assumption) | exact V8 (by assumption) (K8 (Q62 ((by assumption:Qk3 _ _).all _ (by assumption)) (by assumption))) | (simp only[*]; first | done | assumption)) | exact lv)
@[reducible,instance] def Qrt{ca cg ci c7 cd}:=mkW (J3.eq_1 N ca cg ci c7 cd) (Qu Wc cd∧cd.length≤1000000100) (fun r=>r.1=cd∧Qu (fun x:Qb=>Qj (k:=.int .i64) x.1 cd=some x) r.2∧r.2.length≤1000000100) (k:=by
  intro h
  try simp only[sS,reduceCtorEq]at *
  repeat' (first | intro _ | apply And.intro)
  all_goals first | ((repeat cases ‹_∧_›); first | assumption | omega | exact Fp (by assumption) | exact Fp (by assumption) _ (by assumption) | exact V5 _ | exact(V5 _).len▸(by assumption) | exact Yz | exact Qd0 (by assumption) | exact Qd1 (by assumption) | exact Xk | exact Eq.trans (by assumption) (by assumption)  | (simp only[*]; first | done | assumption)) | exact lv)
@[reducible,instance] def Qvs{x0 x1}{s}:=upL (N:=N) (s:=s) (A4.eq_def N x0 x1) (fun t=>t) x0.2.2.2.2.2.1.length (fun t=>x0.2.2.2.2.2.1.length=x1.2.2.2.2.2.1.length∧x0.2.2.2.2.2.1.length≤9223372036854775807) (fun r:((Unit)⊕(Bool))=>∀u,r=.inr u→x0≠x1)
@[reducible,instance] def Q1j{x0 x1}:=mkW (Hy.eq_1 N x0 x1) (sz x0≤9223372036854775807) (fun r=>x0=x1→r=true)
@[reducible,instance] def Q1k{x0 x1}{s}:=upL (N:=N) (s:=s) (Lf.eq_def N x0 x1) (fun t=>t) x0.length (fun t=>x0.length=x1.length∧x0.length≤9223372036854775807∧sz x0≤9223372036854775807) (fun r:((Unit)⊕(Bool))=>∀u,r=.inr u→x0≠x1)
@[reducible,instance] def Q8j{x0 x1}:=mkW (B9.eq_1 N x0 x1) (sz x0≤9223372036854775807) (fun r=>x0=x1→r=true)
@[reducible,instance] def Q1l{x0 x1}{s}:=upL (N:=N) (s:=s) (Lg.eq_def N x0 x1) (fun t=>t) x0.2.1.length (fun t=>x0.2.1.length=x1.2.1.length∧x0.2.1.length≤9223372036854775807) (fun r:((Unit)⊕(Bool))=>∀u,r=.inr u→x0≠x1)
@[reducible,instance] def Q1m{x0 x1}{s}:=upL (N:=N) (s:=s) (Lh.eq_def N x0 x1) (fun t=>t) x0.2.2.length (fun t=>x0.2.2.length=x1.2.2.length∧x0.2.2.length≤9223372036854775807) (fun r:((Unit)⊕(Bool))=>∀u,r=.inr u→x0≠x1)
@[reducible,instance] def Qiz{x0 x1}:=mkW (G5.eq_1 N x0 x1) (sz x0≤9223372036854775807) (fun r=>x0=x1→r=true)
@[reducible,instance] def Q1n{x0 x1}{s}:=upL (N:=N) (s:=s) (Li.eq_def N x0 x1) (fun t=>t) x0.2.2.2.2.2.2.1.2.2.2.2.length (fun t=>x0.2.2.2.2.2.2.1.2.2.2.2.length=x1.2.2.2.2.2.2.1.2.2.2.2.length∧x0.2.2.2.2.2.2.1.2.2.2.2.length≤9223372036854775807) (fun r:((Unit)⊕(Bool))=>∀u,r=.inr u→x0≠x1)
@[reducible,instance] def Q8k{x0 x1}:=mkW (G6.eq_1 N x0 x1) (sz x0≤9223372036854775807) (fun r=>x0=x1→r=true)
@[reducible,instance] def Qru{x0 x1}{s}:=upL (N:=N) (s:=s) (El.eq_def N x0 x1) (fun t=>t) x0.length (fun t=>x0.length=x1.length∧x0.length≤9223372036854775807) (fun r:((Unit)⊕(Bool))=>∀u,r=.inr u→x0≠x1)
@[reducible,instance] def Qwj{x0 x1}:=mkW (Zh.eq_1 N x0 x1) (sz x0≤9223372036854775807) (fun r=>x0=x1→r=true)
@[reducible,instance] def Q8l{x0 x1:Qb}:WP (G7 N x0 x1) (fun R=>(sz x0≤9223372036854775807)∧∀r,(x0=x1→r=true)→R r):=Qhi (by
  intro h
  have hz:=h
  simp only[sz1,mx1]at hz
  obtain⟨a,ea,ha⟩:=(inferInstance:WP (G6 N x0.2.2.2.2.1 x1.2.2.2.2.1) _).spec _ ⟨by simp only[sz1,mx1]; omega,fun r h=>h⟩
  obtain⟨b,eb,hb⟩:=(inferInstance:WP (Zh N x0.2.2.2.2.2.2.1 x1.2.2.2.2.2.2.1) _).spec _ ⟨by simp only[sz1,mx1]; omega,fun r h=>h⟩
  unfold G7
  rw[ea,eb]
  by_cases e:x0=x1
  ·subst e
   rw[ha rfl,hb rfl]
   exact⟨true,by simp,fun _=>rfl⟩
  ·simp only[QJ]
   split<;>simp only[QJ]<;>split<;>exact⟨_,rfl,fun h=>absurd h e⟩)
@[reducible,instance] def Qo2{x0 x1}{s}:=upL (N:=N) (s:=s) (Gg.eq_def N x0 x1) (fun t=>t) x0.length (fun t=>x0.length=x1.length∧x0.length≤9223372036854775807∧sz x0≤9223372036854775807) (fun r:((Unit)⊕(Bool))=>∀u,r=.inr u→x0≠x1)
@[reducible,instance] def N5{x0 x1}:=mkW (Y8.eq_1 N x0 x1) (sz x0≤9223372036854775807) (fun r=>x0=x1→r=true)
@[reducible,instance] def Q8m{x0}:=mkW (Gs.eq_1 N x0) (True) (fun r=>r.length=5∧(∀b,r[0]?=some b→(b=true↔(x0=1∨x0=2∨x0=3∨x0=14∨x0=15))))
@[reducible,instance] def Jez{x0}:=mkW (Fj.eq_1 N x0) (True) (fun r=>True)
@[reducible,instance] def Q1o{x0}{s}:=upL (N:=N) (s:=s) (Iv.eq_def N x0) (fun t=>t) x0.length (fun t=>Sh.sh x0) (fun r:((Unit)⊕(Bool))=>True) (fun _ h=>Qhk (by grind))
@[reducible,instance] def Q8n{x0}:=mkW (Uv.eq_1 N x0) (Sh.sh x0) (fun r=>True)
@[reducible,instance] def Qy0{x0}{s}:=upL (N:=N) (s:=s) (Co.eq_def N x0) (fun t=>t) x0.length (fun t=>Sh.sh x0) (fun r:((Unit)⊕(Bool))=>True) (fun _ h=>Qhk (by grind))
@[reducible,instance] def Q64{x0}:=mkW (Wr.eq_1 N x0) (Sh.sh x0) (fun r=>True)
@[reducible,instance] def Q65{x0}:=mkW (Fs.eq_1 N x0) (True) (fun r=>True)
@[reducible,instance] def Q8o{x0 x1}:=mkW (Bs.eq_1 N x0 x1) (Sh.sh x0) (fun r=>r=0→0≤x0.1∧x0.1<12622780800∧x1≤x0.1)
@[reducible,instance] def Qvt{x0 x1}{s}:=Qm0 (N:=N) (s:=s) (Av.eq_def N x0 x1) x0.1 (sz x0≤9223372036854775807) (fun y=>y.1≠x1) (∀y∈x0.1,y.1≠x1) (fun u=>0≤u∧u<x0.1.length∧∃a∈x0.1,a.1=x1)
@[reducible,instance] def Q1p{x0 x1}:=mkW (K2.eq_1 N x0 x1) (sz x0≤9223372036854775807) (fun r => -1≤r∧r<x0.1.length∧(0≤r→∃a∈x0.1,a.1=x1)∧(r<0→∀a∈x0.1,a.1≠x1))
@[reducible,instance] def Q2p{x0 x1}{s}:=Qm0 (N:=N) (s:=s) (Ms.eq_def N x0 x1) x0.2.1 (sz x0≤9223372036854775807) (fun y=>y.1≠x1) (∀y∈x0.2.1,y.1≠x1) (fun u=>0≤u∧u<x0.2.1.length∧∃a∈x0.2.1,a.1=x1)
@[reducible,instance] def Ja8{x0 x1}:=mkW (Xx.eq_1 N x0 x1) (sz x0≤9223372036854775807) (fun r => -1≤r∧r<x0.2.1.length∧(0≤r→∃a∈x0.2.1,a.1=x1)∧(r<0→∀a∈x0.2.1,a.1≠x1))
@[reducible,instance] def Qy1{x0 x1}{s}:=upL (N:=N) (s:=s) (Cp.eq_def N x0 x1) (fun t=>t) x0.2.2.length (fun t=>sz x0≤9223372036854775807) (fun r:((Unit)⊕(Bool))=>True)
@[reducible,instance] def Q66{x0 x1}:=mkW (Ws.eq_1 N x0 x1) (sz x0≤9223372036854775807) (fun r=>True)
@[reducible,instance] def Q1q{x0 x1}{s}:=upL (N:=N) (s:=s) (Iw.eq_def N x0 x1) (fun t=>t) x0.2.1.length (fun t=>sz x0≤9223372036854775807) (fun r:((Unit)⊕(Bool))=>True)
@[reducible,instance] def Q8p{x0 x1}:=mkW (Bt.eq_1 N x0 x1) (sz x0≤9223372036854775807) (fun r=>True)
@[reducible,instance] def Qwk{x0 x1}:=mkW (Wt.eq_1 N x0 x1) (sz x0≤9223372036854775807) (fun r=>r=0→x1.2.1≠1→∃a∈x0.1,a.1=x1.2.2.1)
@[reducible,instance] def Q2q{x0 x1}{s}:=upL (N:=N) (s:=s) (Mt.eq_def N x0 x1) (fun t=>t) x0.length (fun t=>sz x0≤9223372036854775807) (fun r:((Unit)⊕(Bool))=>True)
@[reducible,instance] def Ja9{x0 x1}:=mkW (Zp.eq_1 N x0 x1) (sz x0≤9223372036854775807) (fun r=>True)
@[reducible,instance] def Qy2{x0 x1}{s}:=upL (N:=N) (s:=s) (Cq.eq_def N x0 x1) (fun t=>t) x0.2.1.length (fun t=>sz x0≤9223372036854775807) (fun r:((Unit)⊕(Bool))=>True)
@[reducible,instance] def Q67{x0 x1}:=mkW (Ft.eq_1 N x0 x1) (sz x0≤9223372036854775807) (fun r=>True)
@[reducible,instance] def Q68{x0 x1}:=mkW (Fu.eq_1 N x0 x1) (sz x0≤9223372036854775807) (fun r=>r=0→∃a∈x0.2.1,a.1=x1.2.2.2.1)
@[reducible,instance] def Q69{x0 x1 x2}:=mkW (Fv.eq_1 N x0 x1 x2) (sz x0≤9223372036854775807∧Sh.sh x1) (fun r=>r=0→(0≤x1.1∧x1.1<12622780800∧x2≤x1.1∧(x1.2.1=2→∃a∈x0.1,a.1=x1.2.2.1)∧(¬ (x1.2.1=1∨x1.2.1=2∨x1.2.1=3∨x1.2.1=14∨x1.2.1=15)→∃a∈x0.2.1,a.1=x1.2.2.2.1)))
@[reducible,instance] def Q1r{x0 x1}{s}:=upL (N:=N) (s:=s) (Ix.eq_def N x0 x1) (fun t=>t) x0.length (fun t=>sz x0≤9223372036854775807) (fun r:((Int))=>0≤r∧r≤x0.length)
@[reducible,instance] def Q8q{x0 x1}:=mkW (Gt.eq_1 N x0 x1) (sz x0≤1099511627776) (fun r=>sz r≤sz x0+1)
@[reducible,instance] def Qvu{x0 x1}{s}:=upL (N:=N) (s:=s) (Aw.eq_def N x0 x1) (fun t=>t.1) x0.length (fun t=>sz x0≤1099511627776∧t.2.length≤t.1∧sz t.2≤(sz x0)) (fun r:(((List Str)))=>sz r≤(sz x0))
@[reducible,instance] def Q1s{x0 x1}:=mkW (K3.eq_1 N x0 x1) (sz x0≤1099511627776) (fun r=>sz r≤(sz x0))
@[reducible,instance] def Q1t{x0 x1}:=mkW (Hm.eq_1 N x0 x1) (sz x0≤1099511627776) (fun r=>r.2.2.2.2.1.length≤x0.2.2.2.2.1.length+1∧r.2.2.2.2.2.1.length≤x0.2.2.2.2.2.1.length+1)
@[reducible,instance] def Q7a{x0 x1}:=mkW (Fw.eq_1 N x0 x1) (sz x0≤1099511627776∧(x1.2.1=2→∃a∈x0.1,a.1=x1.2.2.1)∧(¬ (x1.2.1=1∨x1.2.1=2∨x1.2.1=3∨x1.2.1=14∨x1.2.1=15)→∃a∈x0.2.1,a.1=x1.2.2.2.1)) (fun r=>sz r.1≤sz x0.1+1∧sz r.2.1≤sz x0.2.1+1∧sz r.2.2≤sz x0.2.2+1)
@[reducible,instance] def Qy3{x0}{s}:=upL (N:=N) (s:=s) (Cr.eq_def N x0) (fun t=>t.2.1) x0.length (fun t=>x0.length≤4096∧Sh.sh x0∧sz t.2.2.1≤t.2.1∧sz t.2.2.2.1≤t.2.1∧sz t.2.2.2.2≤t.2.1∧Asc x0 t.2.1 t.1) (fun r:((Unit)⊕(Int×Int))=>(∀u,r=.inl u→Q1i x0)∧∀u,r=.inr u→u.2≠0) (step:=by
  intro s h h0 h1 h2 hw
  try simp only[sS,reduceCtorEq]at *
  repeat' (first | intro _ | apply And.intro)
  all_goals first | assumption | (rw[hw (by assumption)]; refine Jn0 h0 h.2.2.2.2.2 (by assumption) ?_ ?_ ?_<;>grind) | exact Jqs h.2.2.2.2.2 (by omega) | exact lv)
@[reducible,instance] def Q7b{x0}:=mkW (Fx.eq_1 N x0) (sz x0≤1099511627776∧Sh.sh x0) (fun r=>r.2=0→Q1i x0) (k:=by
  intro h
  try simp only[sS,reduceCtorEq]at *
  repeat' (first | intro _ | apply And.intro)
  all_goals first | exact Jnz | assumption | (exfalso; (repeat cases ‹_∧_›); (exact absurd (by assumption) (by assumption))) | exact lv)
@[reducible,instance] def Qy4{x0}{s}:=upL (N:=N) (s:=s) (Cs.eq_def N x0) (fun t=>t) x0.length (fun t=>sz x0≤9223372036854775807∧Sh.sh x0) (fun r:((Unit)⊕(Int))=>True)
@[reducible,instance] def Qy5{x0}{s}:=upI (N:=N) (s:=s) (Ct.eq_def N x0) (fun t=>t) ((x0.length:Int)) (fun t=>sz x0≤9223372036854775807∧1≤t) (fun r:((Unit)⊕(Int))=>True)
@[reducible,instance] def Q7c{x0}:=mkW (Fy.eq_1 N x0) (sz x0≤9223372036854775807∧Sh.sh x0) (fun r=>r=0→sz x0≤64)
@[reducible,instance] def Q2r{x0}:=mkW (Ep.eq_1 N x0) (sz x0≤9223372036854775807∧Sh.sh x0) (fun r=>r=0→sz x0≤64)
@[reducible,instance] def Q2s{x0}{s}:=Qm0 (N:=N) (s:=s) (Mu.eq_def N x0) x0.2.2.2.2.2 (sz x0≤9223372036854775807∧Sh.sh x0) (fun y=>(sz y:Int)≤64) ((szL (x0.2.2.2.2.2):Int)≤64) (fun u=>u≠0)
@[reducible,instance] def Jba{x0}:=mkW (Dr.eq_1 N x0) (sz x0≤9223372036854775807∧Sh.sh x0) (fun r=>r=0→sz x0≤64)
@[reducible,instance] def Qy6{x0}{s}:=Qm0 (N:=N) (s:=s) (Cu.eq_def N x0) x0 (sz x0≤9223372036854775807∧Sh.sh x0) (fun y=>(sz y:Int)≤64) ((szL (x0):Int)≤64) (fun u=>u≠0)
@[reducible,instance] def Q7d{x0}:=mkW (Fz.eq_1 N x0) (sz x0≤9223372036854775807∧Sh.sh x0) (fun r=>r=0→sz x0≤4096)
theorem Nk{N:Nat}[Cm N]:∀(n:Nat) (e:Ja),dpt e≤n→sz e≤4096→W (Vz N n e) fun r=>r=e
 | 0,e,h,hs=>by cases e with | mk a ks=>rw[dpt]at h; omega
 | n+1,e,h,hs=>by
  unfold Vz
  have hk:=Jmv (e:=e)
  have hlen:=Ui (l:=e.ks)
  have ih:∀x:Ja,WP (Vz N n x) (fun R=>(x∈e.ks∧sz x≤4096)∧∀r:Ja,r=x→R r):=fun x=>Qhi fun hx=>Nk n x (by have:=Jmx hx.1; omega) hx.2
  have loop:=fun(q:List Ja) (s:Int×List Ja)=>upL (N:=N) (s:=s) (Oz.eq_def N (Vz N n) q) (fun s=>s.1) q.length (fun s=>q=e.ks∧sz q≤4096∧q.length≤4096∧s.2=q) (fun r:List Ja=>r=q) (step:=by
   intro s h h0 h1 h2 hw
   obtain⟨s1,s2⟩:=s
   obtain⟨h6,h3,h4,h5⟩:=h
   dsimp only at *
   subst h5
   subst h6
   try simp only[sS,reduceCtorEq]at *
   repeat' (first | intro _ | apply And.intro)
   all_goals first | assumption | omega | (subst_vars; exact Fh (by assumption) rfl) | rfl | grind)
  refine wp ?_
  simp only[forall_eq]
  refine⟨by omega,⟨⟨trivial,by omega,by omega,trivial⟩,by omega,by omega⟩,?_⟩
  cases e with
  | mk a ks=>rfl
@[reducible,instance] def Je0{N:Nat}[hN:Cm N]{x0:Ja}:WP (Qea N x0) (fun R=>(sz x0≤4096∧dpt x0≤4096)∧∀r:Ja,r=x0→R r):=Qhi (by
  intro h
  have:=hN.le
  exact Nk N x0 (by omega) h.1)
@[reducible,instance] def Q1u{r1}{s}:=upL (N:=N) (s:=s) (I6.eq_def N r1) (fun t=>t.1) r1.length (fun t=>sz r1≤4096∧t.2=r1∧r1.length≤4096) (fun r:(((List Q2)))=>r=r1) (step:=by
  intro s h h0 h1 h2 hw
  try simp only[sS,reduceCtorEq]at *
  repeat' (first | intro _ | apply And.intro)
  all_goals first | exact QY Ui (by omega) | ((repeat cases ‹_∧_›); subst_vars; exact Jnt (by assumption) (by assumption)) | assumption | omega | exact lv)
@[reducible,instance] def Q1v{r2}{s}:=upL (N:=N) (s:=s) (I7.eq_def N r2) (fun t=>t.1) r2.length (fun t=>sz r2≤4096∧t.2=r2∧r2.length≤4096) (fun r:(((List Jg)))=>r=r2) (step:=by
  intro s h h0 h1 h2 hw
  try simp only[sS,reduceCtorEq]at *
  repeat' (first | intro _ | apply And.intro)
  all_goals first | exact QY Ui (by omega) | ((repeat cases ‹_∧_›); subst_vars; exact Jnu (by assumption) (by assumption)) | assumption | omega | exact lv)
@[reducible,instance] def Q1w{r3}{s}:=upL (N:=N) (s:=s) (I8.eq_def N r3) (fun t=>t.1) r3.length (fun t=>sz r3≤4096∧t.2=r3∧r3.length≤4096) (fun r:(((List Y5)))=>r=r3) (step:=by
  intro s h h0 h1 h2 hw
  try simp only[sS,reduceCtorEq]at *
  repeat' (first | intro _ | apply And.intro)
  all_goals first | exact QY Ui (by omega) | ((repeat cases ‹_∧_›); subst_vars; exact Jnv (by assumption) (by assumption)) | assumption | omega | exact lv)
@[reducible,instance] def Q1x{r4}{s}:=upL (N:=N) (s:=s) (I9.eq_def N r4) (fun t=>t.1) r4.length (fun t=>sz r4≤4096∧t.2=r4∧Qu (fun d:Jl=>dpt d.2.1≤4096) r4∧r4.length≤4096) (fun r:(((List Jl)))=>r=r4) (step:=by
  intro s h h0 h1 h2 hw
  try simp only[sS,reduceCtorEq]at *
  repeat' (first | intro _ | apply And.intro)
  all_goals first | exact QY Ui (by omega) | ((repeat cases ‹_∧_›); subst_vars; exact Jnw (by assumption) (by assumption)) | assumption | omega | exact Zj (P:=fun d:Jl=>dpt d.2.1≤4096) (by rw[←h.2.1]; assumption) h.2.2.1 | exact lv)
@[reducible,instance] def Q8r{x0}:=mkW (Bz.eq_1 N x0) (sz x0≤4096∧A8 x0) (fun r=>r=x0) (k:=by
  intro h
  have g0:=h.2.deep
  try simp only[sS,reduceCtorEq]at *
  repeat' (first | intro _ | apply And.intro)
  all_goals first | exact⟨g0⟩ | assumption | omega | exact lv)
@[reducible,instance] def Q7e{r4}{s}:=upL (N:=N) (s:=s) (O4.eq_def N r4) (fun t=>t.1) r4.length (fun t=>sz r4≤4096∧t.2=r4∧Qu A8 r4∧r4.length≤4096) (fun r:(((List Q3)))=>r=r4) (step:=by
  intro s h h0 h1 h2 hw
  try simp only[sS,reduceCtorEq]at *
  repeat' (first | intro _ | apply And.intro)
  all_goals first | exact QY Ui (by omega) | ((repeat cases ‹_∧_›); subst_vars; exact Fh (by assumption) rfl) | assumption | omega | exact Zj (by rw[←h.2.1]; assumption) h.2.2.1 | exact lv)
@[reducible,instance] def Q7f{r29}{s}:=upL (N:=N) (s:=s) (O5.eq_def N r29) (fun t=>t.1) r29.length (fun t=>sz r29≤4096∧t.2=r29∧r29.length≤4096) (fun r:(((List Yk)))=>r=r29) (step:=by
  intro s h h0 h1 h2 hw
  try simp only[sS,reduceCtorEq]at *
  repeat' (first | intro _ | apply And.intro)
  all_goals first | exact QY Ui (by omega) | ((repeat cases ‹_∧_›); subst_vars; exact Jnx (by assumption) (by assumption)) | assumption | omega | exact lv)
@[reducible,instance] def Q7g{r5}{s}:=upL (N:=N) (s:=s) (O6.eq_def N r5) (fun t=>t.1) r5.length (fun t=>sz r5≤4096∧t.2=r5∧r5.length≤4096) (fun r:(((List Qo)))=>r=r5) (step:=by
  intro s h h0 h1 h2 hw
  try simp only[sS,reduceCtorEq]at *
  repeat' (first | intro _ | apply And.intro)
  all_goals first | exact QY Ui (by omega) | ((repeat cases ‹_∧_›); subst_vars; exact Jny (by assumption) (by assumption)) | assumption | omega | exact lv)
@[reducible,instance] def Q7h{r6}{s}:=upL (N:=N) (s:=s) (O7.eq_def N r6) (fun t=>t.1) r6.length (fun t=>t.2=r6∧r6.length≤140737488355328∧Qu (fun a:Jh=>a.2.2.2.2.1.length*24≤140737488355328) r6) (fun r:(((List Jh)))=>r=r6) (step:=by
  intro s h h0 h1 h2 hw
  try simp only[sS,reduceCtorEq]at *
  repeat' (first | intro _ | apply And.intro)
  all_goals first | exact QY Ui (by omega) | ((repeat cases ‹_∧_›); subst_vars; exact Jqr (by assumption) (by assumption)) | assumption | omega | exact Zj (P:=fun a:Jh=>a.2.2.2.2.1.length*24≤140737488355328) (by rw[←h.1]; assumption) h.2.2 | exact lv)
@[reducible,instance] def Je1{x0}:=mkW (L3.eq_1 N x0) (Lx x0∧x0.2.2.2.1.length*32≤140737488355328∧x0.2.2.2.2.2.length*72≤140737488355328∧Qu (fun a:Jh=>a.2.2.2.2.1.length*24≤140737488355328) x0.2.2.2.2.2) (fun r=>r=x0) (k:=by
  intro h
  have g0:=h.1.ev; have g1:=h.1.tarL; have g2:=h.1.tarS; have g3:=h.1.tarO; have g4:=h.1.prodL; have g5:=h.1.prodS; have g6:=h.1.prodO; have g7:=h.1.hol
  try simp only[sS,reduceCtorEq]at *
  repeat' (first | intro _ | apply And.intro)
  all_goals first | assumption | omega | exact QY Ui (by omega) | exact lv)
@[reducible,instance] def Q1y{x0 x1}:=mkW (Qka.eq_1 N x0 x1) (Lx x0∧x0.2.2.2.1.length*32≤140737488355328∧x0.2.2.2.2.2.length*72≤140737488355328∧Qu (fun a:Jh=>a.2.2.2.2.1.length*24≤140737488355328) x0.2.2.2.2.2∧sz x1.1≤1000000000000∧x1.2.1.length≤1000000000000∧x1.2.2.length≤1000000000000) (fun r=>r=(x0.1,x0.2.1,x0.2.2.1,x0.2.2.2.1,x0.2.2.2.2.1,x0.2.2.2.2.2,x1.1,x1.2.1,x1.2.2,[]))
@[reducible,instance] def Q7i{x0}:=mkW (Wu.eq_1 N x0) (True) (fun r=>True)
@[reducible,instance] def Q7j{x0}:=mkW (F0.eq_1 N x0) (True) (fun r=>True)
@[reducible,instance] def Q1z{x0}{s}:=upL (N:=N) (s:=s) (Iy.eq_def N x0) (fun t=>t) x0.length (fun t=>Sh.sh x0) (fun r:((Unit)⊕(Bool))=>True) (fun _ h=>Qhk (by grind))
@[reducible,instance] def Q8s{x0}:=mkW (Gu.eq_1 N x0) (Sh.sh x0) (fun r=>True)
@[reducible,instance] def Q10{x0}{s}:=upL (N:=N) (s:=s) (Iz.eq_def N x0) (fun t=>t) x0.length (fun t=>Sh.sh x0) (fun r:((Unit)⊕(Bool))=>True) (fun _ h=>Qhk (by grind))
@[reducible,instance] def Q8t{x0}:=mkW (Gv.eq_1 N x0) (Sh.sh x0) (fun r=>True)
@[reducible,instance] def Qvv{x0 v1 x1 x2}{s}:=upI (N:=N) (s:=s) (Ax.eq_def N x0 v1 x1 x2) (fun t=>t) (9223372036854775807) (fun t=>sz x0≤9223372036854775807∧0≤v1∧v1≤x1∧x1<x0.length∧∀z,x0[x1.toNat]?=some z→0≤x2∧x2<z.2.length∧x0.length≤9223372036854775807) (fun r:((Unit)⊕(Bool))=>True)
@[reducible,instance] def Qvw{x1 x0 x2}{s}:=upI (N:=N) (s:=s) (Ay.eq_def N x1 x0 x2) (fun t=>t) (x1+1) (fun t=>sz x0≤9223372036854775807∧0≤x1∧x1<x0.length∧∀z,x0[x1.toNat]?=some z→0≤x2∧x2<z.2.length∧x0.length≤9223372036854775807) (fun r:((Unit)⊕(Bool))=>True)
@[reducible,instance] def Q11{x0 x1 x2}:=mkW (Ho.eq_1 N x0 x1 x2) (sz x0≤9223372036854775807∧0≤x1∧x1<x0.length∧(∀z,x0[x1.toNat]?=some z→0≤x2∧x2<z.2.length)) (fun r=>True)
@[reducible,instance] def Q12{x1 x0 x2}{s}:=upI (N:=N) (s:=s) (I0.eq_def N x1 x0 x2) (fun t=>t) (x1) (fun t=>x1≤x0.length∧x0.length≤9223372036854775807) (fun r:((Unit)⊕(Int))=>∀u,r=.inr u→u≠0)
@[reducible,instance] def Q13{x2 x0 x1}{s}:=upL (N:=N) (s:=s) (I1.eq_def N x2 x0 x1) (fun t=>t) x2.2.length (fun t=>sz x2≤9223372036854775807∧sz x0≤9223372036854775807∧Sh.sh x2∧Sh.sh x0∧0≤x1∧x1<x0.length∧x0[x1.toNat]?=some x2∧x0.length≤9223372036854775807) (fun r:((Unit)⊕(Int))=>∀u,r=.inr u→u≠0)
@[reducible,instance] def Q8u{x0 x1}:=mkW (Bu.eq_1 N x0 x1) (sz x0≤9223372036854775807∧Sh.sh x0∧0≤x1∧x1<x0.length) (fun r=>r=0→∃z,x0[x1.toNat]?=some z∧z.2.length≤64)
@[reducible,instance] def Qy7{x0}{s}:=Qm0 (N:=N) (s:=s) (Cv.eq_def N x0) x0 (sz x0≤9223372036854775807∧Sh.sh x0) (fun y=>(sz y:Int)≤64) ((szL (x0):Int)≤64) (fun u=>u≠0)
@[reducible,instance] def Q7k{x0}:=mkW (F2.eq_1 N x0) (sz x0≤9223372036854775807∧Sh.sh x0) (fun r=>r=0→sz x0≤64)
@[reducible,instance] def Qy8{x0}{s}:=upL (N:=N) (s:=s) (Cw.eq_def N x0) (fun t=>t) x0.length (fun t=>sz x0≤9223372036854775807) (fun r:((Unit)⊕(Int))=>True)
@[reducible,instance] def Q7l{x0 x1}:=mkW (F3.eq_1 N x0 x1) (sz x0≤9223372036854775807) (fun r=>r=0→x0.length≤64)
@[reducible,instance] def Qy9{v1 x0}{s}:=upI (N:=N) (s:=s) (Cy.eq_def N v1 x0) (fun t=>t) (v1) (fun t=>v1<x0.length∧x0.length≤9223372036854775807) (fun r:((Unit)⊕(Int))=>∀u,r=.inr u→u≠0)
@[reducible,instance] def Qza{x0}{s}:=Qm0 (N:=N) (s:=s) (Cz.eq_def N x0) x0 (sz x0≤9223372036854775807∧Sh.sh x0) (fun y=>(sz y:Int)≤64) ((szL (x0):Int)≤64) (fun u=>u≠0)
@[reducible,instance] def Q7m{x0}:=mkW (F4.eq_1 N x0) (sz x0≤9223372036854775807∧Sh.sh x0) (fun r=>r=0→sz x0≤64)
@[reducible,instance] def Q14{x0 x1}{s}:=upL (N:=N) (s:=s) (I2.eq_def N x0 x1) (fun t=>t) x0.2.2.2.1.length (fun t=>sz x0≤9223372036854775807) (fun r:((Unit)⊕(Bool))=>True)
@[reducible,instance] def Q8v{x0 x1}:=mkW (Bv.eq_1 N x0 x1) (sz x0≤9223372036854775807) (fun r=>True)
@[reducible,instance] def Q15{x0 x1}{s}:=upL (N:=N) (s:=s) (I3.eq_def N x0 x1) (fun t=>t) x0.2.2.2.2.1.length (fun t=>sz x0≤9223372036854775807) (fun r:((Unit)⊕(Bool))=>True)
@[reducible,instance] def Q8w{x0 x1}:=mkW (Bw.eq_1 N x0 x1) (sz x0≤9223372036854775807) (fun r=>True)
@[reducible,instance] def Qzb{x0}{s}:=upL (N:=N) (s:=s) (C0.eq_def N x0) (fun t=>t.2) x0.length (fun t=>sz x0≤9223372036854775807) (fun r:((Unit)⊕(Int))=>True)
@[reducible,instance] def Q7n{x0}:=mkW (F5.eq_1 N x0) (sz x0≤9223372036854775807) (fun r=>r=0→x0.length≤64)
@[reducible,instance] def Qzc{x0}{s}:=Qm0 (N:=N) (s:=s) (C1.eq_def N x0) x0.2.2.2.2.2.1 (sz x0≤9223372036854775807) (fun y=>(sz y:Int)≤64) ((szL (x0.2.2.2.2.2.1):Int)≤64) (fun u=>u≠0)
@[reducible,instance] def Q7o{x0}:=mkW (F6.eq_1 N x0) (sz x0≤9223372036854775807) (fun r=>r=0→sz x0.2.2.2.2.2.1≤64)
@[reducible,instance] def Q7p{x0}:=mkW (F7.eq_1 N x0) (True) (fun r=>r≤2∧(x0=4→r=1)∧(¬ (x0=1∨x0=2∨x0=3∨x0=4)→r=2∨r = -1))
@[reducible,instance] def Q2t{x0 x1}{s}:=upL (N:=N) (s:=s) (Mv.eq_def N x0 x1) (fun t=>t) x0.length (fun t=>sz x0≤9223372036854775807) (fun r:((Unit)⊕(Bool))=>True)
@[reducible,instance] def Jbb{x0 x1}:=mkW (Ea.eq_1 N x0 x1) (sz x0≤9223372036854775807) (fun r=>True)
@[reducible,instance] def Qwl{x0}:=mkW (Zd.eq_1 N x0) (True) (fun r=>True)
@[reducible,instance] def Jbc{x0}:=mkW (Ds.eq_1 N x0) (Sh.sh x0) (fun r=>r=0→x0.ks.length≤2∧((x0.x.1=4→x0.ks.length=1)∧(¬ (x0.x.1=1∨x0.x.1=2∨x0.x.1=3∨x0.x.1=4)→x0.ks.length=2)))
@[reducible,instance] def Q2u{x0 x1}:=mkW (Er.eq_1 N x0 x1) ((x0.x.1=4→1≤x1.length)∧(¬ (x0.x.1=1∨x0.x.1=2∨x0.x.1=3∨x0.x.1=4)→2≤x1.length)) (fun r=>True)
theorem Jn1{α:Type}{a:α}(ks:List (K9 α)):sz (K9.mk a ks)=sz ks:=by
 have:∀l:List (K9 α),szL l=Jg0 l:=fun l=>by
  induction l with
  | nil=>rfl
  | cons x l ih=>simp only[szL,Jg0,ih]; rfl
 show rsz (.mk a ks)=max ks.length (szL ks)
 rw[this]; simp only[rsz]
theorem Q7q{N:Nat}[Cm N]:∀(n:Nat) (e:Ja) (d:Int),1≤d→d≤17→18≤n+d→W (Vy N n e d) fun r=>r.2=0→(sz e≤2∧(dpt e:Int)≤17 - d)
 | 0,e,d,h0,h1,h2=>by omega
 | n+1,e,d,h0,h1,h2=>by
  unfold Vy
  by_cases hd:d>16
  ·rw[if_pos (by simpa using hd)]
   exact⟨_,rfl,fun h=>by cases h⟩
  ·rw[if_neg (by simpa using hd)]
   have hw:IntKind.wrap .i64 (d+1)=d+1:=Q5 (by omega) (by omega)
   have ih:∀x:Ja,WP (Vy N n x (IntKind.wrap .i64 (d+1))) (fun R=>True∧∀r:Int×Int,(r.2=0→(sz x≤2∧(dpt x:Int)≤16 - d))→R r):=fun x=>Qhi fun h=>by
    rw[hw]; exact(Q7q n x (d+1) (by omega) (by omega) (by omega)).mono fun r hr hz=>⟨(hr hz).1,by have:=(hr hz).2; omega⟩
   have hfin:e.ks.length≤2→Qjl (fun y=>sz y≤2∧(dpt y:Int)≤16 - d) e.ks e.ks.length→sz e≤2∧(dpt e:Int)≤17 - d:=fun hl ha=>by
    have h3:=fun y hy=>Qos ha (JC _) y hy
    refine⟨?_,?_⟩
    ·have h4:sz e=sz e.ks:=by cases e with | mk a ks=>exact Jn1 ks
     rw[h4]
     exact Q59 hl fun y hy=>(h3 y hy).1
    ·have h5:=Jvl (e:=e) (K:=(16 - d).toNat) (fun y hy=>by have:=(h3 y hy).2; omega)
     omega
   have loop:=fun s:Int×List Int=>upL (N:=N) (s:=s) (Oy.eq_def N (Vy N n) e d) (fun s=>s.1) e.ks.length (fun s=>e.ks.length≤2∧s.2.length=s.1∧Qjl (fun y=>sz y≤2∧(dpt y:Int)≤16 - d) e.ks s.1) (fun r:List Int⊕(Int×Int)=>(∀a,r=.inl a→a.length=e.ks.length∧Qjl (fun y=>sz y≤2∧(dpt y:Int)≤16 - d) e.ks e.ks.length)∧∀w,r=.inr w→w.2≠0) (step:=by
    intro s h h0 h1 h2 hw
    try simp only[sS,reduceCtorEq]at *
    repeat' (first | intro _ | apply And.intro)
    all_goals first | assumption | omega | (rw[hw (by assumption)]; exact Qk0 h0 h.2.2 (by assumption) (by clear h; grind)) | ((have e1:s.1=e.ks.length:=by omega); rw[←e1]; exact h.2.2) | grind)
   refine wp ?_
   simp only[sS,reduceCtorEq,Sum.forall]at *
   repeat' (first | intro _ | apply And.intro)
   all_goals first | assumption | omega | exact Xk | (simp_all; done) | grind
@[reducible,instance] def Je2{N:Nat}[hN:Cm N]{x0:Ja}{x1:Int}:WP (Qd9 N x0 x1) (fun R=>(x1=1)∧∀r:Int×Int,(r.2=0→(sz x0≤2∧dpt x0≤16))→R r):=Qhi (by
  intro h
  have:=hN.le
  exact(Q7q N x0 x1 (by omega) (by omega) (by omega)).mono fun r hr hz=>⟨(hr hz).1,by have:=(hr hz).2; omega⟩)
@[reducible,instance] def Q8x{x0}:=mkW (Bx.eq_1 N x0) (True) (fun r=>r.2=0→sz x0≤2∧dpt x0≤16)
@[reducible,instance] def Qrv{v1 x0 x2}{s}:=upI (N:=N) (s:=s) (Eh.eq_def N v1 x0 x2) (fun t=>t) (v1) (fun t=>v1≤x0.2.2.2.2.2.2.length∧x0.2.2.2.2.2.2.length≤9223372036854775807) (fun r:((Unit)⊕(Int))=>∀u,r=.inr u→u≠0)
@[reducible,instance] def Qrw{x0}{s}:=Qm0 (N:=N) (s:=s) (Ei.eq_def N x0) x0.2.2.2.2.2.2 (sz x0≤9223372036854775807∧Sh.sh x0) (fun y=>(sz y:Int)≤64∧dpt y.2.1≤4096) ((szL x0.2.2.2.2.2.2:Int)≤64∧A8 x0) (fun u=>u≠0) (fin:=fun h hall=>⟨Q06 (fun y hy=>(hall y hy).1) (by omega),⟨fun y hy=>(hall y hy).2⟩⟩)
@[reducible,instance] def Qwm{x0}:=mkW (Wv.eq_1 N x0) (sz x0≤9223372036854775807∧Sh.sh x0) (fun r=>r=0→sz x0.2.2.2.2.2.2≤64∧A8 x0)
@[reducible,instance] def Q2v{x0}:=mkW (Es.eq_1 N x0) (sz x0≤9223372036854775807∧Sh.sh x0) (fun r=>r=0→sz x0≤64∧A8 x0)
@[reducible,instance] def Q7r{x0 x1}:=mkW (F8.eq_1 N x0 x1) (sz x0≤9223372036854775807∧sz x1≤9223372036854775807) (fun r=>True)
@[reducible,instance] def Qzd{x0}{s}:=Qm0 (N:=N) (s:=s) (C2.eq_def N x0) x0 (sz x0≤9223372036854775807∧Sh.sh x0) (fun y=>(sz y:Int)≤64∧A8 y) ((szL x0:Int)≤64∧Qu A8 x0) (fun u=>u≠0) (fin:=fun h hall=>⟨Q06 (fun y hy=>(hall y hy).1) (by omega),⟨fun y hy=>(hall y hy).2⟩⟩)
@[reducible,instance] def Q7s{x0}:=mkW (F9.eq_1 N x0) (sz x0≤9223372036854775807∧Sh.sh x0) (fun r=>r=0→sz x0≤4096∧Qu A8 x0)
@[reducible,instance] def Q7t{x0}:=mkW (Ab.eq_1 N x0) (True) (fun r=>True)
@[reducible,instance] def Q2w{x0}{s}:=Qm0 (N:=N) (s:=s) (Mw.eq_def N x0) x0 (sz x0≤9223372036854775807) (fun y=>(sz y:Int)≤6) ((szL (x0):Int)≤6) (fun u=>u≠true)
@[reducible,instance] def Jbd{x0}:=mkW (Dt.eq_1 N x0) (sz x0≤9223372036854775807) (fun r=>r=true→sz x0≤12)
@[reducible,instance] def Jbe{x0}:=mkW (Du.eq_1 N x0) (sz x0≤9223372036854775807) (fun r=>r=true→sz x0≤12) (k:=by
  intro h
  try simp only[sS,reduceCtorEq]at *
  repeat' (first | intro _ | apply And.intro)
  all_goals first | (simp only[sz1,mx1,Qmz]at *; omega) | exact lv)
@[reducible,instance] def Q16{x0 x1}:=mkW (Hp.eq_1 N x0 x1) (sz x0≤9223372036854775807∧sz x1≤9223372036854775807) (fun r=>True)
@[reducible,instance] def Q17{x0 x1}{s}:=upL (N:=N) (s:=s) (I4.eq_def N x0 x1) (fun t=>t) x0.length (fun t=>sz x0≤9223372036854775807∧x0.length≤9223372036854775807) (fun r:((Unit)⊕(Int))=>True)
@[reducible,instance] def Q8y{x0 x1}:=mkW (By.eq_1 N x0 x1) (sz x0≤9223372036854775807) (fun r=>True)
@[reducible,instance] def Q2x{x0 x1}:=mkW (Et.eq_1 N x0 x1) (sz x0≤9223372036854775807∧sz x1≤9223372036854775807) (fun r=>True)
@[reducible,instance] def Qvx{x0}{s}:=upI (N:=N) (s:=s) (Az.eq_def N x0) (fun t=>t) (x0.length) (fun t=>sz x0≤9223372036854775807∧x0.length≤9223372036854775807∧1≤t) (fun r:((Unit)⊕(Bool))=>True)
@[reducible,instance] def Q18{x0}:=mkW (Hq.eq_1 N x0) (sz x0≤9223372036854775807) (fun r=>True)
@[reducible,instance] def Qrx{x0}{s}:=upI (N:=N) (s:=s) (Ej.eq_def N x0) (fun t=>t) (x0.length) (fun t=>sz x0≤9223372036854775807∧x0.length≤9223372036854775807∧1≤t) (fun r:((Unit)⊕(Bool))=>True)
@[reducible,instance] def Qwn{x0}:=mkW (Ww.eq_1 N x0) (x0.length≤9223372036854775807) (fun r=>True)
@[reducible,instance] def Q19{x0}{s}:=upL (N:=N) (s:=s) (I5.eq_def N x0) (fun t=>t) x0.length (fun t=>Sh.sh x0) (fun r:((Unit)⊕(Bool))=>True) (fun _ h=>Qhk (by grind))
@[reducible,instance] def Q8z{x0}:=mkW (Gw.eq_1 N x0) (Sh.sh x0) (fun r=>True)
@[reducible,instance] def Qze{x0}{s}:=upL (N:=N) (s:=s) (C4.eq_def N x0) (fun t=>t) x0.2.2.2.2.2.1.length (fun t=>sz x0≤9223372036854775807∧Sh.sh x0) (fun r:((Unit)⊕(Int))=>True)
@[reducible,instance] def Q7u{x0}:=mkW (Ac.eq_1 N x0) (sz x0≤9223372036854775807∧Sh.sh x0) (fun r=>True)
@[reducible,instance] def Q7v{x0}:=mkW (Z0.eq_1 N x0) (True) (fun r=>True)
@[reducible,instance] def Q7w{x0}:=mkW (Ad.eq_1 N x0) (True) (fun r=>True)
@[reducible,instance] def Q2y{x0}{s}:=upL (N:=N) (s:=s) (Mx.eq_def N x0) (fun t=>t) x0.1.length (fun t=>sz x0≤9223372036854775807∧Sh.sh x0) (fun r:((Unit)⊕(Bool))=>True)
@[reducible,instance] def Q2z{x0}{s}:=upL (N:=N) (s:=s) (My.eq_def N x0) (fun t=>t) x0.2.1.length (fun t=>sz x0≤9223372036854775807∧Sh.sh x0) (fun r:((Unit)⊕(Bool))=>True)
@[reducible,instance] def Jbf{x0}:=mkW (Dv.eq_1 N x0) (sz x0≤9223372036854775807∧Sh.sh x0) (fun r=>r=true→sz x0≤12)
@[reducible,instance] def Q20{x1}{s}:=Qm0 (N:=N) (s:=s) (Mq.eq_def N x1) x1 (x1.length≤9223372036854775807) (fun y=>y.2.2.2.2.2.length≤4) (Qu (fun p:Qo=>p.2.2.2.2.2.length≤4) x1) (fun u=>u=false) (fin:=fun h hall=>⟨hall⟩)
attribute [local instance 1300] Jd6 in
@[reducible,instance] def Jbg{x0 x1 x2 x3}:=mkW (H9.eq_1 N x0 x1 x2 x3) (x3≤9223372036854775807∧sz x0≤9223372036854775807∧x1.length≤9223372036854775807∧Sh.sh x0) (fun r=>r=true→x0.length≤40∧x1.length≤8∧Qu (fun p:Qo=>p.2.2.2.2.2.length≤4) x1∧Qd2 x0 x3) (k:=by
  intro h
  try simp only[sS,reduceCtorEq]at *
  repeat' (first | intro _ | apply And.intro)
  all_goals first | exact Jhw (by assumption) (by omega) (by omega) (by assumption) | exact Qyv (by omega) | exact Qvj (by omega) | (refine(‹_∨_›).elim (fun k=>Qvj (by omega)) (fun k=>Qyv (by omega))) | exact lv)
@[reducible,instance] def Qzf{x0}{s}:=Qm0 (N:=N) (s:=s) (C3.eq_def N x0) x0.2.2.2.2.1 (x0.2.2.2.2.1.length≤9223372036854775807) (fun y=>True) (∀y∈x0.2.2.2.2.1,True) (fun u=>u=false)
attribute [local instance 1300] Jvm in
@[reducible,instance] def Q7x{x0}:=mkW (Aa.eq_1 N x0) (sz x0≤9223372036854775807∧Sh.sh x0) (fun r=>r=true→Lx x0∧Q1i x0.1) (k:=by
  intro h
  try simp only[sS,reduceCtorEq]at *
  repeat' (first | intro _ | apply And.intro)
  all_goals first | ((have hq:=h.1); (have hq2:=h.2); clear h; (repeat cases ‹_∧_›); first | assumption | omega | (refine⟨?_,?_,?_,?_,?_,?_,?_,?_⟩<;>first | assumption | omega | (refine Qh6 (P:=fun p:Qo=>p.2.2.2.2.2.length≤4) ?_ (fun p hp=>QY hp (by decide)); grind) | grind) | grind) | exact lv)
attribute [local instance 1300] Jd6 in
@[reducible,instance] def Q21{x0}{s}:=Qm0 (N:=N) (s:=s) (M9.eq_def N x0) x0.2.2 (sz x0≤9223372036854775807∧Sh.sh x0∧Qu (fun o:Qq=>o.2.2.2.1≤9223372036854775807) x0.2.2) (fun y=>Qd2 x0.1.1 y.2.2.2.1∧y.2.2.2.2.2.2.1.length≤100) (Qu (fun o:Qq=>Qd2 x0.1.1 o.2.2.2.1∧o.2.2.2.2.2.2.1.length≤100) x0.2.2) (fun u=>u=false) (fin:=fun h hall=>⟨hall⟩) (step:=by
  intro s h h0 h1 h2 hw
  have hA:=h.2.2
  try simp only[sS,reduceCtorEq]at *
  repeat' (first | intro _ | apply And.intro)
  all_goals first | assumption | omega | exact Zj (P:=fun o:Qq=>o.2.2.2.1≤9223372036854775807) (by assumption) hA | exact QY Ui (by omega) | exact h.2.1.1.1 | (refine⟨_,by assumption,?_⟩; clear h; grind) | (clear h; grind))
@[reducible,instance] def Qk4{x0}:=mkW (X9.eq_1 N x0) (sz x0≤9223372036854775807∧Sh.sh x0∧Qu (fun o:Qq=>o.2.2.2.1≤9223372036854775807) x0.2.2) (fun r=>r=true→Lx x0.1∧Q1i x0.1.1∧sz x0.2.1≤12∧x0.2.2.length≤10∧Qu (fun o:Qq=>Qd2 x0.1.1 o.2.2.2.1∧o.2.2.2.2.2.2.1.length≤100) x0.2.2)
open Go Go.RowKit Gd Go.WideShapes Go.ChangeShapes
def Qhn{τ:Type}(P:Program)(r:RT τ)(t:TypeId)(good:τ→Prop):Prop :=
 P.cellsOf t=r.size∧(∀{w:World} {rc:Reach} {b:Nat} {v:Value},Value.okWide P w rc b t v→(r.agg=true→∃cs,v=.agg cs)∧(r.agg=false→∃c,v.cells=#[c]∧v=c)) ∧
 ∀{H:Type} (enc:TypeId×Value→H) (w:World) (n:Nat) (cs:List Value) (x:DataW H×List MemPlace),
  DataW.trod enc P w 0 (fun _=>true) true n t cs=some x→(x.1.weights P t).all (·≤reachBytes)=true→∃y,r.rep (lt w) w y cs∧good y
def mb:Ty→Nat
 | .int .i64=>8
 | .str=>16
 | .sl _=>24
 | .pr .bool r=>8+mb r
 | .pr f r=>mb f+mb r
 | .st fs=>mb fs
 | _=>1
def gz:(t:Ty)→t.De→Prop
 | .int k,x=>Qwv k x
 | .bool,_=>True
 | .str,x=>List.length x≤140737488351232
 | .sl e,x=>List.length x*mb e≤140737488351232∧∀y∈x,gz e y
 | .arr _ e,x=>∀y∈x,gz e y
 | .unit,_=>True
 | .pr f r,x=>gz f x.1∧gz r x.2
 | .st fs,x=>gz fs x
 | .ref,_=>True
 | .rose fs,x=>gd (.rose fs) x
abbrev Jb(P:Program)(t:TypeId)(ty:Ty):Prop:=Qhn P (rt ty) t (gz ty)
section
variable {P:Program}
theorem Qo3{t:TypeId}{ty:Ty}(h:Tl P t ty)(hg:∀x,gd ty x→gz ty x):Jb P t ty :=
 ⟨h.1,h.2.1,fun enc w n cs x hx _=>let⟨y,h1,h2⟩:=h.2.2 enc w n cs x hx; ⟨y,h1,hg y h2⟩⟩
theorem Jhy{t:TypeId}{k:IntKind}(ht:P.underlying t=some (.int k))(hc:P.cellsOf t=1):Jb P t (.int k):=Qo3 (Qn7 ht hc) fun _ h=>h
theorem Jbh{t:TypeId}(ht:P.underlying t=some .bool)(hc:P.cellsOf t=1):Jb P t .bool:=Qo3 (Q90 ht hc) fun _ _=>trivial
theorem Jhz{t:TypeId}(ht:P.underlying t=some .string)(hc:P.cellsOf t=1):Jb P t .str:=by
 refine⟨hc,(Qxz ht hc).2.1,fun enc w n cs x h hw=>?_⟩
 obtain⟨s,rfl,rfl,hs⟩:=DataW.trod_string ht h
 refine⟨s.data.toList,?_,?_⟩
 ·show [Value.string s]=[Yl s.data.toList]
  simp[Yl]
 ·simp only[DataW.weights,JP,QQ,decide_eq_true_eq]at hw
  exact hw.1
theorem Qho{H:Type}{e:TypeId}:∀{l:List (DataW H)},(DataW.weightsAll P e l).all (·≤reachBytes)=true→∀(i:Nat) d,l[i]?=some d→(d.weights P e).all (·≤reachBytes)=true
 | [],_,i,d,h=>by simp at h
 | x::l,hw,i,d,h=>by
  simp only[DataW.weightsAll,XR,QQ]at hw
  cases i with
  | zero=>simp at h; subst h; exact hw.1
  | succ i=>exact Qho hw.2 i d (by simpa using h)
theorem Qes{H:Type}:∀{ts:List TypeId} {l:List (DataW H)},(DataW.weightsEach P ts l).all (·≤reachBytes)=true→∀(i:Nat) t d,ts[i]?=some t→l[i]?=some d→(d.weights P t).all (·≤reachBytes)=true
 | [],l,_,i,t,d,h,_=>by simp at h
 | t0::ts,[],_,i,t,d,_,h=>by simp at h
 | t0::ts,x::l,hw,i,t,d,ht,h=>by
  simp only[DataW.weightsEach,XR,QQ]at hw
  cases i with
  | zero=>simp at h ht; subst h; subst ht; exact hw.1
  | succ i=>exact Qes hw.2 i t d (by simpa using ht) (by simpa using h)
theorem V9{t e:TypeId}{ty:Ty}(ht:P.underlying t=some (.slice e))(hc:P.cellsOf t=1)(he:Jb P e ty)(hpos:Nat.ble 1 ty.size=true)(hby:Nat.ble (mb ty) (P.bytesOf e)=true):Jb P t (.sl ty):=by
 have hby:=QV hby
 have hps:0<(rt ty).size:=by rw[Jj]; exact QV hpos
 refine⟨hc,fun hv=>⟨fun h=>(nomatch h),fun _=>?_⟩,fun enc w n cs x h hw=>?_⟩
 ·obtain⟨a,l,c,rfl⟩:=okWide_slice ht hv
  exact⟨_,rfl,rfl⟩
 ·rcases DataW.trod_slice ht h with⟨rfl,_⟩ | ⟨a,len,cap,elems,rest,m,_,rfl,rfl,_,hlc,hcm,hel,hall,_⟩
  ·exact⟨([]:List ty.De),⟨_,rfl,none,0,0,rfl,rfl,QU _,fun h0=>absurd h0 (by omega)⟩,by simp,fun y hy=>by cases hy⟩
  ·simp only[DataW.weights,ht,JP,XR,QQ,decide_eq_true_eq,XV]at hw
   obtain⟨hw1,hw2,_⟩:=hw
   have hsz:P.cellsOf e=(rt ty).size:=he.1
   have h1:∀i,i<len→∃y cs,(rt ty).rep (lt w) w y cs∧gz ty y∧w.cells? 0 (a.add (i*P.cellsOf e)) (P.cellsOf e)=some cs:=by
    intro i hi
    have:=hall i hi
    obtain⟨z,hz⟩:∃z,elems[i]?=some z:=⟨elems[i]'(by omega),List.getElem?_eq_getElem (by omega)⟩
    rw[hz]at this
    obtain⟨cs,hcs,hz2⟩:=Option.bind_eq_some_iff.1 this
    obtain⟨y,hy,hg⟩:=he.2.2 enc w m cs z hz2 (Qho hw2 i z.1 (by rw[JN,hz]; rfl))
    exact⟨y,cs,hy,hg,hcs⟩
   have h2:∀k,k≤len→∃ys:List ty.De,ys.length=k∧∀i y,ys[i]?=some y→∃cs,(rt ty).rep (lt w) w y cs∧gz ty y∧w.cells? 0 (a.add (i*P.cellsOf e)) (P.cellsOf e)=some cs:=by
    intro k
    induction k with
    | zero=>exact fun _=>⟨[],rfl,fun i y h=>by simp at h⟩
    | succ k ih =>
     intro hk
     obtain⟨ys,hl,hys⟩:=ih (by omega)
     obtain⟨y,cs,hy,hg,hcs⟩:=h1 k (by omega)
     refine⟨ys++[y],by simp[hl],fun i z hz=>?_⟩
     rcases Nat.lt_or_ge i k with hlt | hge
     ·rw[JJ (by omega)]at hz
      exact hys i z hz
     ·rw[JK (by omega)]at hz
      have:i - ys.length=0:=by
       rcases Nat.eq_zero_or_pos (i - ys.length)with h | h
       ·exact h
       ·rw[List.getElem?_eq_none (by simp; omega)]at hz; cases hz
      rw[this]at hz
      simp at hz
      subst hz
      have hik:i=k:=by omega
      subst hik
      exact⟨cs,hy,hg,hcs⟩
   obtain⟨ys,hl,hys⟩:=h2 len (QU _)
   refine⟨ys,⟨_,rfl,some a,len,cap,rfl,hl,hlc,fun h0=>?_⟩,?_,fun y hy=>?_⟩
   ·have hsp:a.spot=none:=by
     obtain⟨y,cs,_,_,hcs⟩:=h1 0 h0
     obtain⟨_,hlen,hcell⟩:=World.cells?_some hcs
     have g0:=hcell 0 (by omega)
     obtain⟨c0,hc0⟩:∃c0,cs[0]?=some c0:=⟨cs[0]'(by omega),List.getElem?_eq_getElem (by omega)⟩
     rw[hc0]at g0
     simpa[Addr.add]using World.cell?_spot g0
    obtain⟨b,o,sp⟩:=a
    simp only at hsp
    subst hsp
    refine⟨b,o,rfl,fun i y hi=>?_⟩
    obtain⟨cs,hy,_,hcs⟩:=hys i y hi
    obtain⟨_,hlen,hcell⟩:=World.cells?_some hcs
    refine⟨cs,hy,fun j u hu=>?_⟩
    have hj:j<P.cellsOf e:=by rw[←hlen]; exact(List.getElem?_eq_some_iff.1 hu).1
    have:=hcell j hj
    rw[hu,add_plain,add_plain,hsz]at this
    refine⟨?_,this⟩
    show b<w.heap.size
    unfold World.cell? at this
    rcases Nat.lt_or_ge b w.heap.size with hlt | hge
    ·exact hlt
    ·rw[Array.getElem?_eq_none hge]at this; cases this
   ·have hl':List.length ys=len:=hl
    have:len*mb ty≤(elems.length+rest.length)*P.bytesOf e:=Nat.mul_le_mul (by omega) hby
    rw[hl']
    exact QY this hw1
   ·obtain⟨i,hi⟩:=List.getElem?_of_mem hy
    obtain⟨_,_,hg,_⟩:=hys i y hi
    exact hg
theorem Qhn.fld{τ:Type}{r:RT τ}{t:TypeId}{g:τ→Prop}(ho:Qhn P r t g){H:Type}{enc:TypeId×Value→H}{w:World}{n:Nat}{cs:List Value}{fs:Array Field}{xs:List (DataW H×List MemPlace)}
  (hlen:xs.length=fs.size) (hf:∀(i:Nat) (f:Field),fs[i]?=some f→DataW.trod enc P w 0 (fun _=>true) true n f.type ((cs.drop f.offset).take (P.cellsOf f.type))=xs[i]?)
  (hw:(DataW.weightsEach P (fs.toList.map (·.type)) (xs.map (·.1))).all (·≤reachBytes)=true)
  (i:Nat) (o:Nat) {f:Field} (hi:fs[i]?=some f) (ht:f.type=t) (hof:f.offset=o):∃y,r.rep (lt w) w y ((cs.drop o).take r.size)∧g y:=by
 have h1:=hf i f hi
 have hlt:=(Array.getElem?_eq_some_iff.1 hi).1
 have hx:xs[i]?=some xs[i]:=List.getElem?_eq_getElem (by omega)
 rw[hx,ht,hof,ho.1]at h1
 refine ho.2.2 enc w n _ _ h1 (Qes hw i t xs[i].1 ?_ ?_)
 ·rw[JN,ZO,hi]
  show some f.type=some t
  rw[ht]
 ·rw[JN,hx]; rfl
inductive Qvl(P:Program)(ff:Array Field):Ty→Nat→Nat→Prop
 | last {ty:Ty} {i off t:Nat} {f:Field} (ho:Jb P t ty) (hi:ff[i]?=some f) (ht:f.type=t) (hoff:f.offset=off):Qvl P ff ty i off
 | pr {ty r:Ty} {i off t:Nat} {f:Field} (ho:Jb P t ty) (hi:ff[i]?=some f) (ht:f.type=t) (hoff:f.offset=off) (hr:Qvl P ff r (i+1) (off+ty.size)):Qvl P ff (.pr ty r) i off
theorem Jbi{ff:Array Field}{H:Type}{enc:TypeId×Value→H}{w:World}{n:Nat}{cs:List Value}{xs:List (DataW H×List MemPlace)}
  (hlen:xs.length=ff.size) (hf:∀(i:Nat) (f:Field),ff[i]?=some f→DataW.trod enc P w 0 (fun _=>true) true n f.type ((cs.drop f.offset).take (P.cellsOf f.type))=xs[i]?)
  (hw:(DataW.weightsEach P (ff.toList.map (·.type)) (xs.map (·.1))).all (·≤reachBytes)=true) :
  ∀{ty:Ty} {i off:Nat},Qvl P ff ty i off→cs.length=off+ty.size→∃y,(rt ty).rep (lt w) w y (cs.drop off)∧gz ty y:=by
 intro ty i off h
 induction h with
 | last ho hi ht hoff =>
  intro hl
  obtain⟨y,h1,h2⟩:=Qhn.fld ho hlen hf hw _ _ hi ht hoff
  rw[List.take_of_length_le (by simp; rw[Jj]; omega)]at h1
  exact⟨y,h1,h2⟩
 | pr ho hi ht hoff hr ih =>
  intro hl
  rename_i ty r i off t f
  obtain⟨y,h1,h2⟩:=Qhn.fld ho hlen hf hw _ _ hi ht hoff
  have hl':cs.length=off+ty.size+r.size:=by
   have:(Ty.pr ty r).size=ty.size+r.size:=rfl
   omega
  obtain⟨z,h3,h4⟩:=ih hl'
  refine⟨(y,z),⟨_,cs.drop (off+ty.size),?_,h1,h3⟩,h2,h4⟩
  rw[Jj,←List.drop_drop]
  exact(List.take_append_drop _ _).symm
theorem Vo{t:TypeId}{fs:Ty}{ff:Array Field}(ht:P.underlying t=some (.struct ff))(hc:P.cellsOf t=fs.size)(ho:Qvl P ff fs 0 0):Jb P t (.st fs):=by
 refine⟨by rw[hc,Jj]; rfl,fun hv=>⟨fun _=>?_,fun h=>nomatch h⟩,fun enc w n cs x h hw=>?_⟩
 ·obtain⟨c,rfl,_⟩:=okWide_struct ht hv; exact⟨_,rfl⟩
 ·obtain⟨xs,m,_,rfl,hl,hlen,hf⟩:=DataW.trod_struct ht h
  simp only[DataW.weights,ht]at hw
  obtain⟨y,h1,h2⟩:=Jbi hlen hf hw ho (by rw[hl,hc]; simp)
  exact⟨y,by simpa[rt,Jt8]using h1,h2⟩
theorem Qhn.arg{τ:Type}{r:RT τ}{t:TypeId}{g:τ→Prop}(ho:Qhn P r t g){H:Type}{enc:TypeId×Value→H}{w:World}{rc:Reach}{b:Nat}{v:Value}{d:DataW H}{ps:List MemPlace}
  (hv:Value.okWide P w rc b t v) (h:DataW.Trod enc P w 0 (fun _=>true) true t v d ps) (hw:(d.weights P t).all (·≤reachBytes)=true):∃y,isV r (lt w) w y v∧g y:=by
 obtain⟨n,hn⟩:=h
 obtain⟨y,hy,hg⟩:=ho.2.2 enc w n _ _ hn hw
 refine⟨y,⟨_,hy,?_⟩,hg⟩
 unfold RT.val
 cases ha:r.agg with
 | true =>
  obtain⟨cs,rfl⟩:=(ho.2.1 hv).1 ha
  simp[Value.cells]
 | false =>
  obtain⟨c,hc,rfl⟩:=(ho.2.1 hv).2 ha
  rw[hc]; simp
end
section
variable {H:Type} {enc:TypeId×Value→H} {P:Program} {W:World} {base:Nat} {vs:List String} {us:List TypeId}
theorem Jvp{t:TypeId}{args:Array Value}{ds gs:List (DataW H)}{before:List MemPlace}{ts:Array TypeId}(hts:ts=#[t])
  (hval:∀(j:Nat) t v,ts[j]?=some t→args[j]?=some v→Value.okWide P W .any base t v) (hW:DataW.Whole enc P ts.toList vs false W args.toList ds gs before)
  (hz:(DataW.weightsEach P (ts.toList++us) (ds++gs)).all (·≤reachBytes)=true)
  {τ:Type} {r:RT τ} {g:τ→Prop} (ho:Qhn P r t g):∃v y,args=⟨[v]⟩∧isV r (lt W) W y v∧g y:=by
 subst hts
 obtain⟨p,q,hA,_⟩:=hW
 obtain⟨v0,vs0,d0,ds0,p0,q0,hargs,rfl,rfl,h0,r0⟩:=trodAll_cons hA
 obtain⟨rfl,rfl,rfl⟩:=trodAll_nil r0
 obtain rfl:args=⟨[v0]⟩:=by cases args; simp_all
 simp only[QF,DataW.weightsEach,XR,QQ]at hz
 obtain⟨y,hy,hg⟩:=ho.arg (hval 0 t v0 rfl rfl) h0 hz.1
 exact⟨v0,y,rfl,hy,hg⟩
end
theorem Jqt{l:List Ql}{t:Int}(h:Q1i l)(hn:Qd2 l t):∃I:Y4,Qu (fun m:Ql=>@Aft I m.1) l∧(0<l.length→t<12622780800→t<I.hi):=by
 cases l with
 | nil=>exact⟨⟨0,0,by omega,by omega,by omega⟩,⟨fun m hm=>absurd hm JE⟩,fun h=>absurd h (by simp)⟩
 | cons a l =>
  have ha:=(h.all a (.head _)).1
  rcases hn.at_ a rfl with ht | ht
  ·exact⟨⟨0,69120000,by omega,by omega,by omega⟩,⟨fun m hm=>@Aft.mk ⟨0,69120000,by omega,by omega,by omega⟩ _ (h.all m hm).1.1⟩,fun _ _=>ht⟩
  ·by_cases hc:a.1+69120000≤12622780800
   ·exact⟨⟨a.1,a.1+69120000,by omega,by omega,by omega⟩,⟨fun m hm=>@Aft.mk ⟨a.1,a.1+69120000,by omega,by omega,by omega⟩ _ ((h.all m hm).2 a rfl)⟩,fun _ _=>by show t<a.1+69120000; omega⟩
   ·exact⟨⟨a.1,12622780800,by omega,by omega,by omega⟩,⟨fun m hm=>@Aft.mk ⟨a.1,12622780800,by omega,by omega,by omega⟩ _ ((h.all m hm).2 a rfl)⟩,fun _ h=>h⟩
structure StO(i:Nat)(s:Q0)(m:List (Int×Qb)):Prop where
 b:s.1.length≤12+i*11468800000
 z:sz s.1≤1000000000000
 w:s.2.1.length≤12+i
 c:s.2.2.length≤12
 ms:Qu Wc m
 l:m.length≤i
structure Jvq(l:List Ql)(x:Qq):Prop where
 sh:Sh.sh x.2.2.2.2.2.2.1
 len:List.length x.2.2.2.2.2.2.1≤9223372036854775807
 near:Qd2 l x.2.2.2.1
 key:Fr x.1=true
theorem Jn2{i j:Nat}{s:Q0}{m:List (Int×Qb)}(h:StO i s m)(hij:i≤j):StO j s m:=⟨QY h.b (Nat.add_le_add_left (QB _ hij) 12),h.z,by have:=h.w; omega,h.c,h.ms,by have:=h.l; omega⟩
theorem Jvr{α:Type}{e:K9 α}{K:Nat}(h:e.ks.length≤K)(hk:∀y∈e.ks,sz y≤K):sz e≤K:=by
 cases e with
 | mk a ks=>rw[Jn1]; exact Q59 h hk
abbrev GS(t:Ty)(i:Sz t.De)(j:Sh t.De):Prop:=∀x:t.De,gz t x→@sz _ i x≤9223372036854775807∧@Sh.sh _ j x
theorem gsI{k:IntKind}:GS (.int k) (inferInstanceAs (Sz Int)) (inferInstanceAs (Sh Int)):=fun _ _=>⟨QO _,True.intro⟩
theorem gsB:GS .bool (inferInstanceAs (Sz Bool)) (inferInstanceAs (Sh Bool)):=fun _ _=>⟨QO _,True.intro⟩
theorem gsS:GS .str (inferInstanceAs (Sz (List UInt8))) (inferInstanceAs (Sh (List UInt8))):=fun x h=>⟨QO _,QY (show List.length x≤140737488351232 from h) (by decide)⟩
theorem Q2a:∀t:Ty,1≤mb t
 | .int k=>by cases k<;>simp[mb]
 | .bool=>by simp[mb]
 | .str=>by simp[mb]
 | .sl _=>by simp[mb]
 | .arr _ _=>by simp[mb]
 | .unit=>by simp[mb]
 | .pr f r=>by have:=Q2a f; have:=Q2a r; cases f<;>simp only[mb]<;>omega
 | .st fs=>by have:=Q2a fs; simp only[mb]; omega
 | .ref=>by simp[mb]
 | .rose _=>by simp[mb]
theorem gsL{t:Ty}{i:Sz t.De}{j:Sh t.De}(h:GS t i j):GS (.sl t) (inferInstanceAs (Sz (List t.De))) (inferInstanceAs (Sh (List t.De))):=fun x g=>by
 have g1:List.length x*mb t≤140737488351232:=g.1
 have g2:List.length x*1≤List.length x*mb t:=Nat.mul_le_mul_left _ (Q2a t)
 exact⟨Q59 (by omega) fun y hy=>(h y (g.2 y hy)).1,⟨fun y hy=>(h y (g.2 y hy)).2⟩⟩
theorem gsP{a b:Ty}{i:Sz a.De}{j:Sh a.De}{k:Sz b.De}{l:Sh b.De}(h:GS a i j)(h2:GS b k l):GS (.pr a b) (inferInstanceAs (Sz (a.De×b.De))) (inferInstanceAs (Sh (a.De×b.De))):=fun x g=>⟨ZK.2 ⟨(h x.1 g.1).1,(h2 x.2 g.2).1⟩,(h x.1 g.1).2,(h2 x.2 g.2).2⟩
theorem gsR{t:Ty}:GS (.rose t) (inferInstanceAs (Sz (K9 t.De))) (inferInstanceAs (Sh (K9 t.De))):=fun x g=>by
 refine⟨?_,True.intro⟩
 obtain⟨n,hn⟩:=g
 revert x
 induction n with
 | zero=>exact fun x h=>h.elim
 | succ n ih =>
  intro x h
  exact Jvr (e:=x) h.2.1 fun y hy=>ih y (h.2.2 y hy)
theorem gsT{t:Ty}{i:Sz t.De}{j:Sh t.De}(h:GS t i j):GS (.st t) i j:=h
theorem Jqu:GS Xv (inferInstanceAs (Sz Ja)) (inferInstanceAs (Sh Ja)):=gsR
theorem Jqv:GS Zn (inferInstanceAs (Sz Wq)) (inferInstanceAs (Sh Wq)):=gsT (gsP gsI (gsP gsI gsI))
theorem Je3:GS Vl (inferInstanceAs (Sz Qw)) (inferInstanceAs (Sh Qw)):=gsT (gsP gsI (gsP gsI gsI))
theorem Qzg:GS J5 (inferInstanceAs (Sz Qd)) (inferInstanceAs (Sh Qd)):=gsT (gsP gsI gsI)
theorem Jn3:GS Jp (inferInstanceAs (Sz Ql)) (inferInstanceAs (Sh Ql)):=gsT (gsP gsI (gsP gsI (gsP gsI (gsP gsI (gsP gsS (gsP gsS gsI))))))
theorem Jqw:GS V3 (inferInstanceAs (Sz Q2)) (inferInstanceAs (Sh Q2)):=gsT (gsP gsS (gsL gsS))
theorem Jqx:GS Ub (inferInstanceAs (Sz Jg)) (inferInstanceAs (Sh Jg)):=gsT (gsP gsS (gsL Jqv))
theorem Jqy:GS Xu (inferInstanceAs (Sz Y5)) (inferInstanceAs (Sh Y5)):=gsT (gsP gsI (gsP gsS (gsP gsS (gsP gsI (gsL Je3)))))
theorem Q7y:GS Ul (inferInstanceAs (Sz Jl)) (inferInstanceAs (Sh Jl)):=gsT (gsP gsS (gsP Jqu gsI))
theorem Jh0:GS Yj (inferInstanceAs (Sz Q3)) (inferInstanceAs (Sh Q3)):=gsT (gsP gsS (gsP gsI (gsP gsB (gsP (gsL Jqw) (gsP (gsL Jqx) (gsP (gsL Jqy) (gsL Q7y)))))))
theorem Jh1:GS Zk (inferInstanceAs (Sz Yk)) (inferInstanceAs (Sh Yk)):=gsT (gsP gsI (gsP (gsL gsS) (gsP gsI (gsP gsI (gsP gsI gsB)))))
theorem Jbj:GS J4 (inferInstanceAs (Sz Qo)) (inferInstanceAs (Sh Qo)):=gsT (gsP gsS (gsP gsI (gsP gsI (gsP gsS (gsP gsB (gsL Jh1))))))
theorem Jvs:GS Hk (inferInstanceAs (Sz Qc1)) (inferInstanceAs (Sh Qc1)):=gsT (gsP gsS (gsP gsI gsI))
theorem Q2b:GS Vd (inferInstanceAs (Sz Jh)) (inferInstanceAs (Sh Jh)):=gsT (gsP gsI (gsP gsI (gsP gsB (gsP Qzg (gsP (gsL Je3) gsI)))))
theorem Jqz:GS Uu (inferInstanceAs (Sz Q7)) (inferInstanceAs (Sh Q7)):=gsT (gsP (gsL Jn3) (gsP (gsL Jh0) (gsP (gsL Jbj) (gsP (gsL Jvs) (gsP (gsL gsI) (gsL Q2b))))))
theorem Jh2:GS Q9 (inferInstanceAs (Sz Qa)) (inferInstanceAs (Sh Qa)):=gsT (gsP gsI (gsP gsI (gsP gsS (gsP gsI (gsP gsI (gsP (gsL gsS) (gsP Qzg (gsP gsI (gsP gsI (gsP gsI gsB))))))))))
theorem Jh3:GS J6 (inferInstanceAs (Sz Qc)) (inferInstanceAs (Sh Qc)):=gsT (gsP gsI (gsP gsI (gsP gsI (gsP gsI gsI))))
theorem Jbk:GS Um (inferInstanceAs (Sz Qe)) (inferInstanceAs (Sh Qe)):=gsT (gsP gsI (gsP gsI (gsP gsI (gsP gsI gsI))))
theorem Jn4:GS J2 (inferInstanceAs (Sz Q0)) (inferInstanceAs (Sh Q0)):=gsT (gsP (gsL Jh2) (gsP (gsL Jh3) (gsL Jbk)))
theorem Jbl:GS J7 (inferInstanceAs (Sz Qq)) (inferInstanceAs (Sh Qq)):=gsT (gsP gsI (gsP gsI (gsP gsI (gsP gsI (gsP gsI (gsP gsI (gsP gsS (gsP gsI gsI))))))))
theorem Jq0:IntKind.i64.max=9223372036854775807:=rfl
theorem Jq1:IntKind.i64.min = -9223372036854775808:=rfl
theorem Jq2(M:Nat):Ka (M+64)=some true:=by kernel_rfl
theorem Q7z{N:Nat}[hN:Cm N]:Ka N=some true:=by
 have e:N=(N - 64)+64:=by have:=hN.le; omega
 rw[e]; exact Jq2 _
def Je4(N:Nat)(b:Q7):List Qq→Q0→List (Int×Qb)→Q0→List (Int×Qb)→Prop
 | [],s,m,s',m'=>s'=s∧m'=m
 | r::l,s,m,s',m'=>∃(a:Qp) (s1:Q0) (m1:List (Int×Qb)),V4 N r b s.1 s.2.2 s.2.1 m=some (a,b,s1.1,s1.2.2,m1,s1.2.1)∧Je4 N b l s1 m1 s' m'
theorem Jvt{N:Nat}[hN:Cm N]{x1:Qq}{b:Q7}{s:Q0}{m:List (Int×Qb)}{i:Nat}(hi:i≤12)(hb:Lx b)(he:Q1i b.1)(hx:Jvq b.1 x1)(h:StO i s m) :
  ∃(a:Qp) (s':Q0) (m':List (Int×Qb)),V4 N x1 b s.1 s.2.2 s.2.1 m=some (a,b,s'.1,s'.2.2,m',s'.2.1)∧StO (i+1) s' m':=by
 obtain⟨I,hA,hT⟩:=Jqt he hx.near
 have hb1:=h.b; have hw1:=h.w; have hc1:=h.c; have hl1:=h.l
 obtain⟨⟨a,b',bk,c,m',w⟩,er,p1,p2,p3,p4,p5,p6,p7,p8⟩:=(@Qe5 N _ I x1 b s.1 s.2.2 s.2.1 m).spec _ ⟨⟨hb,hA,by omega,h.z,by omega,by omega,hx.sh,hx.len,hT,h.ms,by omega,hx.key⟩,fun r h=>h⟩
 dsimp only at p1 p2 p3 p4 p5 p6 p7 p8
 subst p1
 exact⟨a,(bk,w,c),m',er,⟨by dsimp only; omega,p3,by dsimp only; omega,by dsimp only; rw[p5]; exact hc1,p6,by omega⟩⟩
theorem Q70{N:Nat}[hN:Cm N]{b:Q7}(hb:Lx b)(he:Q1i b.1):∀(l:List Qq) (i:Nat) (s:Q0) (m:List (Int×Qb)),i+l.length≤12→(∀r∈l,Jvq b.1 r)→StO i s m →
  ∃s' m',Je4 N b l s m s' m'∧StO 12 s' m'
 | [],i,s,m,hi,hr,h=>⟨s,m,⟨rfl,rfl⟩,Jn2 h (by simp at hi; omega)⟩
 | r::l,i,s,m,hi,hr,h=>by
  simp only[List.length_cons]at hi
  obtain⟨a,s1,m1,e,h1⟩:=Jvt (N:=N) (by omega) hb he (hr r (.head _)) h
  obtain⟨s',m',e2,h2⟩:=Q70 (N:=N) hb he l (i+1) s1 m1 (by omega) (fun x hx=>hr x (.tail _ hx)) h1
  exact⟨s',m',⟨a,s1,m1,e,e2⟩,h2⟩
theorem Jt3{i:Nat}(h:i≤1000):IntKind.wrap .i64 ((i:Int)+1)=((i+1:Nat):Int):=Q5 (n:=(i:Int)+1) (by omega) (by omega)
theorem Je5{N:Nat}[hN:Cm N]{b:Q7}{q:List Qq}(hq:∀r∈q,Q02 r∧r.2.2.2.2.2.2.1.length≤100)(hl:q.length≤40):∀(l:List Qq) (i f:Nat) (s:Q0) (m:List (Int×Qb)) (s':Q0) (m':List (Int×Qb)),q.drop i=l→i≤q.length→l.length<f→Je4 N b l s m s' m' →
  Qh (Z9 N (q.map Gh)) f ((i:Int),(i:Int),b.1,b.2.1,b.2.2.1,b.2.2.2.1,b.2.2.2.2.1,b.2.2.2.2.2,s.1,s.2.2,s.2.1,m)=some ((q.length:Int),b,s'.1,s'.2.2,s'.2.1,m')
 | [],i,f,s,m,s',m',hd,hi,hf,hp=>by
  obtain⟨f,rfl⟩:∃g,f=g+1:=⟨f - 1,by simp at hf; omega⟩
  have hge:q.length≤i:=by have:=congrArg List.length hd; simp at this; omega
  have e:i=q.length:=by omega
  obtain⟨rfl,rfl⟩:=hp
  simp only[Qh,Z9]
  rw[if_neg (by simp; omega),e]
  rfl
 | r::l,i,f,s,m,s',m',hd,hi,hf,hp=>by
  obtain⟨f,rfl⟩:∃g,f=g+1:=⟨f - 1,by simp at hf; omega⟩
  have hlt:i<q.length:=by have:=congrArg List.length hd; simp at this; omega
  have hr:q[i]?=some r:=by have:=congrArg (fun l=>l[0]?) hd; simpa using this
  have hd2:q.drop (i+1)=l:=by have:=congrArg List.tail hd; simpa using this
  have hm:r∈q:=List.mem_of_getElem? hr
  have hx:idx (q.map Gh) (i:Int)=some (Gh r):=by
   unfold idx
   rw[if_pos (by omega),JU,JN,hr]; rfl
  have hBig:=hN.le
  obtain⟨h1,h2⟩:=hq r hm
  obtain⟨a,s1,m1,e,hp⟩:=hp
  have el:=Qhg h2
  simp only[Qh,Z9]
  rw[if_pos (by simp; omega),hx,QJ,QJ,Jmk (by omega) (Quv r) (by omega),QJ,Jp8 h1]
  dsimp only
  rw[if_neg (by decide)]
  have e':V4 N r (b.1,b.2.1,b.2.2.1,b.2.2.2.1,b.2.2.2.2.1,b.2.2.2.2.2) s.1 s.2.2 s.2.1 m=some (a,b,s1.1,s1.2.2,m1,s1.2.1):=e
  rw[e',QJ,Jt3 (by omega)]
  exact Je5 hq hl l (i+1) f s1 m1 s' m' hd2 (by omega) (by simp at hf; omega) hp
theorem Jh4{N:Nat}[hN:Cm N]{b:Q7}{s:Q0}{q:List Qq}{t:List Int}(hb:Lx b)(ht:b.2.2.2.1.length*32≤140737488355328)(ha:b.2.2.2.2.2.length*72≤140737488355328)(hg:Qu (fun a:Jh=>a.2.2.2.2.1.length*24≤140737488355328) b.2.2.2.2.2)
  (hs:StO 0 s []) (hq:∀r∈q,Q02 r∧r.2.2.2.2.2.2.1.length≤100) (hl:q.length≤40) (htorn:Q55 t) {s':Q0} {m':List (Int×Qb)} (hp:Je4 N b q s [] s' m') :
  Kv N b s (cat (q.map Gh)++t)=some ((q.length:Int),b,s'.1,s'.2.2,s'.2.1,m'):=by
 have hBig:=hN.le
 have hb1:=hs.b; have hw1:=hs.w; have hc1:=hs.c; have hz:=hs.z
 obtain⟨w,ew,hw⟩:=(Q1y (N:=N) (x0:=b) (x1:=s)).spec _ ⟨⟨hb,ht,ha,hg,by omega,by omega,by omega⟩,fun r h=>h⟩
 unfold Kv
 have hpay:Qwc (q.map Gh):=fun p hp=>by
  obtain⟨r,hr,rfl⟩:=QK.1 hp
  exact⟨Quv r,Qhg (hq r hr).2⟩
 rw[ew,QJ,Jxp (by omega) hpay htorn (by simpa using hl),QJ,hw]
 dsimp only
 have key:Qh (Z9 N (q.map Gh)) N (0,0,b.1,b.2.1,b.2.2.1,b.2.2.2.1,b.2.2.2.2.1,b.2.2.2.2.2,s.1,s.2.2,s.2.1,[])=_:=Je5 hq hl q 0 N s [] s' m' (by simp) (by omega) (by omega) hp
 rw[key,QJ]
theorem Jq3{N:Nat}{b:Q7}{s1:List Qa}{s2:List Qc}{s3:List Qe}{m:List (Int×Qb)}:J8 N b s1 s2 s3 m=(J3 N b s1 s3 s2 m).bind fun w=>some (b,(s1,s2,s3),w.1,w.2):=by
 unfold J8 J3 Kf Yd
 simp only[QJ,Bool.not_true,JZ,if_false]
 show(V7 N b s1 s3 s2 m).bind _=_
 cases V7 N b s1 s3 s2 m with
 | none=>rfl
 | some w =>
  simp only[QJ]
  show(Qh (Vi N w.1 w.2) N (0,[])).bind _=_
  cases Qh (Vi N w.1 w.2) N (0,[])<;>rfl
theorem Jq4{N:Nat}[hN:Cm N]{b:Q7}{s:Q0}{m:List (Int×Qb)}{i:Nat}(hi:i≤13)(h:StO i s m) :
  V0 N b s.1 s.2.2 s.2.1 m=some (s.2.1,s.1,s.2.1,s.2.2)∧G5 N (s.1,s.2.1,s.2.2) (s.1,s.2.1,s.2.2)=some true∧∃l:List Qb,J8 N b s.1 s.2.1 s.2.2 m=some (b,s,m,l)∧Y8 N l l=some true ∧
   Qu (fun x:Qb=>Qj (k:=.int .i64) x.1 m=some x) l∧l.length≤1000000100:=by
 have hb1:=h.b; have hw1:=h.w; have hc1:=h.c; have hl1:=h.l
 obtain⟨r,e1,q1⟩:=(Qap (N:=N) (ca:=b) (cg:=s.1) (ci:=s.2.2) (c7:=s.2.1) (cd:=m)).spec _ ⟨⟨h.z,by omega,by omega⟩,fun r h=>h⟩
 obtain⟨r2,e2,q2⟩:=(Qiz (N:=N) (x0:=s) (x1:=s)).spec _ ⟨by have:=h.z; simp only[sz1,mx1,Qmz]at *; omega,fun r h=>h⟩
 obtain⟨⟨b',s',m',l⟩,e3,q3,q4,q5,q6,q7⟩:=(Qaq (N:=N) (ca:=b) (cg:=s.1) (jb:=s.2.1) (ci:=s.2.2) (c7:=m)).spec _ ⟨⟨h.ms,by omega⟩,fun r h=>h⟩
 dsimp only at q3 q4 q5 q6 q7
 rw[q3,q4,q5]at e3
 have hz:sz l≤9223372036854775807:=Q59 (by omega) fun x hx=>by
  have k:=h.ms.all _ (Qcb (q6.all x hx))
  have k1:=k.tk; have k2:=k.st
  simp only[sz1,mx1,Qmz]at *; omega
 obtain⟨r4,e4,q8⟩:=(N5 (N:=N) (x0:=l) (x1:=l)).spec _ ⟨hz,fun r h=>h⟩
 exact⟨q1▸e1,(q2 rfl)▸e2,l,e3,(q8 rfl)▸e4,q6,q7⟩
theorem Jq5{N:Nat}{b:Q7}{s:Q0}{m:List (Int×Qb)}{l:List Qb}(e3:J8 N b s.1 s.2.1 s.2.2 m=some (b,s,m,l)):J3 N b s.1 s.2.2 s.2.1 m=some (m,l):=by
 rw[Jq3]at e3
 cases hk:J3 N b s.1 s.2.2 s.2.1 m with
 | none=>rw[hk]at e3; cases e3
 | some w =>
  rw[hk]at e3
  simp only[QJ,Option.some.injEq,Prod.mk.injEq]at e3
  obtain⟨_,_,h1,h2⟩:=e3
  rw[←h1,←h2]
theorem Jn5{l:List Qq}{i:Nat}{r:Qq}(h:l[i]?=some r):(l.take (i+1)).map Gh=(l.take i).map Gh++[Gh r]:=by
 rw[List.take_add_one,h]; simp
structure Jn6(x0:Jx):Prop where
 z:sz x0≤9223372036854775807
 s:Sh.sh x0
 t:x0.1.2.2.2.1.length*32≤140737488355328
 a:x0.1.2.2.2.2.2.length*72≤140737488355328
 g:Qu (fun a:Jh=>a.2.2.2.2.1.length*24≤140737488355328) x0.1.2.2.2.2.2
 at_:Qu (fun o:Qq=>o.2.2.2.1≤9223372036854775807) x0.2.2
 k:∀o∈x0.2.2,Fr o.1=true
 r:∀o∈x0.2.2,o.2.2.2.2.2.2.1.length≤1000→Q02 o
structure Jxx(x0:Jx):Prop where
 b:Lx x0.1
 e:Q1i x0.1.1
 l:x0.2.2.length≤10
 q:∀r∈x0.2.2,Q02 r∧r.2.2.2.2.2.2.1.length≤100
 o:∀r∈x0.2.2,Jvq x0.1.1 r
 s:StO 0 x0.2.1 []
theorem Jxy{N:Nat}[hN:Cm N]{x0:Jx}(d:Jn6 x0):X9 N x0=some false∨X9 N x0=some true∧Jxx x0:=by
 obtain⟨r,er,hr⟩:=(Qk4 (N:=N) (x0:=x0)).spec _ ⟨⟨d.z,d.s,d.at_⟩,fun r h=>h⟩
 cases r with
 | false=>exact .inl er
 | true =>
  obtain⟨hb,he,h12,hl,hn⟩:=hr rfl
  have h12':sz x0.2.1.1≤12∧x0.2.1.2.1.length≤12∧x0.2.1.2.2.length≤12:=by
   simp only[sz1,mx1,Qmz]at h12; exact⟨by omega,by omega,by omega⟩
  have hb1:=Ui (l:=x0.2.1.1)
  refine .inr ⟨er,hb,he,hl,fun r hr=>⟨d.r r hr (QY (hn.all r hr).2 (by decide)),(hn.all r hr).2⟩,fun o ho=>?_,⟨by omega,by omega,by omega,by omega,Yz,by simp⟩⟩
  have h1:Sh.sh o.2.2.2.2.2.2.1:=by
   have h2:Sh.sh x0.2.2:=d.s.2.2
   exact(Jmw ho h2).2.2.2.2.2.2.1
  exact⟨h1,h1,(hn.all o ho).1,d.k o ho⟩
theorem Jn7{N:Nat}{x1:Qq}{b:Q7}{s:Q0}{m:List (Int×Qb)}{x:Qb}(h1:1≤x1.2.2.1)(h4:x1.2.2.1≤4)(hx:Qj (k:=.int .i64) x1.1 m=some x)(hq:x.2.1=x1.2.1):U6 N x1 b s.1 s.2.2 s.2.1 m=some (x.2.2.2.2.2.2.2.2.2.2,b,s.1,s.2.2,m,s.2.1):=by
 unfold U6 Yd
 rw[QJ,if_neg (by decide),if_neg (by simp only[JB,decide_eq_true_eq]; omega),if_pos (by rw[hx]; simp[hq]),hx]
 simp only[Option.getD_some]
theorem Jn8{N:Nat}{b:Q7}{s:Q0}{m:List (Int×Qb)}{q:List Qb}(hq:Qu (fun x:Qb=>Qj (k:=.int .i64) x.1 m=some x) q)(hl:q.length≤1000000000000):∀(j i f:Nat),q.length=i+j→j<f →
  Qh (Yo N q) f ((i:Int),b,s.1,s.2.2,s.2.1,m)=some (.inl (b,s.1,s.2.2,s.2.1,m))
 | 0,i,f,hij,hf=>by
  obtain⟨f,rfl⟩:∃g,f=g+1:=⟨f - 1,by omega⟩
  simp only[Qh,Yo]
  rw[if_neg (by simp; omega)]
  rfl
 | j+1,i,f,hij,hf=>by
  obtain⟨f,rfl⟩:∃g,f=g+1:=⟨f - 1,by omega⟩
  have hi:i<q.length:=by omega
  have hx:idx q (i:Int)=some q[i]:=Jdp hi
  simp only[Qh,Yo]
  rw[if_pos (by simp; omega),hx,QJ,QJ,Jn7 (by dsimp only; decide) (by dsimp only; decide) (hq.all _ (ZC hi)) rfl,QJ]
  rw[if_neg (by simp),Q5 (n:=(i:Int)+1) (by omega) (by omega)]
  exact Jn8 hq hl j (i+1) f (by omega) (by omega)
theorem Jt4{N:Nat}[hN:Cm N]{x0:Jx}(hl:x0.2.2.length≤10)(hq:∀r∈x0.2.2,Q02 r∧r.2.2.2.2.2.2.1.length≤100):∀(j i f:Nat) (safe:Int),x0.2.2.length=i+j→j<f→Jqb i ((x0.2.2.take i).map Gh) [] safe →
  ∃safe':Int,Qh (Yn N x0) f ((i:Int),safe,cat ((x0.2.2.take i).map Gh),Quz ((x0.2.2.take i).map Gh))=some (safe',cat (x0.2.2.map Gh),Quz (x0.2.2.map Gh))
 | 0,i,f,safe,hij,hf,h=>by
  obtain⟨f,rfl⟩:∃g,f=g+1:=⟨f - 1,by omega⟩
  have e:x0.2.2.take i=x0.2.2:=List.take_of_length_le (by omega)
  rw[e]at h ⊢
  simp only[Qh,Yn]
  rw[if_neg (by simp; omega)]
  exact⟨safe,rfl⟩
 | j+1,i,f,safe,hij,hf,h=>by
  obtain⟨f,rfl⟩:∃g,f=g+1:=⟨f - 1,by omega⟩
  have hBig:=hN.le
  have hi:i<x0.2.2.length:=by omega
  have hr:x0.2.2[i]?=some x0.2.2[i]:=List.getElem?_eq_getElem hi
  obtain⟨h1,h2⟩:=hq _ (ZC hi)
  have ht:=Jn5 hr
  have ea:=Jxo (N:=N) (by omega) h1 h2 h (by omega)
  rw[QG,←ht]at ea
  have hx:idx x0.2.2 (i:Int)=some x0.2.2[i]:=Jdp hi
  simp only[Qh,Yn]
  rw[if_pos (by simp; omega),hx,QJ,ea,QJ,QJ,Jt3 (by omega)]
  have h5:=Jqd h2 h
  rw[←ht]at h5
  exact Jt4 hl hq j (i+1) f _ (by omega) (by omega) h5
theorem Jq6{N:Nat}[hN:Cm N]{x0:Jx}(d:Jn6 x0):V6 N x0=some true:=by
 have hBig:=hN.le
 unfold V6
 rcases Jxy (N:=N) d with er | ⟨er,F⟩
 ·rw[er,QJ,if_pos (by decide),Q7z]; rfl
 ·rw[er,QJ,if_neg (by decide)]
  have hl:=F.l
  have e0:Su N=some (0,[]):=rfl
  rw[e0,QJ]
  obtain⟨s1,e1⟩:=Jt4 (N:=N) hl F.q x0.2.2.length 0 N 0 (by omega) (by omega) ⟨fun p hp=>by simp at hp,Quy,by decide,by simp,by simp⟩
  have e1':Qh (Yn N x0) N (0,0,[],[])=_:=e1
  dsimp only
  rw[e1',QJ]
  dsimp only
  have hpl:Qwc (x0.2.2.map Gh):=fun p hp=>by
   obtain⟨r,hr,rfl⟩:=QK.1 hp
   exact⟨Quv r,Qhg (F.q r hr).2⟩
  have hcl:=Qrj hpl
  rw[XV]at hcl
  obtain⟨s',m',hp,hS⟩:=Q70 (N:=N) F.b F.e x0.2.2 0 x0.2.1 [] (by omega) F.o F.s
  have e4:=Jh4 (N:=N) (b:=x0.1) (s:=x0.2.1) (q:=x0.2.2) (t:=[]) F.b d.t d.a d.g F.s F.q (by omega) Quy hp
  rw[QG]at e4
  rw[Jdy (by omega),QJ]
  dsimp only
  rw[e4,QJ,Jdy (by omega),QJ]
  dsimp only
  rw[e4,QJ]
  dsimp only
  rw[if_neg (by simp)]
  obtain⟨c1,c2,q,c3,c4,c6,hql⟩:=Jq4 (N:=N) (b:=x0.1) (by omega) hS
  have c5:=Jq5 c3
  rw[c5,QJ]
  dsimp only
  have e6:Qh (Yo N q) N (0,x0.1,s'.1,s'.2.2,s'.2.1,m')=_:=Jn8 (N:=N) (b:=x0.1) (s:=s') c6 (by omega) q.length 0 N (by omega) (by omega)
  rw[e6,QJ]
  dsimp only
  rw[c1,QJ,QJ]
  dsimp only
  rw[c2,QJ,if_pos rfl,c3,QJ]
  dsimp only
  rw[c4,QJ,QJ]
  dsimp only
  rw[if_pos rfl,QJ]
  dsimp only
  rw[c4,QJ,QJ]
  dsimp only
  rw[if_pos rfl,Q7z]; rfl
theorem Jh5:GS Uc (inferInstanceAs (Sz Jx)) (inferInstanceAs (Sh Jx)):=gsT (gsP Jqz (gsP Jn4 (gsL Jbl)))
theorem Qwo{x:Int}(g:gz (.int .i64) x):Rh x:=by
 have h1:Qwv .i64 x:=g
 simp only[Qwv,Jq1,Jq0]at h1
 exact h1
theorem Jxz{x0:Jx}(g0:gz Uc x0):Jn6 x0:=by
 have h:=Jh5 x0 g0
 have hop:∀o∈x0.2.2,gz J7 o:=g0.2.2.2
 refine⟨h.1,h.2,?_,?_,⟨fun a ha=>?_⟩,⟨fun o ho=>(Qwo (hop o ho).2.2.2.1).2⟩,fun o ho=>?_,fun o ho hl=>?_⟩
 ·have h1:x0.1.2.2.2.1.length*32≤140737488351232:=g0.1.2.2.2.1.1
  omega
 ·have h1:x0.1.2.2.2.2.2.length*72≤140737488351232:=g0.1.2.2.2.2.2.1
  omega
 ·have h1:a.2.2.2.2.1.length*24≤140737488351232:=(g0.1.2.2.2.2.2.2 a ha).2.2.2.2.1.1
  omega
 ·have h1:=Qwo (hop o ho).1
  unfold Rh at h1
  unfold Fr
  simp only[QQ,decide_eq_true_eq]; omega
 ·obtain⟨g1,g2,g3,g4,g5,g6,g7,g8,g9⟩:=hop o ho
  exact⟨Qwo g1,Qwo g2,Qwo g3,Qwo g4,Qwo g5,Qwo g6,Qwo g8,Qwo g9,hl⟩
theorem Qo4(x0:Jx)(g0:gz Uc x0):∃N,V6 N x0=some true:=⟨18446744073709551616,by
 have:Cm 18446744073709551616:=⟨QU _⟩
 exact Jq6 (Jxz g0)⟩
end Gx

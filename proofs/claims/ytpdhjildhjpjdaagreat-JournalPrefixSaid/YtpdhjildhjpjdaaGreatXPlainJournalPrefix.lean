/- The plain laws for JournalPrefix. -/
import Derived.Test.YtpdhjildhjpjdaaGreatXFns
import Derived.Test.YtpdhjildhjpjdaaGreatGRows
import Derived.Laws.Bits128
import Derived.Lib.RowBridge
import Derived.Test.YtpdhjildhjpjdaaGreatXRo
import Derived.WideShapes
import Derived.ChangeShapes
namespace Gx
open Go Gd
set_option linter.unusedVariables false
set_option linter.unusedSimpArgs false
theorem Jgr{α σ ρ τ:Type}(l:List α)(hl:l.length≤maxLen){f:ρ→Option (ρ⊕τ)}(mk:σ→Int→ρ)(Inv:Nat→σ→Prop)(go:σ→List α→τ)
  (h0:∀s,Inv l.length s→decide (((l.length:Nat):Int)<(l.length:Int))=false→f (mk s (l.length:Int))=some (.inr (go s [])))
  (h1:∀s (i:Nat) x xs,l[i]?=some x→decide ((i:Int)<(l.length:Int))=true→idx l (i:Int)=some x→IntKind.wrap .i64 ((i:Int)+1)=((i+1:Nat):Int)→l.drop i=x::xs→Inv i s →
   (∃s',f (mk s (i:Int))=some (.inl (mk s' ((i+1:Nat):Int)))∧Inv (i+1) s'∧go s (x::xs)=go s' xs)∨f (mk s (i:Int))=some (.inr (go s (x::xs))))
  {n:Nat} {s:σ} (hn:l.length<n) (hs:Inv 0 s):Qh f n (mk s 0)=some (go s l):=by
 have main:∀(k i n:Nat) (s:σ),l.length=i+k→k<n→Inv i s→Qh f n (mk s (i:Int))=some (go s (l.drop i)):=by
  intro k
  induction k with
  | zero =>
   intro i n s hk hn hI
   obtain⟨m,rfl⟩:∃m,n=m+1:=⟨n - 1,by omega⟩
   have hi:i=l.length:=by omega
   subst hi
   rw[XP]
   simp[Qh,h0 s hI (by simp)]
  | succ k ih =>
   intro i n s hk hn hI
   obtain⟨m,rfl⟩:∃m,n=m+1:=⟨n - 1,by omega⟩
   have hlt:i<l.length:=by omega
   have hd:=List.drop_eq_getElem_cons hlt
   rw[hd]
   rcases h1 s i _ _ (List.getElem?_eq_getElem hlt) (by simpa using hlt) (Jot (List.getElem?_eq_getElem hlt)) (Je8 (by omega)) hd hI with⟨s',e1,e2,e3⟩ | e1
   ·simp only[Qh,e1,QJ,e3]
    exact ih (i+1) m s' (by omega) (by omega) e2
   ·simp only[Qh,e1,QJ]
 simpa using main l.length 0 n s (by omega) hn hs
theorem Q0w(n:Int):IntKind.wrap .u64 n=n % 18446744073709551616:=by
 simp[IntKind.wrap,IntKind.bits,IntKind.signed]
theorem wu8(n:Int):IntKind.wrap .u8 n=n % 256:=by
 simp[IntKind.wrap,IntKind.bits,IntKind.signed]
theorem E9{n:Int}(h0 : -9223372036854775808≤n)(h1:n≤9223372036854775807):IntKind.wrap .i64 n=n:=by
 rw[IntKind.wrap_i64]; omega
theorem Qmo(x y:Nat)(hx:x<2 ^ 64)(hy:y<2 ^ 64):Go.bits .and .u64 x y=((x &&& y:Nat):Int)∧Go.bits .or .u64 x y=((x ||| y:Nat):Int)∧Go.bits .xor .u64 x y=((x ^^^ y:Nat):Int):=by
 have ex:(BitVec.ofInt 64 (x:Int)).toNat=x:=by rw[BitVec.toNat_ofInt]; omega
 have ey:(BitVec.ofInt 64 (y:Int)).toNat=y:=by rw[BitVec.toNat_ofInt]; omega
 have ha:(x &&& y:Nat)<2 ^ 64:=Nat.lt_of_le_of_lt Nat.and_le_left hx
 have ho:(x ||| y:Nat)<2 ^ 64:=Nat.or_lt_two_pow hx hy
 have hx2:(x ^^^ y:Nat)<2 ^ 64:=Nat.xor_lt_two_pow hx hy
 refine⟨?_,?_,?_⟩
 ·show IntKind.u64.wrap ((BitVec.ofInt 64 (x:Int) &&& BitVec.ofInt 64 (y:Int)).toNat:Nat)=_
  rw[BitVec.toNat_and,ex,ey,Q0w]; omega
 ·show IntKind.u64.wrap ((BitVec.ofInt 64 (x:Int) ||| BitVec.ofInt 64 (y:Int)).toNat:Nat)=_
  rw[BitVec.toNat_or,ex,ey,Q0w]; omega
 ·show IntKind.u64.wrap ((BitVec.ofInt 64 (x:Int) ^^^ BitVec.ofInt 64 (y:Int)).toNat:Nat)=_
  rw[BitVec.toNat_xor,ex,ey,Q0w]; omega
theorem Jdm(x y:Nat)(hx:x<2 ^ 8)(hy:y<2 ^ 8):Go.bits .and .u8 x y=((x &&& y:Nat):Int)∧Go.bits .or .u8 x y=((x ||| y:Nat):Int):=by
 have ex:(BitVec.ofInt 8 (x:Int)).toNat=x:=by rw[BitVec.toNat_ofInt]; omega
 have ey:(BitVec.ofInt 8 (y:Int)).toNat=y:=by rw[BitVec.toNat_ofInt]; omega
 have ha:(x &&& y:Nat)<2 ^ 8:=Nat.lt_of_le_of_lt Nat.and_le_left hx
 have ho:(x ||| y:Nat)<2 ^ 8:=Nat.or_lt_two_pow hx hy
 refine⟨?_,?_⟩
 ·show IntKind.u8.wrap ((BitVec.ofInt 8 (x:Int) &&& BitVec.ofInt 8 (y:Int)).toNat:Nat)=_
  rw[BitVec.toNat_and,ex,ey,wu8]; omega
 ·show IntKind.u8.wrap ((BitVec.ofInt 8 (x:Int) ||| BitVec.ofInt 8 (y:Int)).toNat:Nat)=_
  rw[BitVec.toNat_or,ex,ey,wu8]; omega
theorem Jxd(u:Nat):Go.bits .or .u8 (IntKind.wrap .u8 (u:Int)) 128=((128+u % 128:Nat):Int):=by
 have h0:∀y:Nat,y<128→(128 ||| y:Nat)=128+y:=fun y hy=>(XU (i:=7) (b:=y) hy 1).symm
 have h:∀x,x<256→(x ||| 128:Nat)=128+x % 128:=fun x hx=>by
  by_cases hlt:x<128
  ·rw[KQ,h0 x hlt,ZD hlt]
  ·obtain⟨y,rfl⟩:∃y,x=128+y:=⟨x - 128,by omega⟩
   rw[←h0 y (by omega),KQ 128 y,Nat.or_assoc,Nat.or_self,KQ,h0 y (by omega)]
   omega
 rw[wu8,show((u:Int) % 256)=((u % 256:Nat):Int) by omega,show(128:Int)=((128:Nat):Int)from rfl,(Jdm (u % 256) 128 (by omega) (by omega)).2,h _ (by omega)]
 omega
theorem Jva{x:Int}(h0:0≤x)(h1:x<256):Go.bits .and .u8 x 127=x % 128:=by
 have h:∀x,x<256→(x &&& 127:Nat)=x % 128:=fun x _=>Nat.and_two_pow_sub_one_eq_mod x 7
 obtain⟨n,rfl⟩:∃n:Nat,x=n:=⟨x.toNat,by omega⟩
 rw[show(127:Int)=((127:Nat):Int)from rfl,(Jdm n 127 (by omega) (by omega)).1,h _ (by omega)]
 omega
theorem Jdn(x y:Int)(hx0 : -9223372036854775808≤x)(hx:x≤9223372036854775807):Go.bits .xor .i64 x 0=x∧Go.bits .xor .i64 x (-1) = -x - 1:=by
 have e0:BitVec.ofInt 64 0=0#64:=by decide
 have e1:BitVec.ofInt 64 (-1)=BitVec.allOnes 64:=by decide
 refine⟨?_,?_⟩
 ·show IntKind.i64.wrap ((BitVec.ofInt 64 x ^^^ BitVec.ofInt 64 0).toNat:Nat)=_
  rw[e0,BitVec.xor_zero,BitVec.toNat_ofInt,IntKind.wrap_i64]; omega
 ·show IntKind.i64.wrap ((BitVec.ofInt 64 x ^^^ BitVec.ofInt 64 (-1)).toNat:Nat)=_
  rw[e1,BitVec.xor_allOnes,BitVec.toNat_not,BitVec.toNat_ofInt,IntKind.wrap_i64]; omega
theorem Jl7(u:Nat)(h:u<2 ^ 64):(u ^^^ 18446744073709551615:Nat)=18446744073709551615 - u:=by
 have:=congrArg BitVec.toNat (BitVec.xor_allOnes (x:=BitVec.ofNat 64 u))
 rw[BitVec.toNat_xor,BitVec.toNat_not,BitVec.toNat_ofNat,BitVec.toNat_allOnes,ZD h]at this
 simpa using this
def zig(x:Int):Nat:=if x<0 then(2*(-(x+1))+1).toNat else(2*x).toNat
def unz(u:Nat):Int:=if u % 2=0 then((u / 2:Nat):Int)else -((u / 2:Nat):Int) - 1
def D8(x:Int):Prop := -9223372036854775808≤x∧x≤9223372036854775807
theorem Q0x{x:Int}(h:D8 x):zig x<2 ^ 64:=by
 obtain⟨h0,h1⟩:=h
 unfold zig; split<;>omega
theorem Jpz{x:Int}:unz (zig x)=x:=by
 unfold unz zig
 split<;>split<;>omega
theorem Jp0(u:Nat):zig (unz u)=u:=by
 unfold unz zig
 split<;>split<;>omega
theorem Jp1{u:Nat}(h:u<2 ^ 64):D8 (unz u):=by
 unfold unz D8; split<;>omega
theorem Jl8(N:Nat){x:Int}(h:D8 x):Nl N x=some (zig x:Int):=by
 obtain⟨h0,h1⟩:=h
 have e1:Qcc .u64 (IntKind.wrap .u64 x) 1=some (((2*x) % 18446744073709551616:Int)):=by
  simp only[Qcc]
  rw[if_neg (by omega),Q0w,Q0w]
  simp only[IntKind.bits]
  congr 1
  have:(2:Int) ^ min (1:Int).toNat 64=2:=by decide
  rw[this]; omega
 have e2:Tb .i64 x 63=some (if x<0 then -1 else 0):=by
  simp only[Tb]
  rw[if_neg (by omega)]
  congr 1
  have:(2:Int) ^ min (63:Int).toNat IntKind.i64.bits=9223372036854775808:=by decide
  rw[this,JY _ (by omega)]
  split<;>omega
 unfold Nl
 rw[e1,QJ,e2,QJ]
 congr 1
 unfold zig
 split
 ·rw[Q0w,show((-1:Int) % 18446744073709551616)=((18446744073709551615:Nat):Int) by decide,show((2*x) % 18446744073709551616:Int)=(((2*x) % 18446744073709551616).toNat:Nat) by omega,
   (Qmo _ _ (by omega) (by omega)).2.2,Jl7 _ (by omega)]
  omega
 ·rw[Q0w,show((0:Int) % 18446744073709551616)=((0:Nat):Int) by decide,show((2*x) % 18446744073709551616:Int)=(((2*x) % 18446744073709551616).toNat:Nat) by omega,
   (Qmo _ _ (by omega) (by omega)).2.2,Nat.xor_zero]
  omega
theorem Jvb(N:Nat){u:Nat}(h:u<2 ^ 64):Qdf N (u:Int)=some (unz u):=by
 have e1:Tb .u64 (u:Int) 1=some ((u / 2:Nat):Int):=by
  simp only[Tb]
  rw[if_neg (by omega)]
  congr 1
  have:(2:Int) ^ min (1:Int).toNat IntKind.u64.bits=2:=by decide
  rw[this,JY _ (by omega)]; omega
 unfold Qdf
 rw[e1,QJ]
 congr 1
 have e2:Go.bits .and .u64 (u:Int) 1=((u % 2:Nat):Int):=by
  rw[show(1:Int)=((1:Nat):Int)from rfl,(Qmo u 1 h (by omega)).1,Nat.and_one_is_mod]
 rw[e2,E9 (n:=((u / 2:Nat):Int)) (by omega) (by omega),E9 (n:=((u % 2:Nat):Int)) (by omega) (by omega)]
 unfold unz
 split
 ·rename_i h0
  rw[h0,show IntKind.wrap .i64 (0 - ((0:Nat):Int))=0 by decide]
  exact(Jdn _ 0 (by omega) (by omega)).1
 ·rename_i h0
  have:u % 2=1:=by omega
  rw[this,show IntKind.wrap .i64 (0 - ((1:Nat):Int)) = -1 by decide]
  exact(Jdn _ 0 (by omega) (by omega)).2
def vb:Nat→Nat→List Int
 | 0,_=>[]
 | k+1,u=>if u<128 then [(u:Int)]else((128+u % 128:Nat):Int)::vb k (u / 128)
def isB(l:List Int):Prop:=∀b∈l,0≤b∧b<256
theorem Ud{l m:List Int}(h:isB l)(h2:isB m):isB (l++m):=fun b hb=>(QZ.1 hb).elim (h b) (h2 b)
theorem Jl9:∀(k u:Nat),(vb k u).length≤k
 | 0,u=>QG _
 | k+1,u=>by
  simp only[vb]
  split
  ·simp
  ·simp[Jl9 k]
theorem Jxe:∀(k u:Nat),isB (vb k u)
 | 0,u=>fun b hb=>by simp[vb]at hb
 | k+1,u=>by
  simp only[vb]
  split
  ·intro b hb
   simp at hb; omega
  ·intro b hb
   rcases QX.1 hb with rfl | hb
   ·omega
   ·exact Jxe k _ b hb
theorem S6{α:Type}{xs ys:List α}(h:xs.length+ys.length≤100000):app 1 xs ys=some (xs++ys):=by
 unfold app
 rw[if_pos (by omega)]
theorem Jdo(N:Nat):∀(k u:Nat) (m:List Int) (fuel:Nat),0<k→u<128 ^ k→k<fuel→u<2 ^ 64→m.length+k≤100000 →
  ((Qh (Qde N) fuel ((u:Int),m)).bind fun(v6,v7)=>(app 1 v7 ([(IntKind.wrap .u8 v6)]:List Int)).bind fun q8=>some q8)=some (m++vb k u)
 | 0,u,m,fuel,h0,_,_,_,_=>by omega
 | k+1,u,m,fuel,_,h,hf,h64,hm=>by
  obtain⟨f,rfl⟩:∃f,fuel=f+1:=⟨fuel - 1,by omega⟩
  simp only[Qh,Qde]
  by_cases hu:u<128
  ·rw[show decide ((u:Int)≥128)=false by simp; omega]
   simp only[JE,if_false,QJ,vb,if_pos hu]
   rw[wu8,show((u:Int) % 256)=(u:Int) by omega,S6 (by simp; omega)]
   rfl
  ·rw[show decide ((u:Int)≥128)=true by simp; omega]
   have es:Tb .u64 (u:Int) 7=some ((u / 128:Nat):Int):=by
    simp only[Tb]
    rw[if_neg (by omega)]
    congr 1
    have:(2:Int) ^ min (7:Int).toNat IntKind.u64.bits=128:=by decide
    rw[this,JY _ (by omega)]; omega
   have hk:0<k:=by
    rcases Nat.eq_zero_or_pos k with h0 | h0
    ·subst h0; simp at h; omega
    ·exact h0
   simp only[if_true,vb,if_neg hu]
   rw[S6 (by simp; omega),QJ,es,QJ,QJ,Jxd]
   have:=Jdo N k (u / 128) (m++[((128+u % 128:Nat):Int)]) f hk (by rw[KG]at h; omega) (by omega) (by omega) (by simp; omega)
   simpa using this
def vz(x:Int):List Int:=vb 10 (zig x)
theorem Vo(x:Int):(vz x).length≤10:=Jl9 _ _
theorem Qwa(x:Int):isB (vz x):=Jxe _ _
theorem Jp2{x:Int}(h:D8 x):zig x<128 ^ 10:=by
 have:=Q0x h
 have e:(128:Nat) ^ 10=1180591620717411303424:=by decide
 omega
theorem Jtu{N:Nat}(hN:1000≤N){x:Int}(h:D8 x){m:List Int}(hm:m.length≤10000):Qbt N x m=some (m++vz x):=by
 unfold Qbt
 rw[Jl8 N h,QJ]
 exact Jdo N 10 (zig x) m N (by omega) (Jp2 h) (by omega) (Q0x h) (by omega)
theorem Jdp(N:Nat){m:List Int}(hm:m.length≤10000){k:Int}(h0:0≤k)(h1:k≤10000):Lg N m k=some m:=by
 unfold Lg
 have e:mkL 1 (List.length m:Int) (IntKind.wrap .i64 ((List.length m:Int)+k)) (0:Int)=some (List.replicate m.length 0):=by
  unfold mkL
  rw[E9 (by omega) (by omega),if_pos (by omega)]
  simp
 rw[e,QJ]
 unfold Ww
 have:Nat.min m.length (List.replicate m.length (0:Int)).length=m.length:=by rw[ZS]; exact Nat.min_self _
 rw[this]
 simp
theorem S7{N:Nat}(hN:1000≤N){x:Int}(h:D8 x){m:List Int}(hm:m.length≤10000):Uz N m x=some (m++vz x):=by
 unfold Uz
 rw[Jdp N hm (by omega) (by omega),QJ,Jtu hN h hm]
 rfl
theorem Qhx{α:Type}{l:List α}(h:l.length≤10000):D8 (l.length:Int):=⟨by omega,by omega⟩
theorem Jgs{N:Nat}(hN:1000≤N){s:Str}(h:s.length≤1000){m:List Int}(hm:m.length≤9000):Ih N m s=some (m++vz (s.length:Int)++Yt s):=by
 unfold Ih
 have hl:=Vo (s.length:Int)
 rw[E9 (by omega) (by omega),Jdp N (by omega) (by omega) (by omega),QJ,Jtu hN (Qhx (by omega)) (by omega),QJ,S6 (by simp[Yt]; omega)]
 rfl
def Vk(r:Qq):List Int:=[r.1,r.2.1,r.2.2.1,r.2.2.2.1,r.2.2.2.2.1,r.2.2.2.2.2.1].foldl (fun m x=>m++vz x) []++vz (r.2.2.2.2.2.2.1.length:Int)++Yt r.2.2.2.2.2.2.1++vz r.2.2.2.2.2.2.2.1++vz r.2.2.2.2.2.2.2.2
def Q0y(r:Qq):Prop:=D8 r.1∧D8 r.2.1∧D8 r.2.2.1∧D8 r.2.2.2.1∧D8 r.2.2.2.2.1∧D8 r.2.2.2.2.2.1∧D8 r.2.2.2.2.2.2.2.1∧D8 r.2.2.2.2.2.2.2.2∧r.2.2.2.2.2.2.1.length≤1000
theorem Q0z(r:Qq):Vk r=vz r.1++vz r.2.1++vz r.2.2.1++vz r.2.2.2.1++vz r.2.2.2.2.1++vz r.2.2.2.2.2.1++vz (r.2.2.2.2.2.2.1.length:Int)++Yt r.2.2.2.2.2.2.1++vz r.2.2.2.2.2.2.2.1++vz r.2.2.2.2.2.2.2.2:=by
 unfold Vk; simp
theorem Jp3{N:Nat}(hN:1000≤N){r:Qq}(h:Q0y r):Qh (Us N r) N (0,([]:List Int))=some ([r.1,r.2.1,r.2.2.1,r.2.2.2.1,r.2.2.2.2.1,r.2.2.2.2.2.1].foldl (fun m x=>m++vz x) []):=by
 obtain⟨h1,h2,h3,h4,h5,h6,h7,h8,h9⟩:=h
 have l1:=Vo r.1; have l2:=Vo r.2.1; have l3:=Vo r.2.2.1; have l4:=Vo r.2.2.2.1; have l5:=Vo r.2.2.2.2.1; have l6:=Vo r.2.2.2.2.2.1
 have step:∀(i:Nat) (x:Int) (m:List Int) (f:Nat),[r.1,r.2.1,r.2.2.1,r.2.2.2.1,r.2.2.2.2.1,r.2.2.2.2.2.1][i]?=some x→D8 x→m.length≤10000→Qh (Us N r) (f+1) ((i:Int),m)=Qh (Us N r) f (((i+1:Nat):Int),m++vz x):=by
  intro i x m f hx hxB hm
  have hi:i<6:=by have:=(List.getElem?_eq_some_iff.1 hx).1; simpa using this
  conv=>lhs; unfold Qh
  simp only[Us]
  rw[if_pos (by simp; omega)]
  have hix:idx [r.1,r.2.1,r.2.2.1,r.2.2.2.1,r.2.2.2.2.1,r.2.2.2.2.2.1] (i:Int)=some x:=by
   unfold idx; rw[if_pos (by omega)]; simpa using hx
  rw[hix,QJ,S7 hN hxB hm,QJ,E9 (by omega) (by omega)]
  rfl
 obtain⟨f,rfl⟩:∃f,N=f+7:=⟨N - 7,by omega⟩
 have e0:=step 0 r.1 [] (f+6) rfl h1 (by simp)
 have e1:=step 1 r.2.1 (vz r.1) (f+5) rfl h2 (by omega)
 have e2:=step 2 r.2.2.1 (vz r.1++vz r.2.1) (f+4) rfl h3 (by simp; omega)
 have e3:=step 3 r.2.2.2.1 (vz r.1++vz r.2.1++vz r.2.2.1) (f+3) rfl h4 (by simp; omega)
 have e4:=step 4 r.2.2.2.2.1 (vz r.1++vz r.2.1++vz r.2.2.1++vz r.2.2.2.1) (f+2) rfl h5 (by simp; omega)
 have e5:=step 5 r.2.2.2.2.2.1 (vz r.1++vz r.2.1++vz r.2.2.1++vz r.2.2.2.1++vz r.2.2.2.2.1) (f+1) rfl h6 (by simp; omega)
 refine(e0.trans ?_)
 rw[QE]
 refine e1.trans (e2.trans (e3.trans (e4.trans (e5.trans ?_))))
 conv=>lhs; unfold Qh
 simp only[Us]
 rw[if_neg (by simp)]
 simp
theorem Jma{N:Nat}(hN:1000≤N){r:Qq}(h:Q0y r):Xx N r=some (Vk r):=by
 have hl:=Jp3 hN h
 obtain⟨h1,h2,h3,h4,h5,h6,h7,h8,h9⟩:=h
 have l1:=Vo r.1; have l2:=Vo r.2.1; have l3:=Vo r.2.2.1; have l4:=Vo r.2.2.2.1; have l5:=Vo r.2.2.2.2.1; have l6:=Vo r.2.2.2.2.2.1
 have l7:=Vo (r.2.2.2.2.2.2.1.length:Int); have l8:=Vo r.2.2.2.2.2.2.2.1
 unfold Xx
 rw[hl,QJ,Jgs hN h9 (by simp; omega),QJ,S7 hN h7 (by simp[Yt]; omega),QJ,S7 hN h8 (by simp[Yt]; omega),QJ]
 rfl
def sc:Nat→List Int→Int×Nat×List Int
 | _,[]=>(2,0,[])
 | i,b::t=>if(i=9∧b≠1)∨(0<i∧b=0)then(1,0,[])else if b<128 then(0,b.toNat,t)else((sc (i+1) t).1,(b - 128).toNat+128*(sc (i+1) t).2.1,(sc (i+1) t).2.2)
theorem Qun{b:Int}{t:List Int}(h:isB (b::t)):isB t:=fun x hx=>h x (.tail _ hx)
theorem Jmb:∀(i:Nat) (l:List Int),(sc i l).1=0∨(sc i l).1=1∨(sc i l).1=2
 | _,[]=>.inr (.inr rfl)
 | i,b::t=>by
  simp only[sc]
  split
  ·exact .inr (.inl rfl)
  ·split
   ·exact .inl rfl
   ·exact Jmb (i+1) t
theorem Jdq:∀(i:Nat) (l:List Int),i≤9→isB l→(sc i l).1=0→(sc i l).2.1<2 ^ (64 - 7*i)∧(0<i→0<(sc i l).2.1)∧(sc i l).2.2.length<l.length∧isB (sc i l).2.2 ∧
  l=vb (10 - i) (sc i l).2.1++(sc i l).2.2∧(sc i l).2.2=l.drop (l.length - (sc i l).2.2.length)
 | _,[],_,_,h=>by simp[sc]at h
 | i,b::t,hi,hB,h=>by
  have hb:=hB b (.head _)
  simp only[sc]at h ⊢
  obtain⟨k,hk⟩:∃k,10 - i=k+1:=⟨9 - i,by omega⟩
  by_cases c1:(i=9∧b≠1)∨(0<i∧b=0)
  ·rw[if_pos c1]at h; simp at h
  ·rw[if_neg c1]at h ⊢
   by_cases c2:b<128
   ·rw[if_pos c2]at h ⊢
    refine⟨?_,fun h0=>?_,by simp,Qun hB,?_,?_⟩
    ·simp only
     by_cases h9:i=9
     ·subst h9
      have:b=1:=by omega
      subst this; decide
     ·have h7:(2:Nat) ^ 7≤2 ^ (64 - 7*i):=XT (by omega) (by omega)
      have:(2:Nat) ^ 7=128:=by decide
      omega
    ·simp only; omega
    ·simp only[hk,vb]
     rw[if_pos (by omega)]
     simp; omega
    ·simp
   ·rw[if_neg c2]at h ⊢
    have h8:i≤8:=by omega
    obtain⟨r1,r2,r3,r4,r5,r6⟩:=Jdq (i+1) t (by omega) (Qun hB) h
    simp only
    have hp:(2:Nat) ^ (64 - 7*i)=128*2 ^ (64 - 7*(i+1)):=by
     rw[show 64 - 7*i=7+(64 - 7*(i+1)) by omega,KJ]
    have hpos:=r2 (by omega)
    generalize hu:(sc (i+1) t).2.1=u at *
    generalize ht:(sc (i+1) t).2.2=t' at *
    refine⟨by omega,fun _=>by omega,by simp; omega,r4,?_,?_⟩
    ·rw[hk]
     simp only[vb]
     rw[if_neg (by omega)]
     have e1:((b - 128).toNat+128*u) / 128=u:=by omega
     have e2:((128+((b - 128).toNat+128*u) % 128:Nat):Int)=b:=by omega
     rw[e1,e2,QF,show k=10 - (i+1) by omega,←r5]
    ·rw[List.length_cons,show t.length+1 - t'.length=(t.length - t'.length)+1 by omega,List.drop_succ_cons]
     exact r6
theorem Jtv:∀(i u:Nat) (t:List Int),i≤9→u<2 ^ (64 - 7*i)→(0<i→0<u)→sc i (vb (10 - i) u++t)=(0,u,t)
 | i,u,t,hi,hu,h0=>by
  obtain⟨k,hk⟩:∃k,10 - i=k+1:=⟨9 - i,by omega⟩
  rw[hk]
  simp only[vb]
  have hu9:i=9→u<2:=fun e=>by subst e; simpa using hu
  by_cases c:u<128
  ·rw[if_pos c]
   simp only[QF,QE,sc]
   rw[if_neg (by omega),if_pos (by omega)]
   simp
  ·rw[if_neg c]
   have h8:i≤8:=by
    rcases Nat.lt_or_ge i 9 with q | q
    ·omega
    ·have:=hu9 (by omega); omega
   have hp:(2:Nat) ^ (64 - 7*i)=128*2 ^ (64 - 7*(i+1)):=by
    rw[show 64 - 7*i=7+(64 - 7*(i+1)) by omega,KJ]
   have ih:=Jtv (i+1) (u / 128) t (by omega) (by omega) (fun _=>by omega)
   rw[show 10 - (i+1)=k by omega]at ih
   simp only[QF,sc]
   rw[if_neg (by omega),if_neg (by omega),ih]
   simp only[Prod.mk.injEq,true_and,and_true]
   omega
termination_by i _ _=>10 - i
theorem Jyi{v i b:Nat}(hv:v<128 ^ i)(hb:b<128)(hs:v+b*128 ^ i<2 ^ 64):Go.bits .or .u64 (v:Int) ((b*128 ^ i:Nat):Int)=((v+b*128 ^ i:Nat):Int):=by
 rw[(Qmo v (b*128 ^ i) (by omega) (by omega)).2.1]
 congr 1
 have e:(128:Nat) ^ i=2 ^ (7*i):=by rw[show(128:Nat)=2 ^ 7 by decide,←KE]
 rw[e]at hv ⊢
 have:=XU hv b
 rw[XE b,KQ,←this,XI]
theorem Jxf{i:Nat}(hi:i≤9):128 ^ i*2 ^ (64 - 7*i)=2 ^ 64:=by
 rw[show(128:Nat) ^ i=2 ^ (7*i) by rw[show(128:Nat)=2 ^ 7 by decide,←KE],←KJ]
 congr 1; omega
def scG(len v i:Nat)(r:Int×Nat×List Int):Unit⊕(Int×Int×Int) :=
 if r.1=2 then .inl ()else if r.1=1 then .inr (0,0,1)else .inr (unz (v+128 ^ i*r.2.1),((len - r.2.2.length:Nat):Int),0)
theorem Jvc{i:Nat}{b:Int}{t:List Int}(h:(i=9∧b≠1)∨(0<i∧b=0)):sc i (b::t)=(1,0,[]):=by simp only[sc]; rw[if_pos h]
theorem Jp4{i:Nat}{b:Int}{t:List Int}(h:¬((i=9∧b≠1)∨(0<i∧b=0)))(h2:b<128):sc i (b::t)=(0,b.toNat,t):=by simp only[sc]; rw[if_neg h,if_pos h2]
theorem Jdr{i:Nat}{b:Int}{t:List Int}(h:¬((i=9∧b≠1)∨(0<i∧b=0)))(h2:¬ b<128):sc i (b::t)=((sc (i+1) t).1,(b - 128).toNat+128*(sc (i+1) t).2.1,(sc (i+1) t).2.2):=by simp only[sc]; rw[if_neg h,if_neg h2]
theorem Q50(N:Nat)(x0:List Int)(hlen:x0.length≤100000):∀(l:List Int) (i v fuel:Nat),x0.drop i=l→isB l→i≤9→v<128 ^ i→l.length<fuel→i≤x0.length→Qh (E4 N x0) fuel ((v:Int),(i:Int))=some (scG x0.length v i (sc i l))
 | [],i,v,fuel,hd,_,hi,hv,hf,hix=>by
  obtain⟨f,rfl⟩:∃f,fuel=f+1:=⟨fuel - 1,by simp at hf; omega⟩
  have hge:x0.length≤i:=by
   have:=congrArg List.length hd
   simp at this; omega
  simp only[Qh,E4]
  rw[if_neg (by simp; omega)]
  simp[scG,sc]
 | b::t,i,v,fuel,hd,hB,hi,hv,hf,hix=>by
  obtain⟨f,rfl⟩:∃f,fuel=f+1:=⟨fuel - 1,by simp at hf; omega⟩
  have hb:=hB b (.head _)
  have hlt:i<x0.length:=by
   have:=congrArg List.length hd
   simp at this; omega
  have hx:idx x0 (i:Int)=some b:=by
   unfold idx
   rw[if_pos (by omega)]
   have:=congrArg (fun l=>l[0]?) hd
   simpa using this
  have hd2:x0.drop (i+1)=t:=by
   have:=congrArg List.tail hd
   simpa using this
  simp only[Qh,E4]
  rw[if_pos (by simpa using hlt),hx,QJ]
  by_cases c1:(i=9∧b≠1)∨(0<i∧b=0)
  ·rw[Jvc c1,if_pos (by simp; omega)]
   simp[scG]
  ·rw[if_neg (by simp; omega)]
   have e7:IntKind.wrap .i64 (7*(i:Int))=((7*i:Nat):Int):=by rw[E9 (by omega) (by omega)]; omega
   have eb:IntKind.wrap .u64 (Go.bits .and .u8 b 127)=((b.toNat % 128:Nat):Int):=by rw[Jva hb.1 hb.2,Q0w]; omega
   have h9:i=9→b=1:=fun e=>by omega
   have hp:=Jxf hi
   have hbm:b.toNat % 128<2 ^ (64 - 7*i)∧(i≤8→128≤2 ^ (64 - 7*i)):=by
    refine⟨?_,fun h8=>?_⟩
    ·by_cases e9:i=9
     ·rw[h9 e9,e9]; decide
     ·have h7:(2:Nat) ^ 7≤2 ^ (64 - 7*i):=XT (by omega) (by omega)
      have:(2:Nat) ^ 7=128:=by decide
      omega
    ·have h7:(2:Nat) ^ 7≤2 ^ (64 - 7*i):=XT (by omega) (by omega)
     simpa using h7
   have hmul:v+b.toNat % 128*128 ^ i<2 ^ 64:=by
    have h1:(b.toNat % 128+1)*128 ^ i≤2 ^ (64 - 7*i)*128 ^ i:=QB _ hbm.1
    rw[XE (2 ^ (64 - 7*i)),hp,Nat.add_mul,ZF]at h1
    omega
   have es:Qcc .u64 (IntKind.wrap .u64 (Go.bits .and .u8 b 127)) (IntKind.wrap .i64 (7*(i:Int)))=some ((b.toNat % 128*128 ^ i:Nat):Int):=by
    simp only[Qcc]
    rw[eb,e7,if_neg (by omega),Q0w]
    congr 1
    have e2:min ((7*i:Nat):Int).toNat IntKind.u64.bits=7*i:=by
     show min ((7*i:Nat):Int).toNat 64=7*i
     omega
    rw[e2]
    have e3:(128:Nat) ^ i=2 ^ (7*i):=by rw[show(128:Nat)=2 ^ 7 by decide,←KE]
    rw[e3]at hmul ⊢
    have e4:((b.toNat % 128:Nat):Int)*2 ^ (7*i)=((b.toNat % 128*2 ^ (7*i):Nat):Int):=by simp
    rw[e4]; omega
   rw[es,QJ,Jyi hv (by omega) hmul]
   by_cases c2:b<128
   ·rw[Jp4 c1 c2,if_pos (by simpa using c2),Jvb N hmul]
    simp only[QJ]
    have e1:IntKind.wrap .i64 ((i:Int)+1)=((x0.length - t.length:Nat):Int):=by
     rw[E9 (by omega) (by omega)]
     have:=congrArg List.length hd2
     simp at this; omega
    have e2:b.toNat % 128=b.toNat:=by omega
    rw[e1,e2,XE b.toNat]
    simp[scG]
   ·rw[Jdr c1 c2,if_neg (by simpa using c2)]
    have h8:i≤8:=by omega
    have hv2:v+b.toNat % 128*128 ^ i<128 ^ (i+1):=by
     have h1:(b.toNat % 128+1)*128 ^ i≤128*128 ^ i:=QB _ (by omega)
     rw[Nat.add_mul,ZF]at h1
     rw[KG,XE (128 ^ i)]; omega
    have ih:=Q50 N x0 hlen t (i+1) (v+b.toNat % 128*128 ^ i) f hd2 (Qun hB) (by omega) hv2 (by simp at hf; omega) (by omega)
    simp only[QJ]
    rw[E9 (by omega) (by omega)]
    refine(Eq.trans ?_ (ih.trans ?_))
    ·rfl
    ·unfold scG
     simp only
     congr 1
     have hb2:b.toNat % 128=(b - 128).toNat:=by omega
     have e5:v+b.toNat % 128*128 ^ i+128 ^ (i+1)*(sc (i+1) t).2.1=v+128 ^ i*((b - 128).toNat+128*(sc (i+1) t).2.1):=by
      rw[hb2,KG,Nat.mul_add,XE (b - 128).toNat,Nat.mul_assoc,Nat.add_assoc]
     rw[e5]
def pnG(r:Int×Nat×List Int):Int×Int×List Int:=if r.1=0 then(unz r.2.1,0,r.2.2)else(0,r.1,[])
def pn(l:List Int):Int×Int×List Int:=pnG (sc 0 l)
theorem Jmc{N:Nat}(hN:2000≤N){l:List Int}(hB:isB l)(hl:l.length≤1000):Ps N l=some (if(sc 0 l).1=0 then(unz (sc 0 l).2.1,((l.length - (sc 0 l).2.2.length:Nat):Int),0)else(0,0,(sc 0 l).1)):=by
 unfold Ps
 have:=Q50 N l (by omega) l 0 0 N rfl hB (by omega) (by simp) (by omega) (by omega)
 rw[show Qh (E4 N l) N (0,0)=_ from this,QJ]
 unfold scG
 rcases Jmb 0 l with h | h | h
 ·rw[if_neg (by omega),if_neg (by omega),if_pos h]; simp
 ·rw[if_neg (by omega),if_pos h,if_neg (by omega),h]
 ·rw[if_pos h,if_neg (by omega),h]
theorem Jmd{N:Nat}{l:List Int}(hl:l.length≤1000){k:Nat}(hk:k≤l.length):Pt N l (k:Int)=some (l.drop k)∧True:=by
 have e1:mkL 1 (IntKind.wrap .i64 ((List.length l:Int) - (k:Int))) (IntKind.wrap .i64 ((List.length l:Int) - (k:Int))) (0:Int)=some (List.replicate (l.length - k) 0):=by
  unfold mkL
  rw[E9 (by omega) (by omega),if_pos (by omega)]
  congr 2; omega
 have e2:slc l (k:Int) (List.length l:Int)=some (l.drop k):=by
  unfold slc
  rw[if_pos (by omega),JJ,List.take_of_length_le (by simp)]
 have e3:Ww (List.replicate (l.length - k) (0:Int)) (l.drop k)=l.drop k:=by
  unfold Ww
  have:Nat.min (l.drop k).length (List.replicate (l.length - k) (0:Int)).length=l.length - k:=by simp
  rw[this,List.take_of_length_le (by simp)]; simp
 constructor
 ·unfold Pt
  rw[e1,QJ,e2]
  simp[chk,e3]
 ·trivial
theorem Quo{N:Nat}(hN:2000≤N){l:List Int}(hB:isB l)(hl:l.length≤1000):(B4 N l)=some (pn l):=by
 unfold B4
 rw[Jmc hN hB hl,QJ]
 unfold pn pnG
 by_cases h:(sc 0 l).1=0
 ·obtain⟨_,_,h3,_,_,h6⟩:=Jdq 0 l (by omega) hB h
  rw[if_pos h,if_pos h]
  simp only
  rw[if_neg (by simp),(Jmd (N:=N) hl (k:=l.length - (sc 0 l).2.2.length) (by omega)).1,QJ,←h6]
 ·rw[if_neg h,if_neg h]
  simp only
  rw[if_pos (by simpa using h)]
theorem Jtw{l:List Int}(hB:isB l):isB (pn l).2.2∧(pn l).2.2.length≤l.length∧((pn l).2.1=0→D8 (pn l).1∧l=vz (pn l).1++(pn l).2.2):=by
 unfold pn pnG
 by_cases h:(sc 0 l).1=0
 ·obtain⟨h1,_,h3,h4,h5,h6⟩:=Jdq 0 l (by omega) hB h
  rw[if_pos h]
  exact⟨h4,by simp only; omega,fun _=>⟨Jp1 h1,by simp only[vz,Jp0]; exact h5⟩⟩
 ·rw[if_neg h]
  exact⟨fun b hb=>by simp at hb,by simp,fun h0=>absurd h0 h⟩
theorem Jds{x:Int}(h:D8 x)(t:List Int):pn (vz x++t)=(x,0,t):=by
 have:=Jtv 0 (zig x) t (by omega) (Q0x h) (by omega)
 unfold pn pnG vz
 rw[show(10:Nat)=10 - 0 from rfl,this]
 simp[Jpz]
def ptG(p:Int×Int×List Int):Str×List Int×Int :=
 if p.2.1≠0 then([],[],p.2.1)else if p.1<0 then([],[],1)else if p.1>1048576 then([],[],5)else if p.1>(p.2.2.length:Int)then([],[],2)else(Qjl (p.2.2.take p.1.toNat),p.2.2.drop p.1.toNat,0)
def pt(l:List Int):Str×List Int×Int:=ptG (pn l)
theorem Jme{N:Nat}(hN:2000≤N){l:List Int}(hB:isB l)(hl:l.length≤1000):Qdh N l=some ((pt l).1,(pt l).2.2,(pt l).2.1):=by
 unfold Qdh Qdg pt
 rw[Jmc hN hB hl,QJ]
 unfold pn pnG
 by_cases h:(sc 0 l).1=0
 ·obtain⟨_,_,h3,_,_,h6⟩:=Jdq 0 l (by omega) hB h
  rw[if_pos h,if_pos h]
  generalize (sc 0 l).2.1=u at *
  generalize (sc 0 l).2.2=r at *
  have eG:ptG (unz u,0,r)=(if unz u<0 then([],[],1)else if unz u>1048576 then([],[],5)else if unz u>(r.length:Int)then([],[],2)else(Qjl (r.take (unz u).toNat),r.drop (unz u).toNat,0)):=by
   unfold ptG; rw[if_neg (by simp)]
  rw[eG]
  simp only
  rw[if_neg (by decide)]
  by_cases h1:unz u<0
  ·rw[if_pos (by simpa using h1),if_pos h1]; rfl
  ·rw[if_neg (by simpa using h1),if_neg h1]
   by_cases h4:unz u>1048576
   ·rw[if_pos (by simpa using h4),if_pos h4]; rfl
   ·rw[if_neg (by simpa using h4),if_neg h4,QJ]
    simp only
    rw[if_neg (by decide),E9 (n:=(List.length l:Int) - _) (by omega) (by omega)]
    by_cases h5:unz u>(r.length:Int)
    ·rw[if_pos (by simp; omega),if_pos h5]
    ·rw[if_neg (by simp; omega),if_neg h5]
     obtain⟨n,hn⟩:∃n:Nat,unz u=n:=⟨(unz u).toNat,by omega⟩
     rw[hn]at h5 ⊢
     have e1:IntKind.wrap .i64 (((l.length - r.length:Nat):Int)+(n:Int))=((l.length - r.length+n:Nat):Int):=by rw[E9 (by omega) (by omega)]; omega
     rw[e1,(Jmd (N:=N) hl (k:=l.length - r.length+n) (by omega)).1]
     unfold slc
     rw[if_pos (by omega),QJ,QJ,JJ,←h6]
     have e2:(((l.length - r.length+n:Nat):Int) - ((l.length - r.length:Nat):Int)).toNat=n:=by omega
     have e3:l.drop (l.length - r.length+n)=r.drop n:=by rw[←List.drop_drop,←h6]
     rw[e2,e3]
     simp
 ·rw[if_neg h,if_neg h]
  unfold ptG
  simp only
  rw[if_pos (by simpa using h),if_pos (by simpa using h),QJ]
  simp only
  rw[if_pos (by simpa using h)]
abbrev RdS:=List Int×Int
def rdN(s:RdS):Int×RdS:=if s.2≠0 then(0,s)else((pn s.1).1,(pn s.1).2.2,(pn s.1).2.1)
def rt7(s:RdS):Str×RdS:=if s.2≠0 then([],s)else pt s.1
def okS(s:RdS):Prop:=isB s.1∧s.1.length≤1000
theorem Qko{s:RdS}(h:okS s):okS (rdN s).2:=by
 unfold rdN
 split
 ·exact h
 ·obtain⟨h1,h2,_⟩:=Jtw h.1
  exact⟨h1,QY h2 h.2⟩
theorem Qrg{l m:List Int}(h:isB l)(hs:∀x∈m,x∈l):isB m:=fun b hb=>h b (hs b hb)
theorem Jxg{l:List Int}(hB:isB l):isB (pt l).2.1∧(pt l).2.1.length≤l.length:=by
 obtain⟨h1,h2,_⟩:=Jtw hB
 have hn:isB ([]:List Int)∧([]:List Int).length≤l.length:=⟨fun b hb=>by simp at hb,by simp⟩
 unfold pt ptG
 split
 ·exact hn
 ·split
  ·exact hn
  ·split
   ·exact hn
   ·split
    ·exact hn
    ·exact⟨Qrg h1 fun x hx=>KX hx,by simp only[List.length_drop]; omega⟩
theorem Jvd{s:RdS}(h:okS s):okS (rt7 s).2:=by
 unfold rt7
 split
 ·exact h
 ·obtain⟨h1,h2⟩:=Jxg h.1
  exact⟨h1,QY h2 h.2⟩
theorem Qg9{N:Nat}(hN:2000≤N){s:RdS}(h:okS s):Qt N s=some (rdN s):=by
 unfold Qt rdN
 by_cases h0:s.2≠0
 ·rw[if_pos h0,if_pos (by simpa using h0)]
 ·rw[if_neg h0,if_neg (by simpa using h0),Quo hN h.1 h.2]; rfl
theorem Jp5{N:Nat}(hN:2000≤N){s:RdS}(h:okS s):U1 N s=some (rt7 s):=by
 unfold U1 rt7
 by_cases h0:s.2≠0
 ·rw[if_pos h0,if_pos (by simpa using h0)]
 ·rw[if_neg h0,if_neg (by simpa using h0),Jme hN h.1 h.2]; rfl
def rs1(l:List Int):=rdN (l,0)
def rs2(l:List Int):=rdN (rs1 l).2
def rs3(l:List Int):=rdN (rs2 l).2
def rs4(l:List Int):=rdN (rs3 l).2
def rs5(l:List Int):=rdN (rs4 l).2
def rs6(l:List Int):=rdN (rs5 l).2
def rs7(l:List Int):=rt7 (rs6 l).2
def rs8(l:List Int):=rdN (rs7 l).2
def rs9(l:List Int):=rdN (rs8 l).2
def Jp6(l:List Int):Qq×Int :=
 if(rs9 l).2.2≠0 then((0,0,0,0,0,0,[],0,0),(rs9 l).2.2)else if 0<(rs9 l).2.1.length then((0,0,0,0,0,0,[],0,0),3)else
  (((rs1 l).1,(rs2 l).1,(rs3 l).1,(rs4 l).1,(rs5 l).1,(rs6 l).1,(rs7 l).1,(rs8 l).1,(rs9 l).1),0)
theorem Jxh{l:List Int}(hB:isB l)(hl:l.length≤1000):okS (l,0)∧okS (rs1 l).2∧okS (rs2 l).2∧okS (rs3 l).2∧okS (rs4 l).2∧okS (rs5 l).2∧okS (rs6 l).2∧okS (rs7 l).2∧okS (rs8 l).2:=by
 have h0:okS (l,0):=⟨hB,hl⟩
 have h1:=Qko h0; have h2:=Qko (s:=(rs1 l).2) h1; have h3:=Qko (s:=(rs2 l).2) h2; have h4:=Qko (s:=(rs3 l).2) h3; have h5:=Qko (s:=(rs4 l).2) h4; have h6:=Qko (s:=(rs5 l).2) h5
 have h7:=Jvd (s:=(rs6 l).2) h6; have h8:=Qko (s:=(rs7 l).2) h7
 exact⟨h0,h1,h2,h3,h4,h5,h6,h7,h8⟩
theorem Jmf{N:Nat}(hN:2000≤N){l:List Int}(hB:isB l)(hl:l.length≤1000):B6 N l=some (Jp6 l):=by
 obtain⟨h0,h1,h2,h3,h4,h5,h6,h7,h8⟩:=Jxh hB hl
 have e1:Qt N (l,0)=some ((rs1 l).1,(rs1 l).2.1,(rs1 l).2.2):=Qg9 hN h0
 have e2:Qt N ((rs1 l).2.1,(rs1 l).2.2)=some ((rs2 l).1,(rs2 l).2.1,(rs2 l).2.2):=Qg9 hN h1
 have e3:Qt N ((rs2 l).2.1,(rs2 l).2.2)=some ((rs3 l).1,(rs3 l).2.1,(rs3 l).2.2):=Qg9 hN h2
 have e4:Qt N ((rs3 l).2.1,(rs3 l).2.2)=some ((rs4 l).1,(rs4 l).2.1,(rs4 l).2.2):=Qg9 hN h3
 have e5:Qt N ((rs4 l).2.1,(rs4 l).2.2)=some ((rs5 l).1,(rs5 l).2.1,(rs5 l).2.2):=Qg9 hN h4
 have e6:Qt N ((rs5 l).2.1,(rs5 l).2.2)=some ((rs6 l).1,(rs6 l).2.1,(rs6 l).2.2):=Qg9 hN h5
 have e7:U1 N ((rs6 l).2.1,(rs6 l).2.2)=some ((rs7 l).1,(rs7 l).2):=Jp5 hN h6
 have e8:Qt N (rs7 l).2=some ((rs8 l).1,(rs8 l).2.1,(rs8 l).2.2):=Qg9 hN h7
 have e9:Qt N ((rs8 l).2.1,(rs8 l).2.2)=some ((rs9 l).1,(rs9 l).2.1,(rs9 l).2.2):=Qg9 hN h8
 unfold B6
 rw[e1,QJ]
 simp only
 rw[e2,QJ]
 simp only
 rw[e3,QJ]
 simp only
 rw[e4,QJ]
 simp only
 rw[e5,QJ]
 simp only
 rw[e6,QJ]
 simp only
 rw[e7,QJ]
 simp only
 rw[e8,QJ]
 simp only
 rw[e9,QJ]
 unfold Jp6
 clear e9
 generalize rs9 l=p
 obtain⟨v,b,e⟩:=p
 simp only
 by_cases c1:e≠0
 ·rw[if_pos c1,if_pos (by simpa using c1)]
 ·rw[if_neg c1,if_neg (by simpa using c1)]
  by_cases c2:0<b.length
  ·rw[if_pos c2,if_pos (by simpa using c2)]
  ·rw[if_neg c2,if_neg (by simpa using c2)]
theorem Q51(s:Str):Qjl (Yt s)=s:=by
 unfold Yt Qjl
 rw[ZZ]
 refine(List.map_congr_left fun b hb=>?_).trans (List.map_id _)
 simp only[Function.comp,id,JJ]
 exact UInt8.ofNat_toNat
theorem Qkp(s:Str):(Yt s).length=s.length:=by simp[Yt]
theorem Qpz{x:Int}(h:D8 x)(t:List Int):rdN (vz x++t,0)=(x,t,0):=by
 unfold rdN
 rw[if_neg (by simp)]
 simp only
 rw[Jds h]
theorem Jp7{r:Qq}(h:Q0y r):Jp6 (Vk r)=(r,0):=by
 obtain⟨h1,h2,h3,h4,h5,h6,h7,h8,h9⟩:=h
 have hl:pt (vz (r.2.2.2.2.2.2.1.length:Int)++(Yt r.2.2.2.2.2.2.1++(vz r.2.2.2.2.2.2.2.1++(vz r.2.2.2.2.2.2.2.2++[]))))=(r.2.2.2.2.2.2.1,vz r.2.2.2.2.2.2.2.1++(vz r.2.2.2.2.2.2.2.2++[]),0):=by
  unfold pt ptG
  rw[Jds (Qhx (by omega))]
  simp only
  rw[if_neg (by simp),if_neg (by omega),if_neg (by omega),if_neg (by simp[Yt]; omega),JJ,List.take_left' (Qkp _),List.drop_left' (Qkp _),Q51]
 have e:Vk r=vz r.1++(vz r.2.1++(vz r.2.2.1++(vz r.2.2.2.1++(vz r.2.2.2.2.1++(vz r.2.2.2.2.2.1++(vz (r.2.2.2.2.2.2.1.length:Int)++(Yt r.2.2.2.2.2.2.1++(vz r.2.2.2.2.2.2.2.1++(vz r.2.2.2.2.2.2.2.2++[]))))))))):=by
  rw[Q0z]; simp only[List.append_assoc,QU]
 generalize ht9:vz r.2.2.2.2.2.2.2.2++([]:List Int)=t9 at *
 generalize ht8:vz r.2.2.2.2.2.2.2.1++t9=t8 at *
 generalize ht7:vz (r.2.2.2.2.2.2.1.length:Int)++(Yt r.2.2.2.2.2.2.1++t8)=t7 at *
 generalize ht6:vz r.2.2.2.2.2.1++t7=t6 at *
 generalize ht5:vz r.2.2.2.2.1++t6=t5 at *
 generalize ht4:vz r.2.2.2.1++t5=t4 at *
 generalize ht3:vz r.2.2.1++t4=t3 at *
 generalize ht2:vz r.2.1++t3=t2 at *
 have s1:rs1 (Vk r)=(r.1,t2,0):=by unfold rs1; rw[e]; exact Qpz h1 _
 have s2:rs2 (Vk r)=(r.2.1,t3,0):=by unfold rs2; rw[s1,←ht2]; exact Qpz h2 _
 have s3:rs3 (Vk r)=(r.2.2.1,t4,0):=by unfold rs3; rw[s2,←ht3]; exact Qpz h3 _
 have s4:rs4 (Vk r)=(r.2.2.2.1,t5,0):=by unfold rs4; rw[s3,←ht4]; exact Qpz h4 _
 have s5:rs5 (Vk r)=(r.2.2.2.2.1,t6,0):=by unfold rs5; rw[s4,←ht5]; exact Qpz h5 _
 have s6:rs6 (Vk r)=(r.2.2.2.2.2.1,t7,0):=by unfold rs6; rw[s5,←ht6]; exact Qpz h6 _
 have s7:rs7 (Vk r)=(r.2.2.2.2.2.2.1,t8,0):=by unfold rs7; rw[s6]; unfold rt7; rw[if_neg (by simp)]; exact hl
 have s8:rs8 (Vk r)=(r.2.2.2.2.2.2.2.1,t9,0):=by unfold rs8; rw[s7,←ht8]; exact Qpz h7 _
 have s9:rs9 (Vk r)=(r.2.2.2.2.2.2.2.2,[],0):=by unfold rs9; rw[s8,←ht9]; exact Qpz h8 _
 unfold Jp6
 rw[s1,s2,s3,s4,s5,s6,s7,s8,s9]
 simp
theorem Q00(r:Qq):isB (Vk r):=by
 have hs:isB (Yt r.2.2.2.2.2.2.1):=fun b hb=>by
  obtain⟨c,_,rfl⟩:=QK.1 hb
  have:=c.toNat_lt
  omega
 rw[Q0z]
 exact Ud (Ud (Ud (Ud (Ud (Ud (Ud (Ud (Ud (Qwa _) (Qwa _)) (Qwa _)) (Qwa _)) (Qwa _)) (Qwa _)) (Qwa _)) hs) (Qwa _)) (Qwa _)
theorem Qmp{r:Qq}(h:r.2.2.2.2.2.2.1.length≤100):(Vk r).length≤200:=by
 have l1:=Vo r.1; have l2:=Vo r.2.1; have l3:=Vo r.2.2.1; have l4:=Vo r.2.2.2.1; have l5:=Vo r.2.2.2.2.1; have l6:=Vo r.2.2.2.2.2.1
 have l7:=Vo (r.2.2.2.2.2.2.1.length:Int); have l8:=Vo r.2.2.2.2.2.2.2.1; have l9:=Vo r.2.2.2.2.2.2.2.2
 rw[Q0z]
 simp only[List.length_append,Qkp]
 omega
def Q01(n b:Int):Int:=IntKind.wrap .u32 ((Go.bits .xor .u32 n (IntKind.wrap .u32 b))*16777619)
def Qao(l:List Int):Int:=l.foldl Q01 2166136261
theorem Jp8(n:Int):IntKind.wrap .u32 n=n % 4294967296:=by simp[IntKind.wrap,IntKind.bits,IntKind.signed]
theorem Qup(n b:Int):0≤Q01 n b∧Q01 n b<4294967296:=by unfold Q01; rw[Jp8]; omega
theorem Qp0:∀(l:List Int) (n:Int),0≤n→n<4294967296→0≤l.foldl Q01 n∧l.foldl Q01 n<4294967296
 | [],n,h0,h1=>⟨h0,h1⟩
 | b::l,n,_,_=>Qp0 l (Q01 n b) (Qup n b).1 (Qup n b).2
theorem Quq(l:List Int):0≤Qao l∧Qao l<4294967296:=Qp0 l _ (by decide) (by decide)
def s4(n:Int):List Int:=[n / 16777216 % 256,n / 65536 % 256,n / 256 % 256,n % 256]
def frm(p:List Int):List Int:=vz (p.length:Int)++s4 (Qao p)++p
theorem Qmq(p:List Int):(frm p).length≤p.length+14∧p.length+4≤(frm p).length:=by
 have:=Vo (p.length:Int)
 simp only[frm,s4,List.length_append,List.length_cons,JK]; omega
theorem Jyj(n:Int):isB (s4 n):=by
 intro b hb
 simp only[s4,QX,JF,or_false]at hb
 rcases hb with rfl | rfl | rfl | rfl<;>omega
theorem Jmg{p:List Int}(h:isB p):isB (frm p):=Ud (Ud (Qwa _) (Jyj _)) h
theorem Jxi{n:Int}(h0:0≤n)(h1:n<4294967296):Tb .u32 n 24=some (n / 16777216)∧Tb .u32 n 16=some (n / 65536)∧Tb .u32 n 8=some (n / 256):=by
 have e24:(2:Int) ^ min (24:Int).toNat IntKind.u32.bits=16777216:=by decide
 have e16:(2:Int) ^ min (16:Int).toNat IntKind.u32.bits=65536:=by decide
 have e8:(2:Int) ^ min (8:Int).toNat IntKind.u32.bits=256:=by decide
 refine⟨?_,?_,?_⟩<;>simp only[Tb]<;>rw[if_neg (by omega)]<;>congr 1
 ·rw[e24,JY _ (by omega)]
 ·rw[e16,JY _ (by omega)]
 ·rw[e8,JY _ (by omega)]
def cat(l:List (List Int)):List Int:=l.flatMap frm
theorem Q52(l:List (List Int))(p:List Int):cat (l++[p])=cat l++frm p:=by simp[cat]
theorem Hx(p:List Int)(l:List (List Int)):cat (p::l)=frm p++cat l:=by simp[cat]
theorem Qur(l m:List (List Int)):cat (l++m)=cat l++cat m:=by simp[cat]
def Qmr(q:List Int):Prop:=∃p,isB p∧p.length≤200∧q <+: frm p∧q.length<(frm p).length
theorem Qms:Qmr []:=⟨[],fun b hb=>by simp at hb,by simp,List.nil_prefix,by have:=(Qmq []).2; simp at this ⊢; omega⟩
theorem Jmh{q:List Int}(h:Qmr q):isB q:=by
 obtain⟨p,hp,_,hq,_⟩:=h
 exact Qrg (Jmg hp) fun x hx=>hq.subset hx
theorem Qmt{q:List Int}(h:Qmr q):q.length≤214:=by
 obtain⟨p,_,hp,_,hq⟩:=h
 have:=(Qmq p).1
 omega
theorem Jgt{q:List Int}(h:Qmr q)(n:Nat):Qmr (q.take n):=by
 obtain⟨p,h1,h2,h3,h4⟩:=h
 exact⟨p,h1,h2,(List.take_prefix n q).trans h3,by rw[List.length_take]; omega⟩
theorem Jmi{p:List Int}(hp:isB p)(hl:p.length≤200){n:Nat}(hn:n<(frm p).length):Qmr ((frm p).take n) :=
 ⟨p,hp,hl,List.take_prefix _ _,by rw[List.length_take]; omega⟩
def Qus(l:List (List Int)):Prop:=∀p∈l,isB p∧p.length≤200
theorem Qmu:∀{l:List (List Int)},Qus l→(cat l).length≤214*l.length
 | [],_=>by simp[cat]
 | p::l,h=>by
  rw[Hx,List.length_append,List.length_cons]
  have h1:=(Qmq p).1
  have h2:=(h p (.head _)).2
  have h3:=Qmu (l:=l) fun q hq=>h q (.tail _ hq)
  omega
theorem Jxj{l:List (List Int)}(h:Qus l):isB (cat l):=by
 intro b hb
 simp only[cat,List.mem_flatMap]at hb
 obtain⟨p,hp,hb⟩:=hb
 exact Jmg (h p hp).1 b hb
theorem Qut:∀(l:List (List Int)) (q:List Int) (n:Nat),Qus l→Qmr q→n≤(cat l++q).length →
  ∃k q',k≤l.length∧Qmr q'∧(cat l++q).take n=cat (l.take k)++q'∧(cat (l.take k)).length≤n∧(k<l.length→n<(cat (l.take (k+1))).length)
 | [],q,n,_,hq,hn=>⟨0,q.take n,QG _,Jgt hq n,by simp[cat],by simp[cat],fun h=>by simp at h⟩
 | p::l,q,n,hl,hq,hn=>by
  have hp:=hl p (.head _)
  rcases Nat.lt_or_ge n (frm p).length with h | h
  ·refine⟨0,(frm p).take n,by simp,Jmi hp.1 hp.2 h,?_,by simp[cat],fun _=>by simpa[cat]using h⟩
   rw[Hx,List.append_assoc,JI (by omega)]
   simp[cat]
  ·obtain⟨k,q',h1,h2,h3,h4,h5⟩:=Qut l q (n - (frm p).length) (fun x hx=>hl x (.tail _ hx)) hq (by rw[Hx]at hn; simp only[List.length_append]at hn ⊢; omega)
   refine⟨k+1,q',by simp; omega,h2,?_,?_,fun hk=>?_⟩
   ·rw[Hx,List.append_assoc,XK,List.take_of_length_le h,h3]
    simp[Hx]
   ·simp only[ZJ,Hx,List.length_append]; omega
   ·have:=h5 (by simp at hk; omega)
    simp only[ZJ,Hx,List.length_append]; omega
theorem Jxk{N:Nat}{x:List Int}(hl:x.length<N)(hm:x.length≤100000):Qbu N x=some (Qao x):=by
 unfold Qbu
 rw[Jgr x (QY hm (by decide)) (f:=Nm N x) (fun s i=>(s,i)) (fun _ _=>True) (fun s l=>l.foldl Q01 s) ?_ ?_ hl trivial (s:=2166136261)]
 ·rfl
 ·intro s _ h
  simp only[Nm]
  rw[h]; rfl
 ·intro s i b xs h1 h2 h3 h4 h5 _
  left
  refine⟨Q01 s b,?_,trivial,rfl⟩
  simp only[Nm]
  rw[if_pos h2,h3,QJ,h4]
  rfl
theorem Jve{N:Nat}(hN:1000≤N){p:List Int}(hp:isB p)(hl:p.length≤200):Pq N p=some (0,frm p):=by
 unfold Pq
 have hv:=Vo (p.length:Int)
 rw[if_neg (by simp; omega)]
 have e1:mkL 1 0 (IntKind.wrap .i64 ((List.length p:Int)+14)) (0:Int)=some []:=by
  unfold mkL
  rw[E9 (by omega) (by omega),if_pos (by omega)]
  rfl
 rw[e1,QJ]
 unfold T4
 obtain⟨r0,r1⟩:=Quq p
 obtain⟨s1,s2,s3⟩:=Jxi r0 r1
 rw[Jxk (by omega) (by omega),QJ,S7 hN (Qhx (by omega)) (by simp),QJ,S6 (by simp; omega),QJ,s1,QJ,s2,QJ,s3,QJ,
  S6 (by simp; omega),QJ,S6 (by simp; omega),QJ,wu8,wu8,wu8,wu8]
 rfl
theorem Jmj{n:Int}:Qcc .u32 n 24=some (n*16777216 % 4294967296)∧Qcc .u32 n 16=some (n*65536 % 4294967296)∧Qcc .u32 n 8=some (n*256 % 4294967296):=by
 have e24:(2:Int) ^ min (24:Int).toNat IntKind.u32.bits=16777216:=by decide
 have e16:(2:Int) ^ min (16:Int).toNat IntKind.u32.bits=65536:=by decide
 have e8:(2:Int) ^ min (8:Int).toNat IntKind.u32.bits=256:=by decide
 refine⟨?_,?_,?_⟩<;>simp only[Qcc]<;>rw[if_neg (by omega),Jp8]
 ·rw[e24]
 ·rw[e16]
 ·rw[e8]
theorem Jdt:∀(i u:Nat) (q:List Int),i≤9→u<2 ^ (64 - 7*i)→(0<i→0<u)→q <+: vb (10 - i) u→q.length<(vb (10 - i) u).length→(sc i q).1=2
 | i,u,[],_,_,_,_,_=>rfl
 | i,u,b::q,hi,hu,h0,hq,hl=>by
  obtain⟨k,hk⟩:∃k,10 - i=k+1:=⟨9 - i,by omega⟩
  rw[hk]at hq hl
  simp only[vb]at hq hl
  by_cases c:u<128
  ·rw[if_pos c]at hl; simp at hl
  ·rw[if_neg c]at hq hl
   obtain⟨hb,hq'⟩:=List.cons_prefix_cons.1 hq
   have hu9:i=9→u<2:=fun e=>by subst e; simpa using hu
   have h8:i≤8:=by
    rcases Nat.lt_or_ge i 9 with q | q
    ·omega
    ·have:=hu9 (by omega); omega
   have hp:(2:Nat) ^ (64 - 7*i)=128*2 ^ (64 - 7*(i+1)):=by
    rw[show 64 - 7*i=7+(64 - 7*(i+1)) by omega,KJ]
   have ih:=Jdt (i+1) (u / 128) q (by omega) (by omega) (fun _=>by omega) (by rw[show 10 - (i+1)=k by omega]; exact hq') (by rw[show 10 - (i+1)=k by omega]; simpa using hl)
   rw[hb,Jdr (by omega) (by omega)]
   exact ih
theorem Jp9{x:Int}(h:D8 x){q:List Int}(hq:q <+: vz x)(hl:q.length<(vz x).length):pn q=(0,2,[]):=by
 have:=Jdt 0 (zig x) q (by omega) (Q0x h) (by omega) hq hl
 unfold pn pnG
 rw[if_neg (by omega),this]
def S8:Nat→Nat→List (List Int)→List (Int×Int)
 | _,_,[]=>[]
 | n,off,p::l=>(((n+1:Nat):Int),((off+(frm p).length:Nat):Int))::S8 (n+1) (off+(frm p).length) l
def Lt(l:List (List Int)):List (Int×Int):=S8 0 0 l
theorem Qyb:∀(n off:Nat) (l:List (List Int)),(S8 n off l).length=l.length
 | _,_,[]=>rfl
 | n,off,p::l=>by simp[S8,Qyb]
theorem Qha(l:List (List Int)):(Lt l).length=l.length:=Qyb 0 0 l
theorem Quu:∀(n off:Nat) (l:List (List Int)) (k:Nat),n<k→k≤n+l.length→Qk (k:=.int .i64) (k:Int) (S8 n off l)=some ((off+(cat (l.take (k - n))).length:Nat):Int)
 | n,off,[],k,h1,h2=>by simp at h2; omega
 | n,off,p::l,k,h1,h2=>by
  simp only[S8,Qk,eqK]
  by_cases h:k=n+1
  ·subst h
   have e:n+1 - n=1:=by omega
   have eb:(((n+1:Nat):Int)==((n+1:Nat):Int))=true:=by simp
   rw[eb,e]
   simp[cat]
  ·have hb:(((k:Nat):Int)==((n+1:Nat):Int))=false:=by simp; omega
   rw[hb]
   simp only[cond_false]
   rw[Quu (n+1) (off+(frm p).length) l k (by omega) (by simp at h2; omega)]
   have e:k - n=(k - (n+1))+1:=by omega
   rw[e,ZJ,Hx,List.length_append]
   congr 2; omega
theorem Qyc:∀(n off:Nat) (l:List (List Int)) (p:List Int),Jd (k:=.int .i64) (((n+l.length+1:Nat)):Int) ((off+(cat (l++[p])).length:Nat):Int) (S8 n off l)=S8 n off (l++[p])
 | n,off,[],p=>by simp[S8,Jd,cat]
 | n,off,q::l,p=>by
  simp only[S8,Jd,eqK,QF]
  have hb:(((n+(q::l).length+1:Nat):Int)==((n+1:Nat):Int))=false:=by simp; omega
  rw[hb]
  simp only[cond_false]
  have:=Qyc (n+1) (off+(frm q).length) l p
  rw[←this]
  congr 2
  ·simp; omega
  ·rw[Hx,List.length_append]; omega
theorem Qyd:∀(n off:Nat) (l:List (List Int)) (p:List Int),H0 (k:=.int .i64) (((n+l.length+1:Nat)):Int) (S8 n off (l++[p]))=S8 n off l
 | n,off,[],p=>by simp[S8,H0,eqK]
 | n,off,q::l,p=>by
  simp only[S8,H0,eqK,QF]
  have hb:(((n+(q::l).length+1:Nat):Int)==((n+1:Nat):Int))=false:=by simp; omega
  rw[hb]
  simp only[cond_false]
  have:=Qyd (n+1) (off+(frm q).length) l p
  rw[←this]
  congr 2
  simp; omega
theorem Quv(l:List (List Int)):(Qk (k:=.int .i64) (List.length (Lt l):Int) (Lt l)).getD 0=((cat l).length:Int):=by
 rw[Qha]
 rcases Nat.eq_zero_or_pos l.length with h | h
 ·have:l=[]:=List.length_eq_zero_iff.1 h
  subst this; rfl
 ·unfold Lt
  rw[Quu 0 0 l l.length h (by omega)]
  simp
structure Q53(n:Nat)(l:List (List Int))(q:List Int)(safe:Int):Prop where
 pl:Qus l
 tq:Qmr q
 s0:0≤safe
 s1:safe≤((cat l++q).length:Int)
 ln:l.length≤n
theorem Jdu(a b:Int):(if a<b then a else b)=min a b:=by
 by_cases h:a<b
 ·rw[if_pos h]; omega
 ·rw[if_neg h]; omega
theorem Jmk{N:Nat}{l:List (List Int)}{q:List Int}{safe:Int}:Zj N safe (cat l++q) (Lt l)=some (min ((cat l).length:Int) safe,Lt l,cat l):=by
 unfold Zj
 rw[Quv]
 have e:slc (cat l++q) 0 ((cat l).length:Int)=some (cat l):=by
  unfold slc
  rw[if_pos (by simp; omega)]
  simp
 rw[e,QJ,Jdu]
theorem Q02(N:Nat)(s:Int)(b:List Int)(m:List (Int×Int)):Uc N s b m=some true:=rfl
theorem Jxl{N:Nat}(hN:20000≤N){r:Qq}(hR:Q0y r)(hr:r.2.2.2.2.2.2.1.length≤100){l:List (List Int)}{q:List Int}{safe:Int}{n:Nat}(h:Q53 n l q safe)(hn:n≤30) :
  Yu N r safe (cat l++q) (Lt l)=some (0,min ((cat l).length:Int) safe,Lt (l++[Vk r]),cat (l++[Vk r])):=by
 have hel:=Qmp hr
 have hc:=Qmu h.pl
 have hln:=h.ln
 have hf:=Qmq (Vk r)
 unfold Yu
 rw[Q02,QJ]
 rw[if_neg (by simp),Jma (by omega) hR,QJ,Jve (by omega) (Q00 r) hel,QJ]
 simp only
 rw[if_neg (by simp),Jmk,QJ]
 simp only
 rw[S6 (by omega),QJ,Qha,E9 (by omega) (by omega),←Q52]
 have:=Qyc 0 0 l (Vk r)
 simp only[QW]at this
 unfold Lt
 rw[←this]
 rfl
theorem Jgu{l:List (List Int)}{r:Qq}(hl:Qus l)(hr:r.2.2.2.2.2.2.1.length≤100):Qus (l++[Vk r]):=by
 intro p hp
 rcases QZ.1 hp with hp | hp
 ·exact hl p hp
 ·have:p=Vk r:=by simpa using hp
  subst this
  exact⟨Q00 r,Qmp hr⟩
theorem Jqa{r:Qq}(hr:r.2.2.2.2.2.2.1.length≤100){l:List (List Int)}{q:List Int}{safe:Int}{n:Nat}(h:Q53 n l q safe):Q53 (n+1) (l++[Vk r]) [] (min ((cat l).length:Int) safe):=by
 have hs:=h.s0
 exact⟨Jgu h.pl hr,Qms,by omega,by rw[Q52]; simp; omega,by have:=h.ln; simp; omega⟩
theorem Jml{N:Nat}{l:List (List Int)}{q:List Int}{safe:Int}:Vj N safe (cat l++q) (Lt l)=some ((l.length:Int),((cat l).length:Int),Lt l,cat l):=by
 unfold Vj
 rw[Q02,QJ]
 rw[if_neg (by simp),Jmk,QJ]
 simp only
 rw[Qha]
def Qen(len safe keep:Int):Int:=safe+min (len - safe) (max 0 keep)
theorem Jdv{len safe keep:Int}(h0:0≤safe)(h1:safe≤len)(h2:len≤100000)(hk:D8 keep) :
  IntKind.wrap .i64 (safe+(if(IntKind.wrap .i64 (len - safe))<(if 0>keep then 0 else keep)then(IntKind.wrap .i64 (len - safe))else(if 0>keep then 0 else keep)))=Qen len safe keep:=by
 obtain⟨k0,k1⟩:=hk
 rw[E9 (n:=len - safe) (by omega) (by omega)]
 have e:(if(0:Int)>keep then(0:Int)else keep)=max 0 keep:=by
  by_cases h:(0:Int)>keep
  ·rw[if_pos h]; omega
  ·rw[if_neg h]; omega
 rw[e,Jdu,E9 (by omega) (by omega)]
 rfl
theorem Jgv{N:Nat}{b:List Int}{safe keep:Int}(h0:0≤safe)(h1:safe≤(b.length:Int))(h2:b.length≤100000)(hk:D8 keep){l:List (List Int)}(hl:l.length≤1000){k:Nat}(hkl:k≤l.length)
  (hlow:((cat (l.take k)).length:Int)≤Qen (b.length:Int) safe keep) (hhigh:k<l.length→Qen (b.length:Int) safe keep<((cat (l.take (k+1))).length:Int)) :
  ∀(j f:Nat),k≤j→j≤l.length→j - k<f→Qh (Kx N safe b keep) f ((j:Int),Lt (l.take j))=some (Lt (l.take k)):=by
 intro j
 induction j with
 | zero =>
  intro f hj _ hf
  obtain⟨f,rfl⟩:∃g,f=g+1:=⟨f - 1,by omega⟩
  have:k=0:=by omega
  subst this
  simp only[Qh,Kx]
  rw[if_neg (by simp)]
  rfl
 | succ j ih =>
  intro f hj hjl hf
  obtain⟨f,rfl⟩:∃g,f=g+1:=⟨f - 1,by omega⟩
  simp only[Qh,Kx]
  rw[Jdv h0 h1 (by omega) hk]
  have hlt:(l.take (j+1)).length=j+1:=by rw[List.length_take]; omega
  have hfind:(Qk (k:=.int .i64) ((j+1:Nat):Int) (Lt (l.take (j+1)))).getD 0=((cat (l.take (j+1))).length:Int):=by
   have:=Quv (l.take (j+1))
   rw[Qha,hlt]at this
   exact this
  rw[hfind]
  by_cases hjk:k=j+1
  ·subst hjk
   rw[if_neg (by simp; omega)]
   rfl
  ·have hbig:Qen (b.length:Int) safe keep<((cat (l.take (j+1))).length:Int):=by
    have hh:=hhigh (by omega)
    have hmono:(cat (l.take (k+1))).length≤(cat (l.take (j+1))).length:=by
     have e:l.take (j+1)=l.take (k+1)++(l.take (j+1)).drop (k+1):=by
      have:=List.take_append_drop (k+1) (l.take (j+1))
      rw[XG,Nat.min_eq_left (by omega)]at this
      exact this.symm
     rw[e,Qur,List.length_append]; omega
    omega
   rw[if_pos (by simp; omega),QJ]
   have hd:H0 (k:=.int .i64) ((j+1:Nat):Int) (Lt (l.take (j+1)))=Lt (l.take j):=by
    obtain⟨x,hx⟩:∃x,l[j]?=some x:=⟨l[j],List.getElem?_eq_getElem (by omega)⟩
    have e:l.take (j+1)=l.take j++[x]:=by rw[ZA,hx]; rfl
    rw[e]
    have:=Qyd 0 0 (l.take j) x
    rw[List.length_take,Nat.min_eq_left (by omega),QW]at this
    exact this
   have hw:IntKind.wrap .i64 (((j+1:Nat):Int) - 1)=(j:Int):=by rw[E9 (by omega) (by omega)]; omega
   simp only
   rw[hd,hw]
   exact ih f (by omega) (by omega) (by omega)
theorem Jqb{N:Nat}{s:Int}{b:List Int}{m:List (Int×Int)}(h:b.length≤100000):Vz N s b m=some (b,b):=by
 unfold Vz
 rw[Q02,QJ]
 rw[if_neg (by simp)]
 unfold Qj0
 rw[S6 (by simp; omega)]
 rfl
theorem Jqc{N:Nat}(hN:20000≤N){l:List (List Int)}{q:List Int}{safe keep:Int}{n:Nat}(h:Q53 n l q safe)(hn:n≤30)(hk:D8 keep) :
  ∃(k:Nat) (q':List Int),k≤l.length∧Qmr q'∧(cat l++q).take (Qen ((cat l++q).length:Int) safe keep).toNat=cat (l.take k)++q'∧(k<l.length→Qen ((cat l++q).length:Int) safe keep<((cat (l.take (k+1))).length:Int))∧Ky N keep safe (cat l++q) (Lt l)=some (Qen ((cat l++q).length:Int) safe keep,Lt (l.take k),cat (l.take k)++q'):=by
 have hc:=Qmu h.pl
 have hq:=Qmt h.tq
 have hln:=h.ln
 have hb:(cat l++q).length≤100000:=by simp; omega
 have hs0:=h.s0
 have hs1:=h.s1
 have hleft:0≤Qen ((cat l++q).length:Int) safe keep∧Qen ((cat l++q).length:Int) safe keep≤((cat l++q).length:Int):=by
  unfold Qen; omega
 generalize hL:Qen ((cat l++q).length:Int) safe keep=L at hleft
 obtain⟨k,q',h1,h2,h3,h4,h5⟩:=Qut l q L.toNat h.pl h.tq (by omega)
 have e1:slc (cat l++q) 0 L=some (cat (l.take k)++q'):=by
  unfold slc
  rw[if_pos (by omega),←h3]
  simp
 have hlen:((cat (l.take k)++q').length:Int)=L:=by
  rw[←h3,List.length_take]; omega
 refine⟨k,q',h1,h2,h3,fun hlt=>by have:=h5 hlt; omega,?_⟩
 unfold Ky
 rw[Q02,QJ]
 rw[if_neg (by simp),Jdv hs0 hs1 (by omega) hk,hL,e1,QJ,Qha]
 have:=Jgv (N:=N) hs0 hs1 hb hk (l:=l) (by omega) h1 (by rw[hL]; omega) (fun hlt=>by rw[hL]; have:=h5 hlt; omega) l.length N h1 (QG _) (by omega)
 rw[List.take_length]at this
 rw[this,QJ]
theorem Jvf(i a b:Nat)(hb:b<2 ^ i)(h:2 ^ i*a+b<2 ^ 32):Go.bits .or .u32 ((2 ^ i*a:Nat):Int) (b:Int)=((2 ^ i*a+b:Nat):Int):=by
 have ex:(BitVec.ofInt 32 ((2 ^ i*a:Nat):Int)).toNat=2 ^ i*a:=by rw[BitVec.toNat_ofInt]; omega
 have ey:(BitVec.ofInt 32 (b:Int)).toNat=b:=by rw[BitVec.toNat_ofInt]; omega
 show IntKind.u32.wrap ((BitVec.ofInt 32 ((2 ^ i*a:Nat):Int) ||| BitVec.ofInt 32 (b:Int)).toNat:Nat)=_
 rw[BitVec.toNat_or,ex,ey,←XU hb,Jp8]; omega
theorem or4{n:Int}(h0:0≤n)(h1:n<4294967296):Go.bits .or .u32 (Go.bits .or .u32 (Go.bits .or .u32 (IntKind.wrap .u32 (n / 16777216 % 256)*16777216 % 4294967296) (IntKind.wrap .u32 (n / 65536 % 256)*65536 % 4294967296)) (IntKind.wrap .u32 (n / 256 % 256)*256 % 4294967296)) (IntKind.wrap .u32 (n % 256))=n:=by
 obtain⟨k,rfl⟩:∃k:Nat,n=k:=⟨n.toNat,by omega⟩
 simp only[Jp8]
 have e1:(k:Int) / 16777216 % 256 % 4294967296*16777216 % 4294967296=((2 ^ 24*(k / 16777216):Nat):Int):=by omega
 have e2:(k:Int) / 65536 % 256 % 4294967296*65536 % 4294967296=((k / 65536 % 256*65536:Nat):Int):=by omega
 have e3:(k:Int) / 256 % 256 % 4294967296*256 % 4294967296=((k / 256 % 256*256:Nat):Int):=by omega
 have e4:(k:Int) % 256 % 4294967296=((k % 256:Nat):Int):=by omega
 rw[e1,e2,e3,e4,Jvf 24 _ _ (by omega) (by omega)]
 have f1:2 ^ 24*(k / 16777216)+k / 65536 % 256*65536=2 ^ 16*(k / 65536):=by omega
 rw[f1,Jvf 16 _ _ (by omega) (by omega)]
 have f2:2 ^ 16*(k / 65536)+k / 256 % 256*256=2 ^ 8*(k / 256):=by omega
 rw[f2,Jvf 8 _ _ (by omega) (by omega)]
 omega
theorem Jmm{x0:List Int}:slc x0 0 (if 10<(List.length x0:Int)then 10 else(List.length x0:Int))=some (x0.take 10):=by
 unfold slc
 split
 ·rw[if_pos (by omega)]; rfl
 ·rw[if_pos (by omega)]
  simp only[Int.toNat_zero,List.drop_zero,Int.sub_zero,JJ,List.take_length]
  rw[List.take_of_length_le (by omega)]
theorem Jtx{x0:List Int}:chk (decide ((if 10<(List.length x0:Int)then 10 else(List.length x0:Int))≤(if 10<(List.length x0:Int)then 10 else(List.length x0:Int)))&&decide ((if 10<(List.length x0:Int)then 10 else(List.length x0:Int))≤(List.length x0:Int)))=some ():=by
 have:(decide ((if 10<(List.length x0:Int)then 10 else(List.length x0:Int))≤(if 10<(List.length x0:Int)then 10 else(List.length x0:Int)))&&decide ((if 10<(List.length x0:Int)then 10 else(List.length x0:Int))≤(List.length x0:Int)))=true:=by
  simp only[QQ,decide_eq_true_eq]
  exact⟨JB _,by split<;>omega⟩
 rw[this]; rfl
theorem Jdw{x:Int}(r:List Int):(vz x++r).take 10=vz x++r.take (10 - (vz x).length):=by
 rw[XK,List.take_of_length_le (Vo x)]
theorem Jag{N:Nat}(hN:20000≤N){p t:List Int}(hp:isB p)(ht:isB t)(hl:p.length≤200)(hlt:(frm p++t).length≤10000) :
  Ea N (frm p++t)=some ((((vz (p.length:Int)).length+4:Nat):Int),((frm p).length:Int),0):=by
 have hB:isB (frm p++t):=Ud (Jmg hp) ht
 have hv:=Vo (p.length:Int)
 have hx:frm p++t=vz (p.length:Int)++(s4 (Qao p)++p++t):=by unfold frm; simp
 have hfl:(frm p).length=(vz (p.length:Int)).length+4+p.length:=by simp[frm,s4]; omega
 have htk:(frm p++t).take 10=vz (p.length:Int)++(s4 (Qao p)++p++t).take (10 - (vz (p.length:Int)).length):=by rw[hx]; exact Jdw _
 have hpn:pn ((frm p++t).take 10)=((p.length:Int),0,(s4 (Qao p)++p++t).take (10 - (vz (p.length:Int)).length)):=by rw[htk]; exact Jds (Qhx (by omega)) _
 have hk:(List.length ((frm p++t).take 10):Int) - (List.length ((s4 (Qao p)++p++t).take (10 - (vz (p.length:Int)).length)):Int)=((vz (p.length:Int)).length:Int):=by
  rw[htk,List.length_append]; omega
 generalize hV:(vz (p.length:Int)).length=v at *
 have hlen:(frm p++t).length=v+4+p.length+t.length:=by rw[List.length_append,hfl]
 unfold Ea
 rw[Jtx,QJ,Jmm,QJ,Quo (by omega) (Qrg hB fun x hx=>JA hx) (by rw[List.length_take]; omega),QJ,hpn]
 dsimp only
 rw[if_neg (by simp),if_neg (by simp),if_neg (by simp; omega),hk,E9 (n:=(v:Int)) (by omega) (by omega),hlen,E9 (n:=4+(p.length:Int)) (by omega) (by omega),E9 (n:=((v+4+p.length+t.length:Nat):Int) - (v:Int)) (by omega) (by omega)]
 rw[if_neg (by simp; omega),E9 (n:=(v:Int)+1) (by omega) (by omega),E9 (n:=(v:Int)+2) (by omega) (by omega),E9 (n:=(v:Int)+3) (by omega) (by omega),E9 (n:=(v:Int)+4) (by omega) (by omega),E9 (n:=(v:Int)+4+(p.length:Int)) (by omega) (by omega)]
 have ix:∀(j:Nat),j<4→idx (frm p++t) ((v:Int)+(j:Int))=(s4 (Qao p))[j]?:=by
  intro j hj
  have h4:(s4 (Qao p)).length=4:=rfl
  unfold idx
  rw[if_pos (by omega)]
  have:((v:Int)+(j:Int)).toNat=v+j:=by omega
  rw[this,hx,JV (by omega),hV,JM,List.append_assoc,JX (by omega)]
 have i0:idx (frm p++t) (v:Int)=some (Qao p / 16777216 % 256):=(by simpa using ix 0 (by omega):idx (frm p++t) (v:Int)=(s4 (Qao p))[0]?)
 have i1:idx (frm p++t) ((v:Int)+1)=some (Qao p / 65536 % 256):=ix 1 (by omega)
 have i2:idx (frm p++t) ((v:Int)+2)=some (Qao p / 256 % 256):=ix 2 (by omega)
 have i3:idx (frm p++t) ((v:Int)+3)=some (Qao p % 256):=ix 3 (by omega)
 rw[i0,QJ,Jmj.1,QJ,i1,QJ,Jmj.2.1,QJ,i2,QJ,Jmj.2.2,QJ,i3,QJ]
 have hs:slc (frm p++t) ((v:Int)+4) ((v:Int)+4+(p.length:Int))=some p:=by
  unfold slc
  rw[if_pos (by omega)]
  have e1:((v:Int)+4).toNat=(vz (p.length:Int)++s4 (Qao p)).length:=by simp[s4]; omega
  have e2:((v:Int)+4+(p.length:Int) - ((v:Int)+4)).toNat=p.length:=by omega
  rw[e1,e2,show frm p++t=(vz (p.length:Int)++s4 (Qao p))++(p++t) by unfold frm; simp,List.drop_left,List.take_left]
 obtain⟨r0,r1⟩:=Quq p
 rw[hs,QJ,Jxk (by omega) (by omega),QJ,or4 r0 r1,if_neg (by simp),hfl]
 simp
theorem Q54{N:Nat}(hN:20000≤N){q:List Int}(h:Qmr q):∃a b e,Ea N q=some (a,b,e)∧e≠0:=by
 have hB:=Jmh h
 have hlen:=Qmt h
 obtain⟨p,hp,hl,hq,hlt⟩:=h
 have hv:=Vo (p.length:Int)
 unfold Ea
 rw[Jtx,QJ,Jmm,QJ,Quo (by omega) (Qrg hB fun x hx=>JA hx) (by rw[List.length_take]; omega),QJ]
 have hf:frm p=vz (p.length:Int)++(s4 (Qao p)++p):=by unfold frm; simp
 rw[hf]at hq hlt
 rcases Nat.lt_or_ge q.length (vz (p.length:Int)).length with hc | hc
 ·have hq2:q <+: vz (p.length:Int):=XM hq (ZV _ _) (by omega)
  rw[List.take_of_length_le (by omega),Jp9 (Qhx (by omega)) hq2 hc]
  exact⟨0,0,2,by simp,by decide⟩
 ·obtain⟨r,hr⟩:∃r,q=vz (p.length:Int)++r:=by
   obtain⟨r,hr⟩:=XM (ZV _ _) hq hc
   exact⟨r,hr.symm⟩
  subst hr
  have hr:r.length<4+p.length:=by
   simp only[List.length_append,s4,List.length_cons,JK]at hlt; omega
  have hk:(List.length (vz (p.length:Int)++r.take (10 - (vz (p.length:Int)).length)):Int) - (List.length (r.take (10 - (vz (p.length:Int)).length)):Int)=((vz (p.length:Int)).length:Int):=by
   rw[List.length_append]; omega
  rw[Jdw,Jds (Qhx (by omega))]
  dsimp only
  rw[if_neg (by simp),if_neg (by simp),if_neg (by simp; omega),hk,E9 (n:=((vz (p.length:Int)).length:Int)) (by omega) (by omega),List.length_append,E9 (n:=4+(p.length:Int)) (by omega) (by omega),E9 (by omega) (by omega)]
  rw[if_pos (by simp; omega)]
  exact⟨0,0,2,rfl,by decide⟩
theorem Jmn{N:Nat}{x0 a p t:List Int}(h:x0=a++(p++t))(hl:x0.length≤100000):Nn N x0 (a.length:Int) ((a.length+p.length:Nat):Int)=some p:=by
 have hlen:x0.length=a.length+p.length+t.length:=by rw[h]; simp; omega
 unfold Nn
 have e0:IntKind.wrap .i64 (((a.length+p.length:Nat):Int) - (a.length:Int))=(p.length:Int):=by rw[E9 (by omega) (by omega)]; omega
 have e1:mkL 1 (p.length:Int) (p.length:Int) (0:Int)=some (List.replicate p.length 0):=by
  unfold mkL
  rw[if_pos (by omega)]
  simp
 have e2:slc x0 (a.length:Int) ((a.length+p.length:Nat):Int)=some p:=by
  unfold slc
  rw[if_pos (by omega)]
  have:(((a.length+p.length:Nat):Int) - (a.length:Int)).toNat=p.length:=by omega
  rw[this,JJ,h,List.drop_left,List.take_left]
 have e3:chk (decide (((a.length+p.length:Nat):Int)≤((a.length+p.length:Nat):Int))&&decide (((a.length+p.length:Nat):Int)≤(List.length x0:Int)))=some ():=by
  have:(decide (((a.length+p.length:Nat):Int)≤((a.length+p.length:Nat):Int))&&decide (((a.length+p.length:Nat):Int)≤(List.length x0:Int)))=true:=by
   simp only[QQ,decide_eq_true_eq]
   exact⟨JB _,by omega⟩
  rw[this]; rfl
 have e4:Ww (List.replicate p.length (0:Int)) p=p:=by
  unfold Ww
  have:Nat.min p.length (List.replicate p.length (0:Int)).length=p.length:=by simp
  rw[this,List.take_of_length_le (QG _)]; simp
 rw[e0,e1,QJ,e3,QJ,e2,QJ,e4]
theorem Jdx{N:Nat}(hN:20000≤N){x0:List Int}(hx:x0.length≤10000):∀(l:List (List Int)) (q a:List Int) (acc:List (List Int)) (f:Nat),Qus l→Qmr q→x0=a++(cat l++q)→acc.length+l.length≤1000→l.length<f →
  Qh (B5 N x0) f ((a.length:Int),acc)=some ((((a++cat l).length:Nat):Int),acc++l)
 | [],q,a,acc,f,hl,hq,h,ha,hf=>by
  obtain⟨f,rfl⟩:∃g,f=g+1:=⟨f - 1,by simp at hf; omega⟩
  have h':x0=a++q:=by rw[h]; simp[cat]
  have hs:slc x0 (a.length:Int) (List.length x0:Int)=some q:=by
   unfold slc
   rw[if_pos (by rw[h']; simp only[List.length_append]; omega),JJ,h',List.drop_left,List.take_of_length_le (by simp only[List.length_append]; omega)]
  simp only[Qh,B5]
  by_cases h0:(a.length:Int)<(List.length x0:Int)
  ·rw[if_pos (by simpa using h0),hs,QJ]
   obtain⟨c,d,e,h1,h2⟩:=Q54 hN hq
   rw[h1,QJ]
   dsimp only
   rw[if_pos (by simpa using h2)]
   simp[cat]
  ·rw[if_neg (by simpa using h0)]
   simp[cat]
 | p::l,q,a,acc,f,hl,hq,h,ha,hf=>by
  obtain⟨f,rfl⟩:∃g,f=g+1:=⟨f - 1,by simp at hf; omega⟩
  have hp:=hl p (.head _)
  have hl':Qus l:=fun x hx=>hl x (.tail _ hx)
  have h':x0=a++(frm p++(cat l++q)):=by rw[h,Hx,List.append_assoc]
  have hlen:x0.length=a.length+(frm p).length+(cat l++q).length:=by rw[h']; simp only[List.length_append]; omega
  have hs:slc x0 (a.length:Int) (List.length x0:Int)=some (frm p++(cat l++q)):=by
   unfold slc
   rw[if_pos (by omega),JJ,h',List.drop_left,List.take_of_length_le (by simp only[List.length_append]; omega)]
  have hpos:=(Qmq p).2
  have hv:=Vo (p.length:Int)
  have hfl:(frm p).length=(vz (p.length:Int)).length+4+p.length:=by simp[frm,s4]; omega
  simp only[Qh,B5]
  rw[if_pos (by simp; omega),hs,QJ,Jag hN hp.1 (Ud (Jxj hl') (Jmh hq)) hp.2 (by rw[List.length_append]; omega),QJ]
  dsimp only
  rw[if_neg (by simp),E9 (n:=(a.length:Int)+(((vz (p.length:Int)).length+4:Nat):Int)) (by omega) (by omega),E9 (n:=(a.length:Int)+((frm p).length:Int)) (by omega) (by omega)]
  have e1:(a.length:Int)+(((vz (p.length:Int)).length+4:Nat):Int)=((a++(vz (p.length:Int)++s4 (Qao p))).length:Int):=by simp[s4]
  have e2:(a.length:Int)+((frm p).length:Int)=(((a++(vz (p.length:Int)++s4 (Qao p))).length+p.length:Nat):Int):=by rw[hfl]; simp[s4]; omega
  have e3:(((a++(vz (p.length:Int)++s4 (Qao p))).length+p.length:Nat):Int)=((a++frm p).length:Int):=by simp[frm,s4]; omega
  rw[e1,e2,Jmn (t:=cat l++q) (by rw[h']; unfold frm; simp) (by omega),QJ]
  have e4:app 24 acc ([p]:List (List Int))=some (acc++[p]):=by
   unfold app
   simp only[List.length_cons]at ha
   rw[if_pos (by simp; omega)]
  rw[e4,QJ,QJ]
  dsimp only
  rw[e3]
  have:=Jdx hN hx l q (a++frm p) (acc++[p]) f hl' hq (by rw[h']; simp) (by simp at ha ⊢; omega) (by simp at hf; omega)
  rw[this]
  simp[Hx]
theorem Jxm{N:Nat}(hN:20000≤N){l:List (List Int)}{q:List Int}(hl:Qus l)(hq:Qmr q)(hn:l.length≤40):Qhw N (cat l++q)=some (((cat l).length:Int),l):=by
 have h1:=Qmu hl
 have h2:=Qmt hq
 unfold Qhw
 have:=Jdx hN (x0:=cat l++q) (by simp only[List.length_append]; omega) l q [] [] N hl hq rfl (by simp; omega) (by omega)
 rw[show Qh (B5 N (cat l++q)) N (0,([]:List (List Int)))=_ from this,QJ]
 simp
theorem Jmo(a b:Nat):((max a b:Nat):Int)=max (a:Int) (b:Int):=by omega
def W{α:Type}(o:Option α)(R:α→Prop):Prop:=∃r,o=some r∧R r
class WP{α:Type}(o:Option α)(T:outParam ((α→Prop)→Prop)):Prop where
 spec:∀R,T R→W o R
class WPf{α β:Type}(f:α→Option β)(T:outParam (α→(β→Prop)→Prop)):Prop where
 spec:∀a R,T a R→W (f a) R
theorem wp{α:Type}{o:Option α}{T:(α→Prop)→Prop}[h:WP o T]{R:α→Prop}(k:T R):W o R:=h.spec R k
theorem W.mono{α:Type}{o:Option α}{R S:α→Prop}(h:W o R)(k:∀r,R r→S r):W o S:=let⟨r,e,hr⟩:=h; ⟨r,e,k r hr⟩
theorem Qhb{α:Type}{o:Option α}{P:Prop}{Q:α→Prop}(h:P→W o Q):WP o (fun R=>P∧∀r,Q r→R r):=⟨fun R k=>(h k.1).mono k.2⟩
instance wpSome {α:Type} (a:α):WP (some a) (fun R=>R a):=⟨fun R h=>⟨a,rfl,h⟩⟩
instance wpNone {α:Type}:WP (none:Option α) (fun _=>False):=⟨fun _ h=>h.elim⟩
instance wpIte {α:Type} {c:Prop} [Decidable c] {a b:Option α} {A B:(α→Prop)→Prop} [ha:WP a A] [hb:WP b B]:WP (if c then a else b) (fun R=>(c→A R)∧(¬ c→B R)):=⟨fun R h=>by
 split
 ·rename_i hc; exact ha.spec R (h.1 hc)
 ·rename_i hc; exact hb.spec R (h.2 hc)⟩
instance wpBind {α β:Type} {o:Option α} {f:α→Option β} {A:(α→Prop)→Prop} {B:α→(β→Prop)→Prop} [ha:WP o A] [hb:WPf f B]:WP (o.bind f) (fun R=>A fun r=>B r R):=⟨fun R h=>by
 obtain⟨r,e,hr⟩:=ha.spec _ h
 rw[e]; exact hb.spec r R hr⟩
instance (priority:=1100) wpAnd {β:Type} {c:Prop} [Decidable c] {a:Option Bool} {f:Bool→Option β} {A:(Bool→Prop)→Prop} {B C:(β→Prop)→Prop} [ha:WP a A] [hb:WP (f true) B] [hc:WP (f false) C] :
  WP ((if c then a else some false).bind f) (fun R=>(c→A fun b=>b=true→B R)∧(c→A fun _=>True)∧C R):=⟨fun R h=>by
 by_cases h0:c
 ·rw[if_pos h0]
  obtain⟨r,e,hr⟩:=ha.spec _ (h.1 h0)
  rw[e]
  cases r with
  | true=>exact hb.spec R (hr rfl)
  | false=>exact hc.spec R h.2.2
 ·rw[if_neg h0]; exact hc.spec R h.2.2⟩
instance (priority:=1100) wpOr {β:Type} {c:Prop} [Decidable c] {a:Option Bool} {f:Bool→Option β} {A:(Bool→Prop)→Prop} {B C:(β→Prop)→Prop} [ha:WP a A] [hb:WP (f true) B] [hc:WP (f false) C] :
  WP ((if c then some true else a).bind f) (fun R=>(¬ c→A fun b=>b=false→C R)∧(¬ c→A fun _=>True)∧B R):=⟨fun R h=>by
 by_cases h0:c
 ·rw[if_pos h0]; exact hb.spec R h.2.2
 ·rw[if_neg h0]
  obtain⟨r,e,hr⟩:=ha.spec _ (h.1 h0)
  rw[e]
  cases r with
  | true=>exact hb.spec R h.2.2
  | false=>exact hc.spec R (hr rfl)⟩
instance (priority:=1200) wpBindT {α β:Type} {a b:Option α} {f:α→Option β} {A:(β→Prop)→Prop} [ha:WP (a.bind f) A]:WP ((if true=true then a else b).bind f) A:=⟨fun R h=>by rw [if_pos rfl]; exact ha.spec R h⟩
instance (priority:=1200) wpBindF {α β:Type} {a b:Option α} {f:α→Option β} {A:(β→Prop)→Prop} [ha:WP (b.bind f) A]:WP ((if false=true then a else b).bind f) A:=⟨fun R h=>by rw [if_neg (by decide)]; exact ha.spec R h⟩
instance (priority:=1200) wpIteT {α:Type} {a b:Option α} {A:(α→Prop)→Prop} [ha:WP a A]:WP (if true=true then a else b) A:=⟨fun R h=>by rw [if_pos rfl]; exact ha.spec R h⟩
instance (priority:=1200) wpIteF {α:Type} {a b:Option α} {A:(α→Prop)→Prop} [ha:WP b A]:WP (if false=true then a else b) A:=⟨fun R h=>by rw [if_neg (by decide)]; exact ha.spec R h⟩
instance (priority:=1000) wpfVar {α β:Type} {f:α→Option β} {T:α→(β→Prop)→Prop} [h:∀a,WP (f a) (T a)]:WPf f T:=⟨fun a R k=>(h a).spec R k⟩
instance (priority:=900) wpfSum {α β γ:Type} {f:α⊕β→Option γ} {A:α→(γ→Prop)→Prop} {B:β→(γ→Prop)→Prop} [ha:WPf (fun a=>f (.inl a)) A] [hb:WPf (fun b=>f (.inr b)) B] :
  WPf f (fun s R=>(∀a,s=.inl a→A a R)∧(∀b,s=.inr b→B b R)):=⟨fun s R k=>by
 cases s with
 | inl a=>exact ha.spec a R (k.1 a rfl)
 | inr b=>exact hb.spec b R (k.2 b rfl)⟩
instance (priority:=850) wpfPairSum {α β γ δ:Type} {f:(α⊕β)×γ→Option δ} {A:α→γ→(δ→Prop)→Prop} {B:β→γ→(δ→Prop)→Prop} [ha:∀a,WPf (fun c=>f (.inl a,c)) (A a)] [hb:∀b,WPf (fun c=>f (.inr b,c)) (B b)] :
  WPf f (fun p R=>(∀a,p.1=.inl a→A a p.2 R)∧(∀b,p.1=.inr b→B b p.2 R)):=⟨fun p R k=>by
 obtain⟨s,c⟩:=p
 cases s with
 | inl a=>exact(ha a).spec c R (k.1 a rfl)
 | inr b=>exact(hb b).spec c R (k.2 b rfl)⟩
instance (priority:=800) wpfPair {α β γ:Type} {f:α×β→Option γ} {A:α→β→(γ→Prop)→Prop} [h:∀a,WPf (fun b=>f (a,b)) (A a)]:WPf f (fun p R=>A p.1 p.2 R):=⟨fun p R k=>(h p.1).spec p.2 R k⟩
class Sz(α:Type) where
 sz:α→Nat
open Sz
instance:Sz Int:=⟨fun _=>0⟩
instance:Sz Bool:=⟨fun _=>0⟩
instance:Sz Unit:=⟨fun _=>0⟩
instance {α β:Type} [Sz α] [Sz β]:Sz (α×β):=⟨fun p=>max (sz p.1) (sz p.2)⟩
instance {α β:Type} [Sz α] [Sz β]:Sz (α⊕β):=⟨fun p=>match p with | .inl a=>sz a | .inr b=>sz b⟩
def szL{α:Type}[Sz α]:List α→Nat
 | []=>0
 | x::l=>max (sz x) (szL l)
instance {α:Type} [Sz α]:Sz (List α):=⟨fun l=>max l.length (szL l)⟩
instance (priority:=2000) szStr:Sz (List UInt8):=⟨fun _=>0⟩
mutual
def rsz{α:Type}:K1 α→Nat
 | .mk _ ks=>max ks.length (Jgw ks)
def Jgw{α:Type}:List (K1 α)→Nat
 | []=>0
 | x::l=>max (rsz x) (Jgw l)
end
instance {α:Type}:Sz (K1 α):=⟨rsz⟩
theorem Jmp(x:Int):sz x=0:=rfl
section
variable {α β:Type} [Sz α] [Sz β]
theorem Qrh(p:α×β):sz p=max (sz p.1) (sz p.2):=rfl
theorem Un{l:List α}:l.length≤sz l:=Nat.le_max_left _ _
theorem Jvg{l:List α}:szL l≤sz l:=Nat.le_max_right _ _
theorem Jdy:∀{l:List α} {x:α},x∈l→sz x≤szL l
 | y::l,x,h=>by
  rcases QX.1 h with rfl | h
  ·exact Nat.le_max_left _ _
  ·exact QY (Jdy h) (Nat.le_max_right _ _)
theorem Jmq{l:List α}{x:α}(h:x∈l):sz x≤sz l:=QY (Jdy h) Jvg
theorem Q03{K:Nat}:∀{l:List α},(∀x∈l,sz x≤K)→szL l≤K
 | [],_=>QO _
 | x::l,h=>ZW.2 ⟨h x (.head _),Q03 fun y hy=>h y (.tail _ hy)⟩
theorem Q55{K:Nat}{l:List α}(hl:l.length≤K)(h:∀x∈l,sz x≤K):sz l≤K:=ZW.2 ⟨hl,Q03 h⟩
theorem Jmr{l m:List α}(hl:l.length≤m.length)(h:∀x∈l,x∈m):sz l≤sz m:=Q55 (QY hl Un) fun x hx=>Jmq (h x hx)
theorem Jvh:sz ([]:List α)=0:=rfl
theorem Quw:∀l m:List α,szL (l++m)=max (szL l) (szL m)
 | [],m=>by simp[szL]
 | x::l,m=>by simp only[QF,szL,Quw l m]; omega
theorem Jgx(l m:List α):sz (l++m)=max (l.length+m.length) (max (sz l) (sz m)):=by
 show max (l++m).length (szL (l++m))=max _ (max (max l.length (szL l)) (max m.length (szL m)))
 rw[List.length_append,Quw]; omega
theorem Qdu(x:α)(l:List α):sz (x::l)=max (l.length+1) (max (sz x) (sz l)):=by
 show max (l.length+1) (max (sz x) (szL l))=max _ (max _ (max l.length (szL l)))
 omega
theorem Jdz:∀(l:List α) (i:Nat) (x:α),szL (l.set i x)≤max (szL l) (sz x)
 | [],i,x=>QO _
 | y::l,0,x=>by simp only[List.set_cons_zero,szL]; omega
 | y::l,i+1,x=>by
  have:=Jdz l i x
  simp only[List.set_cons_succ,szL]; omega
theorem Qdv(l:List α)(i:Nat)(x:α):sz (l.set i x)≤max (sz l) (sz x):=by
 have h1:=Jdz l i x
 show max (l.set i x).length (szL (l.set i x))≤max (max l.length (szL l)) (sz x)
 rw[List.length_set]; omega
theorem Jms{α:Type}{e:K1 α}:sz e.ks≤sz e:=by
 have:∀l:List (K1 α),szL l=Jgw l:=fun l=>by
  induction l with
  | nil=>rfl
  | cons x l ih=>simp only[szL,Jgw,ih]; rfl
 cases e with
 | mk x ks =>
  show max ks.length (szL ks)≤rsz (.mk x ks)
  rw[this]; simp only[rsz]; exact QG _
end
class Qhc(α:Type)[Sz α]:Prop where
 flat:∀x:α,sz x=0
instance:Qhc Int:=⟨fun _=>rfl⟩
instance:Qhc Bool:=⟨fun _=>rfl⟩
instance (priority:=2000):Qhc (List UInt8):=⟨fun _=>rfl⟩
instance {α β:Type} [Sz α] [Sz β] [ha:Qhc α] [hb:Qhc β]:Qhc (α×β):=⟨fun x=>by rw [Qrh,ha.flat,hb.flat]; rfl⟩
theorem Qmv{α:Type}[Sz α][h:Qhc α](l:List α):sz l=l.length:=by
 have:szL l≤0:=Q03 fun x _=>Nat.le_of_eq (h.flat x)
 show max l.length (szL l)=l.length
 omega
structure Qjd{α:Type}(P:α→Prop)(l:List α)(v:Int):Prop where
 at_:∀j:Nat,(j:Int)<v→∀a,l[j]?=some a→P a
theorem Ai{α:Type}{P:α→Prop}{l:List α}:Qjd P l 0:=⟨fun j h=>by omega⟩
theorem Qkq{α:Type}{P:α→Prop}{l:List α}{v:Int}{x:α}(h0:0≤v)(h:Qjd P l v)(hx:l[v.toNat]?=some x)(px:P x):Qjd P l (v+1):=⟨fun j hj a ha=>by
 by_cases hjv:(j:Int)<v
 ·exact h.at_ j hjv a ha
 ·have:j=v.toNat:=by omega
  subst this; rw[hx]at ha; exact Option.some.inj ha▸px⟩
theorem Qor{α:Type}{P:α→Prop}{l:List α}{v:Int}(h:Qjd P l v)(hl:l.length≤v):∀a∈l,P a:=fun a ha=>by
 obtain⟨i,hi,e⟩:=List.getElem_of_mem ha
 exact h.at_ i (by omega) a (by rw[List.getElem?_eq_getElem hi,e])
theorem Q04{α:Type}[Sz α]{B:Int}{l:List α}(h:∀y∈l,(sz y:Int)≤B)(h0:0≤B):(szL l:Int)≤B:=by
 have:=Q03 (K:=B.toNat) fun x hx=>by have:=h x hx; omega
 omega
theorem Rg{α:Type}[Sz α](l:List α):sz l=max l.length (szL l):=rfl
class Sh(α:Type) where
 sh:α→Prop
open Sh
instance:Sh Int:=⟨fun _=>True⟩
instance:Sh Bool:=⟨fun _=>True⟩
instance:Sh Unit:=⟨fun _=>True⟩
instance {α β:Type} [Sh α] [Sh β]:Sh (α×β):=⟨fun p=>sh p.1∧sh p.2⟩
instance {α β:Type} [Sh α] [Sh β]:Sh (α⊕β):=⟨fun p=>match p with | .inl a=>sh a | .inr b=>sh b⟩
structure ShL{α:Type}[Sh α](l:List α):Prop where
 all:∀x∈l,sh x
instance {α:Type} [Sh α]:Sh (List α):=⟨ShL⟩
instance (priority:=2000) shStr:Sh (List UInt8):=⟨fun s=>s.length≤9223372036854775807⟩
instance {α:Type}:Sh (K1 α):=⟨fun _=>True⟩
theorem Jmt{α:Type}[Sh α]{l:List α}{x:α}(h:x∈l)(hl:sh l):sh x:=hl.all x h
theorem Qhd{x:List UInt8}(h:sh x):x.length≤9223372036854775807:=h
theorem Jgy{α:Type}[Sh α](l m:List α):sh (l++m)=(sh l∧sh m):=propext ⟨fun h=>⟨⟨fun x hx=>h.all x (List.mem_append_left _ hx)⟩,⟨fun x hx=>h.all x (List.mem_append_right _ hx)⟩⟩,fun h=>⟨fun x hx=>(QZ.1 hx).elim (h.1.all x) (h.2.all x)⟩⟩
theorem Jqd{α:Type}[Sh α](x:α)(l:List α):sh (x::l)=(sh x∧sh l):=propext ⟨fun h=>⟨h.all x (.head _),⟨fun y hy=>h.all y (.tail _ hy)⟩⟩,fun h=>⟨fun y hy=>(QX.1 hy).elim (fun e=>e▸h.1) (h.2.all y)⟩⟩
theorem Qkr{α:Type}[Sh α]{l:List α}{i:Nat}{x:α}(hl:sh l)(hx:sh x):sh (l.set i x):=⟨fun y hy=>(ZH hy).elim (hl.all y) (fun e=>e▸hx)⟩
theorem Qdw{α:Type}[Sz α]{K:Int}{l:List α}{i:Nat}{x:α}(h1:(sz l:Int)≤K)(h2:(sz x:Int)≤K):((sz (l.set i x):Nat):Int)≤K:=by
 have:=Qdv l i x
 omega
theorem Qhy{α:Type}[Sz α]{K:Nat}{l:List α}{i:Nat}{x:α}(h1:sz l≤K)(h2:sz x≤K):sz (l.set i x)≤K:=by
 have:=Qdv l i x
 omega
section
variable {V:Type} [Sz V]
theorem Ii(key:Int)(v:V):∀m:List (Int×V),sz (Jd (k:=.int .i64) key v m:List (Int×V))≤max (sz m+1) (sz v)
 | []=>by
  show sz [((key,v):Int×V)]≤_
  rw[Qdu,Qrh]; simp only[Jmp,Jvh,JK]; omega
 | x::m=>by
  have ih:=Ii key v m
  unfold Jd
  cases h:eqK (.int .i64) key x.1 with
  | true =>
   show sz ((key,v)::m:List (Int×V))≤_
   rw[Qdu,Qdu,Qrh]; simp only[Jmp]; omega
  | false =>
   show sz (x::(Jd (k:=.int .i64) key v m:List (Int×V)))≤_
   rw[Qdu,Qdu]
   have:=Un (l:=(Jd (k:=.int .i64) key v m:List (Int×V)))
   have h2:(Jd (k:=.int .i64) key v m:List (Int×V)).length≤m.length+1:=by
    clear ih h this
    induction m with
    | nil=>exact QG _
    | cons y m ih =>
     unfold Jd
     cases eqK (.int .i64) key y.1 with
     | true=>exact ZB _
     | false=>exact XV ih
   omega
theorem Fa{W:Type}(key:Int)(v:W):∀m:List (Int×W),(Jd (k:=.int .i64) key v m).length≤m.length+1
 | []=>QG _
 | x::m=>by
  have ih:=Fa key v m
  unfold Jd
  cases eqK (.int .i64) key x.1 with
  | true=>exact ZB _
  | false=>exact XV ih
theorem Lu{W:Type}(key:Str)(v:W):∀m:List (Str×W),(Jd (k:=.str) key v m).length≤m.length+1
 | []=>QG _
 | x::m=>by
  have ih:=Lu key v m
  unfold Jd
  cases eqK .str key x.1 with
  | true=>exact ZB _
  | false=>exact XV ih
theorem Lv{W:Type}(key:Str):∀m:List (Str×W),(H0 (k:=.str) key m).length≤m.length
 | []=>QG _
 | x::m=>by
  have ih:=Lv key m
  unfold H0
  cases eqK .str key x.1 with
  | true=>exact ZB _
  | false=>exact XV ih
theorem Cd{W:Type}(key:Int):∀m:List (Int×W),(H0 (k:=.int .i64) key m).length≤m.length
 | []=>QG _
 | x::m=>by
  have ih:=Cd key m
  unfold H0
  cases eqK (.int .i64) key x.1 with
  | true=>exact ZB _
  | false=>exact XV ih
theorem Q56{W:Type}{key:Int}{y:Int×W}:∀{m:List (Int×W)},y∈(H0 (k:=.int .i64) key m:List (Int×W))→y∈m
 | x::m,h=>by
  unfold H0 at h
  cases hk:eqK (.int .i64) key x.1 with
  | true=>rw[hk]at h; exact .tail _ h
  | false =>
   rw[hk]at h
   rcases QX.1 h with h | h
   ·exact h▸.head _
   ·exact .tail _ (Q56 h)
theorem Qdx(key:Int)(m:List (Int×V)):sz (H0 (k:=.int .i64) key m:List (Int×V))≤sz m:=Jmr (Cd key m) fun _ h=>Q56 h
theorem Ce(key:Int)(d:V):∀m:List (Int×V),sz ((Qk (k:=.int .i64) key m).getD d)≤max (sz m) (sz d)
 | []=>Nat.le_max_right _ _
 | x::m=>by
  have ih:=Ce key d m
  unfold Qk
  rw[Qdu,Qrh]
  cases eqK (.int .i64) key x.1 with
  | true=>show sz x.2≤_; omega
  | false=>show sz ((Qk (k:=.int .i64) key m).getD d)≤_; omega
end
theorem Qb8(x:Int):eqK (.int .i64) x x=true:=by simp[eqK]
theorem Qje(x:Str):eqK .str x x=true:=by simp[eqK]
class Cf(N:Nat):Prop where
 le:18446744073709551616≤N
section
variable {α β σ τ:Type}
instance wpIdx [Sz α] [Sh α] {l:List α} {i:Int}:WP (idx l i) (fun R=>(0≤i∧i<l.length)∧∀x,x∈l→sz x≤sz l→(Sh.sh l→Sh.sh x)→l[i.toNat]?=some x→R x):=⟨fun R h=>by
 obtain⟨⟨h0,h1⟩,hR⟩:=h
 have hi:i.toNat<l.length:=by omega
 have hm:l[i.toNat]∈l:=List.getElem_mem hi
 refine⟨l[i.toNat],?_,hR _ hm (Jmq hm) (Jmt hm) (List.getElem?_eq_getElem hi)⟩
 unfold idx
 rw[if_pos h0,List.getElem?_eq_getElem hi]⟩
instance wpSidx {s:Str} {i:Int}:WP (A5 s i) (fun R=>(0≤i∧i<s.length)∧∀x,0≤x→x<256→R x):=⟨fun R h=>by
 obtain⟨⟨h0,h1⟩,hR⟩:=h
 have hi:i.toNat<s.length:=by omega
 refine⟨((s[i.toNat]).toNat:Int),?_,hR _ (by omega) (by have:=UInt8.toNat_lt s[i.toNat]; omega)⟩
 unfold A5 idx
 rw[if_pos h0,List.getElem?_eq_getElem hi]; rfl⟩
instance wpSlc [Sz α] [Sh α] {l:List α} {a b:Int}:WP (slc l a b) (fun R=>(0≤a∧a≤b∧b≤l.length)∧∀s,(s.length:Int)=b - a→(∀x∈s,x∈l)→sz s≤sz l→(Sh.sh l→Sh.sh s)→R s):=⟨fun R h=>by
 obtain⟨⟨h0,h1,h2⟩,hR⟩:=h
 have hlen:(((l.drop a.toNat).take (b - a).toNat).length:Int)=b - a:=by rw[List.length_take,List.length_drop]; omega
 have hm:∀x∈(l.drop a.toNat).take (b - a).toNat,x∈l:=fun x hx=>KX (JA hx)
 refine⟨(l.drop a.toNat).take (b - a).toNat,?_,hR _ hlen hm (Jmr (by rw[List.length_take,List.length_drop]; omega) hm) (fun h=>⟨fun x hx=>h.all x (hm x hx)⟩)⟩
 unfold slc
 rw[if_pos ⟨h0,h1,h2⟩]⟩
instance wpApp {b:Nat} {l m:List α}:WP (app b l m) (fun R=>(l.length+m.length)*b≤140737488355328∧R (l++m)):=⟨fun R h=>⟨l++m,by unfold app; rw [if_pos h.1],h.2⟩⟩
instance wpMkL {b:Nat} {l c:Int} {z:α}:WP (mkL b l c z) (fun R=>(0≤l∧l≤c∧(b:Int)*c≤281474976710656)∧R (List.replicate l.toNat z)):=⟨fun R h=>⟨_,by unfold mkL; rw [if_pos h.1],h.2⟩⟩
instance wpQuo {k:IntKind} {x y:Int}:WP (Q87 k x y) (fun R=>y≠0∧R (k.wrap (x.tdiv y))):=⟨fun R h=>⟨_,by unfold Q87; rw [if_neg h.1],h.2⟩⟩
instance wpRem {x y:Int}:WP (Q3b x y) (fun R=>y≠0∧R (x.tmod y)):=⟨fun R h=>⟨_,by unfold Q3b; rw [if_neg h.1],h.2⟩⟩
instance wpShr {k:IntKind} {x y:Int}:WP (Tb k x y) (fun R=>0≤y∧∀r,R r):=⟨fun R h=>⟨_,by unfold Tb; rw [if_neg (by omega)],h.2 _⟩⟩
instance wpShl {k:IntKind} {x y:Int}:WP (Qcc k x y) (fun R=>0≤y∧∀r,R r):=⟨fun R h=>⟨_,by unfold Qcc; rw [if_neg (by omega)],h.2 _⟩⟩
instance wpScat {a b:Str}:WP (Jom a b) (fun R=>a.length+b.length≤9223372036854775807∧R (a++b)):=⟨fun R h=>⟨_,by unfold Jom; rw [if_pos h.1],h.2⟩⟩
instance wpChk {b:Bool}:WP (chk b) (fun R=>b=true∧R ()):=⟨fun R h=>⟨(),by rw [h.1]; rfl,h.2⟩⟩
theorem Jvi{f:σ→α→Option σ}{es:List α}(I:Int→σ→Prop)(step:∀(n:Int) s e,e∈es→0≤n→n<es.length→I n s→W (f s e) (I (n+1))){s:σ}:WP (Qpi f es s) (fun R=>I 0 s∧∀r,I es.length r→R r):=Qhb fun h=>by
 have main:∀(l:List α) (n:Int) (s:σ),(∀e∈l,e∈es)→0≤n→n+l.length=es.length→I n s→W (Qpi f l s) (I es.length):=by
  intro l
  induction l with
  | nil=>intro n s hm h0 hn hI; exact⟨s,rfl,by rw[←hn]; simpa using hI⟩
  | cons x l ih =>
   intro n s hm h0 hn hI
   simp only[List.length_cons]at hn
   obtain⟨s1,e1,h1⟩:=step n s x (hm x (.head _)) h0 (by omega) hI
   show W ((f s x).bind fun s'=>Qpi f l s') _
   rw[e1]
   exact ih (n+1) s1 (fun e he=>hm e (.tail _ he)) (by omega) (by omega) h1
 exact main es 0 s (fun _ h=>h) (JB _) (by simp) h
theorem Jah{f:σ→Option (σ⊕τ)}{N:Nat}[hN:Cf N](μ:σ→Nat)(I:σ→Prop)(Q:τ→Prop)(hμ:∀s,I s→μ s<18446744073709551616)
  (step:∀s,I s→W (f s) fun r=>match r with | .inl s'=>I s'∧μ s'<μ s | .inr t=>Q t) (s:σ):WP (Qh f N s) (fun R=>I s∧∀r,Q r→R r):=Qhb fun h=>by
 have main:∀(k n:Nat) (s:σ),I s→μ s≤k→k<n→W (Qh f n s) Q:=by
  intro k
  induction k with
  | zero =>
   intro n s hI hk hn
   obtain⟨m,rfl⟩:∃m,n=m+1:=⟨n - 1,by omega⟩
   obtain⟨r,e,hr⟩:=step s hI
   cases r with
   | inl s'=>exact absurd hr.2 (by omega)
   | inr t=>exact⟨t,by simp[Qh,e],hr⟩
  | succ k ih =>
   intro n s hI hk hn
   obtain⟨m,rfl⟩:∃m,n=m+1:=⟨n - 1,by omega⟩
   obtain⟨r,e,hr⟩:=step s hI
   cases r with
   | inl s' =>
    obtain⟨t,e2,ht⟩:=ih m s' hr.1 (by have:=hr.2; omega) (by omega)
    exact⟨t,by simp[Qh,e,e2],ht⟩
   | inr t=>exact⟨t,by simp[Qh,e],hr⟩
 exact main (μ s) N s h (QG _) (QC (hμ s h) hN.le)
theorem ss:(∀(p:Prop) [Decidable p],(decide p=true)=p)∧(∀(p:Prop) [Decidable p],(decide p=false)=¬ p)∧(∀b:Bool,(¬ b=true)=(b=false))∧(∀a b:Bool,((a&&b)=true)=(a=true∧b=true))∧(∀a b:Bool,((a||b)=true)=(a=true∨b=true)) ∧
  (∀b:Bool,((!b)=true)=(b=false))∧(∀b:Bool,((!b)=false)=(b=true))∧(∀a b:Bool,((a&&b)=false)=(a=true→b=false))∧(∀a b:Bool,((a||b)=false)=(a=false∧b=false)) ∧
  (∀a b:Int,((a==b)=true)=(a=b))∧(∀a b:Int,((a==b)=false)=¬ a=b)∧(∀a b:Int,((a != b)=true)=¬ a=b)∧(∀a b:Int,((a != b)=false)=(a=b))∧(∀p q:Prop,(¬ (p∧q))=(p→¬ q))∧(∀p q:Prop,(¬ (p∨q))=(¬ p∧¬ q)):=by
 refine⟨?_,?_,?_,?_,?_,?_,?_,?_,?_,?_,?_,?_,?_,?_,?_⟩
 all_goals intros
 all_goals simp
theorem sz1:(∀(α β:Type) [Sz α] [Sz β] (p:α×β),sz p=max (sz p.1) (sz p.2))∧(∀x:Int,sz x=0)∧(∀x:Bool,sz x=0)∧(∀x:Unit,sz x=0)∧(∀x:List UInt8,sz x=0)∧(∀(α β:Type) [Sz α] [Sz β] (a:α),sz (Sum.inl a:α⊕β)=sz a) ∧
  (∀(α β:Type) [Sz α] [Sz β] (b:β),sz (Sum.inr b:α⊕β)=sz b)∧(∀(α:Type) [Sz α] [Qhc α] (l:List α),sz l=l.length) ∧
  (∀(α:Type) [Sz α] (l m:List α),sz (l++m)=max (l.length+m.length) (max (sz l) (sz m)))∧(∀(α:Type) [Sz α] (x:α) (l:List α),sz (x::l)=max (l.length+1) (max (sz x) (sz l)))∧(∀(α:Type) [Sz α],sz ([]:List α)=0) :=
 ⟨fun _ _ _ _ _=>rfl,fun _=>rfl,fun _=>rfl,fun _=>rfl,fun _=>rfl,fun _ _ _ _ _=>rfl,fun _ _ _ _ _=>rfl,fun _ _ _ l=>Qmv l,fun _ _=>Jgx,fun _ _=>Qdu,fun _ _=>rfl⟩
theorem sh1:(∀(α β:Type) [Sh α] [Sh β] (p:α×β),Sh.sh p=(Sh.sh p.1∧Sh.sh p.2))∧(∀x:Int,Sh.sh x=True)∧(∀x:Bool,Sh.sh x=True)∧(∀x:Unit,Sh.sh x=True)∧(∀(α:Type) (x:K1 α),Sh.sh x=True)∧(∀(α β:Type) [Sh α] [Sh β] (a:α),Sh.sh (Sum.inl a:α⊕β)=Sh.sh a) ∧
  (∀(α β:Type) [Sh α] [Sh β] (b:β),Sh.sh (Sum.inr b:α⊕β)=Sh.sh b)∧(∀(α:Type) [Sh α] (l m:List α),Sh.sh (l++m)=(Sh.sh l∧Sh.sh m))∧(∀(α:Type) [Sh α] (x:α) (l:List α),Sh.sh (x::l)=(Sh.sh x∧Sh.sh l))∧(∀(α:Type) [Sh α],Sh.sh ([]:List α)=True)∧Sh.sh ([]:List UInt8)=True :=
 ⟨fun _ _ _ _ _=>rfl,fun _=>rfl,fun _=>rfl,fun _=>rfl,fun _ _=>rfl,fun _ _ _ _ _=>rfl,fun _ _ _ _ _=>rfl,fun _ _=>Jgy,fun _ _=>Jqd,fun _ _=>propext ⟨fun _=>trivial,fun _=>⟨fun _ h=>by cases h⟩⟩,propext ⟨fun _=>trivial,fun _=>by show([]:List UInt8).length≤_; decide⟩⟩
theorem mx1:(∀n:Nat,max 0 n=n)∧(∀n:Nat,max n 0=n)∧(∀a b c:Nat,(max a b≤c)=(a≤c∧b≤c))∧(∀a b:Nat,((max a b:Nat):Int)=max (a:Int) (b:Int))∧(∀a b c:Int,(max a b≤c)=(a≤c∧b≤c)) :=
 ⟨KH,ZM,fun _ _ _=>propext ZW,Jmo,fun _ _ _=>propext Int.max_le⟩
theorem sS:(((∀(α β:Type) (p:α⊕β→Prop),(∀x,p x)=((∀a,p (.inl a))∧∀b,p (.inr b)))∧(∀(α β:Type) (a b:α),((Sum.inl a:α⊕β)=.inl b)=(a=b))∧(∀(α β:Type) (a b:β),((Sum.inr a:α⊕β)=.inr b)=(a=b))∧(∀(α:Type) (p:α→Prop) (a:α),(∀b,a=b→p b)=p a)∧(∀(α:Type) (p:α→Prop) (a:α),(∀b,b=a→p b)=p a)) ∧
  (∀p:Prop,(False→p)=True)∧(∀α:Type,(α→True)=True)∧(∀p:Prop,(p→True)=True)∧(∀p:Prop,(True→p)=p)∧(∀p:Prop,(p∧True)=p)∧(∀p:Prop,(True∧p)=p)∧(∀(α:Type) [Nonempty α] (p:Prop),(α→p)=p)∧(∀(α:Type) [BEq α] [LawfulBEq α] (a b:α),((a==b)=true)=(a=b))∧(∀(α:Type) [BEq α] [LawfulBEq α] (a b:α),((a != b)=true)=(a≠b))∧(∀(α:Type) (a b:α),(a≠b)=¬ (a=b)) ∧
  (∀(α:Type) (l m:List α),(l++m).length=l.length+m.length)∧(∀(α:Type) (x:α) (l:List α),(x::l).length=l.length+1)∧(∀(α:Type),([]:List α).length=0)∧(∀(α:Type) (l:List α) (i:Nat) (x:α),(l.set i x).length=l.length)∧(∀(α:Type) (l:List α),[]++l=l)∧∀n:Nat,0+n=n)∧(type_of% ss)∧(type_of% sz1)∧(type_of% sh1)∧type_of% mx1:=by
 refine⟨⟨⟨fun _ _ p=>propext Sum.forall,?_,?_,?_,?_⟩,?_,?_,?_,?_,?_,?_,fun _ _ _=>propext (forall_const _),fun _ _ _ a b=>propext beq_iff_eq,fun _ _ _ a b=>propext bne_iff_ne,?_,?_,?_,?_,?_,?_,?_⟩,ss,sz1,sh1,mx1⟩
 all_goals simp
theorem lv{P:Prop}(h:P:=by first | assumption | omega | exact Ai | ((simp (disch:=omega) only [Q6] at *)<;>omega) | ((first | refine Qdw ?_ ?_ | refine Qhy ?_ ?_)<;>(try simp only [sz1,mx1])<;>first | omega | ((simp (disch:=omega) only [Q6] at *)<;>omega)) | exact QY Un (by omega) | exact Qb8 _ | exact Qje _ | grind [Rg,Qdv,Qkr,Ii,Qdx,Ce,Fa,Lu,Cd,Lv]):P:=h
theorem mkW {o o':Option α} {T:(α→Prop)→Prop} (e:o=o') [hw:WP o' T] (P:Prop) (Q:α→Prop) (k:P→T Q:=by
  intro h
  try simp only[sS,reduceCtorEq]at *
  repeat' (first | intro _ | apply And.intro)
  all_goals first | assumption | omega | exact Ai | ((simp (disch:=omega) only [Q6]at *)<;>omega) | ((first | refine Qdw ?_ ?_ | refine Qhy ?_ ?_)<;>(try simp only[sz1,mx1])<;>first | omega | ((simp (disch:=omega) only [Q6]at *)<;>omega)) | exact QY Un (by omega) | exact Qb8 _ | exact Qje _ | grind [Rg,Qdv,Qkr,Ii,Qdx,Ce,Fa,Lu,Cd,Lv]):WP o (fun R=>P∧∀r,Q r→R r):=Qhb fun h=>by rw[e]; exact hw.spec Q (k h)
theorem Jxn{f:σ→Option (σ⊕τ)}{N:Nat}[hN:Cf N](ix:σ→Int)(len:Nat)(I:σ→Prop)(Q:τ→Prop)(hl:∀s,I s→len≤9223372036854775807)
  (step:∀s,I s→0≤ix s→ix s≤len→(ix s<len→IntKind.wrap .i64 (ix s+1)=ix s+1)→W (f s) fun r=>match r with | .inl s'=>I s'∧ix s<len∧ix s'=IntKind.wrap .i64 (ix s+1) | .inr t=>Q t) (s:σ) :
  WP (Qh f N s) (fun R=>(I s∧0≤ix s∧ix s≤len)∧∀r,Q r→R r) :=
 Jah (fun s=>((len:Int) - ix s).toNat) (fun s=>I s∧0≤ix s∧ix s≤len) Q (fun s h=>by have:=hl s h.1; omega) (fun s h=>by
  have hl':=hl s h.1
  have hw:ix s<len→IntKind.wrap .i64 (ix s+1)=ix s+1:=fun hlt=>by
   exact Q6 (by omega) (by omega)
  refine(step s h.1 h.2.1 h.2.2 hw).mono fun r hr=>?_
  cases r with
  | inl s' =>
   obtain⟨h1,h2,h3⟩:=hr
   rw[hw h2]at h3
   exact⟨⟨h1,by omega,by omega⟩,by omega⟩
  | inr t=>exact hr) s
theorem upL {f f':σ→Option (σ⊕τ)} {B:σ→(σ⊕τ→Prop)→Prop} (e:∀s,f s=f' s) [hf:WPf f' B] {N:Nat} [hN:Cf N] (ix:σ→Int) (len:Nat) (I:σ→Prop) (Q:τ→Prop) (hl:∀s,I s→len≤9223372036854775807:=by
  intro s h
  try simp only[sz1,sh1,mx1]at *
  first | omega | exact QY Un (by omega) | grind [Rg])
  (step:∀s,I s→0≤ix s→ix s≤len→len≤9223372036854775807→(ix s<len→IntKind.wrap .i64 (ix s+1)=ix s+1)→B s (fun r=>match r with | .inl s'=>I s'∧ix s<len∧ix s'=IntKind.wrap .i64 (ix s+1) | .inr t=>Q t):=by
  intro s h h0 h1 h2 hw
  try simp only[sS,reduceCtorEq]at *
  repeat' (first | intro _ | apply And.intro)
  all_goals first | assumption | omega | ((simp (disch:=omega) only [Q6]at *)<;>omega) | ((first | refine Qdw ?_ ?_ | refine Qhy ?_ ?_)<;>(try simp only[sz1,mx1])<;>first | omega | ((simp (disch:=omega) only [Q6]at *)<;>omega)) | exact QY Un (by omega) | exact Qb8 _ | exact Qje _ | grind [Rg,Qdv,Qkr,Ii,Qdx,Ce,Fa,Lu,Cd,Lv]) {s:σ} :
  WP (Qh f N s) (fun R=>(I s∧0≤ix s∧ix s≤len)∧∀r,Q r→R r):=Jxn ix len I Q hl (fun s h h0 h1 hw=>by rw[e s]; exact hf.spec s _ (step s h h0 h1 (hl s h) hw)) s
theorem Qmw {α ε:Type} {f f':Int→Option (Int⊕(Unit⊕ε))} {B:Int→(Int⊕(Unit⊕ε)→Prop)→Prop} (e:∀s,f s=f' s) [hf:WPf f' B] {N:Nat} [hN:Cf N] (l:List α) (I:Prop) (P:α→Prop) (C:Prop) (E:ε→Prop) (hl:I→l.length≤9223372036854775807:=by
  intro h
  try simp only[sz1,sh1,mx1]at *
  first | omega | exact QY Un (by omega) | grind [Rg])
  (fin:I→(∀y∈l,P y)→C:=by
  intro h hall
  first | exact hall | exact Q04 hall (by omega))
  (step:∀s:Int,I→0≤s→s≤l.length→l.length≤9223372036854775807→(s<l.length→IntKind.wrap .i64 (s+1)=s+1)→B s (fun r=>match r with | .inl s'=>(∃x,l[s.toNat]?=some x∧P x)∧s<l.length∧s'=IntKind.wrap .i64 (s+1) | .inr t=>(∀u,t=.inl u→l.length≤s)∧∀u,t=.inr u→E u):=by
  intro s h h0 h1 h2 hw
  try simp only[sS,reduceCtorEq]at *
  repeat' (first | intro _ | apply And.intro)
  all_goals first | assumption | omega | ((simp (disch:=omega) only [Q6]at *)<;>omega) | (refine⟨_,by assumption,?_⟩; first | assumption | omega | ((simp (disch:=omega) only [Q6]at *)<;>omega) | ((first | refine Qdw ?_ ?_ | refine Qhy ?_ ?_)<;>(try simp only[sz1,mx1])<;>first | omega | ((simp (disch:=omega) only [Q6]at *)<;>omega)) | exact QY Un (by omega) | exact Qb8 _ | exact Qje _ | grind [Rg,Qdv,Qkr,Ii,Qdx,Ce,Fa,Lu,Cd,Lv]) | exact QY Un (by omega) | exact Qb8 _ | exact Qje _ | grind [Rg,Qdv,Qkr,Ii,Qdx,Ce,Fa,Lu,Cd,Lv]) {s:Int} :
  WP (Qh f N s) (fun R=>(I∧Qjd P l s∧0≤s∧s≤l.length)∧∀r:Unit⊕ε,((∀u,r=.inl u→C)∧∀u,r=.inr u→E u)→R r):=⟨fun R h=>by
 have hw:=Jxn (f:=f) (N:=N) (fun s=>s) l.length (fun s=>I∧Qjd P l s) (fun r:Unit⊕ε=>(∀u,r=.inl u→C)∧∀u,r=.inr u→E u) (fun s h=>hl h.1) (fun s h h0 h1 hw=>by
  rw[e s]
  refine(hf.spec s _ (step s h.1 h0 h1 (hl h.1) hw)).mono fun r hr=>?_
  cases r with
  | inl s' =>
   obtain⟨x1,x2,x3⟩:=hr
   refine⟨⟨h.1,?_⟩,x2,x3⟩
   rw[x3,hw x2]
   obtain⟨x,y1,y2⟩:=x1
   exact Qkq h0 h.2 y1 y2
  | inr t =>
   refine⟨fun u hu=>?_,hr.2⟩
   have hge:=hr.1 u hu
   exact fin h.1 (Qor h.2 hge)) s
 exact hw.spec R ⟨⟨⟨h.1.1,h.1.2.1⟩,h.1.2.2⟩,h.2⟩⟩
theorem Jxo{f:σ→Option (σ⊕τ)}{N:Nat}[hN:Cf N](ix:σ→Int)(E:Int)(I:σ→Prop)(Q:τ→Prop)(hl:∀s,I s→E≤9223372036854775807)
  (step:∀s,I s→0≤ix s→(ix s<E→IntKind.wrap .i64 (ix s+1)=ix s+1)→W (f s) fun r=>match r with | .inl s'=>I s'∧ix s<E∧ix s'=IntKind.wrap .i64 (ix s+1) | .inr t=>Q t) (s:σ) :
  WP (Qh f N s) (fun R=>(I s∧0≤ix s)∧∀r,Q r→R r) :=
 Jah (fun s=>(E - ix s).toNat) (fun s=>I s∧0≤ix s) Q (fun s h=>by have:=hl s h.1; omega) (fun s h=>by
  have hl':=hl s h.1
  have hw:ix s<E→IntKind.wrap .i64 (ix s+1)=ix s+1:=fun hlt=>by
   exact Q6 (by omega) (by omega)
  refine(step s h.1 h.2 hw).mono fun r hr=>?_
  cases r with
  | inl s' =>
   obtain⟨h1,h2,h3⟩:=hr
   rw[hw h2]at h3
   exact⟨⟨h1,by omega⟩,by omega⟩
  | inr t=>exact hr) s
theorem upI {f f':σ→Option (σ⊕τ)} {B:σ→(σ⊕τ→Prop)→Prop} (e:∀s,f s=f' s) [hf:WPf f' B] {N:Nat} [hN:Cf N] (ix:σ→Int) (E:Int) (I:σ→Prop) (Q:τ→Prop) (hl:∀s,I s→E≤9223372036854775807:=by
  intro s h
  try simp only[sz1,sh1,mx1]at *
  first | omega | grind [Rg])
  (step:∀s,I s→0≤ix s→(ix s<E→IntKind.wrap .i64 (ix s+1)=ix s+1)→B s (fun r=>match r with | .inl s'=>I s'∧ix s<E∧ix s'=IntKind.wrap .i64 (ix s+1) | .inr t=>Q t):=by
  intro s h h0 hw
  try simp only[sS,reduceCtorEq]at *
  repeat' (first | intro _ | apply And.intro)
  all_goals first | assumption | omega | ((simp (disch:=omega) only [Q6]at *)<;>omega) | ((first | refine Qdw ?_ ?_ | refine Qhy ?_ ?_)<;>(try simp only[sz1,mx1])<;>first | omega | ((simp (disch:=omega) only [Q6]at *)<;>omega)) | exact QY Un (by omega) | exact Qb8 _ | exact Qje _ | grind [Rg,Qdv,Qkr,Ii,Qdx,Ce,Fa,Lu,Cd,Lv]) {s:σ} :
  WP (Qh f N s) (fun R=>(I s∧0≤ix s)∧∀r,Q r→R r):=Jxo ix E I Q hl (fun s h h0 hw=>by rw[e s]; exact hf.spec s _ (step s h h0 hw)) s
theorem mkL {f f':σ→Option (σ⊕τ)} {B:σ→(σ⊕τ→Prop)→Prop} (e:∀s,f s=f' s) [hf:WPf f' B] {N:Nat} [hN:Cf N] (μ:σ→Nat) (I:σ→Prop) (Q:τ→Prop) (hμ:∀s,I s→μ s<18446744073709551616:=by
  intro s h
  try simp only[sz1,sh1,mx1]at *
  first | omega | grind [Rg])
  (step:∀s,I s→B s (fun r=>match r with | .inl s'=>I s'∧μ s'<μ s | .inr t=>Q t):=by
  intro s h
  try simp only[sS,reduceCtorEq]at *
  repeat' (first | intro _ | apply And.intro)
  all_goals first | assumption | omega | ((simp (disch:=omega) only [Q6]at *)<;>omega) | ((first | refine Qdw ?_ ?_ | refine Qhy ?_ ?_)<;>(try simp only[sz1,mx1])<;>first | omega | ((simp (disch:=omega) only [Q6]at *)<;>omega)) | exact QY Un (by omega) | exact Qb8 _ | exact Qje _ | grind [Rg,Qdv,Qkr,Ii,Qdx,Ce,Fa,Lu,Cd,Lv]) {s:σ} :
  WP (Qh f N s) (fun R=>I s∧∀r,Q r→R r):=Jah μ I Q hμ (fun s h=>by rw[e s]; exact hf.spec s _ (step s h)) s
end
mutual
def dpt{α:Type}:K1 α→Nat
 | .mk _ ks=>Jgz ks+1
def Jgz{α:Type}:List (K1 α)→Nat
 | []=>0
 | x::l=>max (dpt x) (Jgz l)
end
theorem Q57{α:Type}:∀{l:List (K1 α)} {x:K1 α},x∈l→dpt x≤Jgz l
 | y::l,x,h=>by
  rw[Jgz]
  rcases QX.1 h with rfl | h
  ·omega
  ·have:=Q57 h; omega
theorem Jmu{α:Type}{e x:K1 α}(h:x∈e.ks):dpt x<dpt e:=by
 cases e with
 | mk a ks=>rw[dpt]; have:=Q57 (l:=ks) h; omega
theorem Jd0{α:Type}{K:Nat}:∀{l:List (K1 α)},(∀x∈l,dpt x≤K)→Jgz l≤K
 | [],_=>QO _
 | x::l,h=>by rw[Jgz]; exact ZW.2 ⟨h x (.head _),Jd0 fun y hy=>h y (.tail _ hy)⟩
theorem Jvj{α:Type}{e:K1 α}{K:Nat}(h:∀x∈e.ks,dpt x≤K):dpt e≤K+1:=by
 cases e with
 | mk a ks=>rw[dpt]; have:=Jd0 (l:=ks) h; omega
structure Qv{α:Type}(P:α→Prop)(l:List α):Prop where
 all:∀x∈l,P x
structure A3(x:Q0):Prop where
 deep:∀d∈x.2.2.2.2.2.2,dpt d.2.1≤4096
open Go Gd Sz
theorem Q05(m:List (Int×Int×Int×Int×Str×List Str×List Str×Bool×Bool))(x:Int) :
  ((Qk (k:=.int .i64) x m).getD (0,0,0,([]:Str),([]:List Str),([]:List Str),false,false)).2.2.2.2.1.length≤sz m∧((Qk (k:=.int .i64) x m).getD (0,0,0,([]:Str),([]:List Str),([]:List Str),false,false)).2.2.2.2.2.1.length≤sz m:=by
 have h:=Ce x ((0,0,0,([]:Str),([]:List Str),([]:List Str),false,false):Int×Int×Int×Str×List Str×List Str×Bool×Bool) m
 simp only[sz1,mx1,JK,ZM,KH]at h ⊢
 omega
theorem Jd1(m:List (Int×Int×Int×Int×Bool×Bool×List Int))(x:Int) :
  ((Qk (k:=.int .i64) x m).getD (0,0,0,false,false,([]:List Int))).2.2.2.2.2.length≤sz m:=by
 have h:=Ce x ((0,0,0,false,false,([]:List Int)):Int×Int×Int×Bool×Bool×List Int) m
 simp only[sz1,mx1,JK,ZM,KH]at h ⊢
 omega
theorem Q58(m:List (Int×List Int))(x:Int):((Qk (k:=.int .i64) x m).getD ([]:List Int)).length≤sz m:=by
 have h:=Ce x ([]:List Int) m
 simp only[sz1,mx1,JK,ZM]at h ⊢
 omega
theorem Jqe{V:Type}[Sz V]{K:Int}{x:Int}{v:V}{m:List (Int×V)}(h1:(sz m:Int)+1≤K)(h2:(sz v:Int)≤K):((sz (Jd (k:=.int .i64) x v m:List (Int×V)):Nat):Int)≤K:=by
 have:=Ii x v m
 omega
theorem D9{α:Type}{l:List α}{i:Int}{x:α}(h0:0≤i)(h:l[i.toNat]?=some x):l.take i.toNat++[x]=l.take (i+1).toNat:=by
 have e:(i+1).toNat=i.toNat+1:=by omega
 rw[e,ZA,h]; rfl
theorem Rh{α:Type}{l:List α}{i:Int}(h:(l.length:Int)≤i):l.take i.toNat=l:=List.take_of_length_le (by omega)
instance (priority:=2000) wpSlcS {l:Str} {a b:Int}:WP (slc l a b) (fun R=>(0≤a∧a≤b∧b≤(List.length l:Int))∧∀s:Str,(List.length s:Int)=b - a→R s):=⟨fun R h=>by
 obtain⟨⟨h0,h1,h2⟩,hR⟩:=h
 refine⟨(l.drop a.toNat).take (b - a).toNat,?_,hR _ (by rw[List.length_take,List.length_drop]; omega)⟩
 unfold slc
 rw[if_pos ⟨h0,h1,h2⟩]⟩
def lpd(y:Int):Int:=if(y.tmod 4=0∧y.tmod 100≠0)∨y.tmod 400=0 then 1 else 0
def bef(y:Int):Int:=365*(y - 2000)+(if y>2000 then(y - 2001) / 4 - (y - 2001) / 100+(y - 2001) / 400+1 else 0)
theorem Qux(y:Int):0≤lpd y∧lpd y≤1:=by unfold lpd; split<;>omega
theorem Quy(y:Int)(h:2000≤y):bef (y+1)=bef y+365+lpd y:=by
 unfold bef lpd
 rw[JU (by omega),JU (by omega),JU (by omega)]
 split<;>split<;>split<;>omega
theorem Quz(y:Int)(h:2000≤y):365*(y - 2000)≤bef y∧bef y≤366*(y - 2000):=by
 unfold bef
 split<;>omega
theorem Jmv:bef 2400=146097:=by decide
def mon(y m:Int):Int:=if m=2 then 28+lpd y else if m=4∨m=6∨m=9∨m=11 then 30 else 31
def lft(y m:Int):Int:=if m=1 then 365+lpd y else if m=2 then 334+lpd y else if m=3 then 306 else if m=4 then 275 else if m=5 then 245 else if m=6 then 214 else if m=7 then 184 else if m=8 then 153 else if m=9 then 122 else if m=10 then 92 else if m=11 then 61 else if m=12 then 31 else 0
theorem Qmx(y m:Int)(h:1≤m∧m≤12):lft y m=mon y m+lft y (m+1):=by
 have hx:m=1∨m=2∨m=3∨m=4∨m=5∨m=6∨m=7∨m=8∨m=9∨m=10∨m=11∨m=12:=by omega
 rcases hx with rfl | rfl | rfl | rfl | rfl | rfl | rfl | rfl | rfl | rfl | rfl | rfl<;>simp[lft,mon]<;>omega
theorem Jd2(y:Int):lft y 1=365+lpd y:=by simp[lft]
theorem Jai(y:Int):lft y 13=0:=by simp[lft]
theorem Qu0{W:Type}{key:Int}{v:W}{y:Int×W}:∀{m:List (Int×W)},y∈(Jd (k:=.int .i64) key v m:List (Int×W))→y=(key,v)∨y∈m
 | [],h=>by
  unfold Jd at h
  rcases QX.1 h with h | h
  ·exact .inl h
  ·exact .inr h
 | x::m,h=>by
  unfold Jd at h
  cases hk:eqK (.int .i64) key x.1 with
  | true =>
   rw[hk]at h
   rcases QX.1 h with h | h
   ·exact .inl h
   ·exact .inr (.tail _ h)
  | false =>
   rw[hk]at h
   rcases QX.1 h with h | h
   ·exact .inr (h▸.head _)
   ·rcases Qu0 h with h | h
    ·exact .inl h
    ·exact .inr (.tail _ h)
theorem Qye{W:Type}{key:Int}:∀{m:List (Int×W)} {v:W},Qk (k:=.int .i64) key m=some v→∃p∈m,p.2=v
 | x::m,v,h=>by
  unfold Qk at h
  cases hk:eqK (.int .i64) key x.1 with
  | true=>rw[hk]at h; exact⟨x,.head _,Option.some.inj h⟩
  | false =>
   rw[hk]at h
   obtain⟨p,hp,e⟩:=Qye h
   exact⟨p,.tail _ hp,e⟩
structure Qu1(m:List (Int×Int))(n:Int):Prop where
 all:∀p∈m,0≤p.2∧p.2<n
theorem Qyf{n:Int}:Qu1 [] n:=⟨fun _ h=>absurd h JF⟩
theorem Qyg{m:List (Int×Int)}{n key v:Int}(h:Qu1 m n)(h0:0≤v)(h1:v<n):Qu1 (Jd (k:=.int .i64) key v m) n:=⟨fun p hp=>by
 rcases Qu0 hp with e | hp
 ·rw[e]; exact⟨h0,h1⟩
 ·exact h.all p hp⟩
theorem Qyh{m:List (Int×Int)}{n key d:Int}(h:Qu1 m n)(hs:(Qk (k:=.int .i64) key m).isSome=true):0≤(Qk (k:=.int .i64) key m).getD d∧(Qk (k:=.int .i64) key m).getD d<n:=by
 cases e:Qk (k:=.int .i64) key m with
 | none=>rw[e]at hs; exact absurd hs (by decide)
 | some v =>
  obtain⟨p,hp,e2⟩:=Qye e
  have:=h.all p hp
  rw[e2]at this; exact this
theorem Qyi{W:Type}{key:Str}{v:W}:∀{m:List (Str×W)},Qk (k:=.str) key (Jd (k:=.str) key v m:List (Str×W))=some v
 | []=>by
  unfold Jd Qk
  rw[Qje]; rfl
 | x::m=>by
  unfold Jd
  cases hk:eqK .str key x.1 with
  | true=>show Qk (k:=.str) key ((key,v)::m:List (Str×W))=_; unfold Qk; rw[Qje]; rfl
  | false =>
   show Qk (k:=.str) key (x::(Jd (k:=.str) key v m:List (Str×W)))=_
   unfold Qk
   rw[hk]; exact Qyi
theorem Va{α:Type}{P:α→Prop}:Qv P []:=⟨fun _ h=>absurd h JF⟩
theorem Uo{α:Type}{P:α→Prop}{l m:List α}(h:Qv P l)(k:Qv P m):Qv P (l++m):=⟨fun x hx=>(QZ.1 hx).elim (h.all x) (k.all x)⟩
theorem Xz{α:Type}{P:α→Prop}{x:α}(h:P x):Qv P [x]:=⟨fun y hy=>by rw[XW.1 hy]; exact h⟩
theorem Q59{α:Type}{P:α→Prop}{x y:α}(h:P x)(k:P y):Qv P [x,y]:=⟨fun z hz=>by
 rcases QX.1 hz with e | hz
 ·rw[e]; exact h
 ·rw[XW.1 hz]; exact k⟩
theorem allL_set{α:Type}{P:α→Prop}{l:List α}{i:Nat}{x:α}(h:Qv P l)(k:P x):Qv P (l.set i x):=⟨fun y hy=>(ZH hy).elim (h.all y) (fun e=>e▸k)⟩
theorem Qhz{α:Type}{P Q:α→Prop}{l:List α}(h:Qv P l)(k:∀x,P x→Q x):Qv Q l:=⟨fun x hx=>k x (h.all x hx)⟩
structure Jxp(B:Int)(c:Int×Int×Int):Prop where
 side:0≤c.2.1∧c.2.1≤1
 time:0≤c.1∧c.1≤B
instance wpSortF {l:List (Int×Int×Int)}:WP (Qi2 (fun x:Int×Int×Int=>x.1) l) (fun R=>(l.length≤1099511627776∧Qv (Jxp 12622780800) l)∧∀r,r.length=l.length→(∀P:Int×Int×Int→Prop,Qv P l→Qv P r)→R r):=⟨fun R h=>by
 obtain⟨⟨h1,h2⟩,hR⟩:=h
 have hk:l.all (fun x=>kOk x.1)=true:=QP.2 fun x hx=>by
  have:=(h2.all x hx).time
  unfold kOk
  simp only[QQ,decide_eq_true_eq]
  omega
 have he:∃r,Qi2 (fun x:Int×Int×Int=>x.1) l=some r:=by
  unfold Qi2
  rw[hk]
  have:decide (l.length<4611686018427387904)=true:=decide_eq_true (by omega)
  rw[this]
  simp only[Bool.and_self,cond_true]
  cases Nat.ble l.length 12&&Q93 (fun x:Int×Int×Int=>x.1) l<;>exact⟨_,rfl⟩
 obtain⟨r,e⟩:=he
 have hp:=(Qtp _ e).1
 exact⟨r,e,hR r hp.length_eq (fun P hP=>⟨fun x hx=>hP.all x (hp.mem_iff.1 hx)⟩)⟩⟩
theorem Jd3{β:Type}{c:Prop}[Decidable c]{a:Option Bool}{f:Bool→Option β}{A:(Bool→Prop)→Prop}{B C:(β→Prop)→Prop}[ha:WP a A][hb:WP (f true) B][hc:WP (f false) C] :
  WP ((if c then some true else a).bind f) (fun R=>(c→B R)∧(¬ c→A fun b=>(b=true→B R)∧(b=false→C R))):=⟨fun R h=>by
 by_cases h0:c
 ·rw[if_pos h0]; exact hb.spec R (h.1 h0)
 ·rw[if_neg h0]
  obtain⟨r,e,hr⟩:=ha.spec _ (h.2 h0)
  rw[e]
  cases r with
  | true=>exact hb.spec R (hr.1 rfl)
  | false=>exact hc.spec R (hr.2 rfl)⟩
theorem Jvk{β:Type}{c:Prop}[Decidable c]{a:Option Bool}{f:Bool→Option β}{A:(Bool→Prop)→Prop}{B C:(β→Prop)→Prop}[ha:WP a A][hb:WP (f true) B][hc:WP (f false) C] :
  WP ((if c then a else some false).bind f) (fun R=>(c→A fun b=>(b=true→B R)∧(b=false→C R))∧(¬ c→C R)):=⟨fun R h=>by
 by_cases h0:c
 ·rw[if_pos h0]
  obtain⟨r,e,hr⟩:=ha.spec _ (h.1 h0)
  rw[e]
  cases r with
  | true=>exact hb.spec R (hr.1 rfl)
  | false=>exact hc.spec R (hr.2 rfl)
 ·rw[if_neg h0]; exact hc.spec R (h.2 h0)⟩
instance (priority:=900) wpfOpt {α γ:Type} {f:Option α→Option γ} {A:α→(γ→Prop)→Prop} {B:(γ→Prop)→Prop} [ha:WPf (fun a=>f (some a)) A] [hb:WP (f none) B]:WPf f (fun s R=>(∀a,s=some a→A a R)∧(s=none→B R)):=⟨fun s R k=>by
 cases s with
 | some a=>exact ha.spec a R (k.1 a rfl)
 | none=>exact hb.spec R (k.2 rfl)⟩
theorem Jg0{α:Type}{o:Option α}(h:o=none):isNone o=true:=by rw[h]; rfl
theorem Jmw{W:Type}{key:Str}{v:W}{m:List (Str×W)}{C:Prop}(h:Qk (k:=.str) key (Jd (k:=.str) key v m:List (Str×W))=none):C:=by
 rw[Qyi]at h; exact absurd h (by simp)
instance wpSortZ {l:List Int}:WP (Jrm l) (fun R=>l.length≤1099511627776∧∀r,r.length=l.length→R r):=⟨fun R h=>by
 refine⟨Qcx l,?_,h.2 _ (Ap l).length_eq⟩
 unfold Jrm
 rw[decide_eq_true (by omega)]; rfl⟩
instance wpCompactZ {l:List Int}:WP (Q43 l) (fun R=>l.length≤1099511627776∧∀r,r.length≤l.length→R r):=⟨fun R h=>by
 refine⟨Lib.compact l,?_,h.2 _ (Lib.compact_length_le l)⟩
 unfold Q43
 rw[decide_eq_true (by omega)]; rfl⟩
instance wpFiltZ {p:Int→Bool} {l:List Int}:WP (Jkp p l) (fun R=>l.length≤1099511627776∧∀r,r.length≤l.length→R r):=⟨fun R h=>by
 refine⟨l.filter fun x=>!p x,?_,h.2 _ (ZR _ _)⟩
 unfold Jkp
 rw[decide_eq_true (by omega)]; rfl⟩
def Q6a(K:Int):List Int→Prop
 | []=>True
 | a::l=>(0≤a∧a≤K)∧Q6a K l
theorem Q6b{K:Int}:∀{l:List Int},(∀y∈l,0≤y∧y≤K)→Q6a K l
 | [],_=>True.intro
 | a::l,h=>⟨h a (.head _),Q6b fun y hy=>h y (.tail _ hy)⟩
structure Qos(s:Int×Int×Int):Prop where
 upto:0≤s.1∧s.1≤1099511627776
 inc:1≤s.2.1∧s.2.1≤1099511627776
 price:0≤s.2.2∧s.2.2≤1125899906842624
theorem Jg1{s:Int×Int×Int}(h1:Q6a 1099511627776 [s.1,s.2.1])(h2:s.2.1≠0)(h3:Q6a 1125899906842624 [s.2.2]):Qos s:=⟨h1.1,⟨by have:=h1.2.1; omega,h1.2.1.2⟩,h3.1⟩
theorem Jmx(v a i:Int)(h1:1≤i)(h2:i≤1099511627776)(h3:a<v)(h4:0≤a)(h5:v≤2199023255552):IntKind.wrap .i64 (Int.tdiv (IntKind.wrap .i64 (IntKind.wrap .i64 (IntKind.wrap .i64 (v - a)+i) - 1)) i)≠0:=by
 rw[Q6 (n:=v - a) (by omega) (by omega),Q6 (n:=v - a+i) (by omega) (by omega),Q6 (n:=v - a+i - 1) (by omega) (by omega),QM (by omega)]
 have h6:1≤(v - a+i - 1) / i:=by
  rw[Int.le_ediv_iff_mul_le (by omega)]; omega
 have h7:(v - a+i - 1) / i≤v - a+i - 1:=Int.ediv_le_self _ (by omega)
 rw[Q6 (by omega) (by omega)]; omega
theorem Jxq{v a i:Int}(h:IntKind.wrap .i64 (Int.tdiv (IntKind.wrap .i64 (IntKind.wrap .i64 (IntKind.wrap .i64 (v - a)+i) - 1)) i)=0)(h1:1≤i∧i≤1099511627776)(h3:¬ v≤a)(h4:0≤a)(h5:v≤2199023255552):False:=Jmx v a i h1.1 h1.2 (by omega) h4 h5 h
structure Jyk(b:Jr):Prop where
 ev:b.1.length≤32
 tarL:sz b.2.1≤4096
 tarS:Sh.sh b.2.1
 tarO:Qv A3 b.2.1
 prodL:b.2.2.1.length≤32
 prodS:sz b.2.2.1≤4096
 prodO:Qv (fun p:Qn=>p.2.2.2.2.2.length≤32) b.2.2.1
 hol:b.2.2.2.2.1.length≤4096
theorem Jaj(y m:Int):28≤mon y m∧mon y m≤31:=by
 have:=Qux y
 unfold mon
 split
 ·omega
 ·split<;>omega
theorem Jmy(y m:Int)(h:1≤m∧m≤13):0≤lft y m∧lft y m≤366:=by
 have:=Qux y
 have hx:m=1∨m=2∨m=3∨m=4∨m=5∨m=6∨m=7∨m=8∨m=9∨m=10∨m=11∨m=12∨m=13:=by omega
 rcases hx with rfl | rfl | rfl | rfl | rfl | rfl | rfl | rfl | rfl | rfl | rfl | rfl | rfl<;>simp[lft]<;>omega
def em(M:Int):Int:=bef (2000+M / 12)+(365+lpd (2000+M / 12) - lft (2000+M / 12) (M % 12+1))
theorem Jxr{y m:Int}(h:1≤m∧m≤12):em (12*(y - 2000)+m - 1)=bef y+(365+lpd y - lft y m):=by
 unfold em
 have e1:2000+(12*(y - 2000)+m - 1) / 12=y:=by omega
 have e2:(12*(y - 2000)+m - 1) % 12+1=m:=by omega
 rw[e1,e2]
theorem Qri{M:Int}(h:0≤M):em M+28≤em (M+1)∧em (M+1)≤em M+31:=by
 have h0:=Jaj (2000+M / 12) (M % 12+1)
 have h1:=Qmx (2000+M / 12) (M % 12+1) (by omega)
 unfold em
 by_cases hc:M % 12=11
 ·have e1:2000+(M+1) / 12=2000+M / 12+1:=by omega
  have e2:(M+1) % 12=0:=by omega
  have h2:=Quy (2000+M / 12) (by omega)
  have h3:=Jd2 (2000+M / 12+1)
  have h4:=Jai (2000+M / 12)
  rw[hc]at h0 h1 ⊢
  rw[e1,e2,h2]
  simp only[Int.zero_add]at *
  rw[h3]
  have e5:(11:Int)+1+1=13:=by decide
  rw[e5,h4]at h1
  omega
 ·have e1:(M+1) / 12=M / 12:=by omega
  have e2:(M+1) % 12+1=M % 12+1+1:=by omega
  rw[e1,e2]
  omega
theorem Jd4{a:Int}(h0:0≤a):∀k:Nat,em a+28*k≤em (a+k)∧em (a+k)≤em a+31*k
 | 0=>by simp
 | k+1=>by
  have ih:=Jd4 h0 k
  have:=Qri (M:=a+k) (by omega)
  have e:a+((k+1:Nat):Int)=a+k+1:=by omega
  rw[e]; omega
theorem Jmz{a b:Int}(h0:0≤a)(h:a≤b):em a+28*(b - a)≤em b∧em b≤em a+31*(b - a):=by
 have:=Jd4 h0 (b - a).toNat
 have e:a+((b - a).toNat:Int)=b:=by omega
 rw[e]at this; omega
theorem Jxs:em 0=0:=by decide
theorem Jd5:em 4800=146097:=by decide
structure Qp1(a x r:Int):Prop where
 lo : -1≤r
 hi:r≤4799
 le:0≤r→em r+a - 1≤x / 86400
 lt:r<4799→x / 86400<em (r+1)+a - 1
theorem Jm0{y m d x a:Int}(hy:2000≤y∧y≤2399)(hm:1≤m∧m≤12)(hd:1≤d∧d≤mon y m)(hx:x / 86400=bef y+(365+lpd y - lft y m)+d - 1)(ha:1≤a∧a≤28) :
  (d<a→Qp1 a x (12*(y - 2000)+m - 1 - 1))∧(¬ d<a→Qp1 a x (12*(y - 2000)+m - 1)):=by
 have he:=Jxr (y:=y) (m:=m) hm
 obtain⟨M,hM⟩:∃M,M=12*(y - 2000)+m - 1:=⟨_,rfl⟩
 rw[←hM]at he ⊢
 have h0:0≤M∧M≤4799:=by omega
 refine⟨fun hc=>⟨by omega,by omega,fun h=>?_,fun h=>?_⟩,fun hc=>⟨by omega,by omega,fun h=>by omega,fun h=>?_⟩⟩
 ·have:=Qri (M:=M - 1) (by omega)
  have e:M - 1+1=M:=by omega
  rw[e]at this; omega
 ·have e:M - 1+1=M:=by omega
  rw[e]; omega
 ·have h1:em (M+1)=em M+mon y m:=by
   have h1:=Qmx y m hm
   have ey:y=2000+M / 12:=by omega
   have em':m=M % 12+1:=by omega
   unfold em
   by_cases hc:M % 12=11
   ·have e1:2000+(M+1) / 12=y+1:=by omega
    have e2:(M+1) % 12=0:=by omega
    have h2:=Quy y (by omega)
    have h3:=Jd2 (y+1)
    have h4:=Jai y
    have e5:m=12:=by omega
    rw[←em',←ey,e1,e2,h2]
    simp only[Int.zero_add]at *
    rw[h3]
    rw[e5]at h1 ⊢
    have e6:(12:Int)+1=13:=by decide
    rw[e6,h4]at h1
    omega
   ·have e1:2000+(M+1) / 12=y:=by omega
    have e2:(M+1) % 12+1=m+1:=by omega
    rw[←em',←ey,e1,e2]
    omega
  omega
def bgn(a M:Int):Int:=if M=4800 then 12622780800 else 86400*(em M+a - 1)
structure Jty(a v:Int)(p:Int×Int):Prop where
 fr:p.1=if v<0 then 0 else bgn a v
 to_:p.2=bgn a (v+1)
theorem Qu2{a M:Int}(ha:1≤a∧a≤28)(h0:0≤M)(h1:M≤4799):bgn a M<bgn a (M+1)∧bgn a (M+1)≤bgn a M+2678400:=by
 have h:=Qri h0
 unfold bgn
 by_cases hc:M=4799
 ·subst hc
  have:=Jd5
  rw[if_neg (by decide),if_pos (by decide)]
  have e:(4799:Int)+1=4800:=by decide
  rw[e]at h
  omega
 ·rw[if_neg (by omega),if_neg (by omega)]
  omega
theorem Q06{a M K:Int}(ha:1≤a∧a≤28)(h0:0≤M)(h:M≤K)(h1:K≤4800):bgn a M≤bgn a K:=by
 have e:=Jmz h0 h
 unfold bgn
 by_cases hc:K=4800
 ·subst hc
  have:=Jd5
  split
  ·exact JB _
  ·have:=Qri h0
   have h2:=Jmz (a:=M+1) (b:=4800) (by omega) (by omega)
   rw[if_pos rfl]; omega
 ·rw[if_neg (by omega),if_neg hc]; omega
structure Jg2(lo hi:Int)(p:Int×Int):Prop where
 fr:lo - 2678400≤p.1
 to_:p.2≤hi+2678400
theorem Jm1{a v x y m n:Int}{p:Int×Int}(ha:1≤a∧a≤28)(hx:0≤x)(hxy:x<y)(hy:y≤12622780800)(hp:Jty a v p)(hm:Qp1 a x m)(hn:Qp1 a (y - 1) n)(h1:m≤v)(h2:v≤n):Jg2 x y p:=by
 have hlo:=hm.lo; have hhi:=hn.hi
 refine⟨?_,?_⟩
 ·rw[hp.fr]
  split
  ·rename_i hv
   have hlt:=hm.lt (by omega)
   have e:m+1=0:=by omega
   rw[e,Jxs]at hlt
   omega
  ·have h3:x<bgn a (m+1)∨m=4799:=by
    by_cases hc:m<4799
    ·left
     have hlt:=hm.lt hc
     unfold bgn; rw[if_neg (by omega)]; omega
    ·right; have:=hm.hi; omega
   rcases h3 with h3 | h3
   ·by_cases hc:m<0
    ·have:=Q06 ha (M:=m+1) (K:=v) (by omega) (by omega) (by omega)
     omega
    ·have h4:=Qu2 ha (M:=m) (by omega) (by have:=hm.hi; omega)
     have h5:=Q06 ha (M:=m) (K:=v) (by omega) h1 (by omega)
     omega
   ·have h5:=Q06 ha (M:=m) (K:=v) (by omega) h1 (by omega)
    have h6:=hm.le (by omega)
    have h7:=Qu2 ha (M:=m) (by omega) (by omega)
    have h8:bgn a (m+1)=12622780800:=by unfold bgn; rw[h3]; rfl
    omega
 ·rw[hp.to_]
  by_cases hc:v<0
  ·have e:v+1=0:=by omega
   rw[e]
   have e0:bgn a 0=86400*(a - 1):=by unfold bgn; rw[if_neg (by decide),Jxs]; omega
   omega
  ·have h4:=Qu2 ha (M:=v) (by omega) (by omega)
   have h5:=Q06 ha (M:=v) (K:=n) (by omega) h2 (by omega)
   have h6:=hn.le (by omega)
   have h7:bgn a n≤y - 1:=by unfold bgn; rw[if_neg (by omega)]; omega
   omega
theorem Jm2{a x y m n:Int}(ha:1≤a∧a≤28)(hx:0≤x)(hxy:x<y)(hy:y≤12622780800)(hm:Qp1 a x m)(hn:Qp1 a (y - 1) n)(h:m≤n):n - m≤(y - x) / 2419200+2:=by
 have hlo:=hm.lo; have hhi:=hn.hi
 by_cases hc:m<n
 ·have h1:=hm.lt (by omega)
  have h2:=hn.le (by omega)
  have h3:=Jmz (a:=m+1) (b:=n) (by omega) (by omega)
  omega
 ·omega
class Y4 where
 lo:Int
 hi:Int
 ge:0≤hi
 le:hi≤12622780801
 ok:hi - lo≤69206400
structure Aft[Y4](t:Int):Prop where
 c:Y4.lo≤t
abbrev Nr[Y4]:Int×Int→Prop:=Jg2 Y4.lo Y4.hi
structure Qit[Y4](c:Int×Int×Int):Prop where
 side:0≤c.2.1∧c.2.1≤1
 time:Y4.lo - 2678400≤c.1∧c.1≤Y4.hi+2678400
 all:0≤c.1∧c.1≤12622780800
theorem Zc{α:Type}{P:α→Prop}{l:List α}{x:α}(hx:x∈l)(h:Qv P l):P x:=h.all x hx
theorem Q6c{α:Type}{P:α→Prop}{l m:List α}(h:Qv P m)(k:∀x∈l,x∈m):Qv P l:=⟨fun x hx=>h.all x (k x hx)⟩
theorem Jqf[Y4]{x y:Int}{l:List (Int×Int)}(h:Qv (Jg2 x y) l)(h1:Y4.lo≤x)(h2:y≤Y4.hi):Qv Nr l:=Qhz h fun p hp=>⟨by have:=hp.fr; omega,by have:=hp.to_; omega⟩
theorem Jd6[Y4]{p:Int×Int}{k d:Int}{b:Bool}(h:Nr p)(v:b=true→0≤p.1∧p.1<p.2∧p.2≤12622780800)(hb:b=true)(h0:0≤k)(h1:k≤1):Qit (p.1,k,d)∧Qit (p.2,k,d):=by
 have a:=h.fr; have b:=h.to_; have v:=v hb
 exact⟨⟨⟨h0,h1⟩,⟨a,by simp only; omega⟩,by simp only; omega⟩,⟨⟨h0,h1⟩,⟨by simp only; omega,b⟩,by simp only; omega⟩⟩
theorem Jqg[Y4]{c:Int×Int×Int}(h:Qit c):Nr (c.1,0):=⟨h.time.1,by have:=Y4.ge; simp only; omega⟩
theorem Jqh[Y4]{p:Int×Int}{c:Int×Int×Int}(h:Nr p)(k:Qit c):Nr (p.1,c.1):=⟨h.fr,k.time.2⟩
theorem Jvl[Y4]{p:Int×Int}(h:Nr p):p.2 - p.1≤74563200:=by have:=h.fr; have:=h.to_; have:=Y4.ok; omega
instance wpCloneF {α:Type} {b:Nat} {l:List α}:WP (Jv b l) (fun R=>l.length*b≤140737488355328∧R l):=⟨fun R h=>⟨l,by
 unfold Jv app
 rw[if_pos (by simpa using h.1)]; rfl,h.2⟩⟩
instance wpCloneR {α:Type} {b:Nat} {l:List α}:WP (Qj0 b l) (fun R=>l.length*b≤140737488355328∧R (l,l)):=⟨fun R h=>⟨(l,l),by
 unfold Qj0 app
 rw[if_pos (by simpa using h.1)]; rfl,h.2⟩⟩
theorem Fb{α:Type}{l:List α}{i:Nat}{x y:α}(h:l[i]?=some x)(e:y=x):l.set i y=l:=by
 subst e
 exact JN fun j=>by
  rw[List.getElem?_set]
  split
  ·rename_i hj; subst hj
   have:=(List.getElem?_eq_some_iff.1 h).1
   rw[if_pos this,h]
  ·rfl
theorem Qdy{l:List Qa}{i:Nat}{x y:Qa}(hx:l[i]?=some x)(hy:l[i]?=some y):l.set i (y.1,y.2.1,y.2.2.1,y.2.2.2.1,y.2.2.2.2.1,x.2.2.2.2.2.1,y.2.2.2.2.2.2.1,y.2.2.2.2.2.2.2.1,y.2.2.2.2.2.2.2.2.1,y.2.2.2.2.2.2.2.2.2.1,y.2.2.2.2.2.2.2.2.2.2)=l:=by
 rw[hx]at hy
 rw[←Option.some.inj hy]
 exact Fb hx rfl
theorem Jqi(n:Int):IntKind.wrap .i64 n≤9223372036854775807:=by
 rw[Je7]; split<;>omega
structure Nh(b:Jr):Prop where
 ev:b.1.length≤40
 tarL:sz b.2.1≤4096
 tarS:Sh.sh b.2.1
 tarO:Qv A3 b.2.1
 prodL:b.2.2.1.length≤40
 prodS:sz b.2.2.1≤4096
 prodO:Qv (fun p:Qn=>p.2.2.2.2.2.length≤40) b.2.2.1
 hol:b.2.2.2.2.1.length≤4096
set_option linter.defProp false
set_option maxRecDepth 100000
set_option maxHeartbeats 4000000
set_option synthInstance.maxSize 100000
set_option synthInstance.maxHeartbeats 1000000
variable {N:Nat} [Cf N]
@[reducible,instance] def Q71{x0 x1}{s}:=upL (N:=N) (s:=s) (Sd.eq_def N x0 x1) (fun t=>t) x0.length (fun t=>sz x0≤9223372036854775807) (fun r:((Int))=>0≤r∧r≤x0.length)
@[reducible,instance] def Jg3{x0 x1}:=mkW (O5.eq_1 N x0 x1) (sz x0≤1099511627776) (fun r=>sz r≤sz x0+1)
@[reducible,instance] def Q07{x0 x1}{s}:=upL (N:=N) (s:=s) (I8.eq_def N x0 x1) (fun t=>t.1) x0.length (fun t=>sz x0≤1099511627776∧t.2.length≤t.1∧sz t.2≤(sz x0)) (fun r:(((List Str)))=>sz r≤(sz x0))
@[reducible,instance] def Q72{x0 x1}:=mkW (Bv.eq_1 N x0 x1) (sz x0≤1099511627776) (fun r=>sz r≤(sz x0))
@[reducible,instance] def Jg4{x0 x1}:=mkW (O6.eq_1 N x0 x1) (sz x0≤1099511627776) (fun r=>r.2.2.2.2.1.length≤x0.2.2.2.2.1.length+1∧r.2.2.2.2.2.1.length≤x0.2.2.2.2.2.1.length+1)
@[reducible,instance] def Q08[Y4]{x0 x1}{s}:=upL (N:=N) (s:=s) (I9.eq_def N x0 x1) (fun t=>t.1) x0.length (fun t=>x0.length≤40∧t.2.1.length≤t.1∧sz t.2.1≤t.1∧sz t.2.2≤t.1∧Qv (fun m:Ql=>Aft m.1) x0∧Qv (fun m:Qm=>Aft m.1) t.2.1) (fun r:(((List Qm)))=>sz r≤40∧Qv (fun m:Qm=>Aft m.1) r) (step:=by
  intro s h h0 h1 h2 hw
  have g0:=h.2.2.2.2.1; have g1:=h.2.2.2.2.2; have g2:=(show 0<s.2.1.length→s.2.1.length≤40→IntKind.wrap .i64 ((s.2.1.length:Int) - 1)=(s.2.1.length:Int) - 1 from fun a b=>Q6 (by omega) (by omega))
  try simp only[sS,reduceCtorEq]at *
  repeat' (first | intro _ | apply And.intro)
  all_goals first | omega | (rw[g2 (by omega) (by omega)]; omega) | ((with_reducible refine allL_set g1 ?_); dsimp only; exact Zc (P:=fun m:Qm=>Aft m.1) (by assumption) g1) | (refine Qdw ?_ ?_<;>(try simp only[sz1,mx1])<;>(rw[hw (by omega)]; omega)) | ((with_reducible refine Uo g1 (Xz ?_)); exact Zc (P:=fun m:Ql=>Aft m.1) (by assumption) g0) | exact lv)
@[reducible,instance] def Q73[Y4]{x0 x1}:=mkW (Bw.eq_1 N x0 x1) (x0.length≤40∧Qv (fun m:Ql=>Aft m.1) x0) (fun r=>sz r≤40∧Qv (fun m:Qm=>Aft m.1) r) (k:=by
  intro h
  try simp only[sS,reduceCtorEq]at *
  repeat' (first | intro _ | apply And.intro)
  all_goals first | ((repeat cases ‹_∧_›); first | assumption | exact Va) | exact lv)
@[reducible,instance] def Q6d{x0 x1}{s}:=upL (N:=N) (s:=s) (O7.eq_def N x0 x1) (fun t=>t) x0.2.2.2.2.2.1.length (fun t=>sz x0≤9223372036854775807∧sz x1≤9223372036854775807∧x0.2.2.2.2.2.1.length=x1.2.2.2.2.2.1.length) (fun r:((Unit)⊕(Bool))=>True)
@[reducible,instance] def Jd7{x0 x1}:=mkW (L2.eq_1 N x0 x1) (sz x0≤9223372036854775807∧sz x1≤9223372036854775807) (fun r=>True)
@[reducible,instance] def Q6e{x0 x1}:=mkW (F7.eq_1 N x0 x1) (sz x0≤9223372036854775807∧sz x1≤9223372036854775807) (fun r=>True)
@[reducible,instance] def Q6f{x0 x1}:=mkW (F8.eq_1 N x0 x1) (True) (fun r=>r=x0)
@[reducible,instance] def Qhe[Y4]{x0}{s}:=upL (N:=N) (s:=s) (U0.eq_def N x0) (fun t=>t.1) x0.length (fun t=>sz x0≤40∧t.2.length≤t.1∧sz t.2≤40∧Qv (fun m:Qm=>Aft m.1) x0∧Qv (fun m:Qm=>Aft m.1) t.2∧x0.length≤40) (fun r:(((List Qm)))=>sz r≤40∧Qv (fun m:Qm=>Aft m.1) r) (step:=by
  intro s h h0 h1 h2 hw
  try simp only[sS,reduceCtorEq]at *
  repeat' (first | intro _ | apply And.intro)
  all_goals first | ((repeat cases ‹_∧_›); first | assumption | exact allL_set (by assumption) (Zc (P:=fun m:Qm=>Aft m.1) (by assumption) (by assumption)) | exact Uo (by assumption) (Xz (Zc (P:=fun m:Qm=>Aft m.1) (by assumption) (by assumption)))) | exact lv)
@[reducible,instance] def Qjf[Y4]{x0}:=mkW (Vn.eq_1 N x0) (sz x0≤40∧Qv (fun m:Qm=>Aft m.1) x0) (fun r=>sz r≤40∧Qv (fun m:Qm=>Aft m.1) r) (k:=by
  intro h
  try simp only[sS,reduceCtorEq]at *
  repeat' (first | intro _ | apply And.intro)
  all_goals first | ((repeat cases ‹_∧_›); first | assumption | exact Va) | exact lv)
@[reducible,instance] def Q2a[Y4]{r2}{s}:=upL (N:=N) (s:=s) (My.eq_def N r2) (fun t=>t.1) r2.length (fun t=>sz r2≤40∧t.2.length≤t.1∧sz t.2≤40∧Qv (fun m:Qm=>Aft m.1) r2∧Qv (fun m:Vi=>Aft m.1.1) t.2∧r2.length≤40) (fun r:(((List Vi)))=>sz r≤40∧Qv (fun m:Vi=>Aft m.1.1) r) (step:=by
  intro s h h0 h1 h2 hw
  try simp only[sS,reduceCtorEq]at *
  repeat' (first | intro _ | apply And.intro)
  all_goals first | ((repeat cases ‹_∧_›); first | assumption | exact Uo (by assumption) (Xz (Zc (P:=fun m:Qm=>Aft m.1) (by assumption) (by assumption)))) | exact lv)
@[reducible,instance] def Jak[Y4]{x0 x1}:=mkW (H8.eq_1 N x0 x1) (x0.length≤40∧Qv (fun m:Ql=>Aft m.1) x0) (fun r=>sz r≤40∧Qv (fun m:Vi=>Aft m.1.1) r) (k:=by
  intro h
  try simp only[sS,reduceCtorEq]at *
  repeat' (first | intro _ | apply And.intro)
  all_goals first | ((repeat cases ‹_∧_›); first | assumption | exact Va) | exact lv)
@[reducible,instance] def Jg5{x0}:=mkW (Zu.eq_1 N x0) (True) (fun r=>r=true→0≤x0.1∧x0.1<x0.2∧x0.2≤12622780800)
@[reducible,instance] def Q74{x0 x1}:=mkW (Gs.eq_1 N x0 x1) (True) (fun r=>True)
@[reducible,instance] def Jd8{r1 x2}{s}:=upL (N:=N) (s:=s) (Qd9.eq_def N r1 x2) (fun t=>t.1) r1.length (fun t=>sz r1≤9223372036854775807∧r1.length≤9223372036854775807) (fun r:((Qd×Str×Bool×Bool)⊕(Bool×Vi))=>sz r≤(sz r1))
@[reducible,instance] def Jm3[Y4]{x0 x1 x2}:=mkW (H9.eq_1 N x0 x1 x2) (x0.length≤40∧Qv (fun m:Ql=>Aft m.1) x0) (fun r=>sz r≤40) (k:=by
  intro h
  try simp only[sS,reduceCtorEq]at *
  repeat' (first | intro _ | apply And.intro)
  all_goals first | ((repeat cases ‹_∧_›); first | assumption) | exact lv)
@[reducible,instance] def Jd9{x0:Int}:WP (Kl N x0) (fun R=>(2000≤x0∧x0≤2400)∧∀r:Int,r=bef x0→R r):=Qhb fun h=>by
 obtain⟨h0,h1⟩:=h
 have e1:IntKind.wrap .i64 (x0 - 2000)=x0 - 2000:=Q6 (by omega) (by omega)
 have e2:IntKind.wrap .i64 (365*(x0 - 2000))=365*(x0 - 2000):=Q6 (by omega) (by omega)
 rw[Kl.eq_1,e1,e2]
 by_cases hc:x0 - 2000>0
 ·have e3:IntKind.wrap .i64 (x0 - 2000 - 1)=x0 - 2001:=by rw[Q6 (by omega) (by omega)]; omega
  rw[if_pos (by simpa using hc),e3,QM (by omega),QM (by omega),QM (by omega)]
  refine⟨_,rfl,?_⟩
  simp (disch:=omega) only [Q6]
  unfold bef
  rw[if_pos (by omega)]
  try omega
 ·rw[if_neg (by simpa using hc)]
  refine⟨_,rfl,?_⟩
  unfold bef
  rw[if_neg (by omega)]
  try omega
@[reducible,instance] def Qq0{x0:Int}:WP (Tt N x0) (fun R=>True∧∀r:Bool,lpd x0=(if r=true then 1 else 0)→R r):=Qhb fun h=>by
 refine⟨_,rfl,?_⟩
 unfold lpd
 simp only[JS,QQ,beq_iff_eq,bne_iff_ne,ne_eq]
@[reducible,instance] def Jh1{x0 x1:Int}:WP (K6 N x0 x1) (fun R=>(1≤x1∧x1≤12)∧∀r:Int,((28≤r∧r≤31)∧r=mon x0 x1)→R r):=Qhb fun h=>by
 have hx:x1=1∨x1=2∨x1=3∨x1=4∨x1=5∨x1=6∨x1=7∨x1=8∨x1=9∨x1=10∨x1=11∨x1=12:=by omega
 unfold mon
 rcases hx with rfl | rfl | rfl | rfl | rfl | rfl | rfl | rfl | rfl | rfl | rfl | rfl
 case inr.inl =>
  obtain⟨b,e,hb⟩:=(Qq0 (N:=N) (x0:=x0)).spec (fun b=>lpd x0=(if b=true then 1 else 0)) ⟨trivial,fun _ h=>h⟩
  rw[K6.eq_1,e]
  cases b
  ·exact⟨28,rfl,by simp at hb; rw[hb]; decide⟩
  ·exact⟨29,rfl,by simp at hb; rw[hb]; decide⟩
 all_goals exact⟨_,rfl,by simp⟩
@[reducible,instance] def Jal{x0}{s}:=mkL (N:=N) (s:=s) (Qbj.eq_def N x0) (fun t=>(2400 - t.1).toNat) (fun t=>x0<146097∧2000≤t.1∧t.1≤2399∧bef t.1≤x0∧t.2.1=1∧t.2.2=0) (fun r:((Bl))=>2000≤r.1∧r.1≤2399∧bef r.1≤x0∧x0<bef r.1+365+lpd r.1∧r.2.1=1) (step:=by
  intro s h
  have g0:=Quy s.1; have g1:=Jmv; have g2:=(show 2000≤s.1∧s.1≤2399→IntKind.wrap .i64 (s.1+1)=s.1+1 from fun a=>Q6 (by omega) (by omega))
  try simp only[sS,reduceCtorEq]at *
  repeat' (first | intro _ | apply And.intro)
  all_goals first | exact lv)
@[reducible,instance] def Jam{s}:=mkL (N:=N) (s:=s) (Qbk.eq_def N) (fun t=>(13 - t.2.2.1).toNat) (fun t=>0≤t.1∧t.1≤366∧1≤t.2.2.1∧t.2.2.1≤12∧2000≤t.2.1∧t.2.1≤2399∧t.1<lft t.2.1 t.2.2.1∧t.2.1=s.2.1∧s.1 - lft s.2.1 s.2.2.1=t.1 - lft t.2.1 t.2.2.1) (fun r:((Int×Bl))=>0≤r.1∧r.1≤366∧2000≤r.2.1∧r.2.1≤2399∧1≤r.2.2.1∧r.2.2.1≤12∧r.2.1=s.2.1∧r.1 - lft r.2.1 r.2.2.1=s.1 - lft s.2.1 s.2.2.1∧r.1<mon r.2.1 r.2.2.1) (step:=by
  intro s h
  have g0:=Qux s.2.1; have g1:=Qmx s.2.1 s.2.2.1; have g2:=Jai s.2.1; have g3:=(show 1≤s.2.2.1∧s.2.2.1≤12→IntKind.wrap .i64 (s.2.2.1+1)=s.2.2.1+1 from fun a=>Q6 (by omega) (by omega)); have g4:=(show ∀d:Int,0≤s.1∧s.1≤366→28≤d∧d≤31→IntKind.wrap .i64 (s.1 - d)=s.1 - d from fun d a b=>Q6 (by omega) (by omega))
  try simp only[sS,reduceCtorEq]at *
  repeat' (first | intro _ | apply And.intro)
  all_goals first | exact lv)
@[reducible,instance] def Qq1{x0}:=mkW (Tu.eq_1 N x0) (0≤x0∧x0<146097) (fun r=>(2000≤r.1∧r.1≤2399)∧(1≤r.2.1∧r.2.1≤12)∧(1≤r.2.2∧r.2.2≤mon r.1 r.2.1)∧x0=bef r.1+(365+lpd r.1 - lft r.1 r.2.1)+r.2.2 - 1) (k:=by
  intro h
  have g0:=Qux; have g1:=Quz; have g2:=Jd2; have g3:=(show 0≤x0∧x0<146097→IntKind.wrap .i64 (2000+IntKind.wrap .i64 (Int.tdiv x0 366))=2000+x0 / 366 from fun a=>by rw[QM (by omega),Q6 (n:=x0 / 366) (by omega) (by omega),Q6 (by omega) (by omega)]); have g4:=(show ∀y:Int,2000≤y→bef y≤x0→x0<146097→IntKind.wrap .i64 (x0 - bef y)=x0 - bef y from fun y a b c=>by have:=Quz y a; exact Q6 (by omega) (by omega)); have g5:=Jaj; have g6:=(show ∀d:Int,0≤d∧d≤366→IntKind.wrap .i64 (d+1)=d+1 from fun d a=>Q6 (by omega) (by omega))
  try simp only[sS,reduceCtorEq]at *
  repeat' (first | intro _ | apply And.intro)
  all_goals first | exact lv)
@[reducible,instance] def Qot{x0 x1:Int}:WP (Hm N x0 x1) (fun R=>(0≤x1∧x1≤12622780799∧1≤x0∧x0≤28)∧∀r:Int,Qp1 x0 x1 r→R r):=Qhb fun h=>by
 obtain⟨h0,h1,h2,h3⟩:=h
 have e:IntKind.wrap .i64 (Int.tdiv x1 86400)=x1 / 86400:=by rw[QM (by omega),Q6 (by omega) (by omega)]
 obtain⟨w,ew,q1,q2,q3,q4⟩:=(Qq1 (N:=N) (x0:=x1 / 86400)).spec _ ⟨⟨by omega,by omega⟩,fun r h=>h⟩
 have k:=Jm0 (y:=w.1) (m:=w.2.1) (d:=w.2.2) (x:=x1) (a:=x0) q1 q2 q3 q4 ⟨h2,h3⟩
 have e1:IntKind.wrap .i64 (w.1 - 2000)=w.1 - 2000:=Q6 (by omega) (by omega)
 have e2:IntKind.wrap .i64 (12*(w.1 - 2000))=12*(w.1 - 2000):=Q6 (by omega) (by omega)
 have e3:IntKind.wrap .i64 (12*(w.1 - 2000)+w.2.1)=12*(w.1 - 2000)+w.2.1:=Q6 (by omega) (by omega)
 have e4:IntKind.wrap .i64 (12*(w.1 - 2000)+w.2.1 - 1)=12*(w.1 - 2000)+w.2.1 - 1:=Q6 (by omega) (by omega)
 have e5:IntKind.wrap .i64 (12*(w.1 - 2000)+w.2.1 - 1 - 1)=12*(w.1 - 2000)+w.2.1 - 1 - 1:=Q6 (by omega) (by omega)
 rw[Hm.eq_1,e,ew,QJ,e1,e2,e3,e4,e5]
 by_cases hc:w.2.2<x0
 ·rw[if_pos (by simpa using hc)]
  exact⟨_,rfl,k.1 hc⟩
 ·rw[if_neg (by simpa using hc)]
  exact⟨_,rfl,k.2 hc⟩
@[reducible,instance] def Jea{x0 x1}:=mkW (L5.eq_1 N x0 x1) (True) (fun r=>(r≠0→2000≤x0∧x0≤2399∧1≤x1∧x1≤12∧r≤31)∧(2000≤x0→x0≤2399→1≤x1→x1≤12→28≤r)∧(2399<x0→r=0))
@[reducible,instance] def Jeb{x0}{s}:=upI (N:=N) (s:=s) (Qeg.eq_def N x0) (fun t=>t.2) (x0.2.1) (fun t=>1≤t.2∧t.2≤x0.2.1∧x0.2.1≤12∧0≤t.1∧t.1≤150000+31*t.2∧t.1=s.1+(lft x0.1 s.2 - lft x0.1 t.2)) (fun r:((Int))=>r=s.1+(lft x0.1 s.2 - lft x0.1 x0.2.1)) (step:=by
  intro s h h0 hw
  have g0:=Qmx x0.1 s.2; have g1:=Jmy x0.1 s.2; have g2:=Jaj x0.1 s.2; have g3:=(show ∀d:Int,0≤s.1→s.1≤200000→28≤d∧d≤31→IntKind.wrap .i64 (s.1+d)=s.1+d from fun d a b c=>Q6 (by omega) (by omega))
  try simp only[sS,reduceCtorEq]at *
  repeat' (first | intro _ | apply And.intro)
  all_goals first | exact lv)
attribute [local instance 1300] Jd3 in
@[reducible,instance] def Qu3{x0}:=mkW (Qc5.eq_1 N x0) (True) (fun r=>(2000≤x0.1→x0.1≤2399→1≤x0.2.1→x0.2.1≤12→1≤x0.2.2→x0.2.2≤28→r.2=0∧r.1=bef x0.1+(365+lpd x0.1 - lft x0.1 x0.2.1)+x0.2.2 - 1)∧(x0.1=2400→1≤x0.2.2→r.2≠0)) (k:=by
  intro h
  have g0:=Quz; have g1:=(show 2000≤x0.1∧x0.1≤2399∧1≤x0.2.2∧x0.2.2≤31→IntKind.wrap .i64 (IntKind.wrap .i64 (bef x0.1+x0.2.2) - 1)=bef x0.1+x0.2.2 - 1 from fun a=>by have:=Quz x0.1 a.1; rw[Q6 (n:=bef x0.1+x0.2.2) (by omega) (by omega),Q6 (by omega) (by omega)]); have g2:=Jd2 x0.1
  try simp only[sS,reduceCtorEq]at *
  repeat' (first | intro _ | apply And.intro)
  all_goals first | exact lv)
@[reducible,instance] def Jg6{x0 x1:Int}:WP (Ho N x0 x1) (fun R=>((0≤x1∧x1≤4800)∧1≤x0∧x0≤28)∧∀r:Int,r=bgn x0 x1→R r):=Qhb fun h=>by
 obtain⟨⟨h0,h1⟩,h2,h3⟩:=h
 have e:IntKind.wrap .i64 (2000+IntKind.wrap .i64 (Int.tdiv x1 12))=2000+x1 / 12:=by rw[QM (by omega),Q6 (n:=x1 / 12) (by omega) (by omega),Q6 (by omega) (by omega)]
 have e2:IntKind.wrap .i64 (Int.tmod x1 12+1)=x1 % 12+1:=by rw[JU (by omega),Q6 (by omega) (by omega)]
 obtain⟨w,ew,q1,q2⟩:=(Qu3 (N:=N) (x0:=(2000+x1 / 12,x1 % 12+1,x0))).spec _ ⟨trivial,fun r h=>h⟩
 rw[Ho.eq_1,e,e2,ew,QJ]
 unfold bgn
 by_cases hc:x1=4800
 ·subst hc
  rw[if_pos (by simpa using q2 rfl h2),if_pos rfl]; exact⟨_,rfl,rfl⟩
 ·have q:=q1 (by simp only; omega) (by simp only; omega) (by simp only; omega) (by simp only; omega) h2 h3
  have hb:=Quz (2000+x1 / 12) (by omega)
  have hl:=Jmy (2000+x1 / 12) (x1 % 12+1) (by omega)
  have hp:=Qux (2000+x1 / 12)
  simp only at q
  rw[if_neg (by simp[q.1]),if_neg hc]
  refine⟨_,rfl,?_⟩
  rw[q.2]
  unfold em
  rw[Q6 (by omega) (by omega)]
  omega
@[reducible,instance] def Jg7{x0 x1}:=mkW (Pf.eq_1 N x0 x1) (-1≤x1∧x1≤4799∧1≤x0∧x0≤28) (fun r=>Jty x0 x1 r) (k:=by
  intro h
  have g0:=(show -1≤x1∧x1≤4799→IntKind.wrap .i64 (x1+1)=x1+1 from fun a=>Q6 (by omega) (by omega))
  try simp only[sS,reduceCtorEq]at *
  repeat' (first | intro _ | apply And.intro)
  all_goals first | (refine⟨?_,?_⟩<;>grind) | exact lv)
@[reducible] def Qhf{N:Nat}[Cf N]{x0 m:Int}{x1:Int×Int}(ha:1≤x0∧x0≤28)(hx:0≤x1.1∧x1.1<x1.2∧x1.2≤12622780800)(hm:Qp1 x0 x1.1 m)(s:Int×List (Int×Int)) :=
 mkL (N:=N) (s:=s) (Pg.eq_def N x0 x1) (fun t=>(4801 - t.1).toNat) (fun t=>m≤t.1∧t.1≤4800∧(t.2.length:Int)=t.1 - m∧Qv (Jg2 x1.1 x1.2) t.2∧(t.2.length:Int)≤(x1.2 - x1.1) / 2419200+3) (fun r:List (Int×Int)=>(r.length:Int)≤(x1.2 - x1.1) / 2419200+3∧Qv (Jg2 x1.1 x1.2) r) (hμ:=fun t h=>by have:=hm.lo; have:=h.1; omega) (step:=by
  intro t h
  obtain⟨h1,h2,h3,h4,h5⟩:=h
  have e1:IntKind.wrap .i64 (x1.2 - 1)=x1.2 - 1:=Q6 (by omega) (by omega)
  have hlo:=hm.lo
  have e2:IntKind.wrap .i64 (t.1+1)=t.1+1:=Q6 (by omega) (by omega)
  rw[e1,e2]
  refine⟨⟨by omega,by omega,ha.1,ha.2⟩,fun n hn=>⟨fun hc=>?_,fun hc=>⟨h5,h4⟩⟩⟩
  have hc:=of_decide_eq_true hc
  have hh:=hn.hi
  have q:=Jm2 ha hx.1 hx.2.1 hx.2.2 hm hn (by omega)
  refine⟨⟨by omega,by omega,ha.1,ha.2⟩,fun p hp=>⟨?_,?_⟩⟩
  ·rw[XN]; omega
  ·refine⟨⟨by simp only; omega,by simp only; omega,by simp only[List.length_append,XN]; omega,?_,by simp only[List.length_append,XN]; omega⟩,by simp only; omega⟩
   exact Uo h4 (Xz (Jm1 ha hx.1 hx.2.1 hx.2.2 hp hm hn h1 hc)))
@[reducible,instance] def Jec{x0:Int}{x1:Int×Int}:WP (W0 N x0 x1) (fun R=>True∧∀r:List (Int×Int),((r.length:Int)≤max 0 ((x1.2 - x1.1) / 2419200+3)∧r.length≤30000∧Qv (Jg2 x1.1 x1.2) r)→R r):=Qhb fun _=>by
 rw[W0.eq_1]
 by_cases hc:(((((decide (x0<1))||(decide (x0>28)))||(decide (x1.1<0)))||(decide (x1.1≥x1.2)))||(decide (x1.2>12622780800)))=true
 ·rw[if_pos hc]
  exact⟨_,rfl,by simp only[JK]; omega,by simp,Va⟩
 ·rw[if_neg hc]
  simp only[Bool.not_eq_true,XX,decide_eq_false_iff_not]at hc
  obtain⟨m,em,hm⟩:=(Qot (N:=N) (x0:=x0) (x1:=x1.1)).spec _ ⟨⟨by omega,by omega,by omega,by omega⟩,fun r h=>h⟩
  have hlo:=hm.lo; have hhi:=hm.hi
  obtain⟨r,er,h1,h2⟩:=(Qhf (N:=N) (x0:=x0) (x1:=x1) ⟨by omega,by omega⟩ ⟨by omega,by omega,by omega⟩ hm (m,[])).spec _ ⟨⟨JB _,by simp only; omega,by simp,Va,by simp only[JK]; omega⟩,fun r h=>h⟩
  rw[em,QJ,er]
  exact⟨r,rfl,by omega,by omega,h2⟩
@[reducible,instance] def Qyj{x0 ce}{s}:=upL (N:=N) (s:=s) (C2.eq_def N x0 ce) (fun t=>t) x0.2.2.1.length (fun t=>sz x0≤40) (fun r:((Unit)⊕(Bool))=>True)
@[reducible,instance] def Q6g{x0 ce}:=mkW (F9.eq_1 N x0 ce) (sz x0≤40) (fun r=>True)
@[reducible,instance] def Q6h{x0 x1}:=mkW (Aa.eq_1 N x0 x1) (True) (fun r=>True)
@[reducible,instance] def Q6i{x0 x1}:=mkW (Ab.eq_1 N x0 x1) (True) (fun r=>r=(x0.1,x1.2))
@[reducible,instance] def Qmy[Y4]{x0}{s}:=upL (N:=N) (s:=s) (Xq.eq_def N x0) (fun t=>t.1) x0.length (fun t=>x0.length≤40∧t.2.length≤t.1∧Qv (fun m:Qd=>Aft m.1) x0∧Qv (fun m:Qd=>Aft m.1) t.2) (fun r:(((List Qd)))=>r.length≤40∧Qv (fun m:Qd=>Aft m.1) r) (step:=by
  intro s h h0 h1 h2 hw
  try simp only[sS,reduceCtorEq]at *
  repeat' (first | intro _ | apply And.intro)
  all_goals first | ((repeat cases ‹_∧_›); first | assumption | ((with_reducible refine allL_set (by assumption) ?_); dsimp only; exact Zc (P:=fun m:Qd=>Aft m.1) (by assumption) (by assumption)) | exact Uo (by assumption) (Xz (Zc (P:=fun m:Qd=>Aft m.1) (by assumption) (by assumption)))) | exact lv)
@[reducible,instance] def Qp2[Y4]{x0}:=mkW (U8.eq_1 N x0) (x0.length≤40∧Qv (fun m:Qd=>Aft m.1) x0) (fun r=>r.length≤40∧Qv (fun m:Qd=>Aft m.1) r) (k:=by
  intro h
  try simp only[sS,reduceCtorEq]at *
  repeat' (first | intro _ | apply And.intro)
  all_goals first | ((repeat cases ‹_∧_›); first | assumption | exact Va) | exact lv)
@[reducible,instance] def Q2b[Y4]{r1 ce}{s}:=upL (N:=N) (s:=s) (M2.eq_def N r1 ce) (fun t=>t.1) r1.length (fun t=>sz r1≤40∧t.2.length≤t.1∧Qv (fun m:Vi=>Aft m.1.1) r1∧Qv (fun m:Qd=>Aft m.1) t.2∧r1.length≤40) (fun r:(((List Qd)))=>r.length≤40∧Qv (fun m:Qd=>Aft m.1) r) (step:=by
  intro s h h0 h1 h2 hw
  try simp only[sS,reduceCtorEq]at *
  repeat' (first | intro _ | apply And.intro)
  all_goals first | ((repeat cases ‹_∧_›); first | assumption | exact Uo (by assumption) (Xz (Zc (P:=fun m:Vi=>Aft m.1.1) (by assumption) (by assumption)))) | exact lv)
@[reducible,instance] def Jan[Y4]{x0 x1 ce}:=mkW (Dv.eq_1 N x0 x1 ce) (x0.length≤40∧Qv (fun m:Ql=>Aft m.1) x0) (fun r=>r.length≤40∧Qv (fun m:Qd=>Aft m.1) r) (k:=by
  intro h
  try simp only[sS,reduceCtorEq]at *
  repeat' (first | intro _ | apply And.intro)
  all_goals first | ((repeat cases ‹_∧_›); first | assumption | exact Va) | exact lv)
@[reducible,instance] def Jao[Y4]{x0 x1 x2}:=mkW (Dw.eq_1 N x0 x1 x2) (x0.length≤40∧Qv (fun m:Ql=>Aft m.1) x0) (fun r=>r.length≤40∧Qv (fun m:Qd=>Aft m.1) r) (k:=by
  intro h
  try simp only[sS,reduceCtorEq]at *
  repeat' (first | intro _ | apply And.intro)
  all_goals first | ((repeat cases ‹_∧_›); first | assumption | exact Va) | exact lv)
@[reducible,instance] def Jh2{x0 x1}:=mkW (Tr.eq_1 N x0 x1) (True) (fun r=>True)
@[reducible,instance] def Q6j{v17 x1 x21 r53}{s}:=upL (N:=N) (s:=s) (Pd.eq_def N v17 x1 x21 r53) (fun t=>t) v17.length (fun t=>v17.length≤40) (fun r:((Int))=>0≤r∧r≤v17.length)
@[reducible,instance] def Q6k{x0 x1}:=mkW (Wr.eq_1 N x0 x1) (True) (fun r=>r.2=true→r.1.1<r.1.2∧0≤r.1.1∧r.1.2≤x0.2∧r.1.2≤x1.2∧(r.2=true→x0.1≤r.1.1))
@[reducible,instance] def Q6l[Y4]{x0 ce cd cj}:=mkW (Ac.eq_1 N x0 ce cd cj) (0≤ce∧ce<Y4.hi∧Aft x0.1∧cd.length≤51200∧Qv Nr cd) (fun r=>(r.length:Int)≤cd.length+32∧Qv Nr r) (k:=by
  intro h
  have g0:=(show 0≤ce∧ce≤12622780800→IntKind.wrap .i64 (ce+1)=ce+1 from fun a=>Q6 (by omega) (by omega)); have g1:=(Y4.ok); have g2:=(Y4.le); have g3:=h.2.2.1.c; have g4:=h.2.2.2.2
  try simp only[sS,reduceCtorEq]at *
  repeat' (first | intro _ | apply And.intro)
  all_goals first | exact Uo g4 (Jqf (And.right (And.right (by assumption))) (by grind) (by grind)) | exact lv)
@[reducible,instance] def Qyk[Y4]{x0 x1}{s}:=upL (N:=N) (s:=s) (C3.eq_def N x0 x1) (fun t=>t.1) x0.length (fun t=>x0.length≤51200∧Qv Nr x0∧0≤x1∧x1≤1∧s.2.length≤102400∧0≤s.1∧t.2.length≤s.2.length+2*(t.1 - s.1)∧Qv Qit t.2) (fun r:(((List Q8)))=>r.length≤s.2.length+2*x0.length∧Qv Qit r) (step:=by
  intro s h h0 h1 h2 hw
  try simp only[sS,reduceCtorEq]at *
  repeat' (first | intro _ | apply And.intro)
  all_goals first | ((repeat cases ‹_∧_›); have q:=fun d=>Jd6 (k:=x1) (d:=d) (Zc (P:=Nr) (by assumption) (by assumption)) (by assumption) (by assumption) (by assumption) (by assumption); exact Uo (by assumption) (Q59 (q 1).1 (q (-1)).2)) | exact lv)
@[reducible,instance] def Q6m[Y4]{x0 x1 c7}:=mkW (Ad.eq_1 N x0 x1 c7) (x0.length≤51200∧Qv Nr x0∧0≤x1∧x1≤1∧c7.length≤102400∧Qv Qit c7) (fun r=>r.length≤c7.length+2*x0.length∧Qv Qit r)
@[reducible,instance] def Qu4[Y4]{x0 x1}{s}:=upL (N:=N) (s:=s) (E2.eq_def N x0 x1) (fun t=>t.1) x0.length (fun t=>x0.length≤51200∧Qv Nr x0∧0≤x1∧x1≤1∧s.2.length≤102400∧0≤s.1∧t.2.length≤s.2.length+2*(t.1 - s.1)∧Qv Qit t.2) (fun r:(((List Q8)))=>r.length≤s.2.length+2*x0.length∧Qv Qit r) (step:=by
  intro s h h0 h1 h2 hw
  try simp only[sS,reduceCtorEq]at *
  repeat' (first | intro _ | apply And.intro)
  all_goals first | ((repeat cases ‹_∧_›); have q:=fun d=>Jd6 (k:=x1) (d:=d) (Zc (P:=Nr) (by assumption) (by assumption)) (by assumption) (by assumption) (by assumption) (by assumption); exact Uo (by assumption) (Q59 (q 1).1 (q (-1)).2)) | exact lv)
@[reducible,instance] def Qyl[Y4]{x0 x1 c7}:=mkW (Ge.eq_1 N x0 x1 c7) (x0.length≤51200∧Qv Nr x0∧0≤x1∧x1≤1∧c7.length≤102400∧Qv Qit c7) (fun r=>r.length≤c7.length+2*x0.length∧Qv Qit r)
@[reducible,instance] def Jap{x0 x1}:=mkW (Dy.eq_1 N x0 x1) (True) (fun r=>True)
@[reducible,instance] def Q2c[Y4]{r3}{s}:=upL (N:=N) (s:=s) (M3.eq_def N r3) (fun t=>t.2.1) r3.length (fun t=>r3.length≤204800∧Qv Qit r3∧t.2.2.2.length=2∧t.2.2.1.length≤t.2.1∧(t.1=true→1≤t.2.2.1.length)∧Qv Nr t.2.2.1) (fun r:(((List Qd)))=>r.length≤204800∧Qv Nr r) (step:=by
  intro s h h0 h1 h2 hw
  have g0:=h.2.1; have g1:=h.2.2.2.2.2; have g2:=(show ∀c∈r3,0≤c.2.1∧c.2.1≤1 from fun c hc=>(h.2.1.all c hc).side); have g3:=(show s.2.2.1.length≤204800→1≤s.2.2.1.length→IntKind.wrap .i64 ((s.2.2.1.length:Int) - 1)=(s.2.2.1.length:Int) - 1 from fun a b=>Q6 (by omega) (by omega))
  try simp only[sS,reduceCtorEq]at *
  repeat' (first | intro _ | apply And.intro)
  all_goals first | assumption | exact(g2 _ (by assumption)).1 | exact Int.lt_of_le_of_lt (g2 _ (by assumption)).2 (by omega) | exact Uo (by assumption) (Xz (Jqg (Zc (by assumption) g0))) | exact allL_set (by assumption) (Jqh (Zc (P:=Nr) (by assumption) (by assumption)) (Zc (P:=Qit) (by assumption) g0)) | exact lv)
@[reducible,instance] def Jaq[Y4]{x0 x1}:=mkW (Dz.eq_1 N x0 x1) (x0.length≤51200∧Qv Nr x0∧x1.length≤51200∧Qv Nr x1) (fun r=>r.length≤204800∧Qv Nr r) (k:=by
  intro h
  try simp only[sS,reduceCtorEq]at *
  repeat' (first | intro _ | apply And.intro)
  all_goals first | exact Va | exact Qhz (P:=Qit) (by grind) (fun c h=>⟨h.side,h.all⟩) | exact lv)
@[reducible,instance] def Jg8[Y4]{x0}:=mkW (Ph.eq_1 N x0) (x0.length≤51200∧Qv Nr x0) (fun r=>r.length≤204800∧Qv Nr r) (k:=by
  intro h
  try simp only[sS,reduceCtorEq]at *
  repeat' (first | intro _ | apply And.intro)
  all_goals first | exact Va | exact Qhz (P:=Qit) (by grind) (fun c h=>⟨h.side,h.all⟩) | exact lv)
@[reducible,instance] def Jar[Y4]{x22}{s}:=upL (N:=N) (s:=s) (Qbl.eq_def N x22) (fun t=>t.1) x22.2.2.2.length (fun t=>x22.2.2.2.length≤40∧0≤t.2.2.1∧t.2.2.1<Y4.hi∧0≤s.1∧s.2.2.2.length≤49920∧t.2.2.2.length≤s.2.2.2.length+32*(t.1 - s.1)∧Qv Nr t.2.2.2∧t.2.2.1=s.2.2.1∧Qv (fun m:Qd=>Aft m.1) x22.2.2.2) (fun r:((Int×Int×(List Qd)))=>r.2.1=s.2.2.1∧r.2.2.length≤s.2.2.2.length+1280∧Qv Nr r.2.2) (step:=by
  intro s h h0 h1 h2 hw
  try simp only[sS,reduceCtorEq]at *
  repeat' (first | intro _ | apply And.intro)
  all_goals first | ((repeat cases ‹_∧_›); first | assumption | omega | exact Zc (P:=fun m:Qd=>Aft m.1) (by assumption) (by assumption)) | exact lv)
@[reducible,instance] def Jas[Y4]{x0}{s}:=upL (N:=N) (s:=s) (Qbm.eq_def N x0) (fun t=>t.1) x0.length (fun t=>sz x0≤40∧0≤t.2.2.1∧t.2.2.1<Y4.hi∧t.2.2.2.length≤1280*t.1∧Qv Nr t.2.2.2∧Qv (fun h:Qz=>Qv (fun m:Qd=>Aft m.1) h.2.2.2) x0∧x0.length≤40) (fun r:((Int×(List Qd)))=>r.2.length≤51200∧Qv Nr r.2) (step:=by
  intro s h h0 h1 h2 hw
  try simp only[sS,reduceCtorEq]at *
  repeat' (first | intro _ | apply And.intro)
  all_goals first | ((repeat cases ‹_∧_›); first | assumption | omega | exact Va | exact Zc (P:=fun h:Qz=>Qv (fun m:Qd=>Aft m.1) h.2.2.2) (by assumption) (by assumption)) | exact lv)
@[reducible,instance] def Jat[Y4]{r35 v33}{s}:=upL (N:=N) (s:=s) (Qbn.eq_def N r35 v33) (fun t=>t.1) r35.length (fun t=>r35.length≤204800∧Qv Nr r35∧t.2.length≤35*t.1) (fun r:(((List Qd)))=>r.length≤7168000) (step:=by
  intro s h h0 h1 h2 hw
  have g0:=(fun p (hp:p∈r35)=>Jvl (h.2.1.all p hp):∀p∈r35,p.2 - p.1≤74563200)
  try simp only[sS,reduceCtorEq]at *
  repeat' (first | intro _ | apply And.intro)
  all_goals first | exact lv)
@[reducible,instance] def Jh3[Y4]{x0 x1 x2}:=mkW (Tv.eq_1 N x0 x1 x2) (sz x0≤40∧0≤x2∧x2<Y4.hi∧Qv (fun h:Qz=>Qv (fun m:Qd=>Aft m.1) h.2.2.2) x0) (fun r=>r.length≤7168000) (k:=by
  intro h
  try simp only[sS,reduceCtorEq]at *
  repeat' (first | intro _ | apply And.intro)
  all_goals first | exact Va | exact lv)
@[reducible,instance] def Q6n[Y4]{x0 x1}{s}:=upL (N:=N) (s:=s) (Pe.eq_def N x0 x1) (fun t=>t.1) x0.length (fun t=>x0.length≤40∧t.2.2.2.length≤t.1∧sz t.2.2.2≤40∧Qv (fun m:Ql=>Aft m.1) x0∧Qv (fun h:Qz=>Qv (fun m:Qd=>Aft m.1) h.2.2.2) t.2.2.2) (fun r:(((List Qz)))=>sz r≤40∧Qv (fun h:Qz=>Qv (fun m:Qd=>Aft m.1) h.2.2.2) r) (step:=by
  intro s h h0 h1 h2 hw
  try simp only[sS,reduceCtorEq]at *
  repeat' (first | intro _ | apply And.intro)
  all_goals first | ((repeat cases ‹_∧_›); first | assumption | exact Qje _ | exact Jg0 (by assumption) | exact Jmw (by assumption) | ((with_reducible refine Uo (Uo (Q6c (by assumption) (by assumption)) (Xz ?_)) (Q6c (by assumption) (by assumption))); dsimp only; assumption)) | exact lv)
@[reducible,instance] def Jed[Y4]{x0 x1}:=mkW (L4.eq_1 N x0 x1) (x0.length≤40∧Qv (fun m:Ql=>Aft m.1) x0) (fun r=>sz r≤40∧Qv (fun h:Qz=>Qv (fun m:Qd=>Aft m.1) h.2.2.2) r) (k:=by
  intro h
  try simp only[sS,reduceCtorEq]at *
  repeat' (first | intro _ | apply And.intro)
  all_goals first | ((repeat cases ‹_∧_›); first | assumption | exact Va) | exact lv)
@[reducible,instance] def Jm4{x0 ce c7}:=mkW (Qc6.eq_1 N x0 ce c7) (True) (fun r=>True)
@[reducible,instance] def Qm5{x0 ce c7}{s}:=upL (N:=N) (s:=s) (Wa.eq_def N x0 ce c7) (fun t=>t.1) x0.length (fun t=>x0.length≤40∧sz x0≤4096∧Qv (fun p:Qn=>p.2.2.2.2.2.length≤40) x0∧t.2.length≤t.1∧sz t.2≤4096∧Qv (fun p:Qn=>p.2.2.2.2.2.length≤40) t.2∧x0.length≤4096) (fun r:(((List Qn)))=>r.length≤40∧sz r≤4096∧Qv (fun p:Qn=>p.2.2.2.2.2.length≤40) r) (step:=by
  intro s h h0 h1 h2 hw
  try simp only[sS,reduceCtorEq]at *
  repeat' (first | intro _ | apply And.intro)
  all_goals first | exact Va | exact Uo (by grind) (Xz (by grind [Qv.all])) | exact lv)
@[reducible,instance] def Qq2{x0 ce c7}:=mkW (Zv.eq_1 N x0 ce c7) (x0.length≤40∧sz x0≤4096∧Qv (fun p:Qn=>p.2.2.2.2.2.length≤40) x0) (fun r=>r.length≤40∧sz r≤4096∧Qv (fun p:Qn=>p.2.2.2.2.2.length≤40) r) (k:=by
  intro h
  try simp only[sS,reduceCtorEq]at *
  repeat' (first | intro _ | apply And.intro)
  all_goals first | exact Va | exact lv)
@[reducible,instance] def Jau{x0}{s}:=upL (N:=N) (s:=s) (Qbo.eq_def N x0) (fun t=>t.1) x0.2.2.2.2.2.length (fun t=>x0.2.2.2.2.2.length≤40∧sz x0≤4096∧t.2=x0.2.2.2.2.2.take t.1.toNat) (fun r:(((List Yj)))=>r=x0.2.2.2.2.2) (step:=by
  intro s h h0 h1 h2 hw
  try simp only[sS,reduceCtorEq]at *
  repeat' (first | intro _ | apply And.intro)
  all_goals first | grind [D9,Rh,A3.deep] | exact lv)
@[reducible,instance] def Jh4{x0}:=mkW (Tw.eq_1 N x0) (x0.2.2.2.2.2.length≤40∧sz x0≤4096) (fun r=>r=x0)
@[reducible,instance] def Jqj{x0 x1 x2}:=mkW (Qj7.eq_1 N x0 x1 x2) (x0.length≤40∧sz x0≤4096∧Qv (fun p:Qn=>p.2.2.2.2.2.length≤40) x0) (fun r=>r.2.2.2.2.2.2.length≤40∧sz r.2.2.2.2.2.2≤4096) (k:=by
  intro h
  have g0:=(fun p l hp q=>q.all p hp:∀(p:Qn) (l:List Qn),p∈l→Qv (fun p:Qn=>p.2.2.2.2.2.length≤40) l→p.2.2.2.2.2.length≤40)
  try simp only[sS,reduceCtorEq]at *
  repeat' (first | intro _ | apply And.intro)
  all_goals first | assumption | omega | ((simp (disch:=omega) only [Q6]at *)<;>omega) | exact g0 _ _ (by assumption) (And.right (And.right (by assumption))) | exact lv)
@[reducible,instance] def Qvj{r12 x0 r4}{s}:=upL (N:=N) (s:=s) (Av.eq_def N r12 x0 r4) (fun t=>t.1) r12.length (fun t=>r12.length≤40∧sz r12≤4096∧t.2.length≤t.1∧sz t.2≤4096∧r12.length≤4096) (fun r:(((List Yn)))=>r.length≤40∧sz r≤4096)
@[reducible,instance] def Qvk{x0 x2 x1}{s}:=upL (N:=N) (s:=s) (Aw.eq_def N x0 x2 x1) (fun t=>t) x0.2.2.2.length (fun t=>x0.2.2.2.length≤40∧x1.length≤40∧sz x1≤4096∧Qv (fun p:Qn=>p.2.2.2.2.2.length≤40) x1∧x1.length≤4096) (fun r:((Unit)⊕((List Yn)))=>∀t,r=.inr t→t.length≤40∧sz t≤4096)
@[reducible,instance] def Q09{x0 x1 x2}:=mkW (Hp.eq_1 N x0 x1 x2) (sz x0≤40∧x1.length≤40∧sz x1≤4096∧Qv (fun p:Qn=>p.2.2.2.2.2.length≤40) x1) (fun r=>r.length≤40∧sz r≤4096)
@[reducible,instance] def Q6o{x0}{s}:=upL (N:=N) (s:=s) (Pi.eq_def N x0) (fun t=>t.1) x0.length (fun t=>sz x0≤1000000000000∧t.2=x0.take t.1.toNat∧x0.length≤1000000000000) (fun r:(((List Qa)))=>r=x0) (step:=by
  intro s h h0 h1 h2 hw
  try simp only[sS,reduceCtorEq]at *
  repeat' (first | intro _ | apply And.intro)
  all_goals first | grind [D9,Rh,A3.deep] | exact lv)
@[reducible,instance] def Jee{x0}:=mkW (L6.eq_1 N x0) (sz x0≤1000000000000) (fun r=>r=x0)
@[reducible,instance] def Jh5{x0}:=mkW (Tz.eq_1 N x0) (sz x0≤1000000000000) (fun r=>r=x0)
@[reducible,instance] def Q75{x0 x1 x2}{s}:=upL (N:=N) (s:=s) (Sj.eq_def N x0 x1 x2) (fun t=>t) x0.length (fun t=>x0.length≤40) (fun r:((Unit)⊕(Bool))=>True)
@[reducible,instance] def Jg9{x0 x1 x2}:=mkW (Pj.eq_1 N x0 x1 x2) (x0.length≤40) (fun r=>True)
@[reducible,instance] def Q76{x0}{s}:=upL (N:=N) (s:=s) (Sl.eq_def N x0) (fun t=>t.1) x0.length (fun t=>x0.length≤1000000000000∧Qu1 t.2 x0.length) (fun r:(((List (Int×Int))))=>Qu1 r x0.length) (step:=by
  intro s h h0 h1 h2 hw
  try simp only[sS,reduceCtorEq]at *
  repeat' (first | intro _ | apply And.intro)
  all_goals first | exact Qyf | exact Qyg (by grind) (by omega) (by omega) | exact lv)
@[reducible,instance] def Jha{x0}:=mkW (Pk.eq_1 N x0) (x0.length≤1000000000000) (fun r=>Qu1 r x0.length) (k:=by
  intro h
  try simp only[sS,reduceCtorEq]at *
  repeat' (first | intro _ | apply And.intro)
  all_goals first | exact Qyf | exact Qyg (by grind) (by omega) (by omega) | exact lv)
@[reducible,instance] def Jef{x0 x1}{s}:=upL (N:=N) (s:=s) (Qeh.eq_def N x0 x1) (fun t=>t) x0.length (fun t=>x0.length≤1000000000000) (fun r:((Int))=>0≤r∧r≤x0.length)
@[reducible,instance] def Jm5{x0 x1}:=mkW (Qc8.eq_1 N x0 x1) (x0.length≤1000000000000) (fun r=>0≤r.1∧r.1<r.2.length∧r.2.length≤x0.length+1) (k:=by
  intro h
  try simp only[sS,reduceCtorEq]at *
  repeat' (first | intro _ | apply And.intro)
  all_goals first | exact(Qyh (by assumption) (by assumption)).1 | exact(Qyh (by assumption) (by assumption)).2 | exact lv)
@[reducible,instance] def Q77{x0 x1 x2}:=mkW (Yd.eq_1 N x0 x1 x2) (True) (fun r=>True)
@[reducible,instance] def Jm6{x0}:=mkW (Nj.eq_1 N x0) (True) (fun r=>True)
@[reducible,instance] def Jm7{x0}:=mkW (Ku.eq_1 N x0) (True) (fun r=>True)
@[reducible,instance] def Jh6{x0 x1}:=mkW (Yo.eq_1 N x0 x1) (True) (fun r=>True)
@[reducible,instance] def Jh7{x0 x1}:=mkW (T0.eq_1 N x0 x1) (True) (fun r=>True)
@[reducible,instance] def Q78{x0 x1 ce}:=mkW (Gw.eq_1 N x0 x1 ce) (True) (fun r=>True)
@[reducible,instance] def Jm8{x0 x1}:=mkW (Qc9.eq_1 N x0 x1) (True) (fun r=>True)
@[reducible,instance] def Q6p{x0 x2 r8 r7 x3}{s}:=upL (N:=N) (s:=s) (Pl.eq_def N x0 x2 r8 r7 x3) (fun t=>t.1) x0.length (fun t=>x0.length≤40∧0≤r7∧r7<r8.length) (fun r:((Qc))=>True)
@[reducible,instance] def Jeg{x0 x1 x2 x3}:=mkW (Fh.eq_1 N x0 x1 x2 x3) (x0.length≤40∧sz x1≤1000000000000) (fun r=>r.1=x1.1∧r.2.1.length≤x1.2.1.length+1∧r.2.2=x1.2.2)
@[reducible,instance] def Jm9{x0}:=mkW (By.eq_1 N x0) (sz x0≤1000000000000) (fun r=>r.2.2.2.2.2.2.2.2.2.2.length=x0.2.2.2.2.2.1.length)
@[reducible,instance] def Jtz{x0}:=mkW (Qbh.eq_1 N x0) (sz x0≤9223372036854775807) (fun r=>True)
@[reducible,instance] def Jav{x0 x1}{s}:=upL (N:=N) (s:=s) (Qbi.eq_def N x0 x1) (fun t=>t) x0.length (fun t=>x0.length≤40) (fun r:((Unit)⊕(Int))=>∀u,r=.inr u→0<x0.length)
@[reducible,instance] def Jh8{x0 x1}:=mkW (Tq.eq_1 N x0 x1) (x0.length≤40) (fun r=>r≠0→0<x0.length)
@[reducible,instance] def Jeh{x0 x1}:=mkW (Fg.eq_1 N x0 x1) (True) (fun r=>True)
@[reducible,instance] def Jna{x0 x1 x2}:=mkW (Qc7.eq_1 N x0 x1 x2) (sz x1≤4096) (fun r=>r.2.2.2.2.2.2.2.2.2.2.length≤4096)
@[reducible,instance] def Jh9{x0 x1}:=mkW (Tx.eq_1 N x0 x1) (True) (fun r=>True)
@[reducible,instance] def Q2d{c7 x1}{s}:=upL (N:=N) (s:=s) (M4.eq_def N c7 x1) (fun t=>t.1) c7.length (fun t=>c7.length≤1000000000000∧t.2.2.2.2.2.2.2.2.2.2.2.length≤4096∧sz c7≤1000000000000) (fun r:((Int×Int×Str×Int×Int×Qd×Int×Int×Int×Bool×(List Str)))=>r.2.2.2.2.2.2.2.2.2.2.length≤4096)
@[reducible,instance] def Q2e{c7 v40 v41 v42 v43 v44 v50 v45 v46 v47 v48 v49}{s}:=upL (N:=N) (s:=s) (M5.eq_def N c7 v40 v41 v42 v43 v44 v50 v45 v46 v47 v48 v49) (fun t=>t) c7.length (fun t=>c7.length≤1000000000000) (fun r:((Int))=>0≤r∧r≤c7.length)
@[reducible,instance] def Jaw{x1 c7 cd}:=mkW (D1.eq_1 N x1 c7 cd) (c7.length≤999999999999∧sz c7≤1000000000000∧sz x1≤4096) (fun r=>r.2.length≤c7.length+1∧sz r.2≤1000000000000)
@[reducible,instance] def Q79{x2}{s}:=upL (N:=N) (s:=s) (Se.eq_def N x2) (fun t=>t.1) x2.1.length (fun t=>x2.1.length≤1000000000000∧sz x2.1≤1000000000000∧t.2.1.length≤t.1∧sz t.2.1≤1000000000000) (fun r:(((List Qa)×(List (Q4×Bool))))=>r.1.length≤x2.1.length∧sz r.1≤1000000000000)
@[reducible,instance] def Q8a{r118 x4}{s}:=upL (N:=N) (s:=s) (Sf.eq_def N r118 x4) (fun t=>t.1) r118.length (fun t=>r118.length≤40∧sz r118≤4096∧0≤s.1∧s.2.1.length≤999999999900∧t.2.1.length≤s.2.1.length+(t.1 - s.1)∧sz t.2.1≤1000000000000∧r118.length≤4096) (fun r:(((List Qa)×(List (Q4×Bool))))=>r.1.length≤s.2.1.length+40∧sz r.1≤1000000000000)
@[reducible,instance] def Q8b{r54 x1 x109 x4}{s}:=upL (N:=N) (s:=s) (Sg.eq_def N r54 x1 x109 x4) (fun t=>t.1) r54.length (fun t=>r54.length≤40∧sz r54≤40∧x1.length≤40∧sz x1≤4096∧Qv (fun p:Qn=>p.2.2.2.2.2.length≤40) x1∧0≤s.1∧s.2.1.length≤999999990000∧t.2.1.length≤s.2.1.length+40*(t.1 - s.1)∧sz t.2.1≤1000000000000∧x1.length≤4096) (fun r:(((List Qa)×(List (Q4×Bool))))=>r.1.length≤s.2.1.length+1600∧sz r.1≤1000000000000)
@[reducible,instance] def Q8c{r56 r54 x1 x4}{s}:=upL (N:=N) (s:=s) (Si.eq_def N r56 r54 x1 x4) (fun t=>t.1) r56.length (fun t=>r56.length≤7168000∧r54.length≤40∧sz r54≤40∧x1.length≤40∧sz x1≤4096∧Qv (fun p:Qn=>p.2.2.2.2.2.length≤40) x1∧0≤s.1∧s.2.1.length≤900000000000∧t.2.1.length≤s.2.1.length+1600*(t.1 - s.1)∧sz t.2.1≤1000000000000∧x1.length≤4096) (fun r:(((List Qa)×(List (Q4×Bool))))=>r.1.length≤s.2.1.length+11468800000∧sz r.1≤1000000000000)
@[reducible,instance] def Jhb[Y4]{x0 x1 x2 x3 x4}:=mkW (Bz.eq_1 N x0 x1 x2 x3 x4) (x0.length≤40∧x1.length≤40∧sz x1≤4096∧Qv (fun p:Qn=>p.2.2.2.2.2.length≤40) x1∧x2.1.length≤900000000000∧sz x2.1≤1000000000000∧x2.2.1.length≤1099511627∧x2.2.2.length≤1099511627∧Qv (fun m:Ql=>Aft m.1) x0∧(0<x0.length→x4<Y4.hi)) (fun r=>r.1.length≤x2.1.length+11468800000∧sz r.1≤1000000000000∧r.2.1=x2.2.1∧r.2.2=x2.2.2) (k:=by
  intro h
  have g0:=h.2.2.2.2.2.2.2.2.1; have g1:=h.2.2.2.2.2.2.2.2.2
  try simp only[sS,reduceCtorEq]at *
  repeat' (first | intro _ | apply And.intro)
  all_goals first | exact g0 | omega | exact lv)
@[reducible,instance] def Jnb{x0}:=mkW (Qda.eq_1 N x0) (sz x0≤1000000000000) (fun r=>r.2.2.2.2.2.2.2.2.2.2.length=x0.2.2.2.2.2.1.length)
@[reducible,instance] def Jax{x0}{s}:=upL (N:=N) (s:=s) (Qbp.eq_def N x0) (fun t=>t.1) x0.length (fun t=>sz x0≤1000000000000∧t.2.length=t.1∧sz t.2≤1000000000000∧x0.length≤1000000000000) (fun r:(((List Qa)))=>r.length=x0.length∧sz r≤1000000000000)
@[reducible,instance] def Jia{x0}:=mkW (Ie.eq_1 N x0) (sz x0≤1000000000000) (fun r=>r.length=x0.length∧sz r≤1000000000000)
@[reducible,instance] def Jhc{x0 x1}:=mkW (Xr.eq_1 N x0 x1) (True) (fun r=>True)
@[reducible,instance] def Jhd{x0 x1}:=mkW (Pm.eq_1 N x0 x1) (True) (fun r=>True)
theorem Qks{N:Nat}[Cf N]{x2:Int}{L:Int}{s:Int×List Int}:WP (Qh (D2 N x2) N s) (fun R=>((0≤s.1∧s.1≤x2∧x2≤L∧L≤1000000000000)∧s.2=[])∧∀r:List Int,((r.length:Int)=x2 - s.1∧Qv (fun i:Int=>0≤i∧i<L) r)→R r):=⟨fun R h=>(mkL (N:=N) (s:=s) (D2.eq_def N x2) (fun t=>(x2 - t.1).toNat) (fun t=>0≤s.1∧s.1≤t.1∧t.1≤x2∧x2≤L∧L≤1000000000000∧(t.2.length:Int)=t.1 - s.1∧Qv (fun i:Int=>0≤i∧i<L) t.2) (fun r:List Int=>(r.length:Int)=x2 - s.1∧Qv (fun i:Int=>0≤i∧i<L) r) (step:=by
  intro t h
  try simp only[sS,reduceCtorEq]at *
  repeat' (first | intro _ | apply And.intro)
  all_goals first | assumption | omega | ((simp (disch:=omega) only [Q6]at *)<;>omega) | exact Uo (by grind) (Xz (by grind)) | grind)).spec R ⟨⟨h.1.1.1,JB _,h.1.1.2.1,h.1.1.2.2.1,h.1.1.2.2.2,by rw[h.1.2]; simp,by rw[h.1.2]; exact Va⟩,h.2⟩⟩
attribute [local instance 1300] Jd3 in
@[reducible,instance] def Jay{r6 r7 x0}{s}:=mkL (N:=N) (s:=s) (Qbq.eq_def N r6 r7 x0) (fun t=>(r6.length - t.1+(r7.length - t.2.1)).toNat) (fun t=>r6.length+r7.length≤1000000000000∧Qv (fun i:Int=>0≤i∧i<(x0.length:Int)) r6∧Qv (fun i:Int=>0≤i∧i<(x0.length:Int)) r7∧0≤t.1∧t.1≤r6.length∧0≤t.2.1∧t.2.1≤r7.length∧(t.2.2.length:Int)=t.1+t.2.1∧Qv (fun i:Int=>0≤i∧i<(x0.length:Int)) t.2.2) (fun r:(((List Int)))=>r.length=r6.length+r7.length∧Qv (fun i:Int=>0≤i∧i<(x0.length:Int)) r) (step:=by
  intro s h
  have g0:=(fun i hi=>h.2.1.all i hi:∀i∈r6,0≤i∧i<(x0.length:Int)); have g1:=(fun i hi=>h.2.2.1.all i hi:∀i∈r7,0≤i∧i<(x0.length:Int))
  try simp only[sS,reduceCtorEq]at *
  repeat' (first | intro _ | apply And.intro)
  all_goals first | assumption | omega | ((simp (disch:=omega) only [Q6]at *)<;>omega) | exact(g0 _ (by assumption)).1 | exact(g0 _ (by assumption)).2 | exact(g1 _ (by assumption)).1 | exact(g1 _ (by assumption)).2 | exact Uo (by grind) (Xz (g0 _ (by assumption))) | exact Uo (by grind) (Xz (g1 _ (by assumption))) | exact lv)
theorem Cg{N:Nat}[Cf N]{x0:List Qa}(hx:x0.length≤1000000000000):∀(n:Nat) (x1 x2:Int),0≤x1→x1≤x2→x2≤x0.length→x2 - x1<n→W (Uy N n x0 x1 x2) fun r=>(r.length:Int)=x2 - x1∧Qv (fun i:Int=>0≤i∧i<(x0.length:Int)) r
 | 0,x1,x2,h0,h1,h2,h3=>by omega
 | n+1,x1,x2,h0,h1,h2,h3=>by
  unfold Uy
  have e1:IntKind.wrap .i64 (x2 - x1)=x2 - x1:=Q6 (by omega) (by omega)
  have e2:IntKind.wrap .i64 (Int.tdiv (x2 - x1) 2)=(x2 - x1) / 2:=by rw[QM (by omega),Q6 (by omega) (by omega)]
  have e3:IntKind.wrap .i64 (x1+(x2 - x1) / 2)=x1+(x2 - x1) / 2:=Q6 (by omega) (by omega)
  rw[e1,e2,e3]
  by_cases hc:x2 - x1<2
  ·rw[if_pos (by simpa using hc)]
   obtain⟨r,e,hr⟩:=(Qks (N:=N) (x2:=x2) (L:=x0.length) (s:=(x1,[]))).spec _ ⟨⟨⟨h0,h1,h2,by omega⟩,rfl⟩,fun r h=>h⟩
   rw[e]; exact⟨r,rfl,hr⟩
  ·rw[if_neg (by simpa using hc)]
   obtain⟨r6,f6,k6⟩:=Cg (N:=N) hx n x1 (x1+(x2 - x1) / 2) h0 (by omega) (by omega) (by omega)
   obtain⟨r7,f7,k7⟩:=Cg (N:=N) hx n (x1+(x2 - x1) / 2) x2 (by omega) (by omega) (by omega) (by omega)
   rw[f6]
   show W ((Uy N n x0 (x1+(x2 - x1) / 2) x2).bind _) _
   rw[f7]
   refine wp ?_
   refine⟨⟨by omega,by omega,by omega⟩,⟨by omega,k6.2,k7.2,JB _,Int.natCast_nonneg _,JB _,Int.natCast_nonneg _,rfl,Va⟩,fun r h=>⟨by omega,h.2⟩⟩
@[reducible,instance] def Jib{N:Nat}[hN:Cf N]{x0:List Qa}{x1 x2:Int}:WP (Qi7 N x0 x1 x2) (fun R=>(x0.length≤1000000000000∧0≤x1∧x1≤x2∧x2≤x0.length)∧∀r:List Int,((r.length:Int)=x2 - x1∧Qv (fun i:Int=>0≤i∧i<(x0.length:Int)) r)→R r):=Qhb (by
  intro h
  have:=hN.le
  exact Cg (N:=N) h.1 N x1 x2 h.2.1 h.2.2.1 h.2.2.2 (by omega))
@[reducible,instance] def Jaz{x0 x4}{s}:=upL (N:=N) (s:=s) (Qbr.eq_def N x0 x4) (fun t=>t) x0.2.2.2.2.2.1.length (fun t=>x0.2.2.2.2.2.1.length≤1000000000000) (fun r:((Unit)⊕(Bool))=>True)
@[reducible,instance] def Jic{x0 x1 x2 x3 x4 x5 x6}:=mkW (T1.eq_1 N x0 x1 x2 x3 x4 x5 x6) (x0.2.2.2.2.2.1.length≤1000000000000) (fun r=>True)
@[reducible,instance] def Jt0{x0}:=mkW (Qhv.eq_1 N x0) (True) (fun r=>True)
@[reducible,instance] def Jhe{r2 x0 x1 x2 x3 x4 x5 x6}{s}:=upL (N:=N) (s:=s) (Qfw.eq_def N r2 x0 x1 x2 x3 x4 x5 x6) (fun t=>t.2.1) r2.length (fun t=>r2.length≤1000000000000∧Qv (fun i:Int=>0≤i∧i<(x0.length:Int)) r2∧sz x0≤1000000000000∧t.2.2.1.length=x0.length∧sz t.2.2.1≤1000000000000∧t.2.2.2.length≤t.2.1∧x0.length≤1000000000000) (fun r:((Int×(List Qa)×(List Qo)))=>r.2.1.length=x0.length∧sz r.2.1≤1000000000000∧r.2.2.length≤r2.length) (step:=by
  intro s h h0 h1 h2 hw
  have g0:=(fun i hi=>h.2.1.all i hi:∀i∈r2,0≤i∧i<(x0.length:Int))
  try simp only[sS,reduceCtorEq]at *
  repeat' (first | intro _ | apply And.intro)
  all_goals first | assumption | omega | exact(g0 _ (by assumption)).1 | exact(g0 _ (by assumption)).2 | exact Int.lt_of_lt_of_le (g0 _ (by assumption)).2 (by omega) | exact lv)
@[reducible,instance] def Joa{x0 x1 x2 x3 x4 x5 x6 x7}:=mkW (La.eq_1 N x0 x1 x2 x3 x4 x5 x6 x7) (sz x0≤1000000000000) (fun r=>r.2.1.length=x0.length∧sz r.2.1≤1000000000000∧r.2.2.length≤x0.length)
@[reducible,instance] def Jhf:=mkW (O8.eq_1 N) (True) (fun r=>sz r≤0)
@[reducible,instance] def Jid{x0 x1}:=mkW (Tm.eq_1 N x0 x1) (sz x0≤9223372036854775807) (fun r=>r.1.length=x0.length)
@[reducible,instance] def Q6q{x1 x2}{s}:=upL (N:=N) (s:=s) (O9.eq_def N x1 x2) (fun t=>t.1) x1.length (fun t=>x1.length≤40∧t.2.length≤t.1) (fun r:(((Unit)⊕(Unit))×(List Ql))=>r.2.length≤40)
@[reducible,instance] def Jei{x1 x2}:=mkW (L3.eq_1 N x1 x2) (x1.length≤40) (fun r=>r.length≤40)
@[reducible,instance] def Qym{x0 x1}{s}:=upL (N:=N) (s:=s) (C1.eq_def N x0 x1) (fun t=>t) x0.length (fun t=>sz x0≤9223372036854775807) (fun r:((Int))=>0≤r∧r≤x0.length)
@[reducible,instance] def Q6r{x0 x1}:=mkW (Wn.eq_1 N x0 x1) (sz x0≤1099511627776) (fun r=>r.length≤x0.length+1)
@[reducible,instance] def Qu5{x0 x1}{s}:=upL (N:=N) (s:=s) (E0.eq_def N x0 x1) (fun t=>t) x0.length (fun t=>sz x0≤9223372036854775807) (fun r:((Int))=>0≤r∧r≤x0.length)
@[reducible,instance] def Qyn{x0 x1}:=mkW (Z5.eq_1 N x0 x1) (sz x0≤1099511627776) (fun r=>r.length≤x0.length+1)
@[reducible,instance] def Q6s{x0 x1}{s}:=upL (N:=N) (s:=s) (Pa.eq_def N x0 x1) (fun t=>t.1) x0.length (fun t=>sz x0≤1099511627776∧t.2.length≤t.1∧sz t.2≤(sz x0)) (fun r:(((List Str)))=>sz r≤(sz x0))
@[reducible,instance] def Jej{x0 x1}:=mkW (Ff.eq_1 N x0 x1) (sz x0≤1099511627776) (fun r=>sz r≤(sz x0))
@[reducible,instance] def Qwb{x1 x2 c7 cd cj cw d7 d9 d8}:=mkW (Wo.eq_1 N x1 x2 c7 cd cj cw d7 d9 d8) (sz x1≤1099511627) (fun r=>sz r.1≤sz x1+1∧r.2.length≤cw.length+1)
@[reducible,instance] def Qq3{x1 cd}{s}:=upL (N:=N) (s:=s) (Hk.eq_def N x1 cd) (fun t=>t.1) ((((Qk (k:=(.int .i64)) x1.2.2.2.1 cd).getD (0,0,0,([]:Str),([]:List Str),([]:List Str),false,false)).2.2.2.2.1)).length (fun t=>sz cd≤1099511627∧t.2.length≤s.2.length∧cd.length≤1099511627) (fun r:(((List (Str×Int))))=>r.length≤s.2.length) (fun t h=>by have:=Q05 cd x1.2.2.2.1; omega)
@[reducible,instance] def Qvl{x1 c7 cd cj cw d7 d9 d8}:=mkW (Xp.eq_1 N x1 c7 cd cj cw d7 d9 d8) (sz c7≤1099511627∧sz cd≤1099511627∧cj.length≤1099511627∧cw.length≤1099511627∧d7.length≤1099511627∧d9.length≤1099511627∧d8.length≤1099511627) (fun r=>sz r.1≤sz c7+1∧sz r.2.1≤sz cd+1∧r.2.2.1.length≤cj.length+1∧r.2.2.2.1.length≤cw.length+1∧r.2.2.2.2.1.length≤d7.length+1∧r.2.2.2.2.2.1.length≤d9.length+1∧r.2.2.2.2.2.2.length≤d8.length+1) (k:=by
  intro h
  have g0:=Q05 cd; have g1:=Jd1 c7
  try simp only[sS,reduceCtorEq]at *
  repeat' (first | intro _ | apply And.intro)
  all_goals first | (refine QY (Ii _ _ _) (ZW.2 ⟨?_,?_⟩)<;>(try simp only[sz1,mx1])<;>grind) | exact lv)
@[reducible,instance] def Qp3{d8 cd}{s}:=upL (N:=N) (s:=s) (Gt.eq_def N d8 cd) (fun t=>t.1) d8.length (fun t=>d8.length≤1099511627∧sz cd≤1099511627∧(sz t.2.1:Int)≤t.1∧t.2.2.length≤t.1∧sz t.2.2≤t.1+sz cd∧cd.length≤1099511627) (fun r:(((List (Int×(List Int)))×(List Jq)))=>sz r.1≤d8.length∧sz r.2≤d8.length+sz cd) (step:=by
  intro s h h0 h1 h2 hw
  have g0:=Q05 cd; have g1:=Q58 s.2.1
  try simp only[sS,reduceCtorEq]at *
  repeat' (first | intro _ | apply And.intro)
  all_goals first | (refine Jqe ?_ ?_<;>(try simp only[sz1,mx1,List.length_append,List.length_cons,JK])<;>grind) | exact lv)
@[reducible,instance] def Qp4{d9 c7 v20}{s}:=upL (N:=N) (s:=s) (Gu.eq_def N d9 c7 v20) (fun t=>t.1) d9.length (fun t=>d9.length≤1099511627∧sz c7≤1099511627∧sz v20≤1099511627∧t.2.1.length≤t.1∧sz t.2.1≤3298534881∧sz t.2.2≤10995116270∧c7.length≤1099511627∧v20.length≤1099511627) (fun r:(((List Q5)×(List Jq)))=>sz r.1≤3298534881∧sz r.2≤10995116270) (step:=by
  intro s h h0 h1 h2 hw
  have g0:=Jd1 c7; have g1:=Q58 v20
  try simp only[sS,reduceCtorEq]at *
  repeat' (first | intro _ | apply And.intro)
  all_goals first | exact lv)
@[reducible,instance] def Qu6{c7 cd cj cw d7 d9 d8}:=mkW (K4.eq_1 N c7 cd cj cw d7 d9 d8) (sz c7≤1099511627∧sz cd≤1099511627∧cj.length≤1099511627∧cw.length≤1099511627∧d7.length≤1099511627∧d9.length≤1099511627∧d8.length≤1099511627) (fun r=>sz r.1≤10995116270∧sz r.2≤10995116270)
@[reducible,instance] def Q8d{es:List Ql}{s:(List (Int×Q5))×(List (Int×Jq))×(List (Int×Bool))×(List (Str×Int))×(List (Int×Int))×(List Int)×(List Int)}:=Jvi (f:=Gv N) (es:=es) (fun n s=>es.length≤40∧(sz s.1:Int)≤n∧(sz s.2.1:Int)≤n∧(s.2.2.1.length:Int)≤n∧(s.2.2.2.1.length:Int)≤n∧(s.2.2.2.2.1.length:Int)≤n∧(s.2.2.2.2.2.1.length:Int)≤n∧(s.2.2.2.2.2.2.length:Int)≤n) (by
  intro n s e he h0 hn h
  show W (Gv N s e) _
  rw[Gv.eq_1]
  refine wp ?_
  try simp only[sS,reduceCtorEq]at *
  repeat' (first | intro _ | apply And.intro)
  all_goals first | assumption | omega) (s:=s)
@[reducible,instance] def Jhg{x0 x1}:=mkW (Bx.eq_1 N x0 x1) (x0.length≤40) (fun r=>sz r.1≤10995116270∧sz r.2≤10995116270)
@[reducible,instance] def Jek{r2 x1}{s}:=upL (N:=N) (s:=s) (Qea.eq_def N r2 x1) (fun t=>t.1) r2.length (fun t=>sz r2≤10995116270∧r2.length≤10995116270) (fun r:((Int×Int×Int×Str×Bool×Bool)⊕(Bool×Jq))=>∀t,r=.inr t→sz t.2≤10995116270)
@[reducible,instance] def Jnc{x0 x1 x2}:=mkW (Qc1.eq_1 N x0 x1 x2) (x0.length≤40) (fun r=>sz r.1≤10995116270)
@[reducible,instance] def Q2f{r1 x1}{s}:=upL (N:=N) (s:=s) (M6.eq_def N r1 x1) (fun t=>t.1) r1.length (fun t=>sz r1≤10995116270∧r1.length≤10995116270) (fun r:((Int×Int×Int×Bool×Bool)⊕(Bool×Q5))=>∀t,r=.inr t→sz t.2≤10995116270)
@[reducible,instance] def Ja0{x0 x1 x2}:=mkW (Xs.eq_1 N x0 x1 x2) (x0.length≤40) (fun r=>sz r.1≤10995116270)
@[reducible,instance] def Q1a{x0}:=mkW (Hl.eq_1 N x0) (x0.length≤4096) (fun r=>r=x0)
@[reducible,instance] def Qwc{x0}:=mkW (Wp.eq_1 N x0) (x0.length≤4096) (fun r=>r=x0)
@[reducible,instance] def Qwd{x0}:=mkW (Wq.eq_1 N x0) (x0.length≤4096) (fun r=>r=x0)
theorem Qeo{N:Nat}[Cf N]:∀(n:Nat) (e:Ja),dpt e≤n→sz e≤4096→W (K5 N n e) fun r=>r=e
 | 0,e,h,hs=>by cases e with | mk a ks=>rw[dpt]at h; omega
 | n+1,e,h,hs=>by
  unfold K5
  have hk:=Jms (e:=e)
  have hlen:=Un (l:=e.ks)
  have ih:∀x:Ja,WP (K5 N n x) (fun R=>(x∈e.ks∧sz x≤4096)∧∀r:Ja,r=x→R r):=fun x=>Qhb fun hx=>Qeo n x (by have:=Jmu hx.1; omega) hx.2
  have loop:=fun s:Int×List Ja=>upL (N:=N) (s:=s) (Qfo.eq_def N (K5 N n) e) (fun s=>s.1) e.ks.length (fun s=>e.ks.length≤4096∧s.2=e.ks.take s.1.toNat) (fun r:List Ja=>r=e.ks) (step:=by
   intro s h h0 h1 h2 hw
   try simp only[sS,reduceCtorEq]at *
   repeat' (first | intro _ | apply And.intro)
   all_goals first | assumption | omega | grind [D9,Rh])
  refine wp ?_
  simp only[forall_eq]
  refine⟨⟨⟨by omega,by simp⟩,by omega,by omega⟩,?_⟩
  cases e with
  | mk a ks=>rfl
@[reducible,instance] def Job{N:Nat}[hN:Cf N]{x0:Ja}:WP (Qpn N x0) (fun R=>(sz x0≤4096∧dpt x0≤4096)∧∀r:Ja,r=x0→R r):=Qhb (by
  intro h
  have:=hN.le
  exact Qeo N x0 (by omega) h.1)
@[reducible,instance] def Jel{x0}{s}:=upL (N:=N) (s:=s) (Qeb.eq_def N x0) (fun t=>t.1) x0.2.2.2.1.length (fun t=>sz x0≤4096∧t.2.1=x0.1∧t.2.2.1=x0.2.1∧t.2.2.2.1=x0.2.2.1∧t.2.2.2.2=x0.2.2.2.1.take t.1.toNat) (fun r:((Str×Int×Bool×(List Q3)))=>r.1=x0.1∧r.2.1=x0.2.1∧r.2.2.1=x0.2.2.1∧r.2.2.2=x0.2.2.2.1) (step:=by
  intro s h h0 h1 h2 hw
  try simp only[sS,reduceCtorEq]at *
  repeat' (first | intro _ | apply And.intro)
  all_goals first | grind [D9,Rh,A3.deep] | exact lv)
@[reducible,instance] def Jem{x0}{s}:=upL (N:=N) (s:=s) (Qec.eq_def N x0) (fun t=>t.1) x0.2.2.2.2.1.length (fun t=>sz x0≤4096∧t.2.1=x0.1∧t.2.2.1=x0.2.1∧t.2.2.2.1=x0.2.2.1∧t.2.2.2.2.1=x0.2.2.2.1∧t.2.2.2.2.2=x0.2.2.2.2.1.take t.1.toNat) (fun r:((Str×Int×Bool×(List Q3)×(List Jg)))=>r.1=x0.1∧r.2.1=x0.2.1∧r.2.2.1=x0.2.2.1∧r.2.2.2.1=x0.2.2.2.1∧r.2.2.2.2=x0.2.2.2.2.1) (step:=by
  intro s h h0 h1 h2 hw
  try simp only[sS,reduceCtorEq]at *
  repeat' (first | intro _ | apply And.intro)
  all_goals first | grind [D9,Rh,A3.deep] | exact lv)
@[reducible,instance] def Jen{x0}{s}:=upL (N:=N) (s:=s) (Qed.eq_def N x0) (fun t=>t.1) x0.2.2.2.2.2.1.length (fun t=>sz x0≤4096∧t.2.1=x0.1∧t.2.2.1=x0.2.1∧t.2.2.2.1=x0.2.2.1∧t.2.2.2.2.1=x0.2.2.2.1∧t.2.2.2.2.2.1=x0.2.2.2.2.1∧t.2.2.2.2.2.2=x0.2.2.2.2.2.1.take t.1.toNat) (fun r:((Str×Int×Bool×(List Q3)×(List Jg)×(List Y0)))=>r.1=x0.1∧r.2.1=x0.2.1∧r.2.2.1=x0.2.2.1∧r.2.2.2.1=x0.2.2.2.1∧r.2.2.2.2.1=x0.2.2.2.2.1∧r.2.2.2.2.2=x0.2.2.2.2.2.1) (step:=by
  intro s h h0 h1 h2 hw
  try simp only[sS,reduceCtorEq]at *
  repeat' (first | intro _ | apply And.intro)
  all_goals first | grind [D9,Rh,A3.deep] | exact lv)
@[reducible,instance] def Jeo{x0}{s}:=upL (N:=N) (s:=s) (Qee.eq_def N x0) (fun t=>t.1) x0.2.2.2.2.2.2.length (fun t=>sz x0≤4096∧A3 x0∧t.2.1=x0.1∧t.2.2.1=x0.2.1∧t.2.2.2.1=x0.2.2.1∧t.2.2.2.2.1=x0.2.2.2.1∧t.2.2.2.2.2.1=x0.2.2.2.2.1∧t.2.2.2.2.2.2.1=x0.2.2.2.2.2.1∧t.2.2.2.2.2.2.2=x0.2.2.2.2.2.2.take t.1.toNat) (fun r:((Str×Int×Bool×(List Q3)×(List Jg)×(List Y0)×(List Jk)))=>r.1=x0.1∧r.2.1=x0.2.1∧r.2.2.1=x0.2.2.1∧r.2.2.2.1=x0.2.2.2.1∧r.2.2.2.2.1=x0.2.2.2.2.1∧r.2.2.2.2.2.1=x0.2.2.2.2.2.1∧r.2.2.2.2.2.2=x0.2.2.2.2.2.2) (step:=by
  intro s h h0 h1 h2 hw
  try simp only[sS,reduceCtorEq]at *
  repeat' (first | intro _ | apply And.intro)
  all_goals first | grind [D9,Rh,A3.deep] | exact lv)
@[reducible,instance] def Jnd{x0}:=mkW (Qc2.eq_1 N x0) (sz x0≤4096∧A3 x0) (fun r=>r=x0)
@[reducible,instance] def Jne{x0 x1 x2}{s}:=upL (N:=N) (s:=s) (Qlz.eq_def N x0 x1 x2) (fun t=>t.2) x0.length (fun t=>x0.length≤4096 ∧ -1≤t.1∧t.1<x0.length) (fun r:((Int)) => -1≤r∧r<x0.length)
@[reducible,instance] def Jt1{x0 x1 x2}:=mkW (Qn7.eq_1 N x0 x1 x2) (sz x0≤4096∧Sh.sh x0∧Qv A3 x0) (fun r=>sz r≤4096∧Sh.sh r∧Qv (fun d=>dpt d.2.1≤4096) r.2.2.2.2.2.2.2) (k:=by
  intro h
  try simp only[sS,reduceCtorEq]at *
  repeat' (first | intro _ | apply And.intro)
  all_goals first | exact⟨fun _ h=>absurd h JF⟩ | exact⟨fun d hd=>absurd hd JF⟩ | exact Qv.all (And.right (And.right (by assumption))) _ (by assumption) | exact⟨A3.deep (Qv.all (And.right (And.right (by assumption))) _ (by assumption))⟩ | exact lv)
@[reducible,instance] def Jie{x0}{s}:=upL (N:=N) (s:=s) (Qi4.eq_def N x0) (fun t=>t) x0.length (fun t=>Sh.sh x0) (fun r:((Unit)⊕(Bool))=>True) (fun _ h=>Qhd (by grind))
@[reducible,instance] def Jqk{x0}:=mkW (Qj2.eq_1 N x0) (Sh.sh x0) (fun r=>True)
@[reducible,instance] def Jif{x0 ce}:=mkW (Tn.eq_1 N x0 ce) (True) (fun r=>True)
@[reducible,instance] def Qou{x0 ce}{s}:=upL (N:=N) (s:=s) (Wx.eq_def N x0 ce) (fun t=>t) x0.length (fun t=>x0.length≤9223372036854775807) (fun r:((Unit)⊕(Int))=>∀t,r=.inr t→0≤t∧t<x0.length)
@[reducible,instance] def Qrj{x0 ce}:=mkW (Kf.eq_1 N x0 ce) (x0.length≤9223372036854775807) (fun r => -1≤r∧r<x0.length)
@[reducible,instance] def Qov{x0 ce}:=mkW (Uv.eq_1 N x0 ce) (x0.length≤9223372036854775807) (fun r=>True)
@[reducible,instance] def Jnf{x0}:=mkW (Qc0.eq_1 N x0) (True) (fun r=>True)
@[reducible,instance] def Jep{x0}{s}:=upL (N:=N) (s:=s) (Qd8.eq_def N x0) (fun t=>t) x0.length (fun t=>Sh.sh x0) (fun r:((Unit)⊕(Bool))=>True) (fun _ h=>Qhd (by grind))
@[reducible,instance] def Jng{x0}:=mkW (H7.eq_1 N x0) (Sh.sh x0) (fun r=>True)
@[reducible,instance] def Jhh{x4}{s}:=upL (N:=N) (s:=s) (Qfp.eq_def N x4) (fun t=>t.1) x4.2.length (fun t=>x4.2.length≤9223372036854775807∧Sh.sh x4) (fun r:(((List (Str×Str)))⊕(Int))=>∀c,r=.inr c→c≠0)
@[reducible,instance] def Jhi{x0}{s}:=upL (N:=N) (s:=s) (Qfq.eq_def N x0) (fun t=>t.1) x0.length (fun t=>sz x0≤9223372036854775807∧Sh.sh x0∧x0.length≤9223372036854775807) (fun r:(((List (Str×Str)))⊕(Int))=>∀c,r=.inr c→c≠0)
@[reducible,instance] def Joc{x0}:=mkW (Qfr.eq_1 N x0) (sz x0≤9223372036854775807∧Sh.sh x0) (fun r=>∀c,r=.inr c→c≠0)
@[reducible,instance] def Ja1{x1 ce}{s}:=mkL (N:=N) (s:=s) (Qbg.eq_def N x1 ce) (fun t=>t.toNat) (fun t=>List.length x1≤9223372036854775807∧t≤List.length x1) (fun r:((Unit)⊕(Str×Bool))=>True)
@[reducible,instance] def Jig{x1 x2 ce}:=mkW (To.eq_1 N x1 x2 ce) (List.length x1≤9223372036854775807∧x2≤List.length x1) (fun r=>True)
@[reducible,instance] def Jql{x0 x1}:=mkW (Qj3.eq_1 N x0 x1) (sz x0≤9223372036854775807∧Sh.sh x0∧Sh.sh x1∧List.length x1≤9223372036854775807) (fun r=>True)
@[reducible,instance] def Jih{x0}{s}:=upL (N:=N) (s:=s) (Qi5.eq_def N x0) (fun t=>t) x0.length (fun t=>Sh.sh x0) (fun r:((Unit)⊕(Bool))=>True) (fun _ h=>Qhd (by grind))
@[reducible,instance] def Jqm{x0}:=mkW (Qj4.eq_1 N x0) (Sh.sh x0) (fun r=>True)
@[reducible,instance] def Jii{x0 ce}:=mkW (Tp.eq_1 N x0 ce) (True) (fun r=>True)
@[reducible,instance] def Qow{x0 ce}{s}:=upL (N:=N) (s:=s) (Wy.eq_def N x0 ce) (fun t=>t) x0.length (fun t=>x0.length≤9223372036854775807) (fun r:((Unit)⊕(Int))=>True)
@[reducible,instance] def Qrk{x0 ce}:=mkW (Kg.eq_1 N x0 ce) (x0.length≤9223372036854775807) (fun r=>True)
@[reducible,instance] def Qox{x0 ce}:=mkW (Uw.eq_1 N x0 ce) (x0.length≤9223372036854775807) (fun r=>True)
@[reducible,instance] def Jhj{x0}{s}:=upL (N:=N) (s:=s) (Qfs.eq_def N x0) (fun t=>t) x0.length (fun t=>sz x0≤9223372036854775807) (fun r:((Unit)⊕(Int))=>True)
@[reducible,instance] def Jod{x0}:=mkW (Qft.eq_1 N x0) (sz x0≤9223372036854775807) (fun r=>True)
@[reducible,instance] def Jhk{x0}{s}:=upL (N:=N) (s:=s) (Qfu.eq_def N x0) (fun t=>t) x0.length (fun t=>sz x0≤4096∧x0.length≤64∧Sh.sh x0∧x0.length≤4096) (fun r:((Unit)⊕(Int))=>∀c,r=.inr c→c≠0)
@[reducible,instance] def Joe{x0}:=mkW (Qfv.eq_1 N x0) (sz x0≤4096∧Sh.sh x0) (fun r=>r=0→1≤x0.length∧x0.length≤64)
@[reducible,instance] def Q2g{x0 x1}{s}:=upL (N:=N) (s:=s) (Mz.eq_def N x0 x1) (fun t=>t) x0.length (fun t=>x0.length≤9223372036854775807) (fun r:((Unit)⊕(Int))=>True)
@[reducible,instance] def Ja2{x0 x1}:=mkW (Dt.eq_1 N x0 x1) (x0.length≤9223372036854775807) (fun r=>True)
@[reducible,instance] def Q2h{x0 x1}:=mkW (Er.eq_1 N x0 x1) (x0.length≤9223372036854775807) (fun r=>True)
@[reducible,instance] def Ja3{x0}:=mkW (Du.eq_1 N x0) (True) (fun r=>0≤x0→x0<146097→0≤r) (k:=by
  intro h
  try simp only[sS,reduceCtorEq]at *
  repeat' (first | intro _ | apply And.intro)
  all_goals first | (rw[Q6 (by omega) (by omega),JU (by omega)]; omega) | exact lv)
@[reducible,instance] def Jt2{x0 x1}:=mkW (Qn8.eq_1 N x0 x1) (x0.length≤9223372036854775807∧0≤x1∧x1<146097) (fun r=>True)
@[reducible,instance] def Jnh{x0 ce c7}:=mkW (Qc3.eq_1 N x0 ce c7) (True) (fun r=>True)
@[reducible,instance] def Qoy{x0 ce c7}{s}:=upL (N:=N) (s:=s) (Wz.eq_def N x0 ce c7) (fun t=>t) x0.length (fun t=>x0.length≤9223372036854775807) (fun r:((Unit)⊕(Int))=>True)
@[reducible,instance] def Qrl{x0 ce c7}:=mkW (Kh.eq_1 N x0 ce c7) (x0.length≤9223372036854775807) (fun r=>True)
@[reducible,instance] def Qoz{x0 ce c7}:=mkW (Ux.eq_1 N x0 ce c7) (x0.length≤9223372036854775807) (fun r=>True)
@[reducible,instance] def Jij{x0 x1 x2}{s}:=upL (N:=N) (s:=s) (Qi6.eq_def N x0 x1 x2) (fun t=>t) x0.length (fun t=>sz x0≤4096∧x0.length≤4096) (fun r:((Unit)⊕(Str))=>True)
@[reducible,instance] def Jqn{x0 x1 x2}:=mkW (Qj5.eq_1 N x0 x1 x2) (sz x0≤4096∧1≤x0.length) (fun r=>True) (k:=by
  intro h
  have g0:=(Un (l:=x0))
  try simp only[sS,reduceCtorEq]at *
  repeat' (first | intro _ | apply And.intro)
  all_goals first | exact lv)
@[reducible,instance] def Jvm{x0 x1 x2}:=mkW (Qtv.eq_1 N x0 x1 x2) (sz x0≤4096∧Sh.sh x0∧x1.length≤4096) (fun r=>True) (k:=by
  intro h
  have g0:=(show 0≤x2∧x2≤12622780799→IntKind.wrap .i64 (Int.tdiv x2 86400)=x2 / 86400 from fun a=>by rw[QM (by omega),Q6 (by omega) (by omega)])
  try simp only[sS,reduceCtorEq]at *
  repeat' (first | intro _ | apply And.intro)
  all_goals first | exact lv)
@[reducible,instance] def Jhl{x0 ce c7 cd}:=mkW (Pb.eq_1 N x0 ce c7 cd) (True) (fun r=>True)
@[reducible,instance] def Jeq{x0 x1 x2 x3}{s}:=upL (N:=N) (s:=s) (Qef.eq_def N x0 x1 x2 x3) (fun t=>t.1) x0.2.2.2.2.2.1.length (fun t=>sz x0≤4096∧x0.2.2.2.2.2.1.length≤4096) (fun r:((Int×Str×Str×Int)⊕(Bool×Int×Str×Str×Int×(List Qw)))=>∀t,r=.inr t→t.2.2.2.2.2.length≤4096)
@[reducible,instance] def Jni{x0 x1 x2 x3}:=mkW (Qc4.eq_1 N x0 x1 x2 x3) (sz x0≤4096) (fun r=>r.2.2.2.2.2.length≤4096)
@[reducible,instance] def Q8e{x1 x0}{s}:=Qmw (N:=N) (s:=s) (Sn.eq_def N x1 x0) x1 (x1.length≤9223372036854775807) (fun y=>0≤y∧y≤x0) (∀y∈x1,0≤y∧y≤x0) (fun u=>u=false)
@[reducible,instance] def Jhm{x0 x1}:=mkW (B0.eq_1 N x0 x1) (x1.length≤9223372036854775807) (fun r=>r=true→Q6a x0 x1) (k:=by
  intro h
  try simp only[sS,reduceCtorEq]at *
  repeat' (first | intro _ | apply And.intro)
  all_goals first | exact Q6b (by assumption) | exact lv)
@[reducible,instance] def Ja4{x0}{s}:=upL (N:=N) (s:=s) (Qbs.eq_def N x0) (fun t=>t.2) x0.length (fun t=>x0.length≤64∧Qjd Qos x0 t.2) (fun r:((Unit)⊕(Int))=>(∀u,r=.inl u→∀y∈x0,Qos y)∧∀u,r=.inr u→u≠0) (step:=by
  intro s h h0 h1 h2 hw
  try simp only[sS,reduceCtorEq]at *
  repeat' (first | intro _ | apply And.intro)
  all_goals first | exact Ai | (rw[hw (by assumption)]; exact Qkq h0 h.2 (by assumption) (Jg1 (by grind) (by grind) (by grind))) | exact Qor h.2 (by omega) _ (by assumption) | exact lv)
@[reducible,instance] def Jik{x0}:=mkW (T2.eq_1 N x0) (x0.length≤9223372036854775807) (fun r=>r=0→Qv Qos x0∧x0.length≤64) (k:=by
  intro h
  try simp only[sS,reduceCtorEq]at *
  repeat' (first | intro _ | apply And.intro)
  all_goals first | exact⟨by assumption⟩ | exact lv)
@[reducible,instance] def Q1b{r1}{s}:=upL (N:=N) (s:=s) (I7.eq_def N r1) (fun t=>t.1) r1.length (fun t=>sz r1≤1000000000000∧t.2=r1∧r1.length≤1000000000000) (fun r:(((List Qa)))=>r=r1) (step:=by
  intro s h h0 h1 h2 hw
  try simp only[sS,reduceCtorEq]at *
  repeat' (first | intro _ | apply And.intro)
  all_goals first | ((repeat cases ‹_∧_›); subst_vars; exact Qdy (by assumption) (by assumption)) | grind [Qdy] | exact lv)
@[reducible,instance] def Q8f{x0}:=mkW (Gr.eq_1 N x0) (sz x0.1≤1000000000000∧x0.2.1.length≤1000000000000∧x0.2.2.length≤1000000000000) (fun r=>r=x0)
@[reducible,instance] def Q2i{r1}{s}:=upL (N:=N) (s:=s) (Mx.eq_def N r1) (fun t=>t.1) r1.length (fun t=>sz r1≤1000000000000∧t.2=r1∧r1.length≤1000000000000) (fun r:(((List Qa)))=>r=r1) (step:=by
  intro s h h0 h1 h2 hw
  try simp only[sS,reduceCtorEq]at *
  repeat' (first | intro _ | apply And.intro)
  all_goals first | ((repeat cases ‹_∧_›); subst_vars; exact Qdy (by assumption) (by assumption)) | grind [Qdy] | exact lv)
@[reducible,instance] def Ja5{x0}:=mkW (H6.eq_1 N x0) (sz x0.1≤1000000000000∧x0.2.1.length≤1000000000000∧x0.2.2.length≤1000000000000) (fun r=>r=x0)
@[reducible,instance] def Q2j{x0}:=mkW (Xf.eq_1 N x0) (x0.2.2.2.2.2.2.1.length≤1000000000000∧x0.2.2.2.2.1.2.2.2.2.2.2.1.2.2.2.2.length≤4096) (fun r=>r=(x0.1,x0.2.1,x0.2.2.1,x0.2.2.2.1,x0.2.2.2.2.1.1,x0.2.2.2.2.1.2.1,x0.2.2.2.2.1.2.2.1,x0.2.2.2.2.1.2.2.2.1,x0.2.2.2.2.1.2.2.2.2.1,x0.2.2.2.2.1.2.2.2.2.2.1,x0.2.2.2.2.1.2.2.2.2.2.2.1.1,x0.2.2.2.2.1.2.2.2.2.2.2.1.2.1,x0.2.2.2.2.1.2.2.2.2.2.2.1.2.2.1,x0.2.2.2.2.1.2.2.2.2.2.2.1.2.2.2.1,x0.2.2.2.2.1.2.2.2.2.2.2.2.1,x0.2.2.2.2.1.2.2.2.2.2.2.2.2,x0.2.2.2.2.2.1,x0.2.2.2.2.2.2.2.1,x0.2.2.2.2.2.2.2.2.1,x0.2.2.2.2.2.2.2.2.2.1,x0.2.2.2.2.2.2.2.2.2.2,x0.2.2.2.2.1.2.2.2.2.2.2.1.2.2.2.2,x0.2.2.2.2.2.2.1))
@[reducible,instance] def Jer{x0 x1 x2 x3}:=mkW (Uu.eq_1 N x0 x1 x2 x3) (sz x0.1≤1000000000000∧x0.2.1.length≤1000000000000∧x0.2.2.length≤1000000000000∧x1.2.2.2.2.2.2.1.length≤1000000000000∧x1.2.2.2.2.1.2.2.2.2.2.2.1.2.2.2.2.length≤4096) (fun r=>r=(x1.1,x1.2.1,x1.2.2.1,x1.2.2.2.1,x1.2.2.2.2.1.1,x1.2.2.2.2.1.2.1,x1.2.2.2.2.1.2.2.1,x1.2.2.2.2.1.2.2.2.1,x1.2.2.2.2.1.2.2.2.2.1,x1.2.2.2.2.1.2.2.2.2.2.1,x1.2.2.2.2.1.2.2.2.2.2.2.1.1,x1.2.2.2.2.1.2.2.2.2.2.2.1.2.1,x1.2.2.2.2.1.2.2.2.2.2.2.1.2.2.1,x1.2.2.2.2.1.2.2.2.2.2.2.1.2.2.2.1,x1.2.2.2.2.1.2.2.2.2.2.2.2.1,x1.2.2.2.2.1.2.2.2.2.2.2.2.2,x1.2.2.2.2.2.1,x1.2.2.2.2.2.2.2.1,x1.2.2.2.2.2.2.2.2.1,x1.2.2.2.2.2.2.2.2.2.1,x1.2.2.2.2.2.2.2.2.2.2,(x2.1,x2.2.1,0,0,x3),x0.1,x0.2.1,x0.2.2,x1.2.2.2.2.1.2.2.2.2.2.2.1.2.2.2.2,x1.2.2.2.2.2.2.1))
@[reducible,instance] def Jil{x0 x1}:=mkW (E1.eq_1 N x0 x1) (sz x0.1≤1000000000000∧x0.2.1.length≤1000000000000∧x0.2.2.length≤1000000000000∧x1.2.2.2.2.2.2.1.length≤1000000000000∧x1.2.2.2.2.1.2.2.2.2.2.2.1.2.2.2.2.length≤4096) (fun r=>r=(x1.1,x1.2.1,x1.2.2.1,x1.2.2.2.1,x1.2.2.2.2.1.1,x1.2.2.2.2.1.2.1,x1.2.2.2.2.1.2.2.1,x1.2.2.2.2.1.2.2.2.1,x1.2.2.2.2.1.2.2.2.2.1,x1.2.2.2.2.1.2.2.2.2.2.1,x1.2.2.2.2.1.2.2.2.2.2.2.1.1,x1.2.2.2.2.1.2.2.2.2.2.2.1.2.1,x1.2.2.2.2.1.2.2.2.2.2.2.1.2.2.1,x1.2.2.2.2.1.2.2.2.2.2.2.1.2.2.2.1,x1.2.2.2.2.1.2.2.2.2.2.2.2.1,x1.2.2.2.2.1.2.2.2.2.2.2.2.2,x1.2.2.2.2.2.1,x1.2.2.2.2.2.2.2.1,x1.2.2.2.2.2.2.2.2.1,x1.2.2.2.2.2.2.2.2.2.1,x1.2.2.2.2.2.2.2.2.2.2,x1.2.2.2.2.1.2.2.2.2.2.2.1.2.2.2.2,x1.2.2.2.2.2.2.1,x0.1,x0.2.1,x0.2.2))
@[reducible,instance] def Jnj{x0 x1}:=mkW (Kv.eq_1 N x0 x1) (True) (fun r=>r=true→0≤x0∧x0≤x1)
@[reducible,instance] def Q6t{x0 x1}{s}:=upL (N:=N) (s:=s) (Pn.eq_def N x0 x1) (fun t=>t.2.2) x0.length (fun t=>x0.length≤64∧Qv Qos x0∧0≤t.2.1∧t.2.1≤2199023255552∧x1≤2199023255552) (fun r:((Int)⊕(Int×Bool))=>True) (step:=by
  intro s h h0 h1 h2 hw
  have g0:=(fun y hy=>⟨(h.2.1.all y hy).upto,(h.2.1.all y hy).inc,(h.2.1.all y hy).price⟩:∀y∈x0,(0≤y.1∧y.1≤1099511627776)∧(1≤y.2.1∧y.2.1≤1099511627776)∧(0≤y.2.2∧y.2.2≤1125899906842624)); have g1:=Jmx
  try simp only[sS,reduceCtorEq]at *
  repeat' (first | intro _ | apply And.intro)
  all_goals first | exact Jxq (by assumption) (g0 _ (by assumption)).2.1 (by assumption) h.2.2.1 (by first | omega | (have k:=(g0 _ (by assumption)).1.2; split<;>omega)) | (have k:=(g0 _ (by assumption)).1.2; split<;>omega) | exact lv)
@[reducible,instance] def Jes{x0 x1}:=mkW (L7.eq_1 N x0 x1) (x0.length≤64∧Qv Qos x0∧x1≤2199023255552) (fun r=>True)
@[reducible,instance] def Jnk{x0 x1}:=mkW (Qdb.eq_1 N x0 x1) (x0.length≤4096) (fun r=>True)
@[reducible,instance] def Q6u{x0 x1}:=mkW (Ws.eq_1 N x0 x1) (x0.2.2.2.2.2.2.1.2.2.2.2.length≤4096) (fun r=>True)
@[reducible,instance] def Q8g{x0 x1}:=mkW (Kw.eq_1 N x0 x1) (x0.2.2.2.2.2.2.1.2.2.2.2.length≤4096) (fun r=>True)
@[reducible,instance] def Q2k{x0 ce c7}:=mkW (Es.eq_1 N x0 ce c7) (ce.2.2.2.2.2.2.1.2.2.2.2.length≤4096) (fun r=>True)
@[reducible,instance] def Q1c{x0 x2}{s}:=mkL (N:=N) (s:=s) (Lb.eq_def N x0 x2) (fun t=>(t.2 - t.1).toNat) (fun t=>x0.2.2.2.2.2.2.1.2.2.2.2.length≤4096∧0≤t.1∧t.1≤t.2∧t.2≤9223372036854775807) (fun r:((Int))=>True) (step:=by
  intro s h
  have g0:=(show 0≤s.1∧s.1<s.2∧s.2≤9223372036854775807→IntKind.wrap .i64 (s.2 - IntKind.wrap .i64 (Int.tdiv (IntKind.wrap .i64 (s.2 - s.1)) 2))=s.2 - (s.2 - s.1) / 2∧IntKind.wrap .i64 (s.2 - (s.2 - s.1) / 2 - 1)=s.2 - (s.2 - s.1) / 2 - 1 from fun a=>by rw[Q6 (n:=s.2 - s.1) (by omega) (by omega),QM (by omega),Q6 (n:=(s.2 - s.1) / 2) (by omega) (by omega),Q6 (by omega) (by omega),Q6 (by omega) (by omega)]; exact⟨rfl,rfl⟩)
  try simp only[sS,reduceCtorEq]at *
  repeat' (first | intro _ | apply And.intro)
  all_goals first | ((have q:=(by assumption:_∧_∧_∧_); have k:=g0 ⟨q.2.1,(by assumption),q.2.2.2⟩; simp only[k.1,k.2]); omega) | exact lv)
@[reducible,instance] def Q8h{x0 x1 x2}:=mkW (B1.eq_1 N x0 x1 x2) (x0.2.2.2.2.2.2.1.2.2.2.2.length≤4096∧x1≤9223372036854775807) (fun r=>True)
@[reducible,instance] def Jof{x0}:=mkW (Sm.eq_1 N x0) (True) (fun r=>True)
@[reducible,instance] def Q8i{ce x2}{s}:=upL (N:=N) (s:=s) (Sp.eq_def N ce x2) (fun t=>t) ce.length (fun t=>ce.length≤1000000000000) (fun r:((Unit)⊕(Int))=>True)
@[reducible,instance] def Jhn{x0 x1_0 x1_2 x2 x3 ce}:=mkW (Po.eq_1 N x0 x1_0 x1_2 x2 x3 ce) (x0.1.length≤40∧ce.length≤1000000000000) (fun r=>True)
@[reducible,instance] def Jho[Y4]{x0 x1_0 x1_2 x2 x3 x4 ce}:=mkW (B2.eq_1 N x0 x1_0 x1_2 x2 x3 x4 ce) (x0.1.length≤40∧Qv (fun m:Ql=>Aft m.1) x0.1∧sz x1_0≤1000000000000∧ce.length≤1000000000000∧x2.2.2.2.2.2.2.1.2.2.2.2.length≤4096) (fun r=>True) (k:=by
  intro h
  have g0:=h.2.1; have g1:=Jqi
  try simp only[sS,reduceCtorEq]at *
  repeat' (first | intro _ | apply And.intro)
  all_goals first | exact g0 | exact g1 _ | exact lv)
@[reducible,instance] def Jqo{x0 x1}:=mkW (Qdc.eq_1 N x0 x1) (x0.2.2.2.2.2.2.1.2.2.2.2.length≤4096) (fun r=>True)
@[reducible,instance] def Jnl{x0 x1 x2}:=mkW (Nk.eq_1 N x0 x1 x2) (x0.2.2.2.2.2.2.1.2.2.2.2.length≤4096) (fun r=>r.2.2.2.2.2.2.2.2.2.2.2.2.2.2.length≤4096)
@[reducible,instance] def Jog{x0 x1}:=mkW (So.eq_1 N x0 x1) (True) (fun r=>True)
@[reducible,instance] def Jim{x0 x1 x2}:=mkW (If.eq_1 N x0 x1 x2) (True) (fun r=>True)
@[reducible,instance] def Jqp[Y4]{x0 x1 x2 x3 x4 x5}:=mkW (Qj6.eq_1 N x0 x1 x2 x3 x4 x5) (Nh x0∧Qv (fun m:Ql=>Aft m.1) x0.1∧Sh.sh x4∧List.length x4≤9223372036854775807) (fun r=>r.2.2.2.2.2.2.2.2.2.2.2.2.2.length≤4096∧(r.2.2.2.2.2.2.2.2.2.2.2.2.1=0→x5<12622780800)) (k:=by
  intro h
  have g0:=h.1.ev; have g1:=h.1.tarL; have g2:=h.1.tarS; have g3:=h.1.tarO; have g4:=h.1.hol; have g5:=h.2.1
  try simp only[sS,reduceCtorEq]at *
  repeat' (first | intro _ | apply And.intro)
  all_goals first | assumption | exact lv)
@[reducible,instance] def Joh{x0 x1 x2}:=mkW (Qfx.eq_1 N x0 x1 x2) (True) (fun r=>True)
@[reducible,instance] def Jhp{v6 x7}{s}:=upL (N:=N) (s:=s) (Qfy.eq_def N v6 x7) (fun t=>t.2) v6.length (fun t=>v6.length≤1000000000000∧t.1 = -1) (fun r:((Int)) => -1≤r∧r<v6.length)
@[reducible,instance] def Jhq{x1}{s}:=upL (N:=N) (s:=s) (Qfz.eq_def N x1) (fun t=>t.1) x1.length (fun t=>x1.length≤1000000000000∧t.2.length=s.2.length∧s.2.length≤1000000000000∧sz t.2≤1000000000000) (fun r:(((List Qa))⊕(Int))=>∀t,r=.inl t→t.length=s.2.length∧sz t≤1000000000000)
@[reducible,instance] def Joi{x0 x1}:=mkW (Sq.eq_1 N x0 x1) (sz x0≤1000000000000∧x1.length≤1000000000000) (fun r=>r.2.length≤x0.length∧sz r.2≤1000000000000)
@[reducible,instance] def Qq4{x0 gn gp gq gr gm gt gw gx gy j9 gk ja cd cj}:=mkW (Zw.eq_1 N x0 gn gp gq gr gm gt gw gx gy j9 gk ja cd cj) (True) (fun r=>True)
@[reducible,instance] def Qjg{ce dv dw dx dy dz ga gb gc gg gi da gj cj}{s}:=upL (N:=N) (s:=s) (Z7.eq_def N ce dv dw dx dy dz ga gb gc gg gi da gj cj) (fun t=>t) ce.length (fun t=>ce.length≤1000000000000) (fun r:((Unit)⊕(Int))=>∀t,r=.inr t→0≤t∧t<ce.length)
@[reducible,instance] def Qmz{ce dv dw dx dy dz ga gb gc gg gi da gj cj}:=mkW (Y2.eq_1 N ce dv dw dx dy dz ga gb gc gg gi da gj cj) (ce.length≤1000000000000) (fun r => -1≤r∧r<ce.length)
@[reducible,instance] def Qu7{cm cy cp cz d6 ck cx ct cq d4 cg ci c7 cd}:=mkW (K7.eq_1 N cm cy cp cz d6 ck cx ct cq d4 cg ci c7 cd) (cd.length≤1000000000000) (fun r => -1≤r.1∧r.1<cd.length∧r.2=cd)
@[reducible,instance] def Qu8{cm cy cp cz d6 ck cx ct cq d4 cg ci c7 cd}:=mkW (K8.eq_1 N cm cy cp cz d6 ck cx ct cq d4 cg ci c7 cd) (cd.length≤1000000000000) (fun r => -1≤r.1∧r.1<cd.length∧r.2.1=cm∧r.2.2.1=cy∧r.2.2.2.1=cp∧r.2.2.2.2.1=cz∧r.2.2.2.2.2.1=d6∧r.2.2.2.2.2.2.1=ck∧r.2.2.2.2.2.2.2.1=cx∧r.2.2.2.2.2.2.2.2.1=ct∧r.2.2.2.2.2.2.2.2.2.1=cq∧r.2.2.2.2.2.2.2.2.2.2.1=d4∧r.2.2.2.2.2.2.2.2.2.2.2.1=cg∧r.2.2.2.2.2.2.2.2.2.2.2.2.1=ci∧r.2.2.2.2.2.2.2.2.2.2.2.2.2.1=c7∧r.2.2.2.2.2.2.2.2.2.2.2.2.2.2=cd)
@[reducible,instance] def Qq5{x0 gn gp gq gr gm gt gw gx gy j9 gk cd cj cw}:=mkW (Zx.eq_1 N x0 gn gp gq gr gm gt gw gx gy j9 gk cd cj cw) (True) (fun r=>True)
@[reducible,instance] def Qjh{ce dv dw dx dy dz ga gb gc gg gi da cj cw}{s}:=upL (N:=N) (s:=s) (Z8.eq_def N ce dv dw dx dy dz ga gb gc gg gi da cj cw) (fun t=>t) ce.length (fun t=>ce.length≤1000000000000) (fun r:((Unit)⊕(Int))=>∀t,r=.inr t→0≤t∧t<ce.length)
@[reducible,instance] def Qm0{ce dv dw dx dy dz ga gb gc gg gi da cj cw}:=mkW (Ua.eq_1 N ce dv dw dx dy dz ga gb gc gg gi da cj cw) (ce.length≤1000000000000) (fun r => -1≤r.1∧r.1<ce.length∧r.2.1=ce∧r.2.2.1=dv∧r.2.2.2.1=dw∧r.2.2.2.2.1=dx∧r.2.2.2.2.2.1=dy∧r.2.2.2.2.2.2.1=dz∧r.2.2.2.2.2.2.2.1=ga∧r.2.2.2.2.2.2.2.2.1=gb∧r.2.2.2.2.2.2.2.2.2.1=gc∧r.2.2.2.2.2.2.2.2.2.2.1=gg∧r.2.2.2.2.2.2.2.2.2.2.2.1=gi∧r.2.2.2.2.2.2.2.2.2.2.2.2.1=da∧r.2.2.2.2.2.2.2.2.2.2.2.2.2.1=cj∧r.2.2.2.2.2.2.2.2.2.2.2.2.2.2=cw)
@[reducible,instance] def Qu9{cm cy cp cz db de dg dh di dj dl dm dn dp jd dq du ck cx ct cq d4 cg c7 cd cj}:=mkW (K9.eq_1 N cm cy cp cz db de dg dh di dj dl dm dn dp jd dq du ck cx ct cq d4 cg c7 cd cj) (cd.length≤1000000000000) (fun r => -1≤r.1∧r.1<cd.length∧r.2.1=cm∧r.2.2.1=cy∧r.2.2.2.1=cp∧r.2.2.2.2.1=cz∧r.2.2.2.2.2.1.1=db∧r.2.2.2.2.2.1.2.1=de∧r.2.2.2.2.2.1.2.2.1=dg∧r.2.2.2.2.2.1.2.2.2.1=dh∧r.2.2.2.2.2.1.2.2.2.2.1=di∧r.2.2.2.2.2.1.2.2.2.2.2.1=dj∧r.2.2.2.2.2.1.2.2.2.2.2.2.1.1=dl∧r.2.2.2.2.2.1.2.2.2.2.2.2.1.2.1=dm∧r.2.2.2.2.2.1.2.2.2.2.2.2.1.2.2.1=dn∧r.2.2.2.2.2.1.2.2.2.2.2.2.1.2.2.2.1=dp∧r.2.2.2.2.2.1.2.2.2.2.2.2.1.2.2.2.2=jd∧r.2.2.2.2.2.1.2.2.2.2.2.2.2.1=dq∧r.2.2.2.2.2.1.2.2.2.2.2.2.2.2=du∧r.2.2.2.2.2.2.1=ck∧r.2.2.2.2.2.2.2.1=cx∧r.2.2.2.2.2.2.2.2.1=ct∧r.2.2.2.2.2.2.2.2.2.1=cq∧r.2.2.2.2.2.2.2.2.2.2.1=d4∧r.2.2.2.2.2.2.2.2.2.2.2.1=cg∧r.2.2.2.2.2.2.2.2.2.2.2.2.1=c7∧r.2.2.2.2.2.2.2.2.2.2.2.2.2.1=cd∧r.2.2.2.2.2.2.2.2.2.2.2.2.2.2=cj)
@[reducible,instance] def Qq6{x0 je gk ja cd}:=mkW (Zy.eq_1 N x0 je gk ja cd) (True) (fun r=>True)
@[reducible,instance] def Qji{ce jb da gj}{s}:=upL (N:=N) (s:=s) (Z9.eq_def N ce jb da gj) (fun t=>t) ce.length (fun t=>ce.length≤1000000000000) (fun r:((Unit)⊕(Int))=>∀t,r=.inr t→0≤t∧t<ce.length)
@[reducible,instance] def Qm1{ce jb da gj}:=mkW (Ub.eq_1 N ce jb da gj) (ce.length≤1000000000000) (fun r => -1≤r∧r<ce.length)
@[reducible,instance] def Qva{ca cg ci c7}:=mkW (Xa.eq_1 N ca cg ci c7) (c7.length≤1000000000000) (fun r => -1≤r.1∧r.1<c7.length∧r.2=c7)
@[reducible,instance] def Qrm{x1 cm cy cp cz d6 ck cx ct cq d4 cg ci c7 cd}:=mkW (Ki.eq_1 N x1 cm cy cp cz d6 ck cx ct cq d4 cg ci c7 cd) (cd.length≤1000000000000∧d6.2.2.2.2.2.2.1.2.2.2.2.length≤4096) (fun r=>r.1=cm∧r.2.1=cy∧r.2.2.1=cp∧r.2.2.2.1=cz∧r.2.2.2.2.1=d6∧r.2.2.2.2.2.1=ck∧r.2.2.2.2.2.2.2.1=ct∧r.2.2.2.2.2.2.2.2.1=cq∧r.2.2.2.2.2.2.2.2.2.1=d4∧r.2.2.2.2.2.2.2.2.2.2.1=cg∧r.2.2.2.2.2.2.2.2.2.2.2.1=ci∧r.2.2.2.2.2.2.2.2.2.2.2.2.1=c7∧r.2.2.2.2.2.2.2.2.2.2.2.2.2.length=cd.length)
@[reducible,instance] def Qrn{x1 ca cg ci c7}:=mkW (Kj.eq_1 N x1 ca cg ci c7) (c7.length≤1000000000000∧ca.2.2.2.2.2.2.1.length≤1000000000000∧ca.2.2.2.2.1.2.2.2.2.2.2.1.2.2.2.2.length≤4096) (fun r=>r.1.1=ca.1∧r.1.2.1=ca.2.1∧r.1.2.2.1=ca.2.2.1∧r.1.2.2.2.1=ca.2.2.2.1∧r.1.2.2.2.2.1=ca.2.2.2.2.1∧r.1.2.2.2.2.2.1=ca.2.2.2.2.2.1∧r.1.2.2.2.2.2.2.1=ca.2.2.2.2.2.2.1∧r.1.2.2.2.2.2.2.2.2.1=ca.2.2.2.2.2.2.2.2.1∧r.1.2.2.2.2.2.2.2.2.2.1=ca.2.2.2.2.2.2.2.2.2.1∧r.1.2.2.2.2.2.2.2.2.2.2=ca.2.2.2.2.2.2.2.2.2.2∧r.2.1=cg∧r.2.2.1=ci∧r.2.2.2.length=c7.length)
@[reducible,instance] def Qvb{c7 x1}{s}:=upL (N:=N) (s:=s) (E3.eq_def N c7 x1) (fun t=>t.2.1) c7.length (fun t=>c7.length≤1000000000000∧t.2.2.length≤t.2.1) (fun r:((Int×(List Qo)))=>r.2.length≤c7.length)
@[reducible,instance] def Qp5{cd x1}{s}:=upL (N:=N) (s:=s) (Gy.eq_def N cd x1) (fun t=>t.2.1) cd.length (fun t=>cd.length≤1000000000000∧t.2.2.length≤t.2.1) (fun r:((Int×(List Qo)))=>r.2.length≤cd.length)
@[reducible,instance] def Qyo{x1 cm cy cp cz d6 ck cx ct cq d4 cg ci c7 cd}:=mkW (Gf.eq_1 N x1 cm cy cp cz d6 ck cx ct cq d4 cg ci c7 cd) (sz cg≤1000000000000∧c7.length≤1000000000000∧cd.length≤1000000000000∧d6.2.2.2.2.2.2.1.2.2.2.2.length≤4096) (fun r=>r.1.1=cm∧r.1.2.1=cy∧r.1.2.2.1=cp∧r.1.2.2.2.1=cz∧r.1.2.2.2.2.2.1=0∧r.1.2.2.2.2.2.2.1=([]:List Qo)∧r.1.2.2.2.2.2.2.2.1=0∧r.1.2.2.2.2.2.2.2.2.2.1=cq∧r.1.2.2.2.2.2.2.2.2.2.2=d4∧r.2.2.1=ci∧r.1.2.2.2.2.2.2.1.length≤1000000000000∧r.1.2.2.2.2.1.2.2.2.2.2.2.1.2.2.2.2.length≤4096∧r.2.1.length≤cg.length∧sz r.2.1≤1000000000000∧r.2.2.2.length=cd.length) (k:=by
  intro h
  try simp only[sS,reduceCtorEq]at *
  repeat' (first | intro _ | apply And.intro)
  all_goals first | ((repeat cases ‹_∧_›); first | assumption | omega | (simp only[*]; first | done | assumption | omega)) | exact lv)
@[reducible,instance] def Qvc{x1 cm cy cp cz db de dg dh di dj dl dm dn dp dq du ck cx ct cq d4 c7 cd cj cw d7}:=mkW (Uj.eq_1 N x1 cm cy cp cz db de dg dh di dj dl dm dn dp dq du ck cx ct cq d4 c7 cd cj cw d7) (sz cj≤1000000000000∧cd.length≤1000000000000∧cw.length≤1000000000000∧c7.length≤4096) (fun r=>r.1.1=cm∧r.1.2.1=cy∧r.1.2.2.1=cp∧r.1.2.2.2.1=cz∧r.1.2.2.2.2.2.1=0∧r.1.2.2.2.2.2.2.1=([]:List Qo)∧r.1.2.2.2.2.2.2.2.1=0∧r.1.2.2.2.2.2.2.2.2.2.1=cq∧r.1.2.2.2.2.2.2.2.2.2.2=d4∧r.2.2.2=d7∧r.1.2.2.2.2.2.2.1.length≤1000000000000∧r.1.2.2.2.2.1.2.2.2.2.2.2.1.2.2.2.2.length≤4096∧r.2.1.length≤cj.length∧sz r.2.1≤1000000000000∧r.2.2.1.length=cw.length) (k:=by
  intro h
  try simp only[sS,reduceCtorEq]at *
  repeat' (first | intro _ | apply And.intro)
  all_goals first | ((repeat cases ‹_∧_›); first | assumption | omega | (simp only[*]; first | done | assumption | omega)) | exact lv)
@[reducible,instance] def Q1d[Y4]{x1 x2 x3 cm cy cp cz db de dg dh di dj dl dm dn dp dq du ck cx ct cq d4 c7 cd cj cw d7}:=mkW (Hq.eq_1 N x1 x2 x3 cm cy cp cz db de dg dh di dj dl dm dn dp dq du ck cx ct cq d4 c7 cd cj cw d7) (Nh x1∧Qv (fun m:Ql=>Aft m.1) x1.1∧(0<x1.1.length→x2<Y4.hi)∧cj.length≤900000000000∧sz cj≤1000000000000∧cw.length≤1000000000∧d7.length≤1000000000∧c7.length≤4096∧cd.length≤1000000000000) (fun r=>r.2.1=cm∧r.2.2.1=cy∧r.2.2.2.1=cp∧r.2.2.2.2.2.1=db∧r.2.2.2.2.2.2.1=de∧r.2.2.2.2.2.2.2.1=dg∧r.2.2.2.2.2.2.2.2.1=dh∧r.2.2.2.2.2.2.2.2.2.1=di∧r.2.2.2.2.2.2.2.2.2.2.1=dj∧r.2.2.2.2.2.2.2.2.2.2.2.1=dl∧r.2.2.2.2.2.2.2.2.2.2.2.2.1=dm∧r.2.2.2.2.2.2.2.2.2.2.2.2.2.1=dn∧r.2.2.2.2.2.2.2.2.2.2.2.2.2.2.1=dp∧r.2.2.2.2.2.2.2.2.2.2.2.2.2.2.2.1=c7∧r.2.2.2.2.2.2.2.2.2.2.2.2.2.2.2.2.1=dq∧r.2.2.2.2.2.2.2.2.2.2.2.2.2.2.2.2.2.1=du∧r.2.2.2.2.2.2.2.2.2.2.2.2.2.2.2.2.2.2.2.2.1=ct∧r.2.2.2.2.2.2.2.2.2.2.2.2.2.2.2.2.2.2.2.2.2.1=cq∧r.2.2.2.2.2.2.2.2.2.2.2.2.2.2.2.2.2.2.2.2.2.2.1=d4∧r.2.2.2.2.2.2.2.2.2.2.2.2.2.2.2.2.2.2.2.2.2.2.2.2.1=d7∧r.2.2.2.2.2.2.2.2.2.2.2.2.2.2.2.2.2.2.2.2.2.2.2.1.length≤cj.length+11468800000∧sz r.2.2.2.2.2.2.2.2.2.2.2.2.2.2.2.2.2.2.2.2.2.2.2.1≤1000000000000∧r.2.2.2.2.2.2.2.2.2.2.2.2.2.2.2.2.2.2.2.2.2.2.2.2.2.1.length≤1000000000000∧r.2.2.2.2.2.2.2.2.2.2.2.2.2.2.2.2.2.2.2.2.2.2.2.2.2.2.length≤cw.length+1) (k:=by
  intro h
  have g0:=h.1.ev; have g1:=h.1.tarL; have g2:=h.1.tarS; have g3:=h.1.tarO; have g4:=h.1.prodL; have g5:=h.1.prodS; have g6:=h.1.prodO; have g7:=h.1.hol
  try simp only[sS,reduceCtorEq]at *
  repeat' (first | intro _ | apply And.intro)
  all_goals first | ((repeat cases ‹_∧_›); first | assumption | omega | (simp only[*]; first | done | assumption | omega) | grind) | exact lv)
@[reducible,instance] def Qvm[Y4]{x1 x2 x3 ca cg c7 cd}:=mkW (Xv.eq_1 N x1 x2 x3 ca cg c7 cd) (Nh x1∧Qv (fun m:Ql=>Aft m.1) x1.1∧(0<x1.1.length→x2<Y4.hi)∧cg.length≤900000000000∧sz cg≤1000000000000∧c7.length≤1000000000∧cd.length≤1000000000∧ca.2.2.2.2.2.2.1.length≤1000000000000∧ca.2.2.2.2.1.2.2.2.2.2.2.1.2.2.2.2.length≤4096) (fun r=>r.2.1.1=ca.1∧r.2.1.2.1=ca.2.1∧r.2.1.2.2.1=ca.2.2.1∧r.2.1.2.2.2.2.1=ca.2.2.2.2.1∧r.2.1.2.2.2.2.2.2.2.2.1=ca.2.2.2.2.2.2.2.2.1∧r.2.1.2.2.2.2.2.2.2.2.2.1=ca.2.2.2.2.2.2.2.2.2.1∧r.2.1.2.2.2.2.2.2.2.2.2.2=ca.2.2.2.2.2.2.2.2.2.2∧r.2.2.2.1=cd∧r.2.1.2.2.2.2.2.2.1.length≤1000000000000∧r.2.1.2.2.2.2.1.2.2.2.2.2.2.1.2.2.2.2.length≤4096∧r.2.2.1.length≤cg.length+11468800000∧sz r.2.2.1≤1000000000000∧r.2.2.2.2.length≤c7.length+1) (k:=by
  intro h
  have g0:=h.1.ev; have g1:=h.1.tarL; have g2:=h.1.tarS; have g3:=h.1.tarO; have g4:=h.1.prodL; have g5:=h.1.prodS; have g6:=h.1.prodO; have g7:=h.1.hol
  try simp only[sS,reduceCtorEq]at *
  repeat' (first | intro _ | apply And.intro)
  all_goals first | ((repeat cases ‹_∧_›); first | assumption | omega | (simp only[*]; first | done | assumption | omega) | grind) | exact lv)
@[reducible,instance] def Q2l{x1 x2 x3 x4 cm cy cp cz d6 ck cx ct cq d4 cg ci c7 cd}:=mkW (Et.eq_1 N x1 x2 x3 x4 cm cy cp cz d6 ck cx ct cq d4 cg ci c7 cd) (True) (fun r=>r=(cg,ci,cm,x1.2.1,cp,cz,d6,ck,cx,ct,cq,(x1.1,x1.2.1,x2,x3,x4),(x1.1,x1.2.1,x2,x3,x4),cm,x1.2.1,cp,cz,d6,ck,cx,ct,cq,(x1.1,x1.2.1,x2,x3,x4),cg,ci,cd,c7))
@[reducible,instance] def Qwe{x1 x2 x3 x4 ca cg ci c7}:=mkW (U9.eq_1 N x1 x2 x3 x4 ca cg ci c7) (True) (fun r=>r=(cg,ci,(ca.1,x1.2.1,ca.2.2.1,ca.2.2.2.1,ca.2.2.2.2.1,ca.2.2.2.2.2.1,ca.2.2.2.2.2.2.1,ca.2.2.2.2.2.2.2.1,ca.2.2.2.2.2.2.2.2.1,ca.2.2.2.2.2.2.2.2.2.1,(x1.1,x1.2.1,x2,x3,x4)),(x1.1,x1.2.1,x2,x3,x4),(ca.1,x1.2.1,ca.2.2.1,ca.2.2.2.1,ca.2.2.2.2.1,ca.2.2.2.2.2.1,ca.2.2.2.2.2.2.1,ca.2.2.2.2.2.2.2.1,ca.2.2.2.2.2.2.2.2.1,ca.2.2.2.2.2.2.2.2.2.1,(x1.1,x1.2.1,x2,x3,x4)),cg,ci,c7))
@[reducible,instance] def Qwf{x1 x2 x3 x4 ca cg c7 cd}:=mkW (Wt.eq_1 N x1 x2 x3 x4 ca cg c7 cd) (True) (fun r=>r=(cg,(ca.1,x1.2.1,ca.2.2.1,ca.2.2.2.1,ca.2.2.2.2.1,ca.2.2.2.2.2.1,ca.2.2.2.2.2.2.1,ca.2.2.2.2.2.2.2.1,ca.2.2.2.2.2.2.2.2.1,ca.2.2.2.2.2.2.2.2.2.1,(x1.1,x1.2.1,x2,x3,x4)),(x1.1,x1.2.1,x2,x3,x4),(ca.1,x1.2.1,ca.2.2.1,ca.2.2.2.1,ca.2.2.2.2.1,ca.2.2.2.2.2.1,ca.2.2.2.2.2.2.1,ca.2.2.2.2.2.2.2.1,ca.2.2.2.2.2.2.2.2.1,ca.2.2.2.2.2.2.2.2.2.1,(x1.1,x1.2.1,x2,x3,x4)),cg,c7,cd))
@[reducible,instance] def Q1e{x1 ca cg ci c7}:=mkW (Hr.eq_1 N x1 ca cg ci c7) (True) (fun r=>r=((ca.1,ca.2.1,ca.2.2.1,x1,ca.2.2.2.2.1,ca.2.2.2.2.2.1,ca.2.2.2.2.2.2.1,ca.2.2.2.2.2.2.2.1,ca.2.2.2.2.2.2.2.2.1,true,ca.2.2.2.2.2.2.2.2.2.2),cg,ci,c7))
@[reducible,instance] def Qvn{x1 ca cg c7 cd}:=mkW (Xu.eq_1 N x1 ca cg c7 cd) (True) (fun r=>r=((ca.1,ca.2.1,ca.2.2.1,x1,ca.2.2.2.2.1,ca.2.2.2.2.2.1,ca.2.2.2.2.2.2.1,ca.2.2.2.2.2.2.2.1,ca.2.2.2.2.2.2.2.2.1,true,ca.2.2.2.2.2.2.2.2.2.2),cg,c7,cd))
@[reducible,instance] def Qvo{x1 x2 cm cy cp cz d6 ck cx ct cq d4 cg ci c7 cd}:=mkW (Xt.eq_1 N x1 x2 cm cy cp cz d6 ck cx ct cq d4 cg ci c7 cd) (True) (fun r=>r.1=cg∧r.2.1=ci∧r.2.2.1=cm∧r.2.2.2.1=x1.2.1∧r.2.2.2.2.1=cp∧r.2.2.2.2.2.1=cz∧r.2.2.2.2.2.2.1=d6∧r.2.2.2.2.2.2.2.1=ck∧r.2.2.2.2.2.2.2.2.1=cx∧r.2.2.2.2.2.2.2.2.2.1=ct∧r.2.2.2.2.2.2.2.2.2.2.1=cq∧r.2.2.2.2.2.2.2.2.2.2.2.1.1=x1.1∧r.2.2.2.2.2.2.2.2.2.2.2.1.2.1=x1.2.1∧r.2.2.2.2.2.2.2.2.2.2.2.1.2.2.1=ck∧r.2.2.2.2.2.2.2.2.2.2.2.1.2.2.2.2=x2∧r.2.2.2.2.2.2.2.2.2.2.2.2.1.1=x1.1∧r.2.2.2.2.2.2.2.2.2.2.2.2.1.2.1=x1.2.1∧r.2.2.2.2.2.2.2.2.2.2.2.2.1.2.2.1=ck∧r.2.2.2.2.2.2.2.2.2.2.2.2.1.2.2.2.2=x2∧r.2.2.2.2.2.2.2.2.2.2.2.2.2.1=cm∧r.2.2.2.2.2.2.2.2.2.2.2.2.2.2.1=x1.2.1∧r.2.2.2.2.2.2.2.2.2.2.2.2.2.2.2.1=cp∧r.2.2.2.2.2.2.2.2.2.2.2.2.2.2.2.2.1=cz∧r.2.2.2.2.2.2.2.2.2.2.2.2.2.2.2.2.2.1=d6∧r.2.2.2.2.2.2.2.2.2.2.2.2.2.2.2.2.2.2.1=ck∧r.2.2.2.2.2.2.2.2.2.2.2.2.2.2.2.2.2.2.2.1=cx∧r.2.2.2.2.2.2.2.2.2.2.2.2.2.2.2.2.2.2.2.2.1=ct∧r.2.2.2.2.2.2.2.2.2.2.2.2.2.2.2.2.2.2.2.2.2.1=cq∧r.2.2.2.2.2.2.2.2.2.2.2.2.2.2.2.2.2.2.2.2.2.2.1.1=x1.1∧r.2.2.2.2.2.2.2.2.2.2.2.2.2.2.2.2.2.2.2.2.2.2.1.2.1=x1.2.1∧r.2.2.2.2.2.2.2.2.2.2.2.2.2.2.2.2.2.2.2.2.2.2.1.2.2.1=ck∧r.2.2.2.2.2.2.2.2.2.2.2.2.2.2.2.2.2.2.2.2.2.2.1.2.2.2.2=x2∧r.2.2.2.2.2.2.2.2.2.2.2.2.2.2.2.2.2.2.2.2.2.2.2.1=cg∧r.2.2.2.2.2.2.2.2.2.2.2.2.2.2.2.2.2.2.2.2.2.2.2.2.1=ci∧r.2.2.2.2.2.2.2.2.2.2.2.2.2.2.2.2.2.2.2.2.2.2.2.2.2.1=cd∧r.2.2.2.2.2.2.2.2.2.2.2.2.2.2.2.2.2.2.2.2.2.2.2.2.2.2=c7∧r.2.2.2.2.2.2.2.2.2.2.2.1=r.2.2.2.2.2.2.2.2.2.2.2.2.1) (k:=by
  intro h
  try simp only[sS,reduceCtorEq]at *
  repeat' (first | intro _ | apply And.intro)
  all_goals first | ((repeat cases ‹_∧_›); first | assumption | omega | (simp only[*]; first | done | assumption | omega)) | exact lv)
@[reducible,instance] def Qq7{x1 x2 ca cg ci c7}:=mkW (Zz.eq_1 N x1 x2 ca cg ci c7) (True) (fun r=>r.1=cg∧r.2.1=ci∧r.2.2.1.1=ca.1∧r.2.2.1.2.1=x1.2.1∧r.2.2.1.2.2.1=ca.2.2.1∧r.2.2.1.2.2.2.1=ca.2.2.2.1∧r.2.2.1.2.2.2.2.1=ca.2.2.2.2.1∧r.2.2.1.2.2.2.2.2.1=ca.2.2.2.2.2.1∧r.2.2.1.2.2.2.2.2.2.1=ca.2.2.2.2.2.2.1∧r.2.2.1.2.2.2.2.2.2.2.1=ca.2.2.2.2.2.2.2.1∧r.2.2.1.2.2.2.2.2.2.2.2.1=ca.2.2.2.2.2.2.2.2.1∧r.2.2.1.2.2.2.2.2.2.2.2.2.1=ca.2.2.2.2.2.2.2.2.2.1∧r.2.2.1.2.2.2.2.2.2.2.2.2.2.1=x1.1∧r.2.2.1.2.2.2.2.2.2.2.2.2.2.2.1=x1.2.1∧r.2.2.1.2.2.2.2.2.2.2.2.2.2.2.2.1=ca.2.2.2.2.2.1∧r.2.2.1.2.2.2.2.2.2.2.2.2.2.2.2.2.2=x2∧r.2.2.2.1.1=x1.1∧r.2.2.2.1.2.1=x1.2.1∧r.2.2.2.1.2.2.1=ca.2.2.2.2.2.1∧r.2.2.2.1.2.2.2.2=x2∧r.2.2.2.2.1.1=ca.1∧r.2.2.2.2.1.2.1=x1.2.1∧r.2.2.2.2.1.2.2.1=ca.2.2.1∧r.2.2.2.2.1.2.2.2.1=ca.2.2.2.1∧r.2.2.2.2.1.2.2.2.2.1=ca.2.2.2.2.1∧r.2.2.2.2.1.2.2.2.2.2.1=ca.2.2.2.2.2.1∧r.2.2.2.2.1.2.2.2.2.2.2.1=ca.2.2.2.2.2.2.1∧r.2.2.2.2.1.2.2.2.2.2.2.2.1=ca.2.2.2.2.2.2.2.1∧r.2.2.2.2.1.2.2.2.2.2.2.2.2.1=ca.2.2.2.2.2.2.2.2.1∧r.2.2.2.2.1.2.2.2.2.2.2.2.2.2.1=ca.2.2.2.2.2.2.2.2.2.1∧r.2.2.2.2.1.2.2.2.2.2.2.2.2.2.2.1=x1.1∧r.2.2.2.2.1.2.2.2.2.2.2.2.2.2.2.2.1=x1.2.1∧r.2.2.2.2.1.2.2.2.2.2.2.2.2.2.2.2.2.1=ca.2.2.2.2.2.1∧r.2.2.2.2.1.2.2.2.2.2.2.2.2.2.2.2.2.2.2=x2∧r.2.2.2.2.2.1=cg∧r.2.2.2.2.2.2.1=ci∧r.2.2.2.2.2.2.2=c7∧r.2.2.1.2.2.2.2.2.2.2.2.2.2=r.2.2.2.1) (k:=by
  intro h
  try simp only[sS,reduceCtorEq]at *
  repeat' (first | intro _ | apply And.intro)
  all_goals first | ((repeat cases ‹_∧_›); first | assumption | omega | (simp only[*]; first | done | assumption | omega)) | exact lv)
@[reducible,instance] def Jin{x0 x1 x2 x3}:=mkW (Ig.eq_1 N x0 x1 x2 x3) (True) (fun r=>r=0→x1.1=x0.1∧x1.2.2.2.1<12622780800)
@[reducible,instance] def Jio[Y4]{x0 x1 x2}:=mkW (T3.eq_1 N x0 x1 x2) (Nh x0∧Qv (fun m:Ql=>Aft m.1) x0.1∧x1.1.length≤900000000000∧sz x1.1≤1000000000000∧x1.2.1.length≤1000000000∧x1.2.2.length≤1000000000∧Sh.sh x2.2.2.2.2.2.2.1∧List.length x2.2.2.2.2.2.2.1≤9223372036854775807∧(0<x0.1.length→x2.2.2.2.1<12622780800→x2.2.2.2.1<Y4.hi)) (fun r=>r.2.1=x1.2.2∧r.1.length≤x1.1.length+11468800000∧sz r.1≤1000000000000∧r.2.2.2.2.2.2.2.2.2.2.2.2.2.2.2.2.2.2.2.2.2.2.2.2.2.2.length≤x1.2.1.length+1∧r.2.2.2.2.2.2.2.2.2.2.2.2.2.2.2.2.1.length≤4096∧r.2.2.2.2.2.2.2.2.2.2.2.2.2.2.2.2.2.2.2.2.1.length≤1000000000000∧((r.2.2.1=0∧r.1=x1.1∧r.2.2.2.2.2.2.2.2.2.2.2.2.2.2.2.2.2.2.2.2.2.2.2.2.2.2=x1.2.1)∨(r.2.2.1=x2.1∧1≤x2.1∧r.2.2.2.1=x2.2.1∧r.2.2.2.2.2.2.2.2.2.2.2.2.2.2.2.2.2.2.2.2.2.2.2.2.1=r.2.2.2.2.2.2.2.2.2.2.2.2.2.2.2.2.2.2.2.2.2.2.2.2.2.1))) (k:=by
  intro h
  have g0:=h.1.ev; have g1:=h.1.tarL; have g2:=h.1.tarS; have g3:=h.1.tarO; have g4:=h.1.prodL; have g5:=h.1.prodS; have g6:=h.1.prodO; have g7:=h.1.hol
  try simp only[sS,reduceCtorEq]at *
  repeat' (first | intro _ | apply And.intro)
  all_goals first | ((repeat cases ‹_∧_›); first | assumption | trivial | omega | (simp only[*]; first | done | trivial | assumption | omega) | (refine .inl ?_; (repeat' apply And.intro)<;>first | rfl | assumption | omega | (simp only[*]; done)) | (refine .inr ?_; (repeat' apply And.intro)<;>first | rfl | assumption | omega | (simp only[*]; done) | grind) | grind) | exact lv)
@[reducible,instance] def Jhr[Y4]{x0 x1 x2 x3}:=mkW (Pp.eq_1 N x0 x1 x2 x3) (Nh x0∧Qv (fun m:Ql=>Aft m.1) x0.1∧x1.1.length≤900000000000∧sz x1.1≤1000000000000∧x1.2.1.length≤1000000000∧x1.2.2.length≤1000000000∧x2.2.2.2.2.2.2.1.length≤1000000000000∧x2.2.2.2.2.1.2.2.2.2.2.2.1.2.2.2.2.length≤4096∧Sh.sh x3.2.2.2.2.2.2.1∧List.length x3.2.2.2.2.2.2.1≤9223372036854775807∧(0<x0.1.length→x3.2.2.2.1<12622780800→x3.2.2.2.1<Y4.hi)) (fun r=>r.2.1=x1.2.2∧r.2.2.1=x2.1∧r.1.length≤x1.1.length+11468800000∧sz r.1≤1000000000000∧r.2.2.2.2.2.2.2.2.2.2.2.2.2.2.2.2.2.2.2.2.2.2.2.2.2.2.length≤x1.2.1.length+1∧r.2.2.2.2.2.2.2.2.2.2.2.2.2.2.2.2.1.length≤4096∧r.2.2.2.2.2.2.2.2.2.2.2.2.2.2.2.2.2.2.2.2.1.length≤1000000000000∧(((r.2.2.1,r.2.2.2.1,r.2.2.2.2.1,r.2.2.2.2.2.1,(r.2.2.2.2.2.2.1,r.2.2.2.2.2.2.2.1,r.2.2.2.2.2.2.2.2.1,r.2.2.2.2.2.2.2.2.2.1,r.2.2.2.2.2.2.2.2.2.2.1,r.2.2.2.2.2.2.2.2.2.2.2.1,(r.2.2.2.2.2.2.2.2.2.2.2.2.1,r.2.2.2.2.2.2.2.2.2.2.2.2.2.1,r.2.2.2.2.2.2.2.2.2.2.2.2.2.2.1,r.2.2.2.2.2.2.2.2.2.2.2.2.2.2.2.1,r.2.2.2.2.2.2.2.2.2.2.2.2.2.2.2.2.1),r.2.2.2.2.2.2.2.2.2.2.2.2.2.2.2.2.2.1,r.2.2.2.2.2.2.2.2.2.2.2.2.2.2.2.2.2.2.1),r.2.2.2.2.2.2.2.2.2.2.2.2.2.2.2.2.2.2.2.1,r.2.2.2.2.2.2.2.2.2.2.2.2.2.2.2.2.2.2.2.2.1,r.2.2.2.2.2.2.2.2.2.2.2.2.2.2.2.2.2.2.2.2.2.1,r.2.2.2.2.2.2.2.2.2.2.2.2.2.2.2.2.2.2.2.2.2.2.1,r.2.2.2.2.2.2.2.2.2.2.2.2.2.2.2.2.2.2.2.2.2.2.2.1,r.2.2.2.2.2.2.2.2.2.2.2.2.2.2.2.2.2.2.2.2.2.2.2.2.1)=x2∧r.1=x1.1∧r.2.2.2.2.2.2.2.2.2.2.2.2.2.2.2.2.2.2.2.2.2.2.2.2.2.2=x1.2.1∧r.2.2.2.2.2.2.2.2.2.2.2.2.2.2.2.2.2.2.2.2.2.2.2.2.2.1.2.1=x3.2.1∧r.2.2.2.2.2.2.2.2.2.2.2.2.2.2.2.2.2.2.2.2.2.2.2.2.2.1.1=x3.1)∨(r.2.2.2.1=x3.2.1∧r.2.2.2.2.2.2.2.2.2.2.2.2.2.2.2.2.2.2.2.2.2.2.2.2.1=r.2.2.2.2.2.2.2.2.2.2.2.2.2.2.2.2.2.2.2.2.2.2.2.2.2.1))) (k:=by
  intro h
  have g0:=h.1.ev; have g1:=h.1.tarL; have g2:=h.1.tarS; have g3:=h.1.tarO; have g4:=h.1.prodL; have g5:=h.1.prodS; have g6:=h.1.prodO; have g7:=h.1.hol
  try simp only[sS,reduceCtorEq]at *
  repeat' (first | intro _ | apply And.intro)
  all_goals first | ((repeat cases ‹_∧_›); first | assumption | trivial | omega | (simp only[*]; first | done | trivial | assumption | omega) | (refine .inl ?_; (repeat' apply And.intro)<;>first | rfl | assumption | omega | (simp only[*]; done)) | (refine .inr ?_; (repeat' apply And.intro)<;>first | rfl | assumption | omega | (simp only[*]; done) | grind) | grind) | exact lv)
@[reducible,instance] def Jnm[Y4]{x0 x1 x2 x3}:=mkW (Qdd.eq_1 N x0 x1 x2 x3) (Nh x0∧Qv (fun m:Ql=>Aft m.1) x0.1∧x1.1.length≤900000000000∧sz x1.1≤1000000000000∧x1.2.1.length≤1000000000∧x1.2.2.length≤1000000000∧x2.2.2.2.2.2.2.1.length≤1000000000000∧x2.2.2.2.2.1.2.2.2.2.2.2.1.2.2.2.2.length≤4096∧Sh.sh x3.2.2.2.2.2.2.1∧List.length x3.2.2.2.2.2.2.1≤9223372036854775807∧(0<x0.1.length→x3.2.2.2.1<12622780800→x3.2.2.2.1<Y4.hi)) (fun r=>r.2.2.2.2.2.2.2.2.2.2.2.2.2.2.2.2.2.2.2.2.2.2.2.2.2.2=x1.2.2∧r.2.1=x2.1∧r.1.length≤x1.1.length+11468800000∧sz r.1≤1000000000000∧r.2.2.2.2.2.2.2.2.2.2.2.2.2.2.2.2.2.2.2.2.2.2.2.2.2.1.length≤x1.2.1.length+1∧r.2.2.2.2.2.2.2.2.2.2.2.2.2.2.2.1.length≤4096∧r.2.2.2.2.2.2.2.2.2.2.2.2.2.2.2.2.2.2.2.1.length≤1000000000000∧(((r.2.1,r.2.2.1,r.2.2.2.1,r.2.2.2.2.1,(r.2.2.2.2.2.1,r.2.2.2.2.2.2.1,r.2.2.2.2.2.2.2.1,r.2.2.2.2.2.2.2.2.1,r.2.2.2.2.2.2.2.2.2.1,r.2.2.2.2.2.2.2.2.2.2.1,(r.2.2.2.2.2.2.2.2.2.2.2.1,r.2.2.2.2.2.2.2.2.2.2.2.2.1,r.2.2.2.2.2.2.2.2.2.2.2.2.2.1,r.2.2.2.2.2.2.2.2.2.2.2.2.2.2.1,r.2.2.2.2.2.2.2.2.2.2.2.2.2.2.2.1),r.2.2.2.2.2.2.2.2.2.2.2.2.2.2.2.2.1,r.2.2.2.2.2.2.2.2.2.2.2.2.2.2.2.2.2.1),r.2.2.2.2.2.2.2.2.2.2.2.2.2.2.2.2.2.2.1,r.2.2.2.2.2.2.2.2.2.2.2.2.2.2.2.2.2.2.2.1,r.2.2.2.2.2.2.2.2.2.2.2.2.2.2.2.2.2.2.2.2.1,r.2.2.2.2.2.2.2.2.2.2.2.2.2.2.2.2.2.2.2.2.2.1,r.2.2.2.2.2.2.2.2.2.2.2.2.2.2.2.2.2.2.2.2.2.2.1,r.2.2.2.2.2.2.2.2.2.2.2.2.2.2.2.2.2.2.2.2.2.2.2.1)=x2∧r.1=x1.1∧r.2.2.2.2.2.2.2.2.2.2.2.2.2.2.2.2.2.2.2.2.2.2.2.2.2.1=x1.2.1∧r.2.2.2.2.2.2.2.2.2.2.2.2.2.2.2.2.2.2.2.2.2.2.2.2.1.2.1=x3.2.1∧r.2.2.2.2.2.2.2.2.2.2.2.2.2.2.2.2.2.2.2.2.2.2.2.2.1.1=x3.1)∨(r.2.2.1=x3.2.1∧r.2.2.2.2.2.2.2.2.2.2.2.2.2.2.2.2.2.2.2.2.2.2.2.1=r.2.2.2.2.2.2.2.2.2.2.2.2.2.2.2.2.2.2.2.2.2.2.2.2.1))) (k:=by
  intro h
  have g0:=h.1.ev; have g1:=h.1.tarL; have g2:=h.1.tarS; have g3:=h.1.tarO; have g4:=h.1.prodL; have g5:=h.1.prodS; have g6:=h.1.prodO; have g7:=h.1.hol
  try simp only[sS,reduceCtorEq]at *
  repeat' (first | intro _ | apply And.intro)
  all_goals first | ((repeat cases ‹_∧_›); first | assumption | trivial | omega | (simp only[*]; first | done | trivial | assumption | omega) | (refine .inl ?_; (repeat' apply And.intro)<;>first | rfl | assumption | omega | (simp only[*]; done)) | (refine .inr ?_; (repeat' apply And.intro)<;>first | rfl | assumption | omega | (simp only[*]; done) | grind) | grind) | exact lv)
structure Ei(p:Int×Qb):Prop where
 key:Bj p.1=true
 id:p.2.1=p.1
 tk:p.2.2.2.2.2.2.2.1.length≤1000000000000
 st:p.2.2.2.2.2.1.2.2.2.2.2.2.1.2.2.2.2.length≤4096
abbrev Q6v:Qb:=(0,0,0,0,(0,0,0,([]:Str),([]:Str),0,(0,([]:Str),([]:Str),0,([]:List Qw)),0,0),0,([]:List Qo),0,0,false,(0,0,0,0,0))
structure Ja6(m:List (Int×Qb))(k q:Int)(a:Qp):Prop where
 ex:∃x:Qb,Qk (k:=.int .i64) k m=some x∧x.2.1=q∧x.2.2.2.2.2.2.2.2.2.2=a
theorem eqI{a b:Int}:eqK (.int .i64) a b=true↔a=b:=U4 rfl
section
variable {V:Type} {k:Int} {x y:V}
theorem Qb9:∀{m:List (Int×V)},Qk (k:=.int .i64) k m=some x→(k,x)∈m
 | z::m,h=>by
  unfold Qk at h
  cases hk:eqK (.int .i64) k z.1 with
  | true=>rw[hk]at h; have:=eqI.1 hk; cases Option.some.inj h; subst this; exact .head _
  | false=>rw[hk]at h; exact .tail _ (Qb9 h)
theorem Qyp:∀{m:List (Int×V)},Qk (k:=.int .i64) k (Jd (k:=.int .i64) k x m:List (Int×V))=some x
 | []=>by simp only[Jd,Qk,Qb8,cond_true]
 | z::m=>by
  unfold Jd
  cases hk:eqK (.int .i64) k z.1 with
  | true=>simp only[Qk,Qb8,cond_true]
  | false=>simp only[cond_false,Qk,hk]; exact Qyp
theorem Ch:∀{m:List (Int×V)},(Jd (k:=.int .i64) k x (Jd (k:=.int .i64) k y m:List (Int×V)):List (Int×V))=Jd (k:=.int .i64) k x m
 | []=>by simp only[Jd,Qb8,cond_true]
 | z::m=>by
  cases hk:eqK (.int .i64) k z.1 with
  | true=>simp only[Jd,hk,Qb8,cond_true]
  | false=>simp only[cond_false,Jd,hk]; rw[Ch]
theorem Q6w:∀{m:List (Int×V)},Qk (k:=.int .i64) k m=none→(H0 (k:=.int .i64) k (Jd (k:=.int .i64) k x m:List (Int×V)):List (Int×V))=m
 | [],_=>by simp only[Jd,H0,Qb8,cond_true]
 | z::m,h=>by
  unfold Qk at h
  unfold Jd
  cases hk:eqK (.int .i64) k z.1 with
  | true=>rw[hk]at h; cases h
  | false=>rw[hk]at h; simp only[cond_false,H0,hk]; rw[Q6w h]
theorem Qyq:∀{m:List (Int×V)},Qk (k:=.int .i64) k m=some x→(Jd (k:=.int .i64) k x m:List (Int×V))=m
 | z::m,h=>by
  unfold Qk at h
  unfold Jd
  cases hk:eqK (.int .i64) k z.1 with
  | true=>rw[hk]at h; have:=eqI.1 hk; cases Option.some.inj h; subst this; rfl
  | false=>rw[hk]at h; simp only[cond_false]; rw[Qyq h]
theorem Qyr:∀{m:List (Int×V)},k∈m.map Prod.fst→(Qk (k:=.int .i64) k m).isSome=true
 | z::m,h=>by
  unfold Qk
  cases hk:eqK (.int .i64) k z.1 with
  | true=>rfl
  | false =>
   rw[QR]at h
   rcases QX.1 h with h | h
   ·rw[h,Qb8]at hk; cases hk
   ·exact Qyr h
end
theorem Jnn{m:List (Int×Qb)}{k:Int}(hs:(Qk (k:=.int .i64) k m).isSome=true)(h:Qv Ei m):Ei (k,(Qk (k:=.int .i64) k m).getD Q6v):=by
 obtain⟨x,hx⟩:=XA.1 hs
 rw[hx]
 exact h.all _ (Qb9 hx)
theorem Qvd{m:List (Int×Qb)}{k:Int}(h:Qv Ei m):((Qk (k:=.int .i64) k m).getD Q6v).2.2.2.2.2.2.1.length≤1000000000000:=by
 cases hx:Qk (k:=.int .i64) k m with
 | none=>exact QO _
 | some x=>exact(h.all _ (Qb9 hx)).tk
theorem Qve{m:List (Int×Qb)}{k:Int}(h:Qv Ei m):((Qk (k:=.int .i64) k m).getD Q6v).2.2.2.2.1.2.2.2.2.2.2.1.2.2.2.2.length≤4096:=by
 cases hx:Qk (k:=.int .i64) k m with
 | none=>exact QO _
 | some x=>exact(h.all _ (Qb9 hx)).st
theorem Q1f{m:List (Int×Qb)}{k:Int}{x:Qb}(h:Qv Ei m)(hx:Ei (k,x)):Qv Ei (Jd (k:=.int .i64) k x m):=⟨fun p hp=>(Qu0 hp).elim (fun e=>e▸hx) (h.all p)⟩
theorem Jno{m:List (Int×Qb)}{k:Int}{x y z:Qb}(h:Qv Ei m)(hx:Ei (k,x)):Qv Ei (Jd (k:=.int .i64) k x (Jd (k:=.int .i64) k y (Jd (k:=.int .i64) k z m))):=by
 rw[Ch,Ch]; exact Q1f h hx
theorem Jnp{m:List (Int×Qb)}{k:Int}{x y z:Qb}(h:Qk (k:=.int .i64) k m=none):H0 (k:=.int .i64) k (Jd (k:=.int .i64) k x (Jd (k:=.int .i64) k y (Jd (k:=.int .i64) k z m)))=m:=by
 rw[Ch,Ch,Q6w h]
theorem Q6x{m:List (Int×Qb)}{k:Int}{x y z:Qb}:(Jd (k:=.int .i64) k x (Jd (k:=.int .i64) k y (Jd (k:=.int .i64) k z m))).length≤m.length+1:=by
 rw[Ch,Ch]; exact Fa k x m
theorem Q6y{m:List (Int×Qb)}{k q:Int}{x:Qb}{a:Qp}(h1:x.2.1=q)(h2:x.2.2.2.2.2.2.2.2.2.2=a):Ja6 (Jd (k:=.int .i64) k x m) k q a:=⟨x,Qyp,h1,h2⟩
theorem Jnq{m:List (Int×Qb)}{k:Int}(hs:(Qk (k:=.int .i64) k m).isSome=true)(h:Qv Ei m):Qk (k:=.int .i64) ((Qk (k:=.int .i64) k m).getD Q6v).1 m=some ((Qk (k:=.int .i64) k m).getD Q6v):=by
 have hi:((Qk (k:=.int .i64) k m).getD Q6v).1=k:=(Jnn hs h).id
 rw[hi]
 obtain⟨x,hx⟩:=XA.1 hs
 rw[hx]; rfl
theorem Jqq{α:Type}{o:Option α}(h:o.isSome=false):o=none:=by cases o with | none=>rfl | some x=>cases h
theorem Jqr{m:List (Int×Qb)}{k:Int}(hs:¬(Qk (k:=.int .i64) k m).isSome=false)(h:Qv Ei m):Ei (k,(Qk (k:=.int .i64) k m).getD Q6v):=Jnn (KZ hs) h
theorem Jqs{m:List (Int×Qb)}{k:Int}{x:Qb}(hs:¬(Qk (k:=.int .i64) k m).isSome=false)(e:x=(Qk (k:=.int .i64) k m).getD Q6v):Jd (k:=.int .i64) k x m=m:=by
 obtain⟨y,hy⟩:=XA.1 (KZ hs)
 rw[hy]at e
 exact Qyq (hy.trans (congrArg some e.symm))
instance wpSortK {β:Type} {m:List (Int×β)}:WP (Qlw m) (fun R=>(m.length≤1099511627776∧∀p∈m,Bj p.1=true)∧R (Qcx (m.map Prod.fst))):=⟨fun R h=>⟨_,by
 have h1:Nat.ble (m.length*8) 140737488355328=true:=by rw[Nat.ble_eq]; have:=h.1.1; omega
 have h2:(m.all fun q=>Bj q.1)=true:=QP.2 fun q hq=>h.1.2 q hq
 unfold Qlw
 rw[h1,h2]; rfl,h.2⟩⟩
structure Q1g(l:List Int)(m:List (Int×Qb)):Prop where
 len:l.length=m.length
 all:∀k∈l,(Qk (k:=.int .i64) k m).isSome=true
 on:∀k x,Qk (k:=.int .i64) k m=some x→k∈l
theorem A4(m:List (Int×Qb)):Q1g (Qcx (m.map Prod.fst)) m:=⟨by rw[(Ap _).length_eq,JD],fun k hk=>Qyr ((Ap _).mem_iff.1 hk),fun k x hx=>(Ap _).mem_iff.2 (QK.2 ⟨_,Qb9 hx,rfl⟩)⟩
theorem Qh0{m:List (Int×Qb)}(h:Qv Ei m):∀p∈m,Bj p.1=true:=fun p hp=>(h.all p hp).key
structure Jxt(t:Int)(m:List (Int×Qb))(k:Int):Prop where
 ok:∀x:Qb,Qk (k:=.int .i64) k m=some x→x.2.2.2.2.2.2.2.2.2.1=true∨t<x.2.2.2.1
structure Jyl(t:Int)(m:List (Int×Qb)):Prop where
 ok:∀k,Jxt t m k
theorem Jnr{l:List Q3}{i:Nat}{x y:Q3}(hx:l[i]?=some x)(hy:l[i]?=some y):l.set i (y.1,x.2)=l:=by
 rw[hx]at hy
 rw[←Option.some.inj hy]
 exact Fb hx rfl
theorem Jns{l:List Jg}{i:Nat}{x y:Jg}(hx:l[i]?=some x)(hy:l[i]?=some y):l.set i (y.1,x.2)=l:=by
 rw[hx]at hy
 rw[←Option.some.inj hy]
 exact Fb hx rfl
theorem Jnt{l:List Y0}{i:Nat}{x y:Y0}(hx:l[i]?=some x)(hy:l[i]?=some y):l.set i (y.1,y.2.1,y.2.2.1,y.2.2.2.1,x.2.2.2.2)=l:=by
 rw[hx]at hy
 rw[←Option.some.inj hy]
 exact Fb hx rfl
theorem Jnu{l:List Jk}{i:Nat}{x y:Jk}(hx:l[i]?=some x)(hy:l[i]?=some y):l.set i (y.1,x.2.1,y.2.2)=l:=by
 rw[hx]at hy
 rw[←Option.some.inj hy]
 exact Fb hx rfl
theorem Jnv{l:List Yj}{i:Nat}{x y:Yj}(hx:l[i]?=some x)(hy:l[i]?=some y):l.set i (y.1,x.2.1,y.2.2.1,y.2.2.2.1,y.2.2.2.2.1,y.2.2.2.2.2)=l:=by
 rw[hx]at hy
 rw[←Option.some.inj hy]
 exact Fb hx rfl
theorem Jnw{l:List Qn}{i:Nat}{x y:Qn}(hx:l[i]?=some x)(hy:l[i]?=some y):l.set i (y.1,y.2.1,y.2.2.1,y.2.2.2.1,y.2.2.2.2.1,x.2.2.2.2.2)=l:=by
 rw[hx]at hy
 rw[←Option.some.inj hy]
 exact Fb hx rfl
theorem Jqt{l:List Jb}{i:Nat}{x y:Jb}(hx:l[i]?=some x)(hy:l[i]?=some y):l.set i (y.1,y.2.1,y.2.2.1,y.2.2.2.1,x.2.2.2.2.1,y.2.2.2.2.2)=l:=by
 rw[hx]at hy
 rw[←Option.some.inj hy]
 exact Fb hx rfl
structure Q1h(l:List Ql):Prop where
 all:∀e∈l,(0≤e.1∧e.1<12622780800)∧∀a,l[0]?=some a→a.1≤e.1
structure Asc(l:List Ql)(v t:Int):Prop where
 lo:∀j:Nat,(j:Int)<v→∀e,l[j]?=some e→(0≤e.1∧e.1<12622780800)∧∀a,l[0]?=some a→a.1≤e.1
 hi:0<v→∀a,l[0]?=some a→a.1≤t
theorem Jnx{l:List Ql}:Asc l 0 0:=⟨fun j h=>by omega,fun h=>by omega⟩
theorem Jny{l:List Ql}{v t:Int}{x:Ql}(h0:0≤v)(h:Asc l v t)(hx:l[v.toNat]?=some x)(p:0≤x.1)(p2:x.1<12622780800)(q:t≤x.1):Asc l (v+1) x.1:=by
 have key:∀a,l[0]?=some a→a.1≤x.1:=fun a ha=>by
  by_cases hv:0<v
  ·have:=h.hi hv a ha; omega
  ·have e:v.toNat=0:=by omega
   rw[e,ha]at hx
   cases Option.some.inj hx; exact JB _
 refine⟨fun j hj e he=>?_,fun _=>key⟩
 by_cases hv:(j:Int)<v
 ·exact h.lo j hv e he
 ·have e1:v.toNat=j:=by omega
  rw[e1,he]at hx
  cases Option.some.inj hx
  exact⟨⟨p,p2⟩,key⟩
theorem Jqu{l:List Ql}{v t:Int}(h:Asc l v t)(hv:l.length≤v):Q1h l:=⟨fun e he=>by
 obtain⟨j,hj⟩:=List.mem_iff_getElem?.1 he
 exact h.lo j (by have:=(List.getElem?_eq_some_iff.1 hj).1; omega) e hj⟩
structure Qdz(l:List Ql)(t:Int):Prop where
 at_:∀a,l[0]?=some a→t<69120000∨t - 69120000<a.1
theorem Jhs{l:List Ql}{t:Int}{x:Ql}(hx:l[0]?=some x)(ht:¬t<69120000)(h:t≤9223372036854775807)(h1:x.1>IntKind.wrap .i64 (t - 69120000)):Qdz l t:=⟨fun a ha=>by
 rw[ha]at hx; cases Option.some.inj hx
 rw[Q6 (by omega) (by omega)]at h1
 exact .inr (by omega)⟩
theorem Qys{l:List Ql}{t:Int}(ht:t<69120000):Qdz l t:=⟨fun a ha=>.inl ht⟩
theorem Qvf{l:List Ql}{t:Int}(ht:l.length=0):Qdz l t:=⟨fun a ha=>by rw[QH ht]at ha; cases ha⟩
@[reducible,instance] def Qyt{ca cg ci c7 cd}:=mkW (Z6.eq_1 N ca cg ci c7 cd) (True) (fun r=>r=true)
@[reducible,instance] def Qyu{ca d5 c7}:=mkW (Gh.eq_1 N ca d5 c7) (True) (fun r=>r=(true,ca,d5,c7))
@[reducible,instance] def Jht{x0 x1}:=mkW (Hj.eq_1 N x0 x1) (True) (fun r=>r=(x0.1,x0.2.1,0,0,x1))
@[reducible,instance] def Qyv{ce}:=mkW (Gg.eq_1 N ce) (True) (fun r=>r=ce)
@[reducible,instance] def Qwg[Y4]{x1 ca cg ci c7 cd}:=mkW (Wu.eq_1 N x1 ca cg ci c7 cd) (Nh ca∧Qv (fun m:Ql=>Aft m.1) ca.1∧cg.length≤900000000000∧sz cg≤1000000000000∧c7.length≤1000000000∧ci.length≤1000000000∧Sh.sh x1.2.2.2.2.2.2.1∧List.length x1.2.2.2.2.2.2.1≤9223372036854775807∧(0<ca.1.length→x1.2.2.2.1<12622780800→x1.2.2.2.1<Y4.hi)∧Qv Ei cd∧cd.length≤1000000000∧Bj x1.1=true∧Qk (k:=.int .i64) x1.1 cd=none) (fun r=>r.2.1=ca∧r.2.2.1.length≤cg.length+11468800000∧sz r.2.2.1≤1000000000000∧r.2.2.2.2.2.length≤c7.length+1∧r.2.2.2.1=ci∧Qv Ei r.2.2.2.2.1∧r.2.2.2.2.1.length≤cd.length+1∧((r.2.2.1=cg∧r.2.2.2.2.2=c7∧r.2.2.2.1=ci∧r.2.2.2.2.1=cd)∨(Ja6 r.2.2.2.2.1 x1.1 x1.2.1 r.1))) (k:=by
  intro h
  have g0:=h.1.ev; have g1:=h.1.tarL; have g2:=h.1.tarS; have g3:=h.1.tarO; have g4:=h.1.prodL; have g5:=h.1.prodS; have g6:=h.1.prodO; have g7:=h.1.hol
  try simp only[sS,reduceCtorEq]at *
  repeat' (first | intro _ | apply And.intro)
  all_goals first | ((repeat cases ‹_∧_›); first | assumption | omega | exact Qvd (by assumption) | exact Qve (by assumption) | (rw[Jnp (by assumption)]; first | assumption | omega | (refine .inl ?_; grind)) | exact QY Q6x (by omega) | (have k:=(Q6x:(Jd (k:=.int .i64) _ _ _:List (Int×Qb)).length≤_); omega) | (refine Jno (by assumption) ⟨by assumption,?_,?_,?_⟩<;>(dsimp only; first | assumption | omega | grind)) | (refine Q1f (by assumption) ⟨by assumption,?_,?_,?_⟩<;>(dsimp only; first | assumption | omega | grind)) | (refine .inr ?_; rw[Ch,Ch]; refine Q6y ?_ ?_<;>(dsimp only; grind)) | (simp only[*]; first | done | assumption | omega) | grind) | exact lv)
@[reducible,instance] def Qe0[Y4]{x1 ca cg ci c7 cd}:=mkW (Yr.eq_1 N x1 ca cg ci c7 cd) (Nh ca∧Qv (fun m:Ql=>Aft m.1) ca.1∧cg.length≤900000000000∧sz cg≤1000000000000∧c7.length≤1000000000∧ci.length≤1000000000∧Sh.sh x1.2.2.2.2.2.2.1∧List.length x1.2.2.2.2.2.2.1≤9223372036854775807∧(0<ca.1.length→x1.2.2.2.1<12622780800→x1.2.2.2.1<Y4.hi)∧Qv Ei cd∧cd.length≤1000000000∧Bj x1.1=true) (fun r=>r.2.1=ca∧r.2.2.1.length≤cg.length+11468800000∧sz r.2.2.1≤1000000000000∧r.2.2.2.2.2.length≤c7.length+1∧r.2.2.2.1=ci∧Qv Ei r.2.2.2.2.1∧r.2.2.2.2.1.length≤cd.length+1∧((r.2.2.1=cg∧r.2.2.2.2.2=c7∧r.2.2.2.1=ci∧r.2.2.2.2.1=cd)∨(1≤x1.2.2.1∧x1.2.2.1≤4∧Ja6 r.2.2.2.2.1 x1.1 x1.2.1 r.1))) (k:=by
  intro h
  have g0:=h.1.ev; have g1:=h.1.tarL; have g2:=h.1.tarS; have g3:=h.1.tarO; have g4:=h.1.prodL; have g5:=h.1.prodS; have g6:=h.1.prodO; have g7:=h.1.hol
  try simp only[sS,reduceCtorEq]at *
  repeat' (first | intro _ | apply And.intro)
  all_goals first | assumption | omega | exact QY Un (by omega) | exact Or.inl trivial | ((repeat cases ‹_∧_›); first | assumption | exact Jqq (by assumption) | exact Qvd (by assumption) | exact Qve (by assumption) | exact Fa _ _ _ | (have k1:=(Jqr (by assumption) (by assumption)).id; dsimp only at k1; refine Q1f (by assumption) ⟨by assumption,?_,?_,?_⟩<;>dsimp only<;>first | assumption | (exact Eq.trans (by assumption) k1) | omega) | (rcases ‹_∨_› with hh | hh<;>(repeat cases ‹_∧_›)<;>first | exact .inl ⟨by assumption,by assumption,by assumption,by assumption⟩ | exact .inr ⟨by omega,by omega,by assumption⟩ | (refine .inl ⟨?_,?_,?_,Jqs (by assumption) (by assumption)⟩<;>assumption) | (refine .inr ⟨?_,?_,Q6y ?_ ?_⟩<;>first | omega | (dsimp only; assumption) | (dsimp only; exact Eq.symm (by assumption)))) | omega) | exact lv)
@[reducible,instance] def Qvg{ca d5 c7}:=mkW (Xb.eq_1 N ca d5 c7) (Qv Ei c7∧c7.length≤1000000100) (fun r=>r.1.length≤1000000100∧Q1g r.1 c7∧r.2=c7) (k:=by
  intro h
  try simp only[sS,reduceCtorEq]at *
  repeat' (first | intro _ | apply And.intro)
  all_goals first | ((repeat cases ‹_∧_›); first | assumption | omega | exact Qh0 (by assumption) | exact Qh0 (by assumption) _ (by assumption) | exact A4 _ | exact(A4 _).len▸(by assumption) | exact Va | exact Qvd (by assumption) | exact Qve (by assumption) | exact Ai | exact Eq.trans (by assumption) (by assumption)  | (simp only[*]; first | done | assumption)) | exact lv)
@[reducible,instance] def Q6z{x0}:=mkW (Ae.eq_1 N x0) (x0.2.2.2.2.2.2.1.length≤1000000000000∧x0.2.2.2.2.1.2.2.2.2.2.2.1.2.2.2.2.length≤4096) (fun r=>r=(x0.1,x0.2.1,x0.2.2.1,x0.2.2.2.1,x0.2.2.2.2.1.1,x0.2.2.2.2.1.2.1,x0.2.2.2.2.1.2.2.1,x0.2.2.2.2.1.2.2.2.1,x0.2.2.2.2.1.2.2.2.2.1,x0.2.2.2.2.1.2.2.2.2.2.1,x0.2.2.2.2.1.2.2.2.2.2.2.1.1,x0.2.2.2.2.1.2.2.2.2.2.2.1.2.1,x0.2.2.2.2.1.2.2.2.2.2.2.1.2.2.1,x0.2.2.2.2.1.2.2.2.2.2.2.1.2.2.2.1,x0.2.2.2.2.1.2.2.2.2.2.2.2.1,x0.2.2.2.2.1.2.2.2.2.2.2.2.2,x0.2.2.2.2.2.1,x0.2.2.2.2.2.2.2.1,x0.2.2.2.2.2.2.2.2.1,x0.2.2.2.2.2.2.2.2.2.1,x0.2.2.2.2.2.2.2.2.2.2,x0.2.2.2.2.1.2.2.2.2.2.2.1.2.2.2.2,x0.2.2.2.2.2.2.1))
@[reducible,instance] def Qap{ca cg ci c7 cd}:=mkW (V0.eq_1 N ca cg ci c7 cd) (sz cg≤1000000000000∧c7.length≤1000000000000∧ci.length≤1000000000000) (fun r=>r=(c7,cg,c7,ci))
@[reducible,instance] def Qro{r5 r6}{s}:=upL (N:=N) (s:=s) (Ef.eq_def N r5 r6) (fun t=>t.1) r5.length (fun t=>r5.length≤1000000100∧Q1g r5 r6∧Qv Ei r6∧r6.length≤1000000100∧t.2.length≤t.1∧Qv (fun x:Qb=>Qk (k:=.int .i64) x.1 r6=some x) t.2) (fun r:(((List Qb)))=>Qv (fun x:Qb=>Qk (k:=.int .i64) x.1 r6=some x) r∧r.length≤1000000100) (step:=by
  intro s h h0 h1 h2 hw
  try simp only[sS,reduceCtorEq]at *
  repeat' (first | intro _ | apply And.intro)
  all_goals first | ((repeat cases ‹_∧_›); first | assumption | omega | exact Qh0 (by assumption) | exact Qh0 (by assumption) _ (by assumption) | exact A4 _ | exact(A4 _).len▸(by assumption) | exact Va | exact Qvd (by assumption) | exact Qve (by assumption) | exact Ai | exact Eq.trans (by assumption) (by assumption) | exact Uo (by assumption) (Xz (Jnq ((by assumption:Q1g _ _).all _ (by assumption)) (by assumption))) | (simp only[*]; first | done | assumption)) | exact lv)
@[reducible,instance] def Qaq{ca cg jc ci c7}:=mkW (Vy.eq_1 N ca cg jc ci c7) (Qv Ei c7∧c7.length≤1000000100) (fun r=>r.1=ca∧r.2.1=(cg,jc,ci)∧r.2.2.1=c7∧Qv (fun x:Qb=>Qk (k:=.int .i64) x.1 c7=some x) r.2.2.2∧r.2.2.2.length≤1000000100) (k:=by
  intro h
  try simp only[sS,reduceCtorEq]at *
  repeat' (first | intro _ | apply And.intro)
  all_goals first | ((repeat cases ‹_∧_›); first | assumption | omega | exact Qh0 (by assumption) | exact Qh0 (by assumption) _ (by assumption) | exact A4 _ | exact(A4 _).len▸(by assumption) | exact Va | exact Qvd (by assumption) | exact Qve (by assumption) | exact Ai | exact Eq.trans (by assumption) (by assumption)  | (simp only[*]; first | done | assumption)) | exact lv)
@[reducible,instance] def Qvp{x0 x1}{s}:=upL (N:=N) (s:=s) (Ax.eq_def N x0 x1) (fun t=>t) x0.2.2.2.2.2.1.length (fun t=>x0.2.2.2.2.2.1.length=x1.2.2.2.2.2.1.length∧x0.2.2.2.2.2.1.length≤9223372036854775807) (fun r:((Unit)⊕(Bool))=>∀u,r=.inr u→x0≠x1)
@[reducible,instance] def Q1i{x0 x1}:=mkW (Hs.eq_1 N x0 x1) (sz x0≤9223372036854775807) (fun r=>x0=x1→r=true)
@[reducible,instance] def Q1j{x0 x1}{s}:=upL (N:=N) (s:=s) (Lc.eq_def N x0 x1) (fun t=>t) x0.length (fun t=>x0.length=x1.length∧x0.length≤9223372036854775807∧sz x0≤9223372036854775807) (fun r:((Unit)⊕(Bool))=>∀u,r=.inr u→x0≠x1)
@[reducible,instance] def Q8j{x0 x1}:=mkW (B3.eq_1 N x0 x1) (sz x0≤9223372036854775807) (fun r=>x0=x1→r=true)
@[reducible,instance] def Q1k{x0 x1}{s}:=upL (N:=N) (s:=s) (Ld.eq_def N x0 x1) (fun t=>t) x0.2.1.length (fun t=>x0.2.1.length=x1.2.1.length∧x0.2.1.length≤9223372036854775807) (fun r:((Unit)⊕(Bool))=>∀u,r=.inr u→x0≠x1)
@[reducible,instance] def Q1l{x0 x1}{s}:=upL (N:=N) (s:=s) (Le.eq_def N x0 x1) (fun t=>t) x0.2.2.length (fun t=>x0.2.2.length=x1.2.2.length∧x0.2.2.length≤9223372036854775807) (fun r:((Unit)⊕(Bool))=>∀u,r=.inr u→x0≠x1)
@[reducible,instance] def Qiu{x0 x1}:=mkW (Gz.eq_1 N x0 x1) (sz x0≤9223372036854775807) (fun r=>x0=x1→r=true)
@[reducible,instance] def Q1m{x0 x1}{s}:=upL (N:=N) (s:=s) (Lf.eq_def N x0 x1) (fun t=>t) x0.2.2.2.2.2.2.1.2.2.2.2.length (fun t=>x0.2.2.2.2.2.2.1.2.2.2.2.length=x1.2.2.2.2.2.2.1.2.2.2.2.length∧x0.2.2.2.2.2.2.1.2.2.2.2.length≤9223372036854775807) (fun r:((Unit)⊕(Bool))=>∀u,r=.inr u→x0≠x1)
@[reducible,instance] def Q8k{x0 x1}:=mkW (G0.eq_1 N x0 x1) (sz x0≤9223372036854775807) (fun r=>x0=x1→r=true)
@[reducible,instance] def Qrp{x0 x1}{s}:=upL (N:=N) (s:=s) (Eg.eq_def N x0 x1) (fun t=>t) x0.length (fun t=>x0.length=x1.length∧x0.length≤9223372036854775807) (fun r:((Unit)⊕(Bool))=>∀u,r=.inr u→x0≠x1)
@[reducible,instance] def Qwh{x0 x1}:=mkW (Za.eq_1 N x0 x1) (sz x0≤9223372036854775807) (fun r=>x0=x1→r=true)
@[reducible,instance] def Q8l{x0 x1:Qb}:WP (G1 N x0 x1) (fun R=>(sz x0≤9223372036854775807)∧∀r,(x0=x1→r=true)→R r):=Qhb (by
  intro h
  have hz:=h
  simp only[sz1,mx1]at hz
  obtain⟨a,ea,ha⟩:=(inferInstance:WP (G0 N x0.2.2.2.2.1 x1.2.2.2.2.1) _).spec _ ⟨by simp only[sz1,mx1]; omega,fun r h=>h⟩
  obtain⟨b,eb,hb⟩:=(inferInstance:WP (Za N x0.2.2.2.2.2.2.1 x1.2.2.2.2.2.2.1) _).spec _ ⟨by simp only[sz1,mx1]; omega,fun r h=>h⟩
  unfold G1
  rw[ea,eb]
  by_cases e:x0=x1
  ·subst e
   rw[ha rfl,hb rfl]
   exact⟨true,by simp,fun _=>rfl⟩
  ·simp only[QJ]
   split<;>simp only[QJ]<;>split<;>exact⟨_,rfl,fun h=>absurd h e⟩)
@[reducible,instance] def Qo0{x0 x1}{s}:=upL (N:=N) (s:=s) (W5.eq_def N x0 x1) (fun t=>t) x0.length (fun t=>x0.length=x1.length∧x0.length≤9223372036854775807∧sz x0≤9223372036854775807) (fun r:((Unit)⊕(Bool))=>∀u,r=.inr u→x0≠x1)
@[reducible,instance] def N1{x0 x1}:=mkW (V5.eq_1 N x0 x1) (sz x0≤9223372036854775807) (fun r=>x0=x1→r=true)
@[reducible,instance] def Q8m{x0}:=mkW (Gl.eq_1 N x0) (True) (fun r=>r.length=5∧(∀b,r[0]?=some b→(b=true↔(x0=1∨x0=2∨x0=3∨x0=14∨x0=15))))
@[reducible,instance] def Jet{x0}:=mkW (Fd.eq_1 N x0) (True) (fun r=>True)
@[reducible,instance] def Q1n{x0}{s}:=upL (N:=N) (s:=s) (Ir.eq_def N x0) (fun t=>t) x0.length (fun t=>Sh.sh x0) (fun r:((Unit)⊕(Bool))=>True) (fun _ h=>Qhd (by grind))
@[reducible,instance] def Q8n{x0}:=mkW (Ur.eq_1 N x0) (Sh.sh x0) (fun r=>True)
@[reducible,instance] def Qyw{x0}{s}:=upL (N:=N) (s:=s) (Ck.eq_def N x0) (fun t=>t) x0.length (fun t=>Sh.sh x0) (fun r:((Unit)⊕(Bool))=>True) (fun _ h=>Qhd (by grind))
@[reducible,instance] def Q60{x0}:=mkW (Wh.eq_1 N x0) (Sh.sh x0) (fun r=>True)
@[reducible,instance] def Q61{x0}:=mkW (Fk.eq_1 N x0) (True) (fun r=>True)
@[reducible,instance] def Q8o{x0 x1}:=mkW (Bn.eq_1 N x0 x1) (Sh.sh x0) (fun r=>r=0→0≤x0.1∧x0.1<12622780800∧x1≤x0.1)
@[reducible,instance] def Qvq{x0 x1}{s}:=Qmw (N:=N) (s:=s) (Aq.eq_def N x0 x1) x0.1 (sz x0≤9223372036854775807) (fun y=>y.1≠x1) (∀y∈x0.1,y.1≠x1) (fun u=>0≤u∧u<x0.1.length∧∃a∈x0.1,a.1=x1)
@[reducible,instance] def Q1o{x0 x1}:=mkW (Ks.eq_1 N x0 x1) (sz x0≤9223372036854775807) (fun r => -1≤r∧r<x0.1.length∧(0≤r→∃a∈x0.1,a.1=x1)∧(r<0→∀a∈x0.1,a.1≠x1))
@[reducible,instance] def Q2m{x0 x1}{s}:=Qmw (N:=N) (s:=s) (Mp.eq_def N x0 x1) x0.2.1 (sz x0≤9223372036854775807) (fun y=>y.1≠x1) (∀y∈x0.2.1,y.1≠x1) (fun u=>0≤u∧u<x0.2.1.length∧∃a∈x0.2.1,a.1=x1)
@[reducible,instance] def Ja7{x0 x1}:=mkW (Xo.eq_1 N x0 x1) (sz x0≤9223372036854775807) (fun r => -1≤r∧r<x0.2.1.length∧(0≤r→∃a∈x0.2.1,a.1=x1)∧(r<0→∀a∈x0.2.1,a.1≠x1))
@[reducible,instance] def Qyx{x0 x1}{s}:=upL (N:=N) (s:=s) (Cl.eq_def N x0 x1) (fun t=>t) x0.2.2.length (fun t=>sz x0≤9223372036854775807) (fun r:((Unit)⊕(Bool))=>True)
@[reducible,instance] def Q62{x0 x1}:=mkW (Wi.eq_1 N x0 x1) (sz x0≤9223372036854775807) (fun r=>True)
@[reducible,instance] def Q1p{x0 x1}{s}:=upL (N:=N) (s:=s) (Is.eq_def N x0 x1) (fun t=>t) x0.2.1.length (fun t=>sz x0≤9223372036854775807) (fun r:((Unit)⊕(Bool))=>True)
@[reducible,instance] def Q8p{x0 x1}:=mkW (Bo.eq_1 N x0 x1) (sz x0≤9223372036854775807) (fun r=>True)
@[reducible,instance] def Qwi{x0 x1}:=mkW (Wj.eq_1 N x0 x1) (sz x0≤9223372036854775807) (fun r=>r=0→x1.2.1≠1→∃a∈x0.1,a.1=x1.2.2.1)
@[reducible,instance] def Q2n{x0 x1}{s}:=upL (N:=N) (s:=s) (Mq.eq_def N x0 x1) (fun t=>t) x0.length (fun t=>sz x0≤9223372036854775807) (fun r:((Unit)⊕(Bool))=>True)
@[reducible,instance] def Ja8{x0 x1}:=mkW (Zi.eq_1 N x0 x1) (sz x0≤9223372036854775807) (fun r=>True)
@[reducible,instance] def Qyy{x0 x1}{s}:=upL (N:=N) (s:=s) (Cm.eq_def N x0 x1) (fun t=>t) x0.2.1.length (fun t=>sz x0≤9223372036854775807) (fun r:((Unit)⊕(Bool))=>True)
@[reducible,instance] def Q63{x0 x1}:=mkW (Fl.eq_1 N x0 x1) (sz x0≤9223372036854775807) (fun r=>True)
@[reducible,instance] def Q64{x0 x1}:=mkW (Fn.eq_1 N x0 x1) (sz x0≤9223372036854775807) (fun r=>r=0→∃a∈x0.2.1,a.1=x1.2.2.2.1)
@[reducible,instance] def Q65{x0 x1 x2}:=mkW (Fo.eq_1 N x0 x1 x2) (sz x0≤9223372036854775807∧Sh.sh x1) (fun r=>r=0→(0≤x1.1∧x1.1<12622780800∧x2≤x1.1∧(x1.2.1=2→∃a∈x0.1,a.1=x1.2.2.1)∧(¬ (x1.2.1=1∨x1.2.1=2∨x1.2.1=3∨x1.2.1=14∨x1.2.1=15)→∃a∈x0.2.1,a.1=x1.2.2.2.1)))
@[reducible,instance] def Q1q{x0 x1}{s}:=upL (N:=N) (s:=s) (Iu.eq_def N x0 x1) (fun t=>t) x0.length (fun t=>sz x0≤9223372036854775807) (fun r:((Int))=>0≤r∧r≤x0.length)
@[reducible,instance] def Q8q{x0 x1}:=mkW (Gm.eq_1 N x0 x1) (sz x0≤1099511627776) (fun r=>sz r≤sz x0+1)
@[reducible,instance] def Qvr{x0 x1}{s}:=upL (N:=N) (s:=s) (Ar.eq_def N x0 x1) (fun t=>t.1) x0.length (fun t=>sz x0≤1099511627776∧t.2.length≤t.1∧sz t.2≤(sz x0)) (fun r:(((List Str)))=>sz r≤(sz x0))
@[reducible,instance] def Q1r{x0 x1}:=mkW (Kt.eq_1 N x0 x1) (sz x0≤1099511627776) (fun r=>sz r≤(sz x0))
@[reducible,instance] def Q1s{x0 x1}:=mkW (Hf.eq_1 N x0 x1) (sz x0≤1099511627776) (fun r=>r.2.2.2.2.1.length≤x0.2.2.2.2.1.length+1∧r.2.2.2.2.2.1.length≤x0.2.2.2.2.2.1.length+1)
@[reducible,instance] def Q66{x0 x1}:=mkW (Fp.eq_1 N x0 x1) (sz x0≤1099511627776∧(x1.2.1=2→∃a∈x0.1,a.1=x1.2.2.1)∧(¬ (x1.2.1=1∨x1.2.1=2∨x1.2.1=3∨x1.2.1=14∨x1.2.1=15)→∃a∈x0.2.1,a.1=x1.2.2.2.1)) (fun r=>sz r.1≤sz x0.1+1∧sz r.2.1≤sz x0.2.1+1∧sz r.2.2≤sz x0.2.2+1)
@[reducible,instance] def Qyz{x0}{s}:=upL (N:=N) (s:=s) (Cn.eq_def N x0) (fun t=>t.2.1) x0.length (fun t=>x0.length≤4096∧Sh.sh x0∧sz t.2.2.1≤t.2.1∧sz t.2.2.2.1≤t.2.1∧sz t.2.2.2.2≤t.2.1∧Asc x0 t.2.1 t.1) (fun r:((Unit)⊕(Int×Int))=>(∀u,r=.inl u→Q1h x0)∧∀u,r=.inr u→u.2≠0) (step:=by
  intro s h h0 h1 h2 hw
  try simp only[sS,reduceCtorEq]at *
  repeat' (first | intro _ | apply And.intro)
  all_goals first | assumption | (rw[hw (by assumption)]; refine Jny h0 h.2.2.2.2.2 (by assumption) ?_ ?_ ?_<;>grind) | exact Jqu h.2.2.2.2.2 (by omega) | exact lv)
@[reducible,instance] def Q67{x0}:=mkW (Fq.eq_1 N x0) (sz x0≤1099511627776∧Sh.sh x0) (fun r=>r.2=0→Q1h x0) (k:=by
  intro h
  try simp only[sS,reduceCtorEq]at *
  repeat' (first | intro _ | apply And.intro)
  all_goals first | exact Jnx | assumption | (exfalso; (repeat cases ‹_∧_›); (exact absurd (by assumption) (by assumption))) | exact lv)
@[reducible,instance] def Qy0{x0}{s}:=upL (N:=N) (s:=s) (Co.eq_def N x0) (fun t=>t) x0.length (fun t=>sz x0≤9223372036854775807∧Sh.sh x0) (fun r:((Unit)⊕(Int))=>True)
@[reducible,instance] def Qy1{x0}{s}:=upI (N:=N) (s:=s) (Cp.eq_def N x0) (fun t=>t) ((x0.length:Int)) (fun t=>sz x0≤9223372036854775807∧1≤t) (fun r:((Unit)⊕(Int))=>True)
@[reducible,instance] def Q68{x0}:=mkW (Fr.eq_1 N x0) (sz x0≤9223372036854775807∧Sh.sh x0) (fun r=>r=0→sz x0≤64)
@[reducible,instance] def Q2o{x0}:=mkW (El.eq_1 N x0) (sz x0≤9223372036854775807∧Sh.sh x0) (fun r=>r=0→sz x0≤64)
@[reducible,instance] def Q2p{x0}{s}:=Qmw (N:=N) (s:=s) (Ms.eq_def N x0) x0.2.2.2.2.2 (sz x0≤9223372036854775807∧Sh.sh x0) (fun y=>(sz y:Int)≤64) ((szL (x0.2.2.2.2.2):Int)≤64) (fun u=>u≠0)
@[reducible,instance] def Ja9{x0}:=mkW (Do.eq_1 N x0) (sz x0≤9223372036854775807∧Sh.sh x0) (fun r=>r=0→sz x0≤64)
@[reducible,instance] def Qy2{x0}{s}:=Qmw (N:=N) (s:=s) (Cq.eq_def N x0) x0 (sz x0≤9223372036854775807∧Sh.sh x0) (fun y=>(sz y:Int)≤64) ((szL (x0):Int)≤64) (fun u=>u≠0)
@[reducible,instance] def Q69{x0}:=mkW (Fs.eq_1 N x0) (sz x0≤9223372036854775807∧Sh.sh x0) (fun r=>r=0→sz x0≤4096)
theorem Ni{N:Nat}[Cf N]:∀(n:Nat) (e:Ja),dpt e≤n→sz e≤4096→W (Vx N n e) fun r=>r=e
 | 0,e,h,hs=>by cases e with | mk a ks=>rw[dpt]at h; omega
 | n+1,e,h,hs=>by
  unfold Vx
  have hk:=Jms (e:=e)
  have hlen:=Un (l:=e.ks)
  have ih:∀x:Ja,WP (Vx N n x) (fun R=>(x∈e.ks∧sz x≤4096)∧∀r:Ja,r=x→R r):=fun x=>Qhb fun hx=>Ni n x (by have:=Jmu hx.1; omega) hx.2
  have loop:=fun(q:List Ja) (s:Int×List Ja)=>upL (N:=N) (s:=s) (Ow.eq_def N (Vx N n) q) (fun s=>s.1) q.length (fun s=>q=e.ks∧sz q≤4096∧q.length≤4096∧s.2=q) (fun r:List Ja=>r=q) (step:=by
   intro s h h0 h1 h2 hw
   obtain⟨s1,s2⟩:=s
   obtain⟨h6,h3,h4,h5⟩:=h
   dsimp only at *
   subst h5
   subst h6
   try simp only[sS,reduceCtorEq]at *
   repeat' (first | intro _ | apply And.intro)
   all_goals first | assumption | omega | (subst_vars; exact Fb (by assumption) rfl) | rfl | grind)
  refine wp ?_
  simp only[forall_eq]
  refine⟨by omega,⟨⟨trivial,by omega,by omega,trivial⟩,by omega,by omega⟩,?_⟩
  cases e with
  | mk a ks=>rfl
@[reducible,instance] def Jeu{N:Nat}[hN:Cf N]{x0:Ja}:WP (Qd7 N x0) (fun R=>(sz x0≤4096∧dpt x0≤4096)∧∀r:Ja,r=x0→R r):=Qhb (by
  intro h
  have:=hN.le
  exact Ni N x0 (by omega) h.1)
@[reducible,instance] def Q1t{r1}{s}:=upL (N:=N) (s:=s) (I3.eq_def N r1) (fun t=>t.1) r1.length (fun t=>sz r1≤4096∧t.2=r1∧r1.length≤4096) (fun r:(((List Q3)))=>r=r1) (step:=by
  intro s h h0 h1 h2 hw
  try simp only[sS,reduceCtorEq]at *
  repeat' (first | intro _ | apply And.intro)
  all_goals first | exact QY Un (by omega) | ((repeat cases ‹_∧_›); subst_vars; exact Jnr (by assumption) (by assumption)) | assumption | omega | exact lv)
@[reducible,instance] def Q1u{r2}{s}:=upL (N:=N) (s:=s) (I4.eq_def N r2) (fun t=>t.1) r2.length (fun t=>sz r2≤4096∧t.2=r2∧r2.length≤4096) (fun r:(((List Jg)))=>r=r2) (step:=by
  intro s h h0 h1 h2 hw
  try simp only[sS,reduceCtorEq]at *
  repeat' (first | intro _ | apply And.intro)
  all_goals first | exact QY Un (by omega) | ((repeat cases ‹_∧_›); subst_vars; exact Jns (by assumption) (by assumption)) | assumption | omega | exact lv)
@[reducible,instance] def Q1v{r3}{s}:=upL (N:=N) (s:=s) (I5.eq_def N r3) (fun t=>t.1) r3.length (fun t=>sz r3≤4096∧t.2=r3∧r3.length≤4096) (fun r:(((List Y0)))=>r=r3) (step:=by
  intro s h h0 h1 h2 hw
  try simp only[sS,reduceCtorEq]at *
  repeat' (first | intro _ | apply And.intro)
  all_goals first | exact QY Un (by omega) | ((repeat cases ‹_∧_›); subst_vars; exact Jnt (by assumption) (by assumption)) | assumption | omega | exact lv)
@[reducible,instance] def Q1w{r4}{s}:=upL (N:=N) (s:=s) (I6.eq_def N r4) (fun t=>t.1) r4.length (fun t=>sz r4≤4096∧t.2=r4∧Qv (fun d:Jk=>dpt d.2.1≤4096) r4∧r4.length≤4096) (fun r:(((List Jk)))=>r=r4) (step:=by
  intro s h h0 h1 h2 hw
  try simp only[sS,reduceCtorEq]at *
  repeat' (first | intro _ | apply And.intro)
  all_goals first | exact QY Un (by omega) | ((repeat cases ‹_∧_›); subst_vars; exact Jnu (by assumption) (by assumption)) | assumption | omega | exact Zc (P:=fun d:Jk=>dpt d.2.1≤4096) (by rw[←h.2.1]; assumption) h.2.2.1 | exact lv)
@[reducible,instance] def Q8r{x0}:=mkW (Bu.eq_1 N x0) (sz x0≤4096∧A3 x0) (fun r=>r=x0) (k:=by
  intro h
  have g0:=h.2.deep
  try simp only[sS,reduceCtorEq]at *
  repeat' (first | intro _ | apply And.intro)
  all_goals first | exact⟨g0⟩ | assumption | omega | exact lv)
@[reducible,instance] def Q7a{r4}{s}:=upL (N:=N) (s:=s) (Ox.eq_def N r4) (fun t=>t.1) r4.length (fun t=>sz r4≤4096∧t.2=r4∧Qv A3 r4∧r4.length≤4096) (fun r:(((List Q0)))=>r=r4) (step:=by
  intro s h h0 h1 h2 hw
  try simp only[sS,reduceCtorEq]at *
  repeat' (first | intro _ | apply And.intro)
  all_goals first | exact QY Un (by omega) | ((repeat cases ‹_∧_›); subst_vars; exact Fb (by assumption) rfl) | assumption | omega | exact Zc (by rw[←h.2.1]; assumption) h.2.2.1 | exact lv)
@[reducible,instance] def Q7b{r29}{s}:=upL (N:=N) (s:=s) (Oy.eq_def N r29) (fun t=>t.1) r29.length (fun t=>sz r29≤4096∧t.2=r29∧r29.length≤4096) (fun r:(((List Yj)))=>r=r29) (step:=by
  intro s h h0 h1 h2 hw
  try simp only[sS,reduceCtorEq]at *
  repeat' (first | intro _ | apply And.intro)
  all_goals first | exact QY Un (by omega) | ((repeat cases ‹_∧_›); subst_vars; exact Jnv (by assumption) (by assumption)) | assumption | omega | exact lv)
@[reducible,instance] def Q7c{r5}{s}:=upL (N:=N) (s:=s) (Oz.eq_def N r5) (fun t=>t.1) r5.length (fun t=>sz r5≤4096∧t.2=r5∧r5.length≤4096) (fun r:(((List Qn)))=>r=r5) (step:=by
  intro s h h0 h1 h2 hw
  try simp only[sS,reduceCtorEq]at *
  repeat' (first | intro _ | apply And.intro)
  all_goals first | exact QY Un (by omega) | ((repeat cases ‹_∧_›); subst_vars; exact Jnw (by assumption) (by assumption)) | assumption | omega | exact lv)
@[reducible,instance] def Q7d{r6}{s}:=upL (N:=N) (s:=s) (O4.eq_def N r6) (fun t=>t.1) r6.length (fun t=>t.2=r6∧r6.length≤140737488355328∧Qv (fun a:Jb=>a.2.2.2.2.1.length*24≤140737488355328) r6) (fun r:(((List Jb)))=>r=r6) (step:=by
  intro s h h0 h1 h2 hw
  try simp only[sS,reduceCtorEq]at *
  repeat' (first | intro _ | apply And.intro)
  all_goals first | exact QY Un (by omega) | ((repeat cases ‹_∧_›); subst_vars; exact Jqt (by assumption) (by assumption)) | assumption | omega | exact Zc (P:=fun a:Jb=>a.2.2.2.2.1.length*24≤140737488355328) (by rw[←h.1]; assumption) h.2.2 | exact lv)
@[reducible,instance] def Jev{x0}:=mkW (L1.eq_1 N x0) (Nh x0∧x0.2.2.2.1.length*32≤140737488355328∧x0.2.2.2.2.2.length*72≤140737488355328∧Qv (fun a:Jb=>a.2.2.2.2.1.length*24≤140737488355328) x0.2.2.2.2.2) (fun r=>r=x0) (k:=by
  intro h
  have g0:=h.1.ev; have g1:=h.1.tarL; have g2:=h.1.tarS; have g3:=h.1.tarO; have g4:=h.1.prodL; have g5:=h.1.prodS; have g6:=h.1.prodO; have g7:=h.1.hol
  try simp only[sS,reduceCtorEq]at *
  repeat' (first | intro _ | apply And.intro)
  all_goals first | assumption | omega | exact QY Un (by omega) | exact lv)
@[reducible,instance] def Qm2{x0 x1}:=mkW (Qcz.eq_1 N x0 x1) (Nh x0∧x0.2.2.2.1.length*32≤140737488355328∧x0.2.2.2.2.2.length*72≤140737488355328∧Qv (fun a:Jb=>a.2.2.2.2.1.length*24≤140737488355328) x0.2.2.2.2.2∧sz x1.1≤1000000000000∧x1.2.1.length≤1000000000000∧x1.2.2.length≤1000000000000) (fun r=>r=(x0.1,x0.2.1,x0.2.2.1,x0.2.2.2.1,x0.2.2.2.2.1,x0.2.2.2.2.2,x1.1,x1.2.1,x1.2.2,[]))
@[reducible,instance] def Q7e{x0}:=mkW (Wk.eq_1 N x0) (True) (fun r=>True)
@[reducible,instance] def Q7f{x0}:=mkW (Ft.eq_1 N x0) (True) (fun r=>True)
@[reducible,instance] def Q1x{x0}{s}:=upL (N:=N) (s:=s) (Iv.eq_def N x0) (fun t=>t) x0.length (fun t=>Sh.sh x0) (fun r:((Unit)⊕(Bool))=>True) (fun _ h=>Qhd (by grind))
@[reducible,instance] def Q8s{x0}:=mkW (Gn.eq_1 N x0) (Sh.sh x0) (fun r=>True)
@[reducible,instance] def Q1y{x0}{s}:=upL (N:=N) (s:=s) (Iw.eq_def N x0) (fun t=>t) x0.length (fun t=>Sh.sh x0) (fun r:((Unit)⊕(Bool))=>True) (fun _ h=>Qhd (by grind))
@[reducible,instance] def Q8t{x0}:=mkW (Gp.eq_1 N x0) (Sh.sh x0) (fun r=>True)
@[reducible,instance] def Qvs{x0 v1 x1 x2}{s}:=upI (N:=N) (s:=s) (As.eq_def N x0 v1 x1 x2) (fun t=>t) (9223372036854775807) (fun t=>sz x0≤9223372036854775807∧0≤v1∧v1≤x1∧x1<x0.length∧∀z,x0[x1.toNat]?=some z→0≤x2∧x2<z.2.length∧x0.length≤9223372036854775807) (fun r:((Unit)⊕(Bool))=>True)
@[reducible,instance] def Qvt{x1 x0 x2}{s}:=upI (N:=N) (s:=s) (At.eq_def N x1 x0 x2) (fun t=>t) (x1+1) (fun t=>sz x0≤9223372036854775807∧0≤x1∧x1<x0.length∧∀z,x0[x1.toNat]?=some z→0≤x2∧x2<z.2.length∧x0.length≤9223372036854775807) (fun r:((Unit)⊕(Bool))=>True)
@[reducible,instance] def Q1z{x0 x1 x2}:=mkW (Hg.eq_1 N x0 x1 x2) (sz x0≤9223372036854775807∧0≤x1∧x1<x0.length∧(∀z,x0[x1.toNat]?=some z→0≤x2∧x2<z.2.length)) (fun r=>True)
@[reducible,instance] def Q10{x1 x0 x2}{s}:=upI (N:=N) (s:=s) (Ix.eq_def N x1 x0 x2) (fun t=>t) (x1) (fun t=>x1≤x0.length∧x0.length≤9223372036854775807) (fun r:((Unit)⊕(Int))=>∀u,r=.inr u→u≠0)
@[reducible,instance] def Q11{x2 x0 x1}{s}:=upL (N:=N) (s:=s) (Iy.eq_def N x2 x0 x1) (fun t=>t) x2.2.length (fun t=>sz x2≤9223372036854775807∧sz x0≤9223372036854775807∧Sh.sh x2∧Sh.sh x0∧0≤x1∧x1<x0.length∧x0[x1.toNat]?=some x2∧x0.length≤9223372036854775807) (fun r:((Unit)⊕(Int))=>∀u,r=.inr u→u≠0)
@[reducible,instance] def Q8u{x0 x1}:=mkW (Bp.eq_1 N x0 x1) (sz x0≤9223372036854775807∧Sh.sh x0∧0≤x1∧x1<x0.length) (fun r=>r=0→∃z,x0[x1.toNat]?=some z∧z.2.length≤64)
@[reducible,instance] def Qy3{x0}{s}:=Qmw (N:=N) (s:=s) (Cr.eq_def N x0) x0 (sz x0≤9223372036854775807∧Sh.sh x0) (fun y=>(sz y:Int)≤64) ((szL (x0):Int)≤64) (fun u=>u≠0)
@[reducible,instance] def Q7g{x0}:=mkW (Fu.eq_1 N x0) (sz x0≤9223372036854775807∧Sh.sh x0) (fun r=>r=0→sz x0≤64)
@[reducible,instance] def Qy4{x0}{s}:=upL (N:=N) (s:=s) (Cs.eq_def N x0) (fun t=>t) x0.length (fun t=>sz x0≤9223372036854775807) (fun r:((Unit)⊕(Int))=>True)
@[reducible,instance] def Q7h{x0 x1}:=mkW (Fv.eq_1 N x0 x1) (sz x0≤9223372036854775807) (fun r=>r=0→x0.length≤64)
@[reducible,instance] def Qy5{v1 x0}{s}:=upI (N:=N) (s:=s) (Ct.eq_def N v1 x0) (fun t=>t) (v1) (fun t=>v1<x0.length∧x0.length≤9223372036854775807) (fun r:((Unit)⊕(Int))=>∀u,r=.inr u→u≠0)
@[reducible,instance] def Qy6{x0}{s}:=Qmw (N:=N) (s:=s) (Cu.eq_def N x0) x0 (sz x0≤9223372036854775807∧Sh.sh x0) (fun y=>(sz y:Int)≤64) ((szL (x0):Int)≤64) (fun u=>u≠0)
@[reducible,instance] def Q7i{x0}:=mkW (Fw.eq_1 N x0) (sz x0≤9223372036854775807∧Sh.sh x0) (fun r=>r=0→sz x0≤64)
@[reducible,instance] def Q12{x0 x1}{s}:=upL (N:=N) (s:=s) (Iz.eq_def N x0 x1) (fun t=>t) x0.2.2.2.1.length (fun t=>sz x0≤9223372036854775807) (fun r:((Unit)⊕(Bool))=>True)
@[reducible,instance] def Q8v{x0 x1}:=mkW (Bq.eq_1 N x0 x1) (sz x0≤9223372036854775807) (fun r=>True)
@[reducible,instance] def Q13{x0 x1}{s}:=upL (N:=N) (s:=s) (I0.eq_def N x0 x1) (fun t=>t) x0.2.2.2.2.1.length (fun t=>sz x0≤9223372036854775807) (fun r:((Unit)⊕(Bool))=>True)
@[reducible,instance] def Q8w{x0 x1}:=mkW (Br.eq_1 N x0 x1) (sz x0≤9223372036854775807) (fun r=>True)
@[reducible,instance] def Qy7{x0}{s}:=upL (N:=N) (s:=s) (Cv.eq_def N x0) (fun t=>t.2) x0.length (fun t=>sz x0≤9223372036854775807) (fun r:((Unit)⊕(Int))=>True)
@[reducible,instance] def Q7j{x0}:=mkW (Fx.eq_1 N x0) (sz x0≤9223372036854775807) (fun r=>r=0→x0.length≤64)
@[reducible,instance] def Qy8{x0}{s}:=Qmw (N:=N) (s:=s) (Cw.eq_def N x0) x0.2.2.2.2.2.1 (sz x0≤9223372036854775807) (fun y=>(sz y:Int)≤64) ((szL (x0.2.2.2.2.2.1):Int)≤64) (fun u=>u≠0)
@[reducible,instance] def Q7k{x0}:=mkW (Fy.eq_1 N x0) (sz x0≤9223372036854775807) (fun r=>r=0→sz x0.2.2.2.2.2.1≤64)
@[reducible,instance] def Q7l{x0}:=mkW (Fz.eq_1 N x0) (True) (fun r=>r≤2∧(x0=4→r=1)∧(¬ (x0=1∨x0=2∨x0=3∨x0=4)→r=2∨r = -1))
@[reducible,instance] def Q2q{x0 x1}{s}:=upL (N:=N) (s:=s) (Mt.eq_def N x0 x1) (fun t=>t) x0.length (fun t=>sz x0≤9223372036854775807) (fun r:((Unit)⊕(Bool))=>True)
@[reducible,instance] def Jba{x0 x1}:=mkW (H5.eq_1 N x0 x1) (sz x0≤9223372036854775807) (fun r=>True)
@[reducible,instance] def Qwj{x0}:=mkW (U7.eq_1 N x0) (True) (fun r=>True)
@[reducible,instance] def Jbb{x0}:=mkW (Dp.eq_1 N x0) (Sh.sh x0) (fun r=>r=0→x0.ks.length≤2∧((x0.x.1=4→x0.ks.length=1)∧(¬ (x0.x.1=1∨x0.x.1=2∨x0.x.1=3∨x0.x.1=4)→x0.ks.length=2)))
@[reducible,instance] def Q2r{x0 x1}:=mkW (Em.eq_1 N x0 x1) ((x0.x.1=4→1≤x1.length)∧(¬ (x0.x.1=1∨x0.x.1=2∨x0.x.1=3∨x0.x.1=4)→2≤x1.length)) (fun r=>True)
theorem Jnz{α:Type}{a:α}(ks:List (K1 α)):sz (K1.mk a ks)=sz ks:=by
 have:∀l:List (K1 α),szL l=Jgw l:=fun l=>by
  induction l with
  | nil=>rfl
  | cons x l ih=>simp only[szL,Jgw,ih]; rfl
 show rsz (.mk a ks)=max ks.length (szL ks)
 rw[this]; simp only[rsz]
theorem Q7m{N:Nat}[Cf N]:∀(n:Nat) (e:Ja) (d:Int),1≤d→d≤17→18≤n+d→W (Vw N n e d) fun r=>r.2=0→(sz e≤2∧(dpt e:Int)≤17 - d)
 | 0,e,d,h0,h1,h2=>by omega
 | n+1,e,d,h0,h1,h2=>by
  unfold Vw
  by_cases hd:d>16
  ·rw[if_pos (by simpa using hd)]
   exact⟨_,rfl,fun h=>by cases h⟩
  ·rw[if_neg (by simpa using hd)]
   have hw:IntKind.wrap .i64 (d+1)=d+1:=Q6 (by omega) (by omega)
   have ih:∀x:Ja,WP (Vw N n x (IntKind.wrap .i64 (d+1))) (fun R=>True∧∀r:Int×Int,(r.2=0→(sz x≤2∧(dpt x:Int)≤16 - d))→R r):=fun x=>Qhb fun h=>by
    rw[hw]; exact(Q7m n x (d+1) (by omega) (by omega) (by omega)).mono fun r hr hz=>⟨(hr hz).1,by have:=(hr hz).2; omega⟩
   have hfin:e.ks.length≤2→Qjd (fun y=>sz y≤2∧(dpt y:Int)≤16 - d) e.ks e.ks.length→sz e≤2∧(dpt e:Int)≤17 - d:=fun hl ha=>by
    have h3:=fun y hy=>Qor ha (JB _) y hy
    refine⟨?_,?_⟩
    ·have h4:sz e=sz e.ks:=by cases e with | mk a ks=>exact Jnz ks
     rw[h4]
     exact Q55 hl fun y hy=>(h3 y hy).1
    ·have h5:=Jvj (e:=e) (K:=(16 - d).toNat) (fun y hy=>by have:=(h3 y hy).2; omega)
     omega
   have loop:=fun s:Int×List Int=>upL (N:=N) (s:=s) (Ov.eq_def N (Vw N n) e d) (fun s=>s.1) e.ks.length (fun s=>e.ks.length≤2∧s.2.length=s.1∧Qjd (fun y=>sz y≤2∧(dpt y:Int)≤16 - d) e.ks s.1) (fun r:List Int⊕(Int×Int)=>(∀a,r=.inl a→a.length=e.ks.length∧Qjd (fun y=>sz y≤2∧(dpt y:Int)≤16 - d) e.ks e.ks.length)∧∀w,r=.inr w→w.2≠0) (step:=by
    intro s h h0 h1 h2 hw
    try simp only[sS,reduceCtorEq]at *
    repeat' (first | intro _ | apply And.intro)
    all_goals first | assumption | omega | (rw[hw (by assumption)]; exact Qkq h0 h.2.2 (by assumption) (by clear h; grind)) | ((have e1:s.1=e.ks.length:=by omega); rw[←e1]; exact h.2.2) | grind)
   refine wp ?_
   simp only[sS,reduceCtorEq,Sum.forall]at *
   repeat' (first | intro _ | apply And.intro)
   all_goals first | assumption | omega | exact Ai | (simp_all; done) | grind
@[reducible,instance] def Jew{N:Nat}[hN:Cf N]{x0:Ja}{x1:Int}:WP (Qd6 N x0 x1) (fun R=>(x1=1)∧∀r:Int×Int,(r.2=0→(sz x0≤2∧dpt x0≤16))→R r):=Qhb (by
  intro h
  have:=hN.le
  exact(Q7m N x0 x1 (by omega) (by omega) (by omega)).mono fun r hr hz=>⟨(hr hz).1,by have:=(hr hz).2; omega⟩)
@[reducible,instance] def Q8x{x0}:=mkW (Bs.eq_1 N x0) (True) (fun r=>r.2=0→sz x0≤2∧dpt x0≤16)
@[reducible,instance] def Qrq{v1 x0 x2}{s}:=upI (N:=N) (s:=s) (Ec.eq_def N v1 x0 x2) (fun t=>t) (v1) (fun t=>v1≤x0.2.2.2.2.2.2.length∧x0.2.2.2.2.2.2.length≤9223372036854775807) (fun r:((Unit)⊕(Int))=>∀u,r=.inr u→u≠0)
@[reducible,instance] def Qrr{x0}{s}:=Qmw (N:=N) (s:=s) (Ed.eq_def N x0) x0.2.2.2.2.2.2 (sz x0≤9223372036854775807∧Sh.sh x0) (fun y=>(sz y:Int)≤64∧dpt y.2.1≤4096) ((szL x0.2.2.2.2.2.2:Int)≤64∧A3 x0) (fun u=>u≠0) (fin:=fun h hall=>⟨Q04 (fun y hy=>(hall y hy).1) (by omega),⟨fun y hy=>(hall y hy).2⟩⟩)
@[reducible,instance] def Qwk{x0}:=mkW (Wl.eq_1 N x0) (sz x0≤9223372036854775807∧Sh.sh x0) (fun r=>r=0→sz x0.2.2.2.2.2.2≤64∧A3 x0)
@[reducible,instance] def Q2s{x0}:=mkW (Eo.eq_1 N x0) (sz x0≤9223372036854775807∧Sh.sh x0) (fun r=>r=0→sz x0≤64∧A3 x0)
@[reducible,instance] def Q7n{x0 x1}:=mkW (F0.eq_1 N x0 x1) (sz x0≤9223372036854775807∧sz x1≤9223372036854775807) (fun r=>True)
@[reducible,instance] def Qy9{x0}{s}:=Qmw (N:=N) (s:=s) (Cy.eq_def N x0) x0 (sz x0≤9223372036854775807∧Sh.sh x0) (fun y=>(sz y:Int)≤64∧A3 y) ((szL x0:Int)≤64∧Qv A3 x0) (fun u=>u≠0) (fin:=fun h hall=>⟨Q04 (fun y hy=>(hall y hy).1) (by omega),⟨fun y hy=>(hall y hy).2⟩⟩)
@[reducible,instance] def Q7o{x0}:=mkW (F2.eq_1 N x0) (sz x0≤9223372036854775807∧Sh.sh x0) (fun r=>r=0→sz x0≤4096∧Qv A3 x0)
@[reducible,instance] def Q7p{x0}:=mkW (F4.eq_1 N x0) (True) (fun r=>True)
@[reducible,instance] def Q2t{x0}{s}:=Qmw (N:=N) (s:=s) (Mu.eq_def N x0) x0 (sz x0≤9223372036854775807) (fun y=>(sz y:Int)≤6) ((szL (x0):Int)≤6) (fun u=>u≠true)
@[reducible,instance] def Jbc{x0}:=mkW (Dq.eq_1 N x0) (sz x0≤9223372036854775807) (fun r=>r=true→sz x0≤12)
@[reducible,instance] def Jbd{x0}:=mkW (Dr.eq_1 N x0) (sz x0≤9223372036854775807) (fun r=>r=true→sz x0≤12) (k:=by
  intro h
  try simp only[sS,reduceCtorEq]at *
  repeat' (first | intro _ | apply And.intro)
  all_goals first | (simp only[sz1,mx1,Qmv]at *; omega) | exact lv)
@[reducible,instance] def Q14{x0 x1}:=mkW (Hh.eq_1 N x0 x1) (sz x0≤9223372036854775807∧sz x1≤9223372036854775807) (fun r=>True)
@[reducible,instance] def Q15{x0 x1}{s}:=upL (N:=N) (s:=s) (I1.eq_def N x0 x1) (fun t=>t) x0.length (fun t=>sz x0≤9223372036854775807∧x0.length≤9223372036854775807) (fun r:((Unit)⊕(Int))=>True)
@[reducible,instance] def Q8y{x0 x1}:=mkW (Bt.eq_1 N x0 x1) (sz x0≤9223372036854775807) (fun r=>True)
@[reducible,instance] def Q2u{x0 x1}:=mkW (Ep.eq_1 N x0 x1) (sz x0≤9223372036854775807∧sz x1≤9223372036854775807) (fun r=>True)
@[reducible,instance] def Qvu{x0}{s}:=upI (N:=N) (s:=s) (Au.eq_def N x0) (fun t=>t) (x0.length) (fun t=>sz x0≤9223372036854775807∧x0.length≤9223372036854775807∧1≤t) (fun r:((Unit)⊕(Bool))=>True)
@[reducible,instance] def Q16{x0}:=mkW (Hi.eq_1 N x0) (sz x0≤9223372036854775807) (fun r=>True)
@[reducible,instance] def Qrs{x0}{s}:=upI (N:=N) (s:=s) (Ee.eq_def N x0) (fun t=>t) (x0.length) (fun t=>sz x0≤9223372036854775807∧x0.length≤9223372036854775807∧1≤t) (fun r:((Unit)⊕(Bool))=>True)
@[reducible,instance] def Qwl{x0}:=mkW (Wm.eq_1 N x0) (x0.length≤9223372036854775807) (fun r=>True)
@[reducible,instance] def Q17{x0}{s}:=upL (N:=N) (s:=s) (I2.eq_def N x0) (fun t=>t) x0.length (fun t=>Sh.sh x0) (fun r:((Unit)⊕(Bool))=>True) (fun _ h=>Qhd (by grind))
@[reducible,instance] def Q8z{x0}:=mkW (Gq.eq_1 N x0) (Sh.sh x0) (fun r=>True)
@[reducible,instance] def Qza{x0}{s}:=upL (N:=N) (s:=s) (C0.eq_def N x0) (fun t=>t) x0.2.2.2.2.2.1.length (fun t=>sz x0≤9223372036854775807∧Sh.sh x0) (fun r:((Unit)⊕(Int))=>True)
@[reducible,instance] def Q7q{x0}:=mkW (F5.eq_1 N x0) (sz x0≤9223372036854775807∧Sh.sh x0) (fun r=>True)
@[reducible,instance] def Q7r{x0}:=mkW (Zt.eq_1 N x0) (True) (fun r=>True)
@[reducible,instance] def Q7s{x0}:=mkW (F6.eq_1 N x0) (True) (fun r=>True)
@[reducible,instance] def Q2v{x0}{s}:=upL (N:=N) (s:=s) (Mv.eq_def N x0) (fun t=>t) x0.1.length (fun t=>sz x0≤9223372036854775807∧Sh.sh x0) (fun r:((Unit)⊕(Bool))=>True)
@[reducible,instance] def Q2w{x0}{s}:=upL (N:=N) (s:=s) (Mw.eq_def N x0) (fun t=>t) x0.2.1.length (fun t=>sz x0≤9223372036854775807∧Sh.sh x0) (fun r:((Unit)⊕(Bool))=>True)
@[reducible,instance] def Jbe{x0}:=mkW (Ds.eq_1 N x0) (sz x0≤9223372036854775807∧Sh.sh x0) (fun r=>r=true→sz x0≤12)
@[reducible,instance] def Q2x{x1}{s}:=Qmw (N:=N) (s:=s) (Mm.eq_def N x1) x1 (x1.length≤9223372036854775807) (fun y=>y.2.2.2.2.2.length≤4) (Qv (fun p:Qn=>p.2.2.2.2.2.length≤4) x1) (fun u=>u=false) (fin:=fun h hall=>⟨hall⟩)
attribute [local instance 1300] Jd3 in
@[reducible,instance] def Jbf{x0 x1 x2 x3}:=mkW (H4.eq_1 N x0 x1 x2 x3) (x3≤9223372036854775807∧sz x0≤9223372036854775807∧x1.length≤9223372036854775807∧Sh.sh x0) (fun r=>r=true→x0.length≤40∧x1.length≤8∧Qv (fun p:Qn=>p.2.2.2.2.2.length≤4) x1∧Qdz x0 x3) (k:=by
  intro h
  try simp only[sS,reduceCtorEq]at *
  repeat' (first | intro _ | apply And.intro)
  all_goals first | exact Jhs (by assumption) (by omega) (by omega) (by assumption) | exact Qys (by omega) | exact Qvf (by omega) | (refine(‹_∨_›).elim (fun k=>Qvf (by omega)) (fun k=>Qys (by omega))) | exact lv)
@[reducible,instance] def Qzb{x0}{s}:=Qmw (N:=N) (s:=s) (Cz.eq_def N x0) x0.2.2.2.2.1 (x0.2.2.2.2.1.length≤9223372036854775807) (fun y=>True) (∀y∈x0.2.2.2.2.1,True) (fun u=>u=false)
attribute [local instance 1300] Jvk in
@[reducible,instance] def Q7t{x0}:=mkW (F3.eq_1 N x0) (sz x0≤9223372036854775807∧Sh.sh x0) (fun r=>r=true→Nh x0∧Q1h x0.1) (k:=by
  intro h
  try simp only[sS,reduceCtorEq]at *
  repeat' (first | intro _ | apply And.intro)
  all_goals first | ((have hq:=h.1); (have hq2:=h.2); clear h; (repeat cases ‹_∧_›); first | assumption | omega | (refine⟨?_,?_,?_,?_,?_,?_,?_,?_⟩<;>first | assumption | omega | (refine Qhz (P:=fun p:Qn=>p.2.2.2.2.2.length≤4) ?_ (fun p hp=>QY hp (by decide)); grind) | grind) | grind) | exact lv)
attribute [local instance 1300] Jd3 in
@[reducible,instance] def Q2y{x0}{s}:=Qmw (N:=N) (s:=s) (M7.eq_def N x0) x0.2.2 (sz x0≤9223372036854775807∧Sh.sh x0∧Qv (fun o:Qq=>o.2.2.2.1≤9223372036854775807) x0.2.2) (fun y=>Qdz x0.1.1 y.2.2.2.1∧y.2.2.2.2.2.2.1.length≤100) (Qv (fun o:Qq=>Qdz x0.1.1 o.2.2.2.1∧o.2.2.2.2.2.2.1.length≤100) x0.2.2) (fun u=>u=false) (fin:=fun h hall=>⟨hall⟩) (step:=by
  intro s h h0 h1 h2 hw
  have hA:=h.2.2
  try simp only[sS,reduceCtorEq]at *
  repeat' (first | intro _ | apply And.intro)
  all_goals first | assumption | omega | exact Zc (P:=fun o:Qq=>o.2.2.2.1≤9223372036854775807) (by assumption) hA | exact QY Un (by omega) | exact h.2.1.1.1 | (refine⟨_,by assumption,?_⟩; clear h; grind) | (clear h; grind))
@[reducible,instance] def Qkt{x0}:=mkW (Xw.eq_1 N x0) (sz x0≤9223372036854775807∧Sh.sh x0∧Qv (fun o:Qq=>o.2.2.2.1≤9223372036854775807) x0.2.2) (fun r=>r=true→Nh x0.1∧Q1h x0.1.1∧sz x0.2.1≤12∧x0.2.2.length≤10∧Qv (fun o:Qq=>Qdz x0.1.1 o.2.2.2.1∧o.2.2.2.2.2.2.1.length≤100) x0.2.2)
open Go Go.RowKit Gd Go.WideShapes Go.ChangeShapes
def Qar{τ:Type}(P:Program)(r:RT τ)(t:TypeId)(good:τ→Prop):Prop :=
 P.cellsOf t=r.size∧(∀{w:World} {rc:Reach} {b:Nat} {v:Value},Value.okWide P w rc b t v→(r.agg=true→∃cs,v=.agg cs)∧(r.agg=false→∃c,v.cells=#[c]∧v=c)) ∧
 ∀{H:Type} (enc:TypeId×Value→H) (w:World) (n:Nat) (cs:List Value) (x:DataW H×List MemPlace),
  DataW.trod enc P w 0 (fun _=>true) true n t cs=some x→(x.1.weights P t).all (·≤reachBytes)=true→∃y,r.rep (lt w) w y cs∧good y
def mb:Ty→Nat
 | .int .i64=>8
 | .str=>16
 | .sl _=>24
 | .pr .bool r=>8+mb r
 | .pr f r=>mb f+mb r
 | .st fs=>mb fs
 | _=>1
def gz:(t:Ty)→t.De→Prop
 | .int k,x=>Qo3 k x
 | .bool,_=>True
 | .str,x=>List.length x≤140737488351232
 | .sl e,x=>List.length x*mb e≤140737488351232∧∀y∈x,gz e y
 | .arr _ e,x=>∀y∈x,gz e y
 | .unit,_=>True
 | .pr f r,x=>gz f x.1∧gz r x.2
 | .st fs,x=>gz fs x
 | .ref,_=>True
 | .rose fs,x=>gd (.rose fs) x
abbrev Q7(P:Program)(t:TypeId)(ty:Ty):Prop:=Qar P (rt ty) t (gz ty)
section
variable {P:Program}
theorem Qo1{t:TypeId}{ty:Ty}(h:Tj P t ty)(hg:∀x,gd ty x→gz ty x):Q7 P t ty :=
 ⟨h.1,h.2.1,fun enc w n cs x hx _=>let⟨y,h1,h2⟩:=h.2.2 enc w n cs x hx; ⟨y,h1,hg y h2⟩⟩
theorem Qzc{t:TypeId}{k:IntKind}(ht:P.underlying t=some (.int k))(hc:P.cellsOf t=1):Q7 P t (.int k):=Qo1 (Qn4 ht hc) fun _ h=>h
theorem Jbg{t:TypeId}(ht:P.underlying t=some .bool)(hc:P.cellsOf t=1):Q7 P t .bool:=Qo1 (Q90 ht hc) fun _ _=>trivial
theorem Jhu{t:TypeId}(ht:P.underlying t=some .string)(hc:P.cellsOf t=1):Q7 P t .str:=by
 refine⟨hc,(Qxv ht hc).2.1,fun enc w n cs x h hw=>?_⟩
 obtain⟨s,rfl,rfl,hs⟩:=DataW.trod_string ht h
 refine⟨s.data.toList,?_,?_⟩
 ·show [Value.string s]=[Yk s.data.toList]
  simp[Yk]
 ·simp only[DataW.weights,XQ,QQ,decide_eq_true_eq]at hw
  exact hw.1
theorem Qhg{H:Type}{e:TypeId}:∀{l:List (DataW H)},(DataW.weightsAll P e l).all (·≤reachBytes)=true→∀(i:Nat) d,l[i]?=some d→(d.weights P e).all (·≤reachBytes)=true
 | [],_,i,d,h=>by simp at h
 | x::l,hw,i,d,h=>by
  simp only[DataW.weightsAll,ZQ,QQ]at hw
  cases i with
  | zero=>simp at h; subst h; exact hw.1
  | succ i=>exact Qhg hw.2 i d (by simpa using h)
theorem Qep{H:Type}:∀{ts:List TypeId} {l:List (DataW H)},(DataW.weightsEach P ts l).all (·≤reachBytes)=true→∀(i:Nat) t d,ts[i]?=some t→l[i]?=some d→(d.weights P t).all (·≤reachBytes)=true
 | [],l,_,i,t,d,h,_=>by simp at h
 | t0::ts,[],_,i,t,d,_,h=>by simp at h
 | t0::ts,x::l,hw,i,t,d,ht,h=>by
  simp only[DataW.weightsEach,ZQ,QQ]at hw
  cases i with
  | zero=>simp at h ht; subst h; subst ht; exact hw.1
  | succ i=>exact Qep hw.2 i t d (by simpa using ht) (by simpa using h)
theorem V6{t e:TypeId}{ty:Ty}(ht:P.underlying t=some (.slice e))(hc:P.cellsOf t=1)(he:Q7 P e ty)(hpos:Nat.ble 1 ty.size=true)(hby:Nat.ble (mb ty) (P.bytesOf e)=true):Q7 P t (.sl ty):=by
 have hby:=QV hby
 have hps:0<(rt ty).size:=by rw[Ji]; exact QV hpos
 refine⟨hc,fun hv=>⟨fun h=>(nomatch h),fun _=>?_⟩,fun enc w n cs x h hw=>?_⟩
 ·obtain⟨a,l,c,rfl⟩:=okWide_slice ht hv
  exact⟨_,rfl,rfl⟩
 ·rcases DataW.trod_slice ht h with⟨rfl,_⟩ | ⟨a,len,cap,elems,rest,m,_,rfl,rfl,_,hlc,hcm,hel,hall,_⟩
  ·exact⟨([]:List ty.De),⟨_,rfl,none,0,0,rfl,rfl,QG _,fun h0=>absurd h0 (by omega)⟩,by simp,fun y hy=>by cases hy⟩
  ·simp only[DataW.weights,ht,XQ,ZQ,QQ,decide_eq_true_eq,JD]at hw
   obtain⟨hw1,hw2,_⟩:=hw
   have hsz:P.cellsOf e=(rt ty).size:=he.1
   have h1:∀i,i<len→∃y cs,(rt ty).rep (lt w) w y cs∧gz ty y∧w.cells? 0 (a.add (i*P.cellsOf e)) (P.cellsOf e)=some cs:=by
    intro i hi
    have:=hall i hi
    obtain⟨z,hz⟩:∃z,elems[i]?=some z:=⟨elems[i]'(by omega),List.getElem?_eq_getElem (by omega)⟩
    rw[hz]at this
    obtain⟨cs,hcs,hz2⟩:=Option.bind_eq_some_iff.1 this
    obtain⟨y,hy,hg⟩:=he.2.2 enc w m cs z hz2 (Qhg hw2 i z.1 (by rw[JP,hz]; rfl))
    exact⟨y,cs,hy,hg,hcs⟩
   have h2:∀k,k≤len→∃ys:List ty.De,ys.length=k∧∀i y,ys[i]?=some y→∃cs,(rt ty).rep (lt w) w y cs∧gz ty y∧w.cells? 0 (a.add (i*P.cellsOf e)) (P.cellsOf e)=some cs:=by
    intro k
    induction k with
    | zero=>exact fun _=>⟨[],rfl,fun i y h=>by simp at h⟩
    | succ k ih =>
     intro hk
     obtain⟨ys,hl,hys⟩:=ih (by omega)
     obtain⟨y,cs,hy,hg,hcs⟩:=h1 k (by omega)
     refine⟨ys++[y],by simp[hl],fun i z hz=>?_⟩
     rcases Nat.lt_or_ge i k with hlt | hge
     ·rw[JX (by omega)]at hz
      exact hys i z hz
     ·rw[JV (by omega)]at hz
      have:i - ys.length=0:=by
       rcases Nat.eq_zero_or_pos (i - ys.length)with h | h
       ·exact h
       ·rw[List.getElem?_eq_none (by simp; omega)]at hz; cases hz
      rw[this]at hz
      simp at hz
      subst hz
      have hik:i=k:=by omega
      subst hik
      exact⟨cs,hy,hg,hcs⟩
   obtain⟨ys,hl,hys⟩:=h2 len (QG _)
   refine⟨ys,⟨_,rfl,some a,len,cap,rfl,hl,hlc,fun h0=>?_⟩,?_,fun y hy=>?_⟩
   ·have hsp:a.spot=none:=by
     obtain⟨y,cs,_,_,hcs⟩:=h1 0 h0
     obtain⟨_,hlen,hcell⟩:=World.cells?_some hcs
     have g0:=hcell 0 (by omega)
     obtain⟨c0,hc0⟩:∃c0,cs[0]?=some c0:=⟨cs[0]'(by omega),List.getElem?_eq_getElem (by omega)⟩
     rw[hc0]at g0
     simpa[Addr.add]using World.cell?_spot g0
    obtain⟨b,o,sp⟩:=a
    simp only at hsp
    subst hsp
    refine⟨b,o,rfl,fun i y hi=>?_⟩
    obtain⟨cs,hy,_,hcs⟩:=hys i y hi
    obtain⟨_,hlen,hcell⟩:=World.cells?_some hcs
    refine⟨cs,hy,fun j u hu=>?_⟩
    have hj:j<P.cellsOf e:=by rw[←hlen]; exact(List.getElem?_eq_some_iff.1 hu).1
    have:=hcell j hj
    rw[hu,add_plain,add_plain,hsz]at this
    refine⟨?_,this⟩
    show b<w.heap.size
    unfold World.cell? at this
    rcases Nat.lt_or_ge b w.heap.size with hlt | hge
    ·exact hlt
    ·rw[Array.getElem?_eq_none hge]at this; cases this
   ·have hl':List.length ys=len:=hl
    have:len*mb ty≤(elems.length+rest.length)*P.bytesOf e:=Nat.mul_le_mul (by omega) hby
    rw[hl']
    exact QY this hw1
   ·obtain⟨i,hi⟩:=List.getElem?_of_mem hy
    obtain⟨_,_,hg,_⟩:=hys i y hi
    exact hg
theorem Qar.fld{τ:Type}{r:RT τ}{t:TypeId}{g:τ→Prop}(ho:Qar P r t g){H:Type}{enc:TypeId×Value→H}{w:World}{n:Nat}{cs:List Value}{fs:Array Field}{xs:List (DataW H×List MemPlace)}
  (hlen:xs.length=fs.size) (hf:∀(i:Nat) (f:Field),fs[i]?=some f→DataW.trod enc P w 0 (fun _=>true) true n f.type ((cs.drop f.offset).take (P.cellsOf f.type))=xs[i]?)
  (hw:(DataW.weightsEach P (fs.toList.map (·.type)) (xs.map (·.1))).all (·≤reachBytes)=true)
  (i:Nat) (o:Nat) {f:Field} (hi:fs[i]?=some f) (ht:f.type=t) (hof:f.offset=o):∃y,r.rep (lt w) w y ((cs.drop o).take r.size)∧g y:=by
 have h1:=hf i f hi
 have hlt:=(Array.getElem?_eq_some_iff.1 hi).1
 have hx:xs[i]?=some xs[i]:=List.getElem?_eq_getElem (by omega)
 rw[hx,ht,hof,ho.1]at h1
 refine ho.2.2 enc w n _ _ h1 (Qep hw i t xs[i].1 ?_ ?_)
 ·rw[JP,ZP,hi]
  show some f.type=some t
  rw[ht]
 ·rw[JP,hx]; rfl
inductive Qvh(P:Program)(ff:Array Field):Ty→Nat→Nat→Prop
 | last {ty:Ty} {i off t:Nat} {f:Field} (ho:Q7 P t ty) (hi:ff[i]?=some f) (ht:f.type=t) (hoff:f.offset=off):Qvh P ff ty i off
 | pr {ty r:Ty} {i off t:Nat} {f:Field} (ho:Q7 P t ty) (hi:ff[i]?=some f) (ht:f.type=t) (hoff:f.offset=off) (hr:Qvh P ff r (i+1) (off+ty.size)):Qvh P ff (.pr ty r) i off
theorem Jbh{ff:Array Field}{H:Type}{enc:TypeId×Value→H}{w:World}{n:Nat}{cs:List Value}{xs:List (DataW H×List MemPlace)}
  (hlen:xs.length=ff.size) (hf:∀(i:Nat) (f:Field),ff[i]?=some f→DataW.trod enc P w 0 (fun _=>true) true n f.type ((cs.drop f.offset).take (P.cellsOf f.type))=xs[i]?)
  (hw:(DataW.weightsEach P (ff.toList.map (·.type)) (xs.map (·.1))).all (·≤reachBytes)=true) :
  ∀{ty:Ty} {i off:Nat},Qvh P ff ty i off→cs.length=off+ty.size→∃y,(rt ty).rep (lt w) w y (cs.drop off)∧gz ty y:=by
 intro ty i off h
 induction h with
 | last ho hi ht hoff =>
  intro hl
  obtain⟨y,h1,h2⟩:=Qar.fld ho hlen hf hw _ _ hi ht hoff
  rw[List.take_of_length_le (by simp; rw[Ji]; omega)]at h1
  exact⟨y,h1,h2⟩
 | pr ho hi ht hoff hr ih =>
  intro hl
  rename_i ty r i off t f
  obtain⟨y,h1,h2⟩:=Qar.fld ho hlen hf hw _ _ hi ht hoff
  have hl':cs.length=off+ty.size+r.size:=by
   have:(Ty.pr ty r).size=ty.size+r.size:=rfl
   omega
  obtain⟨z,h3,h4⟩:=ih hl'
  refine⟨(y,z),⟨_,cs.drop (off+ty.size),?_,h1,h3⟩,h2,h4⟩
  rw[Ji,←List.drop_drop]
  exact(List.take_append_drop _ _).symm
theorem Vl{t:TypeId}{fs:Ty}{ff:Array Field}(ht:P.underlying t=some (.struct ff))(hc:P.cellsOf t=fs.size)(ho:Qvh P ff fs 0 0):Q7 P t (.st fs):=by
 refine⟨by rw[hc,Ji]; rfl,fun hv=>⟨fun _=>?_,fun h=>nomatch h⟩,fun enc w n cs x h hw=>?_⟩
 ·obtain⟨c,rfl,_⟩:=okWide_struct ht hv; exact⟨_,rfl⟩
 ·obtain⟨xs,m,_,rfl,hl,hlen,hf⟩:=DataW.trod_struct ht h
  simp only[DataW.weights,ht]at hw
  obtain⟨y,h1,h2⟩:=Jbh hlen hf hw ho (by rw[hl,hc]; simp)
  exact⟨y,by simpa[rt,Jt6]using h1,h2⟩
theorem Qar.arg{τ:Type}{r:RT τ}{t:TypeId}{g:τ→Prop}(ho:Qar P r t g){H:Type}{enc:TypeId×Value→H}{w:World}{rc:Reach}{b:Nat}{v:Value}{d:DataW H}{ps:List MemPlace}
  (hv:Value.okWide P w rc b t v) (h:DataW.Trod enc P w 0 (fun _=>true) true t v d ps) (hw:(d.weights P t).all (·≤reachBytes)=true):∃y,isV r (lt w) w y v∧g y:=by
 obtain⟨n,hn⟩:=h
 obtain⟨y,hy,hg⟩:=ho.2.2 enc w n _ _ hn hw
 refine⟨y,⟨_,hy,?_⟩,hg⟩
 unfold RT.val
 cases ha:r.agg with
 | true =>
  obtain⟨cs,rfl⟩:=(ho.2.1 hv).1 ha
  simp[Value.cells]
 | false =>
  obtain⟨c,hc,rfl⟩:=(ho.2.1 hv).2 ha
  rw[hc]; simp
end
section
variable {H:Type} {enc:TypeId×Value→H} {P:Program} {W:World} {base:Nat} {vs:List String} {us:List TypeId}
theorem Jvn{t1 t2 t3:TypeId}{args:Array Value}{ds gs:List (DataW H)}{before:List MemPlace}{ts:Array TypeId}(hts:ts=#[t1,t2,t3])
  (hval:∀(j:Nat) t v,ts[j]?=some t→args[j]?=some v→Value.okWide P W .any base t v) (hW:DataW.Whole enc P ts.toList vs false W args.toList ds gs before)
  (hz:(DataW.weightsEach P (ts.toList++us) (ds++gs)).all (·≤reachBytes)=true)
  {τ1 τ2 τ3:Type} {r1:RT τ1} {r2:RT τ2} {r3:RT τ3} {g1:τ1→Prop} {g2:τ2→Prop} {g3:τ3→Prop} (ho1:Qar P r1 t1 g1) (ho2:Qar P r2 t2 g2) (ho3:Qar P r3 t3 g3) :
  ∃v1 v2 v3 y1 y2 y3,args=⟨[v1,v2,v3]⟩∧isV r1 (lt W) W y1 v1∧g1 y1∧isV r2 (lt W) W y2 v2∧g2 y2∧isV r3 (lt W) W y3 v3∧g3 y3:=by
 subst hts
 obtain⟨p,q,hA,_⟩:=hW
 obtain⟨v1,vs1,d1,ds1,p1,q1,hargs,rfl,rfl,h1,k1⟩:=trodAll_cons hA
 obtain⟨v2,vs2,d2,ds2,p2,q2,rfl,rfl,rfl,h2,k2⟩:=trodAll_cons k1
 obtain⟨v3,vs3,d3,ds3,p3,q3,rfl,rfl,rfl,h3,k3⟩:=trodAll_cons k2
 obtain⟨rfl,rfl,rfl⟩:=trodAll_nil k3
 obtain rfl:args=⟨[v1,v2,v3]⟩:=by cases args; simp_all
 simp only[QF,DataW.weightsEach,ZQ,QQ]at hz
 obtain⟨y1,hy1,hg1⟩:=ho1.arg (hval 0 t1 v1 rfl rfl) h1 hz.1
 obtain⟨y2,hy2,hg2⟩:=ho2.arg (hval 1 t2 v2 rfl rfl) h2 hz.2.1
 obtain⟨y3,hy3,hg3⟩:=ho3.arg (hval 2 t3 v3 rfl rfl) h3 hz.2.2.1
 exact⟨v1,v2,v3,y1,y2,y3,rfl,hy1,hg1,hy2,hg2,hy3,hg3⟩
end
theorem Jqv{l:List Ql}{t:Int}(h:Q1h l)(hn:Qdz l t):∃I:Y4,Qv (fun m:Ql=>@Aft I m.1) l∧(0<l.length→t<12622780800→t<I.hi):=by
 cases l with
 | nil=>exact⟨⟨0,0,by omega,by omega,by omega⟩,⟨fun m hm=>absurd hm JF⟩,fun h=>absurd h (by simp)⟩
 | cons a l =>
  have ha:=(h.all a (.head _)).1
  rcases hn.at_ a rfl with ht | ht
  ·exact⟨⟨0,69120000,by omega,by omega,by omega⟩,⟨fun m hm=>@Aft.mk ⟨0,69120000,by omega,by omega,by omega⟩ _ (h.all m hm).1.1⟩,fun _ _=>ht⟩
  ·by_cases hc:a.1+69120000≤12622780800
   ·exact⟨⟨a.1,a.1+69120000,by omega,by omega,by omega⟩,⟨fun m hm=>@Aft.mk ⟨a.1,a.1+69120000,by omega,by omega,by omega⟩ _ ((h.all m hm).2 a rfl)⟩,fun _ _=>by show t<a.1+69120000; omega⟩
   ·exact⟨⟨a.1,12622780800,by omega,by omega,by omega⟩,⟨fun m hm=>@Aft.mk ⟨a.1,12622780800,by omega,by omega,by omega⟩ _ ((h.all m hm).2 a rfl)⟩,fun _ h=>h⟩
structure StO(i:Nat)(s:Q2)(m:List (Int×Qb)):Prop where
 b:s.1.length≤12+i*11468800000
 z:sz s.1≤1000000000000
 w:s.2.1.length≤12+i
 c:s.2.2.length≤12
 ms:Qv Ei m
 l:m.length≤i
structure Jvo(l:List Ql)(x:Qq):Prop where
 sh:Sh.sh x.2.2.2.2.2.2.1
 len:List.length x.2.2.2.2.2.2.1≤9223372036854775807
 near:Qdz l x.2.2.2.1
 key:Bj x.1=true
theorem Jn0{i j:Nat}{s:Q2}{m:List (Int×Qb)}(h:StO i s m)(hij:i≤j):StO j s m:=⟨QY h.b (Nat.add_le_add_left (QB _ hij) 12),h.z,by have:=h.w; omega,h.c,h.ms,by have:=h.l; omega⟩
theorem Jvp{α:Type}{e:K1 α}{K:Nat}(h:e.ks.length≤K)(hk:∀y∈e.ks,sz y≤K):sz e≤K:=by
 cases e with
 | mk a ks=>rw[Jnz]; exact Q55 h hk
abbrev GS(t:Ty)(i:Sz t.De)(j:Sh t.De):Prop:=∀x:t.De,gz t x→@sz _ i x≤9223372036854775807∧@Sh.sh _ j x
theorem gsI{k:IntKind}:GS (.int k) (inferInstanceAs (Sz Int)) (inferInstanceAs (Sh Int)):=fun _ _=>⟨QO _,True.intro⟩
theorem gsB:GS .bool (inferInstanceAs (Sz Bool)) (inferInstanceAs (Sh Bool)):=fun _ _=>⟨QO _,True.intro⟩
theorem gsS:GS .str (inferInstanceAs (Sz (List UInt8))) (inferInstanceAs (Sh (List UInt8))):=fun x h=>⟨QO _,QY (show List.length x≤140737488351232 from h) (by decide)⟩
theorem Q18:∀t:Ty,1≤mb t
 | .int k=>by cases k<;>simp[mb]
 | .bool=>by simp[mb]
 | .str=>by simp[mb]
 | .sl _=>by simp[mb]
 | .arr _ _=>by simp[mb]
 | .unit=>by simp[mb]
 | .pr f r=>by have:=Q18 f; have:=Q18 r; cases f<;>simp only[mb]<;>omega
 | .st fs=>by have:=Q18 fs; simp only[mb]; omega
 | .ref=>by simp[mb]
 | .rose _=>by simp[mb]
theorem gsL{t:Ty}{i:Sz t.De}{j:Sh t.De}(h:GS t i j):GS (.sl t) (inferInstanceAs (Sz (List t.De))) (inferInstanceAs (Sh (List t.De))):=fun x g=>by
 have g1:List.length x*mb t≤140737488351232:=g.1
 have g2:List.length x*1≤List.length x*mb t:=Nat.mul_le_mul_left _ (Q18 t)
 exact⟨Q55 (by omega) fun y hy=>(h y (g.2 y hy)).1,⟨fun y hy=>(h y (g.2 y hy)).2⟩⟩
theorem gsP{a b:Ty}{i:Sz a.De}{j:Sh a.De}{k:Sz b.De}{l:Sh b.De}(h:GS a i j)(h2:GS b k l):GS (.pr a b) (inferInstanceAs (Sz (a.De×b.De))) (inferInstanceAs (Sh (a.De×b.De))):=fun x g=>⟨ZW.2 ⟨(h x.1 g.1).1,(h2 x.2 g.2).1⟩,(h x.1 g.1).2,(h2 x.2 g.2).2⟩
theorem gsR{t:Ty}:GS (.rose t) (inferInstanceAs (Sz (K1 t.De))) (inferInstanceAs (Sh (K1 t.De))):=fun x g=>by
 refine⟨?_,True.intro⟩
 obtain⟨n,hn⟩:=g
 revert x
 induction n with
 | zero=>exact fun x h=>h.elim
 | succ n ih =>
  intro x h
  exact Jvp (e:=x) h.2.1 fun y hy=>ih y (h.2.2 y hy)
theorem gsT{t:Ty}{i:Sz t.De}{j:Sh t.De}(h:GS t i j):GS (.st t) i j:=h
theorem Jqw:GS Xm (inferInstanceAs (Sz Ja)) (inferInstanceAs (Sh Ja)):=gsR
theorem Jqx:GS Zg (inferInstanceAs (Sz Wg)) (inferInstanceAs (Sh Wg)):=gsT (gsP gsI (gsP gsI gsI))
theorem Jex:GS Vh (inferInstanceAs (Sz Qw)) (inferInstanceAs (Sh Qw)):=gsT (gsP gsI (gsP gsI gsI))
theorem Qzd:GS J4 (inferInstanceAs (Sz Qd)) (inferInstanceAs (Sh Qd)):=gsT (gsP gsI gsI)
theorem Jn1:GS Jp (inferInstanceAs (Sz Ql)) (inferInstanceAs (Sh Ql)):=gsT (gsP gsI (gsP gsI (gsP gsI (gsP gsI (gsP gsS (gsP gsS gsI))))))
theorem Jqy:GS V4 (inferInstanceAs (Sz Q3)) (inferInstanceAs (Sh Q3)):=gsT (gsP gsS (gsL gsS))
theorem Jqz:GS V8 (inferInstanceAs (Sz Jg)) (inferInstanceAs (Sh Jg)):=gsT (gsP gsS (gsL Jqx))
theorem Jq0:GS Xl (inferInstanceAs (Sz Y0)) (inferInstanceAs (Sh Y0)):=gsT (gsP gsI (gsP gsS (gsP gsS (gsP gsI (gsL Jex)))))
theorem Q7u:GS Uh (inferInstanceAs (Sz Jk)) (inferInstanceAs (Sh Jk)):=gsT (gsP gsS (gsP Jqw gsI))
theorem Jhv:GS Yg (inferInstanceAs (Sz Q0)) (inferInstanceAs (Sh Q0)):=gsT (gsP gsS (gsP gsI (gsP gsB (gsP (gsL Jqy) (gsP (gsL Jqz) (gsP (gsL Jq0) (gsL Q7u)))))))
theorem Jhw:GS Zd (inferInstanceAs (Sz Yj)) (inferInstanceAs (Sh Yj)):=gsT (gsP gsI (gsP (gsL gsS) (gsP gsI (gsP gsI (gsP gsI gsB)))))
theorem Jbi:GS J3 (inferInstanceAs (Sz Qn)) (inferInstanceAs (Sh Qn)):=gsT (gsP gsS (gsP gsI (gsP gsI (gsP gsS (gsP gsB (gsL Jhw))))))
theorem Jvq:GS Hd (inferInstanceAs (Sz Ou)) (inferInstanceAs (Sh Ou)):=gsT (gsP gsS (gsP gsI gsI))
theorem Q19:GS Y8 (inferInstanceAs (Sz Jb)) (inferInstanceAs (Sh Jb)):=gsT (gsP gsI (gsP gsI (gsP gsB (gsP Qzd (gsP (gsL Jex) gsI)))))
theorem Jq1:GS Uq (inferInstanceAs (Sz Jr)) (inferInstanceAs (Sh Jr)):=gsT (gsP (gsL Jn1) (gsP (gsL Jhv) (gsP (gsL Jbi) (gsP (gsL Jvq) (gsP (gsL gsI) (gsL Q19))))))
theorem Jhx:GS Q9 (inferInstanceAs (Sz Qa)) (inferInstanceAs (Sh Qa)):=gsT (gsP gsI (gsP gsI (gsP gsS (gsP gsI (gsP gsI (gsP (gsL gsS) (gsP Qzd (gsP gsI (gsP gsI (gsP gsI gsB))))))))))
theorem Jhy:GS J5 (inferInstanceAs (Sz Qc)) (inferInstanceAs (Sh Qc)):=gsT (gsP gsI (gsP gsI (gsP gsI (gsP gsI gsI))))
theorem Jbj:GS Ui (inferInstanceAs (Sz Qf)) (inferInstanceAs (Sh Qf)):=gsT (gsP gsI (gsP gsI (gsP gsI (gsP gsI gsI))))
theorem Jn2:GS J2 (inferInstanceAs (Sz Q2)) (inferInstanceAs (Sh Q2)):=gsT (gsP (gsL Jhx) (gsP (gsL Jhy) (gsL Jbj)))
theorem Jbk:GS J6 (inferInstanceAs (Sz Qq)) (inferInstanceAs (Sh Qq)):=gsT (gsP gsI (gsP gsI (gsP gsI (gsP gsI (gsP gsI (gsP gsI (gsP gsS (gsP gsI gsI))))))))
theorem Jq2:IntKind.i64.max=9223372036854775807:=rfl
theorem Jq3:IntKind.i64.min = -9223372036854775808:=rfl
theorem Jq4(M:Nat):Z3 (M+64)=some true:=by kernel_rfl
theorem Q7v{N:Nat}[hN:Cf N]:Z3 N=some true:=by
 have e:N=(N - 64)+64:=by have:=hN.le; omega
 rw[e]; exact Jq4 _
def Q7w(N:Nat)(b:Jr):List Qq→Q2→List (Int×Qb)→Q2→List (Int×Qb)→Prop
 | [],s,m,s',m'=>s'=s∧m'=m
 | r::l,s,m,s',m'=>∃(a:Qp) (s1:Q2) (m1:List (Int×Qb)),Yr N r b s.1 s.2.2 s.2.1 m=some (a,b,s1.1,s1.2.2,m1,s1.2.1)∧Q7w N b l s1 m1 s' m'
theorem Jvr{N:Nat}[hN:Cf N]{x1:Qq}{b:Jr}{s:Q2}{m:List (Int×Qb)}{i:Nat}(hi:i≤12)(hb:Nh b)(he:Q1h b.1)(hx:Jvo b.1 x1)(h:StO i s m) :
  ∃(a:Qp) (s':Q2) (m':List (Int×Qb)),Yr N x1 b s.1 s.2.2 s.2.1 m=some (a,b,s'.1,s'.2.2,m',s'.2.1)∧StO (i+1) s' m':=by
 obtain⟨I,hA,hT⟩:=Jqv he hx.near
 have hb1:=h.b; have hw1:=h.w; have hc1:=h.c; have hl1:=h.l
 obtain⟨⟨a,b',bk,c,m',w⟩,er,p1,p2,p3,p4,p5,p6,p7,p8⟩:=(@Qe0 N _ I x1 b s.1 s.2.2 s.2.1 m).spec _ ⟨⟨hb,hA,by omega,h.z,by omega,by omega,hx.sh,hx.len,hT,h.ms,by omega,hx.key⟩,fun r h=>h⟩
 dsimp only at p1 p2 p3 p4 p5 p6 p7 p8
 subst p1
 exact⟨a,(bk,w,c),m',er,⟨by dsimp only; omega,p3,by dsimp only; omega,by dsimp only; rw[p5]; exact hc1,p6,by omega⟩⟩
theorem Q7x{N:Nat}[hN:Cf N]{b:Jr}(hb:Nh b)(he:Q1h b.1):∀(l:List Qq) (i:Nat) (s:Q2) (m:List (Int×Qb)),i+l.length≤12→(∀r∈l,Jvo b.1 r)→StO i s m →
  ∃s' m',Q7w N b l s m s' m'∧StO 12 s' m'
 | [],i,s,m,hi,hr,h=>⟨s,m,⟨rfl,rfl⟩,Jn0 h (by simp at hi; omega)⟩
 | r::l,i,s,m,hi,hr,h=>by
  simp only[List.length_cons]at hi
  obtain⟨a,s1,m1,e,h1⟩:=Jvr (N:=N) (by omega) hb he (hr r (.head _)) h
  obtain⟨s',m',e2,h2⟩:=Q7x (N:=N) hb he l (i+1) s1 m1 (by omega) (fun x hx=>hr x (.tail _ hx)) h1
  exact⟨s',m',⟨a,s1,m1,e,e2⟩,h2⟩
theorem Jn3{i:Nat}(h:i≤1000):IntKind.wrap .i64 ((i:Int)+1)=((i+1:Nat):Int):=Q6 (n:=(i:Int)+1) (by omega) (by omega)
theorem Jey{N:Nat}[hN:Cf N]{b:Jr}{q:List Qq}(hq:∀r∈q,Q0y r∧r.2.2.2.2.2.2.1.length≤100)(hl:q.length≤40):∀(l:List Qq) (i f:Nat) (s:Q2) (m:List (Int×Qb)) (s':Q2) (m':List (Int×Qb)),q.drop i=l→i≤q.length→l.length<f→Q7w N b l s m s' m' →
  Qh (Z0 N (q.map Vk)) f ((i:Int),(i:Int),b.1,b.2.1,b.2.2.1,b.2.2.2.1,b.2.2.2.2.1,b.2.2.2.2.2,s.1,s.2.2,s.2.1,m)=some ((q.length:Int),b,s'.1,s'.2.2,s'.2.1,m')
 | [],i,f,s,m,s',m',hd,hi,hf,hp=>by
  obtain⟨f,rfl⟩:∃g,f=g+1:=⟨f - 1,by simp at hf; omega⟩
  have hge:q.length≤i:=by have:=congrArg List.length hd; simp at this; omega
  have e:i=q.length:=by omega
  obtain⟨rfl,rfl⟩:=hp
  simp only[Qh,Z0]
  rw[if_neg (by simp; omega),e]
  rfl
 | r::l,i,f,s,m,s',m',hd,hi,hf,hp=>by
  obtain⟨f,rfl⟩:∃g,f=g+1:=⟨f - 1,by simp at hf; omega⟩
  have hlt:i<q.length:=by have:=congrArg List.length hd; simp at this; omega
  have hr:q[i]?=some r:=by have:=congrArg (fun l=>l[0]?) hd; simpa using this
  have hd2:q.drop (i+1)=l:=by have:=congrArg List.tail hd; simpa using this
  have hm:r∈q:=List.mem_of_getElem? hr
  have hx:idx (q.map Vk) (i:Int)=some (Vk r):=by
   unfold idx
   rw[if_pos (by omega),JJ,JP,hr]; rfl
  have hBig:=hN.le
  obtain⟨h1,h2⟩:=hq r hm
  obtain⟨a,s1,m1,e,hp⟩:=hp
  have el:=Qmp h2
  simp only[Qh,Z0]
  rw[if_pos (by simp; omega),hx,QJ,QJ,Jmf (by omega) (Q00 r) (by omega),QJ,Jp7 h1]
  dsimp only
  rw[if_neg (by decide)]
  have e':Yr N r (b.1,b.2.1,b.2.2.1,b.2.2.2.1,b.2.2.2.2.1,b.2.2.2.2.2) s.1 s.2.2 s.2.1 m=some (a,b,s1.1,s1.2.2,m1,s1.2.1):=e
  rw[e',QJ,Jn3 (by omega)]
  exact Jey hq hl l (i+1) f s1 m1 s' m' hd2 (by omega) (by simp at hf; omega) hp
theorem Jhz{N:Nat}[hN:Cf N]{b:Jr}{s:Q2}{q:List Qq}{t:List Int}(hb:Nh b)(ht:b.2.2.2.1.length*32≤140737488355328)(ha:b.2.2.2.2.2.length*72≤140737488355328)(hg:Qv (fun a:Jb=>a.2.2.2.2.1.length*24≤140737488355328) b.2.2.2.2.2)
  (hs:StO 0 s []) (hq:∀r∈q,Q0y r∧r.2.2.2.2.2.2.1.length≤100) (hl:q.length≤40) (htorn:Qmr t) {s':Q2} {m':List (Int×Qb)} (hp:Q7w N b q s [] s' m') :
  W6 N b s (cat (q.map Vk)++t)=some ((q.length:Int),b,s'.1,s'.2.2,s'.2.1,m'):=by
 have hBig:=hN.le
 have hb1:=hs.b; have hw1:=hs.w; have hc1:=hs.c; have hz:=hs.z
 obtain⟨w,ew,hw⟩:=(Qm2 (N:=N) (x0:=b) (x1:=s)).spec _ ⟨⟨hb,ht,ha,hg,by omega,by omega,by omega⟩,fun r h=>h⟩
 unfold W6
 have hpay:Qus (q.map Vk):=fun p hp=>by
  obtain⟨r,hr,rfl⟩:=QK.1 hp
  exact⟨Q00 r,Qmp (hq r hr).2⟩
 rw[ew,QJ,Jxm (by omega) hpay htorn (by simpa using hl),QJ,hw]
 dsimp only
 have key:Qh (Z0 N (q.map Vk)) N (0,0,b.1,b.2.1,b.2.2.1,b.2.2.2.1,b.2.2.2.2.1,b.2.2.2.2.2,s.1,s.2.2,s.2.1,[])=_:=Jey hq hl q 0 N s [] s' m' (by simp) (by omega) (by omega) hp
 rw[key,QJ]
theorem Jq5{N:Nat}[hN:Cf N]{b:Jr}{s:Q2}{m:List (Int×Qb)}{i:Nat}(hi:i≤13)(h:StO i s m) :
  V0 N b s.1 s.2.2 s.2.1 m=some (s.2.1,s.1,s.2.1,s.2.2)∧Gz N (s.1,s.2.1,s.2.2) (s.1,s.2.1,s.2.2)=some true∧∃l:List Qb,Vy N b s.1 s.2.1 s.2.2 m=some (b,s,m,l)∧V5 N l l=some true ∧
   Qv (fun x:Qb=>Qk (k:=.int .i64) x.1 m=some x) l∧l.length≤1000000100:=by
 have hb1:=h.b; have hw1:=h.w; have hc1:=h.c; have hl1:=h.l
 obtain⟨r,e1,q1⟩:=(Qap (N:=N) (ca:=b) (cg:=s.1) (ci:=s.2.2) (c7:=s.2.1) (cd:=m)).spec _ ⟨⟨h.z,by omega,by omega⟩,fun r h=>h⟩
 obtain⟨r2,e2,q2⟩:=(Qiu (N:=N) (x0:=s) (x1:=s)).spec _ ⟨by have:=h.z; simp only[sz1,mx1,Qmv]at *; omega,fun r h=>h⟩
 obtain⟨⟨b',s',m',l⟩,e3,q3,q4,q5,q6,q7⟩:=(Qaq (N:=N) (ca:=b) (cg:=s.1) (jc:=s.2.1) (ci:=s.2.2) (c7:=m)).spec _ ⟨⟨h.ms,by omega⟩,fun r h=>h⟩
 dsimp only at q3 q4 q5 q6 q7
 rw[q3,q4,q5]at e3
 have hz:sz l≤9223372036854775807:=Q55 (by omega) fun x hx=>by
  have k:=h.ms.all _ (Qb9 (q6.all x hx))
  have k1:=k.tk; have k2:=k.st
  simp only[sz1,mx1,Qmv]at *; omega
 obtain⟨r4,e4,q8⟩:=(N1 (N:=N) (x0:=l) (x1:=l)).spec _ ⟨hz,fun r h=>h⟩
 exact⟨q1▸e1,(q2 rfl)▸e2,l,e3,(q8 rfl)▸e4,q6,q7⟩
theorem Jn4{l:List Qq}{i:Nat}{r:Qq}(h:l[i]?=some r):(l.take (i+1)).map Vk=(l.take i).map Vk++[Vk r]:=by
 rw[ZA,h]; simp
theorem Q7y{l:List (List Int)}{i j:Nat}(h:i≤j):(cat (l.take i)).length≤(cat (l.take j)).length:=by
 have e:l.take j=l.take i++(l.take j).drop i:=by
  have:=List.take_append_drop i (l.take j)
  rw[XG,Nat.min_eq_left h]at this
  exact this.symm
 rw[e,Qur,List.length_append]; omega
theorem Q7z{N:Nat}[hN:Cf N]{x0:Jm}{k:Nat}(hl:x0.2.2.length≤10)(hq:∀r∈x0.2.2,Q0y r∧r.2.2.2.2.2.2.1.length≤100):∀(j i f:Nat) (safe:Int),x0.2.2.length=i+j→j<f→Q53 i ((x0.2.2.take i).map Vk) [] safe→(k<i→((cat ((x0.2.2.take k).map Vk)).length:Int)≤safe) →
  ∃safe':Int,Qh (Yh N x0 (k:Int)) f ((i:Int),safe,cat ((x0.2.2.take i).map Vk),Lt ((x0.2.2.take i).map Vk))=some (.inl (safe',cat (x0.2.2.map Vk),Lt (x0.2.2.map Vk)))∧Q53 10 (x0.2.2.map Vk) [] safe'∧(k<x0.2.2.length→((cat ((x0.2.2.take k).map Vk)).length:Int)≤safe')
 | 0,i,f,safe,hij,hf,h,hk=>by
  obtain⟨f,rfl⟩:∃g,f=g+1:=⟨f - 1,by omega⟩
  have e:x0.2.2.take i=x0.2.2:=List.take_of_length_le (by omega)
  rw[e]at h ⊢
  simp only[Qh,Yh]
  rw[if_neg (by simp; omega)]
  exact⟨safe,rfl,⟨h.pl,h.tq,h.s0,h.s1,QY h.ln (by omega)⟩,fun hx=>hk (by omega)⟩
 | j+1,i,f,safe,hij,hf,h,hk=>by
  obtain⟨f,rfl⟩:∃g,f=g+1:=⟨f - 1,by omega⟩
  have hBig:=hN.le
  have hi:i<x0.2.2.length:=by omega
  have hr:x0.2.2[i]?=some x0.2.2[i]:=List.getElem?_eq_getElem hi
  obtain⟨h1,h2⟩:=hq _ (List.getElem_mem hi)
  have ht:=Jn4 hr
  have hli:((x0.2.2.take i).map Vk).length=i:=by rw[JD,List.length_take]; omega
  simp only[Qh,Yh]
  rw[if_pos (by simp; omega)]
  have key:∃s1:Int,(if(i:Int)==(k:Int)then
   (Vj N safe (cat ((x0.2.2.take i).map Vk)) (Lt ((x0.2.2.take i).map Vk))).bind fun w22 =>
   some ((w22.1 != (k:Int)),w22.2.1,w22.2.2.2,w22.2.2.1)
  else
   some (false,safe,cat ((x0.2.2.take i).map Vk),Lt ((x0.2.2.take i).map Vk)):Option (Bool×Int×(List Int)×(List (Int×Int))))=some (false,s1,cat ((x0.2.2.take i).map Vk),Lt ((x0.2.2.take i).map Vk))∧Q53 i ((x0.2.2.take i).map Vk) [] s1∧(k<i+1→((cat ((x0.2.2.take k).map Vk)).length:Int)≤s1):=by
   by_cases hc:i=k
   ·subst hc
    have es:=Jml (N:=N) (l:=(x0.2.2.take i).map Vk) (q:=[]) (safe:=safe)
    rw[QU]at es
    rw[if_pos (by simp),es,QJ]
    dsimp only
    rw[hli]
    exact⟨_,by simp,⟨h.pl,Qms,by omega,by simp,h.ln⟩,fun _=>JB _⟩
   ·rw[if_neg (by simp; omega)]
    exact⟨safe,rfl,h,fun hx=>hk (by omega)⟩
  obtain⟨s1,e1,h3,h4⟩:=key
  rw[e1,QJ]
  dsimp only
  have ea:=Jxl (N:=N) (by omega) h1 h2 h3 (by omega)
  rw[QU,←ht]at ea
  have hx:idx x0.2.2 (i:Int)=some x0.2.2[i]:=by
   unfold idx; rw[if_pos (by omega),JJ]; exact hr
  rw[if_neg (by decide),hx,QJ,ea]
  simp only[QJ]
  rw[if_neg (by decide),Jn3 (by omega)]
  have h5:=Jqa h2 h3
  rw[←ht]at h5
  have hs1:=h3.s1
  rw[QU]at hs1
  exact Q7z hl hq j (i+1) f _ (by omega) (by omega) h5 (fun hx=>by have:=h4 hx; omega)
theorem Q70{N:Nat}[hN:Cf N]{x0:Jm}{b:Jr}{n:Nat}(hn:n≤x0.2.2.length)(hl:x0.2.2.length≤10):∀(l:List Qq) (i f:Nat) (s:Q2) (m:List (Int×Qb)) (s':Q2) (m':List (Int×Qb)),(x0.2.2.take n).drop i=l→i≤n→l.length<f→Q7w N b l s m s' m' →
  Qh (Yi N (n:Int) x0) f ((i:Int),b.1,b.2.1,b.2.2.1,b.2.2.2.1,b.2.2.2.2.1,b.2.2.2.2.2,s.1,s.2.2,s.2.1,m)=some (b,s'.1,s'.2.2,s'.2.1,m')
 | [],i,f,s,m,s',m',hd,hi,hf,hp=>by
  obtain⟨f,rfl⟩:∃g,f=g+1:=⟨f - 1,by simp at hf; omega⟩
  have hge:n≤i:=by have:=congrArg List.length hd; simp at this; omega
  obtain⟨rfl,rfl⟩:=hp
  simp only[Qh,Yi]
  rw[if_neg (by simp; omega)]
  rfl
 | r::l,i,f,s,m,s',m',hd,hi,hf,hp=>by
  obtain⟨f,rfl⟩:∃g,f=g+1:=⟨f - 1,by simp at hf; omega⟩
  have hlt:i<n:=by have:=congrArg List.length hd; simp at this; omega
  have hr:x0.2.2[i]?=some r:=by
   have:=congrArg (fun l=>l[0]?) hd
   simp only[JZ,JT,XD,List.getElem?_take_of_lt hlt]at this
   exact this
  have hd2:(x0.2.2.take n).drop (i+1)=l:=by have:=congrArg List.tail hd; simpa using this
  have hx:idx x0.2.2 (i:Int)=some r:=by
   unfold idx; rw[if_pos (by omega),JJ]; exact hr
  obtain⟨a,s1,m1,e,hp⟩:=hp
  have e':Yr N r (b.1,b.2.1,b.2.2.1,b.2.2.2.1,b.2.2.2.2.1,b.2.2.2.2.2) s.1 s.2.2 s.2.1 m=some (a,b,s1.1,s1.2.2,m1,s1.2.1):=e
  simp only[Qh,Yi]
  rw[if_pos (by simp; omega),hx,QJ,e',QJ,QJ,Jn3 (by omega)]
  exact Q70 hn hl l (i+1) f s1 m1 s' m' hd2 (by omega) (by simp at hf; omega) hp
structure Jn5(x0:Jm):Prop where
 z:sz x0≤9223372036854775807
 s:Sh.sh x0
 t:x0.1.2.2.2.1.length*32≤140737488355328
 a:x0.1.2.2.2.2.2.length*72≤140737488355328
 g:Qv (fun a:Jb=>a.2.2.2.2.1.length*24≤140737488355328) x0.1.2.2.2.2.2
 at_:Qv (fun o:Qq=>o.2.2.2.1≤9223372036854775807) x0.2.2
 k:∀o∈x0.2.2,Bj o.1=true
 r:∀o∈x0.2.2,o.2.2.2.2.2.2.1.length≤1000→Q0y o
structure Jxu(x0:Jm):Prop where
 b:Nh x0.1
 e:Q1h x0.1.1
 l:x0.2.2.length≤10
 q:∀r∈x0.2.2,Q0y r∧r.2.2.2.2.2.2.1.length≤100
 o:∀r∈x0.2.2,Jvo x0.1.1 r
 s:StO 0 x0.2.1 []
theorem Jxv{N:Nat}[hN:Cf N]{x0:Jm}(d:Jn5 x0):Xw N x0=some false∨Xw N x0=some true∧Jxu x0:=by
 obtain⟨r,er,hr⟩:=(Qkt (N:=N) (x0:=x0)).spec _ ⟨⟨d.z,d.s,d.at_⟩,fun r h=>h⟩
 cases r with
 | false=>exact .inl er
 | true =>
  obtain⟨hb,he,h12,hl,hn⟩:=hr rfl
  have h12':sz x0.2.1.1≤12∧x0.2.1.2.1.length≤12∧x0.2.1.2.2.length≤12:=by
   simp only[sz1,mx1,Qmv]at h12; exact⟨by omega,by omega,by omega⟩
  have hb1:=Un (l:=x0.2.1.1)
  refine .inr ⟨er,hb,he,hl,fun r hr=>⟨d.r r hr (QY (hn.all r hr).2 (by decide)),(hn.all r hr).2⟩,fun o ho=>?_,⟨by omega,by omega,by omega,by omega,Va,by simp⟩⟩
  have h1:Sh.sh o.2.2.2.2.2.2.1:=by
   have h2:Sh.sh x0.2.2:=d.s.2.2
   exact(Jmt ho h2).2.2.2.2.2.2.1
  exact⟨h1,h1,(hn.all o ho).1,d.k o ho⟩
theorem Jn6{N:Nat}[hN:Cf N]{x0:Jm}{x1 x2:Int}(d:Jn5 x0)(h10:0≤x1)(h11:x1≤255)(h2:D8 x2):V1 N x0 x1 x2=some true:=by
 have hBig:=hN.le
 unfold V1
 rcases Jxv (N:=N) d with er | ⟨er,F⟩
 ·rw[er,QJ,if_pos (by decide),Q7v]; rfl
 ·rw[er,QJ,if_neg (by decide)]
  have hl:=F.l
  obtain⟨k,hk⟩:∃k:Nat,x1 % ((x0.2.2.length:Int)+1)=k:=⟨(x1 % ((x0.2.2.length:Int)+1)).toNat,by have:=Int.emod_nonneg x1 (show(x0.2.2.length:Int)+1≠0 by omega); omega⟩
  have hkl:k≤x0.2.2.length:=by have:=Int.emod_lt_of_pos x1 (show(0:Int)<(x0.2.2.length:Int)+1 by omega); omega
  have hrem:Q3b (IntKind.wrap .i64 x1) (IntKind.wrap .i64 ((List.length x0.2.2:Int)+1))=some (k:Int):=by
   rw[E9 (by omega) (by omega),E9 (by omega) (by omega)]
   unfold Q3b
   rw[if_neg (by omega),JU h10,hk]
  have e0:Sr N=some (0,[]):=rfl
  rw[e0,QJ,hrem,QJ]
  obtain⟨s1,e1,hL,hs⟩:=Q7z (N:=N) (k:=k) hl F.q x0.2.2.length 0 N 0 (by omega) (by omega) ⟨fun p hp=>by simp at hp,Qms,by decide,by simp,by simp⟩ (fun h=>by omega)
  have e1':Qh (Yh N x0 (k:Int)) N (0,0,[],[])=_:=e1
  dsimp only
  rw[e1',QJ]
  dsimp only
  have key:∃s2:Int,(if(k:Int)==(List.length x0.2.2:Int)then
   (Vj N s1 (cat (x0.2.2.map Vk)) (Lt (x0.2.2.map Vk))).bind fun w53 =>
   some ((w53.1 != (k:Int)),w53.2.1,w53.2.2.2,w53.2.2.1)
  else
   some (false,s1,cat (x0.2.2.map Vk),Lt (x0.2.2.map Vk)):Option (Bool×Int×(List Int)×(List (Int×Int))))=some (false,s2,cat (x0.2.2.map Vk),Lt (x0.2.2.map Vk))∧Q53 10 (x0.2.2.map Vk) [] s2∧((cat ((x0.2.2.take k).map Vk)).length:Int)≤s2:=by
   by_cases hc:k=x0.2.2.length
   ·have es:=Jml (N:=N) (l:=x0.2.2.map Vk) (q:=[]) (safe:=s1)
    rw[QU]at es
    rw[if_pos (by simp; omega),es,QJ]
    dsimp only
    rw[JD]
    exact⟨((cat (x0.2.2.map Vk)).length:Int),by simp[hc],⟨hL.pl,Qms,by omega,by simp,hL.ln⟩,by rw[hc,List.take_length]; exact JB _⟩
   ·rw[if_neg (by simp; omega)]
    exact⟨s1,rfl,hL,hs (by omega)⟩
  obtain⟨s2,e2,hL2,hs2⟩:=key
  rw[e2,QJ]
  dsimp only
  rw[if_neg (by decide)]
  obtain⟨n,t,hn,ht,_,hmore,e3⟩:=Jqc (N:=N) (keep:=x2) (by omega) hL2 (by omega) h2
  rw[QU]at e3 hmore
  rw[JD]at hn hmore
  have hs21:=hL2.s1
  rw[QU]at hs21
  have hkn:k≤n:=by
   rcases Nat.lt_or_ge n k with h | h
   ·have h3:=hmore (by omega)
    have h4:=Q7y (l:=x0.2.2.map Vk) (i:=n+1) (j:=k) (by omega)
    rw[List.map_take]at hs2
    unfold Qen at h3
    omega
   ·exact h
  rw[e3,QJ]
  dsimp only
  have hpl:Qus ((x0.2.2.map Vk).take n):=fun p hp=>hL2.pl p (JA hp)
  have hcl:=Qmu hpl
  have htl:=Qmt ht
  rw[List.length_take,JD]at hcl
  rw[Jqb (by rw[List.length_append]; omega),QJ]
  dsimp only
  have ht':=fun r hr=>F.q r (JA (i:=n) hr)
  obtain⟨s',m',hp,hS⟩:=Q7x (N:=N) F.b F.e (x0.2.2.take n) 0 x0.2.1 [] (by rw[List.length_take]; omega) (fun r hr=>F.o r (JA hr)) F.s
  have e4:=Jhz (N:=N) (b:=x0.1) (s:=x0.2.1) (q:=x0.2.2.take n) (t:=t) F.b d.t d.a d.g F.s ht' (by rw[List.length_take]; omega) ht hp
  rw[←List.map_take,e4,QJ,List.length_take,Nat.min_eq_left hn]
  dsimp only
  rw[if_neg (by simp; omega)]
  have hb1:=F.s.b; have hw1:=F.s.w; have hc1:=F.s.c; have hz:=F.s.z
  obtain⟨w,ew,hw⟩:=(Qm2 (N:=N) (x0:=x0.1) (x1:=x0.2.1)).spec _ ⟨⟨F.b,d.t,d.a,d.g,by omega,by omega,by omega⟩,fun r h=>h⟩
  rw[ew,QJ,hw]
  dsimp only
  have e5:Qh (Yi N (n:Int) x0) N (0,x0.1.1,x0.1.2.1,x0.1.2.2.1,x0.1.2.2.2.1,x0.1.2.2.2.2.1,x0.1.2.2.2.2.2,x0.2.1.1,x0.2.1.2.2,x0.2.1.2.1,[])=_:=Q70 (N:=N) (b:=x0.1) hn hl (x0.2.2.take n) 0 N x0.2.1 [] s' m' rfl (by omega) (by rw[List.length_take]; omega) hp
  rw[e5,QJ]
  obtain⟨c1,c2,q,c3,c4,_⟩:=Jq5 (N:=N) (b:=x0.1) (by omega) hS
  dsimp only
  rw[c1,QJ,QJ]
  dsimp only
  rw[c2,QJ,if_pos rfl,c3,QJ,QJ]
  dsimp only
  rw[c4,QJ,QJ]
  dsimp only
  rw[if_pos rfl,Q7v]; rfl
theorem Jh0:GS Vd (inferInstanceAs (Sz Jm)) (inferInstanceAs (Sh Jm)):=gsT (gsP Jq1 (gsP Jn2 (gsL Jbk)))
theorem Qvi{x:Int}(g:gz (.int .i64) x):D8 x:=by
 have h1:Qo3 .i64 x:=g
 simp only[Qo3,Jq3,Jq2]at h1
 exact h1
theorem Jxw{x0:Jm}(g0:gz Vd x0):Jn5 x0:=by
 have h:=Jh0 x0 g0
 have hop:∀o∈x0.2.2,gz J6 o:=g0.2.2.2
 refine⟨h.1,h.2,?_,?_,⟨fun a ha=>?_⟩,⟨fun o ho=>(Qvi (hop o ho).2.2.2.1).2⟩,fun o ho=>?_,fun o ho hl=>?_⟩
 ·have h1:x0.1.2.2.2.1.length*32≤140737488351232:=g0.1.2.2.2.1.1
  omega
 ·have h1:x0.1.2.2.2.2.2.length*72≤140737488351232:=g0.1.2.2.2.2.2.1
  omega
 ·have h1:a.2.2.2.2.1.length*24≤140737488351232:=(g0.1.2.2.2.2.2.2 a ha).2.2.2.2.1.1
  omega
 ·have h1:=Qvi (hop o ho).1
  unfold D8 at h1
  unfold Bj
  simp only[QQ,decide_eq_true_eq]; omega
 ·obtain⟨g1,g2,g3,g4,g5,g6,g7,g8,g9⟩:=hop o ho
  exact⟨Qvi g1,Qvi g2,Qvi g3,Qvi g4,Qvi g5,Qvi g6,Qvi g8,Qvi g9,hl⟩
theorem Qm3(x0:Jm)(g0:gz Vd x0)(x1:Int)(g1:gz (.int .u8) x1)(x2:Int)(g2:gz (.int .i64) x2):∃N,V1 N x0 x1 x2=some true:=⟨18446744073709551616,by
 have:Cf 18446744073709551616:=⟨QG _⟩
 have h1:Qo3 .u8 x1:=g1
 have e1:IntKind.u8.min=0:=by decide
 have e2:IntKind.u8.max=255:=by decide
 simp only[Qo3,e1,e2]at h1
 exact Jn6 (Jxw g0) h1.1 h1.2 (Qvi g2)⟩
end Gx

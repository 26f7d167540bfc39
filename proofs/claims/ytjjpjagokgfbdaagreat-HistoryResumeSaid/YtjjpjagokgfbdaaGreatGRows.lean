/- Rows of the call's own whose elements are written. -/
import Derived.Test.YtjjpjagokgfbdaaGreatGCore
import Derived.Laws.MakeOwn
import Derived.ProofKit
import Derived.OpenShut
import Derived.Below
import Derived.ChangeSame
namespace Gd
open Go Go.RowKit
set_option linter.unusedVariables false
set_option linter.unusedSimpArgs false
theorem Fv{τ:Type}{r:RT τ}{ok:Ok}{w w':World}{xs:List τ}{cs:List Value}(h:Kc r ok w xs cs)(he:Evo ok w w'):Kc r ok w' xs cs:=((Je1 xs.length r).evo (x:=xs) ⟨rfl,h⟩ he).2
theorem X5{τ:Type}{r:RT τ}{ok ok':Ok}{w:World}{xs:List τ}{cs:List Value}(h:Kc r ok w xs cs)(hk:∀b o,ok b o→ok' b o):Kc r ok' w xs cs:=((Je1 xs.length r).weak (x:=xs) ⟨rfl,h⟩ hk).2
theorem Qty{τ:Type}{r:RT τ}{ok:Ok}{w:World}{xs:List τ}{cs:List Value}(h:Kc r ok w xs cs):∀c∈cs,c.oneCell'=true:=(Je1 xs.length r).flat (x:=xs) ⟨rfl,h⟩
def ml{τ:Type}(v:Value)(e:Nat)(r:RT τ)(xs:List τ):TL where
 blks:=fun g=>v.ownBlock=some g
 cov:=fun b _=>v.ownBlock=some b
 cb:=fun h=>h
 p:=fun ok w=>Zv v=xs.length∧∃cs,w.ownsRowS 0 e r.size v (Zv v) cs∧Kc r ok w xs cs
 keep:=fun⟨h1,cs,h2,h3⟩ hb he=>⟨h1,cs,Tm h2 hb,Fv h3 he⟩
 weak:=fun⟨h1,cs,h2,h3⟩ hk=>⟨h1,cs,h2,X5 h3 hk⟩
 lt:=fun⟨_,_,h,_⟩ g hg=>(h.lt g hg).2
theorem Fw{τ:Type}{r:RT τ}{ok:Ok}{w:World}:∀{xs:List τ} {cs:List Value},Kc r ok w xs cs→∀{i:Nat} {y:τ},xs[i]?=some y→r.rep ok w y ((cs.drop (i*r.size)).take r.size)
 | x::xs,cs,⟨c1,c2,e,h1,h2⟩,i,y,hy=>by
  subst e
  have hl:=r.len h1
  cases i with
  | zero =>
   simp at hy; subst hy
   rw[XB,KY,←hl,ZZ]; exact h1
  | succ i =>
   simp at hy
   have:=Fw h2 hy
   have e:(c1++c2).drop ((i+1)*r.size)=c2.drop (i*r.size):=by
    rw[QP,WH,KS,←hl,←XL,KU,hl]
   rw[e]; exact this
theorem Je7{τ:Type}{r:RT τ}{ok:Ok}{w:World}{e:Nat}{xs:List τ}{A:Option Addr}{m c:Nat}(h:(ml (.slice A m c) e r xs).p ok w):Qz4 r ok w xs A m c:=by
 obtain⟨hl,cs,kb,hr⟩:=h
 have hm:Zv (.slice A m c)=m:=rfl
 rw[hm]at hl kb
 have zy:∀i x,xs[i]?=some x→∃ds,r.rep ok w x ds∧∀(j:Nat) u,ds[j]?=some u→cs[i*r.size+j]?=some u:=fun i x hx=>by
  refine⟨_,Fw hr hx,fun j u hu=>?_⟩
  rw[JD]at hu
  split at hu
  ·rw[JZ]at hu; exact hu
  ·cases hu
 rcases kb.2 with⟨hv,h0⟩ | ⟨g,cap,cur,fz,hv,_,_,_,hle,_⟩
 ·injection hv with e1 e2 e3
  exact⟨cs,kb.1,hl.symm,by omega,fun _=>h0,Qty hr,fun h=>absurd h (by omega),zy⟩
 ·have hg:(Value.slice A m c).ownBlock=some g:=by rw[hv]; rfl
  have yz:=kb.cells hg
  injection hv with e1 e2 e3
  exact⟨cs,kb.1,hl.symm,by omega,(fun h=>absurd (e1.symm.trans h) (by simp)),Qty hr,fun _=>⟨g,0,e1,fun j u hu=>by rw[←Hy]; exact yz j u hu⟩,zy⟩
theorem Qpp{τ:Type}{r:RT τ}{ok:Ok}{w:World}:∀{xs:List τ} {cs:List Value},Kc r ok w xs cs→∀{i:Nat} {z:τ} {ds:List Value},i<xs.length→r.rep ok w z ds →
  Kc r ok w (xs.set i z) (cs.take (i*r.size)++ds++cs.drop (i*r.size+ds.length))
 | x::xs,cs,⟨c1,c2,e,h1,h2⟩,i,z,ds,hi,hz=>by
  subst e
  have hl:=r.len h1
  have hd:=r.len hz
  cases i with
  | zero =>
   refine⟨ds,c2,?_,hz,h2⟩
   simp only[XB,ZA,QC,QE]
   rw[hd,←hl,KU]
  | succ i =>
   refine⟨c1,_,?_,h1,Qpp h2 (by simpa using hi) hz⟩
   have e1:(i+1)*r.size=c1.length+i*r.size:=by rw[QP,hl]; omega
   rw[e1,KE,QH,QH,QH,ZE,JP (by omega)]
   congr 3
   rw[ZG,←XL,KU]
theorem N2{τ:Type}{r:RT τ}{ok:Ok}{w:World}:∀{xs ys:List τ} {cs ds:List Value},Kc r ok w xs cs→Kc r ok w ys ds→Kc r ok w (xs++ys) (cs++ds)
 | [],ys,cs,ds,h,h2=>by simp only[Kc]at h; subst h; simpa using h2
 | x::xs,ys,cs,ds,⟨c1,c2,e,h1,h3⟩,h2=>by subst e; exact⟨c1,c2++ds,by rw[QH],h1,N2 h3 h2⟩
theorem Qh3{τ:Type}{r:RT τ}{ok:Ok}{w:World}:∀(xs:List τ) (cs:List Value),cs.length=xs.length*r.size→(∀i x,xs[i]?=some x→∃ds,r.rep ok w x ds∧∀(j:Nat) u,ds[j]?=some u→cs[i*r.size+j]?=some u)→Kc r ok w xs cs
 | [],cs,hl,_=>by simp only[Kc]; exact JX (by simpa using hl)
 | x::xs,cs,hl,h=>by
  obtain⟨ds,hr,hd⟩:=h 0 x rfl
  have hdl:=r.len hr
  have qn:cs.length=r.size+xs.length*r.size:=by rw[hl]; simp[QP]; omega
  refine⟨ds,cs.drop r.size,?_,hr,Qh3 xs _ (by simp; omega) fun i y hy=>?_⟩
  ·have:cs.take r.size=ds:=by
    apply ZU
    intro j
    rcases JL j r.size with hj | hj
    ·rw[JQ hj]
     have hu:ds[j]?=some (ds[j]'(by omega)):=QU _
     have:=hd j _ hu
     rw[hu,←this]; simp
    ·rw[ZV (by simp; omega),ZV (by omega)]
   rw[←this,JH]
  ·obtain⟨es,he,hc⟩:=h (i+1) y (by simpa using hy)
   refine⟨es,he,fun j u hu=>?_⟩
   rw[JZ]
   have:=hc j u hu
   have e:(i+1)*r.size+j=r.size+(i*r.size+j):=by rw[QP]; omega
   rw[←e]; exact this
section
variable {P:Program} {T:Tab} {β:Nat→Nat} {X:Cx} {G:GL} {D:List DF} {H:HL} {O:List TL} {a:Act} {w w':World}
variable {ops:Array Oper} {Q:Exit→Act→World→Prop} {rest:List Oper}
theorem Sb.mget(h:Sb β X G D H O a w){τ:Type}{r:RT τ}{xs:List τ}{A:Option Addr}{m c:Nat}{e:Nat}(hm:ml (.slice A m c) e r xs∈O){j:Int}{y:τ}(hy:idx xs j=some y)(zq:0<r.size) :
  ∃g cap cur fz,A=some ⟨g,0,none⟩∧(w.heap[g]?=some (.cells cur e fz)∧Qwo fz cur.size)∧m=xs.length∧j.toNat<m∧m≤cap∧cap*r.size≤cur.size∧c=cap∧cap≤maxLen ∧
   Kc r (Jf X.ok X.w.heap.size β H O w) w xs (cur.toList.take (m*r.size)):=by
 obtain⟨⟨hl,cs,kb,hr⟩,_⟩:=h.own _ hm
 obtain⟨h0,h1⟩:=W8 hy
 have hlt:=(QK.1 h1).1
 simp only[Zv]at hl kb
 rcases kb.2 with⟨hv,h0⟩ | ⟨g,cap,cur,fz,hv,_,hh,yk,hle,xh,zr,yu⟩
 ·omega
 ·injection hv with e1 e2 e3
  exact⟨g,cap,cur,fz,e1,⟨hh,yk⟩,hl,by omega,hle,zr,e3,xh,by rw[yu]; exact hr⟩
theorem Qtz{cur:Array Value}{g e:Nat}{fz:Nat×Nat}(hh:w.heap[g]?=some (.cells cur e fz))(i:Nat):w.cell? ⟨g,i,none⟩=cur.toList[i]?:=by
 simp[World.cell?,hh]
theorem Jay(L ds:List Value){a s M off:Nat}(h1:a+s≤M)(h2:off+ds.length≤s)(h3:M≤L.length) :
  ((L.take (a+off)++ds++L.drop (a+off+ds.length)).take M) =
   (L.take M).take a++(((L.drop a).take s).take off++ds++((L.drop a).take s).drop (off+ds.length))++(L.take M).drop (a+s):=by
 apply ZU
 intro i
 simp only[List.getElem?_append,JD,JZ,QI,QO,JV]
 have e1:min (a+off) L.length=a+off:=by omega
 have e2:min a (min M L.length)=a:=by omega
 have e3:min s (L.length - a)=s:=by omega
 have e4:min off s=off:=by omega
 rw[e1,e2,e3,e4]
 by_cases c1:i<a
 ·have c2:i<a+off:=by omega
  have c3:i<M:=by omega
  have c4:i<a+off+ds.length:=by omega
  have c5:i<a+(off+ds.length+(s - (off+ds.length))):=by omega
  simp[c1,c2,c3,c4,c5]
 ·by_cases c2:i<a+off
  ·have c3:i<M:=by omega
   have c4:i<a+off+ds.length:=by omega
   have c5:i<a+(off+ds.length+(s - (off+ds.length))):=by omega
   have c6:i - a<off:=by omega
   have c7:i - a<off+ds.length:=by omega
   have c8:i - a<s:=by omega
   have c9:a+(i - a)=i:=by omega
   simp[c1,c2,c3,c4,c5,c6,c7,c8,c9]
  ·by_cases c4:i<a+off+ds.length
   ·have c3:i<M:=by omega
    have c5:i<a+(off+ds.length+(s - (off+ds.length))):=by omega
    have c6:¬ i - a<off:=by omega
    have c7:i - a<off+ds.length:=by omega
    have c8:i - (a+off)=i - a - off:=by omega
    simp[c1,c2,c3,c4,c5,c6,c7,c8]
   ·by_cases c5:i<a+s
    ·have c3:i<M:=by omega
     have c6:i<a+(off+ds.length+(s - (off+ds.length))):=by omega
     have c7:¬ i - a<off+ds.length:=by omega
     have c8:off+ds.length+(i - a - (off+ds.length))<s:=by omega
     have c9:a+(off+ds.length+(i - a - (off+ds.length)))=i:=by omega
     have c10:a+off+ds.length+(i - (a+off+ds.length))=i:=by omega
     simp[c1,c2,c3,c4,c6,c7,c8,c9,c10]
    ·have c6:¬ i<a+(off+ds.length+(s - (off+ds.length))):=by omega
     have c9:a+s+(i - (a+(off+ds.length+(s - (off+ds.length)))))=i:=by omega
     have c10:a+off+ds.length+(i - (a+off+ds.length))=i:=by omega
     simp[c4,c6,c9,c10]
theorem Sb.upd(h:Sb β X G D H O a w){O1 O2:List TL}{t t':TL}(hO:O=O1++t::O2)(ic:w'.os=w.os)(ie:w'.tape=w.tape)(ub:w'.output=w.output)(ko:w.heap.size≤w'.heap.size)
  (hblk:∀b,b<w.heap.size→¬ t.blks b→w'.heap[b]?=w.heap[b]?) (xz:∀b o,t.blks b→t.cov b o) (yo:∀g,t'.blks g→t.blks g∨w.heap.size≤g)
  (hp:Evo (Jf X.ok X.w.heap.size β H O w) w w'→(∀b o,Jf X.ok X.w.heap.size β H O w b o→Jf X.ok X.w.heap.size β H (O1++t'::O2) w' b o)→t'.p (Jf X.ok X.w.heap.size β H (O1++t'::O2) w') w') :
  Sb β X G D H (O1++t'::O2) a w':=by
 subst hO
 have ke:t∈O1++t::O2:=by simp
 have zd:=(h.own _ ke).2
 have kq:Evo (Jf X.ok X.w.heap.size β H (O1++t::O2) w) w w':=Evo.of_blocks ko fun b o hk=>hblk b hk.2.1 fun hb=>hk.2.2.2 t ke (xz b o hb)
 have kj:∀b o,Jf X.ok X.w.heap.size β H (O1++t::O2) w b o→Jf X.ok X.w.heap.size β H (O1++t'::O2) w' b o:=by
  rintro b o ⟨h1,h2,h3,h4⟩
  refine⟨h1,JU h2 ko,h3,fun u hu hc=>?_⟩
  rcases QW.1 hu with hu | hu
  ·exact h4 u (by simp[hu]) hc
  ·rcases QX.1 hu with rfl | hu
   ·rcases yo b (u.cb hc)with hb | hb
    ·exact h4 t ke (xz b o hb)
    ·omega
   ·exact h4 u (by simp[hu]) hc
 have xc:=QM.1 h.dOO
 have rp:=QG.1 xc.2.1
 have tu:∀u∈O1++O2,∀g,u.blks g→¬ t.blks g∧g<w.heap.size:=by
  intro u hu g hg
  refine⟨fun hb=>?_,h.olt (by rcases QW.1 hu with hu | hu<;>simp[hu]) hg⟩
  rcases QW.1 hu with hu | hu
  ·exact xc.2.2 u hu t (.head _) g hg hb
  ·exact rp.1 u hu g hb hg
 have tr:∀u∈O1++O2,∀g,u.blks g→¬ t'.blks g:=by
  intro u hu g hg hb
  have:=tu u hu g hg
  rcases yo g hb with hb | hb
  ·exact this.1 hb
  ·omega
 refine { sz:=h.sz,df:=h.df,fr:=h.fr,pn:=h.pn,tm:=h.tm,bel:=?_,dat:=(h.dat.evo kq).weak kj,obj:=?_,own:=?_,dHH:=h.dHH,dHO:=?_,dOO:=?_ }
 ·exact h.bel.trans ⟨ic,ie,ub,ko,fun k hk hn=>hblk k (JU hk h.bel.size) fun hb=>(zd k hb).elim (fun h=>by omega) hn⟩
 ·intro p xm
  refine⟨?_,(h.obj p xm).2⟩
  rw[hblk _ (h.hlt xm) (h.dHO p xm t ke)]
  exact(h.obj p xm).1
 ·intro u hu
  have keep:∀u∈O1++O2,u.p (Jf X.ok X.w.heap.size β H (O1++t'::O2) w') w'∧∀g,u.blks g→X.mine g:=by
   intro u hu
   have tv:u∈O1++t::O2:=by rcases QW.1 hu with hu | hu<;>simp[hu]
   exact⟨u.weak (u.keep (h.own u tv).1 (fun g hg=>hblk g (tu u hu g hg).2 (tu u hu g hg).1) kq) kj,(h.own u tv).2⟩
  rcases QW.1 hu with hu | hu
  ·exact keep u (by simp[hu])
  ·rcases QX.1 hu with rfl | hu
   ·exact⟨hp kq kj,fun g hg=>(yo g hg).elim (zd g) fun hb=>.inl (QN h.bel.size hb)⟩
   ·exact keep u (by simp[hu])
 ·intro p xm u hu
  rcases QW.1 hu with hu | hu
  ·exact h.dHO p xm u (by simp[hu])
  ·rcases QX.1 hu with rfl | hu
   ·intro hb
    rcases yo _ hb with hb | hb
    ·exact h.dHO p xm t ke hb
    ·have:=h.hlt xm; omega
   ·exact h.dHO p xm u (by simp[hu])
 ·refine QM.2 ⟨xc.1,QG.2 ⟨fun u hu g hg zt=>tr u (by simp[hu]) g zt hg,rp.2⟩,?_⟩
  intro u hu v hv g hg
  rcases QX.1 hv with rfl | hv
  ·exact tr u (by simp[hu]) g hg
  ·exact xc.2.2 u hu v (.tail _ hv) g hg
theorem Sb.mset(h:Sb β X G D H O a w)(O1 O2:List TL){τ:Type}{r:RT τ}{xs:List τ}{m c g:Nat}{j:Int}{y z:τ}{e:TypeId}
  (hO:O=O1++ml (.slice (some ⟨g,0,none⟩) m c) e r xs::O2) (hy:idx xs j=some y) (zq:0<r.size) {off:Nat} {ds:List Value} (yc:off+ds.length≤r.size) (h1:∀d∈ds,d.oneCell'=true)
  (hz:∀es,r.rep (Jf X.ok X.w.heap.size β H O w) w y es→r.rep (Jf X.ok X.w.heap.size β H O w) w z (es.take off++ds++es.drop (off+ds.length))) :
  ∃cur fz,(w.heap[g]?=some (.cells cur e fz)∧Qwo fz cur.size)∧j.toNat*r.size+off+ds.length≤cur.size ∧
   Sb β X G D H (O1++ml (.slice (some ⟨g,0,none⟩) m c) e r (xs.set j.toNat z)::O2) a (w.setRow g (cur.toList.take (j.toNat*r.size+off)++ds++cur.toList.drop (j.toNat*r.size+off+ds.length)).toArray):=by
 have ke:ml (.slice (some ⟨g,0,none⟩) m c) e r xs∈O:=by rw[hO]; simp
 obtain⟨g',cap,cur,fz,hA,⟨hh,yk⟩,hm,hj,hle,zr,hc,xh,hr⟩:=h.mget ke hy zq
 injection hA with hA; injection hA with hA; subst hA
 have hj1:(j.toNat+1)*r.size≤m*r.size:=JG _ hj
 have hj2:m*r.size≤cap*r.size:=JG _ hle
 rw[QP]at hj1
 have xl:cap*r.size≤cur.toList.length:=by simpa using zr
 have hlen:j.toNat*r.size+off+ds.length≤cur.size:=by omega
 refine⟨cur,fz,⟨hh,yk⟩,hlen,?_⟩
 have wa:=setRow_heap w g cur (cur.toList.take (j.toNat*r.size+off)++ds++cur.toList.drop (j.toNat*r.size+off+ds.length)).toArray e _ hh
 refine h.upd (t':=ml (.slice (some ⟨g,0,none⟩) m c) e r (xs.set j.toNat z)) hO rfl rfl rfl (by simp) (fun b hb hn=>setRow_other _ _ _ _ fun e=>hn (by subst e; rfl)) (fun b o hb=>hb) (fun g hg=>.inl hg) fun kq kj=>?_
 have zy:=Fw hr (W8 hy).2
 have bq:(cur.toList.take (m*r.size)).drop (j.toNat*r.size)=(cur.toList.drop (j.toNat*r.size)).take (m*r.size - j.toNat*r.size):=by rw[KG]
 have e1:((cur.toList.take (m*r.size)).drop (j.toNat*r.size)).take r.size=(cur.toList.drop (j.toNat*r.size)).take r.size:=by
  rw[bq,ZP]; congr 1; omega
 rw[e1]at zy
 have tr:=hz _ zy
 have hL:((cur.toList.drop (j.toNat*r.size)).take r.size).length=r.size:=r.len zy
 refine⟨by simp[Zv,hm],_,⟨?_,.inr ⟨g,cap,_,fz,by rw[hc]; rfl,JB _,wa,by rw[XW,QI,QI,QO,JV,ZY (by omega),show j.toNat*r.size+off+ds.length+(cur.toList.length - (j.toNat*r.size+off+ds.length))=cur.size by simp; omega]; exact yk,hle,xh,by rw[XW,QI,QI,QO,JV]; omega,rfl⟩⟩,?_⟩
 ·simp only[Zv,QO,QI,JV]; omega
 ·have h2:=Qpp (X5 (Fv hr kq) kj) (i:=j.toNat) (z:=z) (by omega) (r.weak (r.evo tr kq) kj)
  simp only[Zv]
  have yn:=Jay cur.toList ds (a:=j.toNat*r.size) (s:=r.size) (M:=m*r.size) (off:=off) (by omega) yc (by omega)
  rw[yn]
  have bt:(List.take off (List.take r.size (List.drop (j.toNat*r.size) cur.toList))++ds++List.drop (off+ds.length) (List.take r.size (List.drop (j.toNat*r.size) cur.toList))).length=r.size:=by
   simp; omega
  rw[bt]at h2
  exact h2
def mkL{α:Type}(bytes:Nat)(l c:Int)(z:α):Option (List α):=if 0≤l∧l≤c∧(bytes:Int)*c≤281474976710656 then some (List.replicate l.toNat z)else none
theorem Qpq(zc:List Value):∀l:Nat,((List.range (l*zc.length)).map fun j=>zc.getD (j % zc.length) undef)=(List.replicate l zc).flatten
 | 0=>by simp
 | l+1=>by
  rw[QP,WH,List.range_add,JK,Qpq zc l,List.replicate_succ',WK]
  congr 1
  simp only[List.map_map,List.flatten_cons,List.flatten_nil,QR]
  apply List.ext_getElem
  ·simp
  ·intro i h1 h2
   simp only[KF,List.getElem_range,Function.comp]
   have hlt:i<zc.length:=h2
   rw[Nat.mul_comm,Nat.mul_add_mod,Nat.mod_eq_of_lt hlt]
   simp[hlt]
theorem Qz6{τ:Type}{r:RT τ}{ok:Ok}{z:τ}{zc:List Value}(h:r.rep ok w z zc):∀l,Kc r ok w (List.replicate l z) (List.replicate l zc).flatten
 | 0=>by simp[Kc]
 | l+1=>⟨zc,(List.replicate l zc).flatten,by simp[List.replicate_succ],h,Qz6 h l⟩
theorem Jaz(hT:Q4 P T)(h:Sb β X G D H O a w){t:TypeId}{lo co:Operand}{d:Nat}{ps:String}{af:Array Edge}{ty:TypeId}{gd:Option (Nat×Bool)}
  (hg:B4 ops G ⟨some d,.makeSlice t lo co,ty,ps,af,gd⟩=some true) (hlt:okD X d=true)
  {τ:Type} {r:RT τ} {z:τ} {zs:List τ} {kl kc:IntKind} {l c:Int} {e:TypeId} {te ee:TE} (ht:Qh T t=some te) (kr:te.d=.slice e) (he:Qh T e=some ee) (hs:ee.size=r.size)
  (xi:Nat.beq (Qu ee.z).length ee.size=true) (y9:Nat.ble 1 ee.bytes=true) (hz:∀ok w,r.rep ok w z (Qu ee.z))
  (hl:gv G lo=some (.v (.int kl l))) (hc:gv G co=some (.v (.int kc c))) (nu:mkL ee.bytes l c z=some zs)
  (hk:∀b a' w',Sb β X (Tl G d (.v (.slice (some ⟨b,0,none⟩) zs.length c.toNat))) D H (ml (.slice (some ⟨b,0,none⟩) zs.length c.toNat) e r zs::O) a' w'→wpList P ops Q rest a' w') :
  wpList P ops Q (⟨some d,.makeSlice t lo co,ty,ps,af,gd⟩::rest) a w:=by
 unfold mkL at nu
 split at nu
 ·rename_i hcd
  obtain⟨h0,h1,h2⟩:=hcd
  have xf:zs=List.replicate l.toNat z:=(Option.some.inj nu).symm
  have hlen:zs.length=l.toNat:=by rw[xf]; simp
  have hu:P.underlying t=some (.slice e):=by rw[(Jm hT ht).2,kr]
  obtain⟨i,hi,tj,bu,vp⟩:=W7 hT he
  have tq:1≤ee.bytes:=QF y9
  have hc63:c≤281474976710656:=by
   have:(1:Int)*c≤(ee.bytes:Int)*c:=KA (by omega) (by omega)
   omega
  have th:=QJ xi
  have hr:=run_make (P:=P) w t e i ee.z hu hi tj kl kc l c h0 h1 (by rw[vp]; exact h2) (by omega)
  have ka:(execOp a.eval ⟨some d,.makeSlice t lo co,ty,ps,af,gd⟩).run P w=.ok (.value (.slice (some ⟨w.heap.size,0,none⟩) zs.length c.toNat)) (w.alloc (.cells (madeCells ee.z.cells (c.toNat*i.size)) e)):=by
   unfold execOp
   simp only[h.ev hl,h.ev hc,Is]
   simp[hr,hlen]
  refine Jl (Kj h hg) (Yo ka ?_)
  have hb:Below w.heap.size w (w.alloc (.cells (madeCells ee.z.cells (c.toNat*i.size)) e)):=(Below.refl _ _).alloc (QD _) _
  have xb:(madeCells ee.z.cells (c.toNat*i.size)).toList=(List.replicate c.toNat (Qu ee.z)).flatten:=by
   rw[←Qpq,th,bu]
   unfold madeCells
   rw[Vp]at th ⊢
   simp only[Array.toList_map,Array.toList_range]
   apply WV
   intro q hq
   have wb:q<c.toNat*ee.size:=by simpa using hq
   have zq:0<ee.size:=by
    rcases XJ ee.size with h0 | h0
    ·rw[h0]at wb; omega
    ·exact h0
   have ko:ee.z.cells.size=ee.size:=by rw[←th]; simp
   have hm:q % ee.z.cells.size<ee.z.cells.size:=KT _ (by omega)
   rw[getElem!_pos ee.z.cells _ hm]
   simp only[VQ]
   have uk:q % ee.size<ee.z.cells.toList.length:=by rw[ko]at hm; simpa[ko]using hm
   rw[QU uk]
   simp[ko]
  refine hk _ _ _ ((h.allocTL hb (t:=ml (.slice (some ⟨w.heap.size,0,none⟩) zs.length c.toNat) e r zs) (fun g hg=>?_) ⟨rfl,(List.replicate l.toNat (Qu ee.z)).flatten,⟨?_,.inr ⟨w.heap.size,c.toNat,_,(0,0),rfl,JB _,heap_alloc_new w _,.inl rfl,?_,?_,?_,?_⟩⟩,?_⟩).put hlt (.v _))
  ·have hg:some w.heap.size=some g:=hg
   injection hg with hg; omega
  ·simp[Zv,hlen,th,hs]
  ·simp only[Zv]; omega
  ·rw[Lx]; omega
  ·exact KK (by rw[size_madeCells,bu,hs])
  ·simp only[Zv]
   rw[xb,hlen]
   have e1:c.toNat=l.toNat+(c.toNat - l.toNat):=by omega
   rw[e1,←List.replicate_append_replicate,WK]
   have e2:l.toNat*r.size=(List.replicate l.toNat (Qu ee.z)).flatten.length:=by simp[th,hs]
   rw[e2,ZZ]
  ·rw[xf]; exact Qz6 (hz _ _) _
 ·cases nu
end
end Gd

/- Rows that are appended to, frozen, lent to a call. -/
namespace Gd
open Go Go.RowKit
set_option linter.unusedVariables false
set_option linter.unusedSimpArgs false
section
variable {P:Program} {T:Tab} {β:Nat→Nat} {X:Cx} {G:GL} {D:List DF} {H:HL} {O:List TL} {a:Act} {w w':World}
variable {ops:Array Oper} {Q:Exit→Act→World→Prop} {rest:List Oper}
theorem Sb.addNilM(h:Sb β X G D H O a w)(e:Nat){τ:Type}(r:RT τ):Sb β X G D H (ml (.slice none 0 0) e r []::O) a w :=
 h.allocTL (Below.refl _ _) (fun g hg=>by have hg:(none:Option Nat)=some g:=hg; cases hg) ⟨rfl,[],World.ownsRowS_nil _ _ _ _,rfl⟩
theorem Sb.freeze(h:Sb β X G D H O a w){τ:Type}{r:RT τ}{xs:List τ}{A:Option Addr}{c:Nat}{e:Nat}{O2:List TL}(hO:O=ml (.slice A xs.length c) e r xs::O2)(zq:Nat.ble 1 r.size=true) :
  Sb β X G (DF.v (rSl r) xs (.slice A xs.length c)::D) H (tl (.slice A xs.length c) e r.size::O2) a w:=by
 subst hO
 have ke:ml (.slice A xs.length c) e r xs∈ml (.slice A xs.length c) e r xs::O2:=.head _
 obtain⟨⟨hl,cs,kb,hr⟩,zd⟩:=h.own _ ke
 have kj:∀b o,Jf X.ok X.w.heap.size β H (ml (.slice A xs.length c) e r xs::O2) w b o→Jf X.ok X.w.heap.size β H (tl (.slice A xs.length c) e r.size::O2) w b o:=by
  rintro b o ⟨h1,h2,h3,h4⟩
  refine⟨h1,h2,h3,fun u hu hc=>?_⟩
  rcases QX.1 hu with rfl | hu
  ·exact h4 _ (.head _) hc.1
  ·exact h4 u (.tail _ hu) hc
 have xc:=QG.1 h.dOO
 refine { sz:=h.sz,df:=h.df,fr:=h.fr,pn:=h.pn,tm:=h.tm,bel:=h.bel,dat:=⟨?_,h.dat.weak kj⟩,obj:=h.obj,own:=fun u hu=>?_,dHH:=h.dHH,dHO:=fun p hp u hu=>?_,dOO:=QG.2 ⟨fun u hu g hg=>xc.1 u hu g hg,xc.2⟩ }
 ·refine Z5.2 ⟨A,xs.length,c,rfl,rfl,?_,fun h0=>?_⟩
  ·rcases kb.2 with⟨hv,h0⟩ | ⟨g,cap,cur,fz,hv,_,_,_,hle,_⟩
   ·simp only[Zv]at h0; omega
   ·injection hv with e1 e2 e3; simp only[Zv]at hle; omega
  ·rcases kb.2 with⟨hv,h1⟩ | ⟨g,cap,cur,fz,hv,_,hh,yk,hle,xh,zr,yu⟩
   ·simp only[Zv]at h1; omega
   ·injection hv with e1 e2 e3
    simp only[Zv]at hle yu
    refine⟨g,0,e1,fun i x hx=>?_⟩
    have hi:=(QK.1 hx).1
    have zy:=Fw hr hx
    refine⟨_,r.weak zy kj,fun j u hu=>?_⟩
    have hj:j<r.size:=by have:=(QK.1 hu).1; rw[r.len zy]at this; exact this
    have tt:(Value.slice A xs.length c).ownBlock=some g:=by rw[e1]; rfl
    rw[QE]
    refine⟨⟨X.mine_ok (zd g tt) _,Yi hh,fun p hp e2=>h.dHO p hp _ ke (by rw[e2]; exact tt),fun u' tv hc=>?_⟩,?_⟩
    ·rcases QX.1 tv with rfl | tv
     ·have:=hc.2
      simp only[Zv]at this
      have:(i+1)*r.size≤xs.length*r.size:=JG _ hi
      rw[QP]at this
      omega
     ·exact xc.1 u' tv g tt (u'.cb hc)
    ·rw[Qtz hh]
     rw[JQ hj,JZ,←yu,JD]at hu
     split at hu
     ·exact hu
     ·cases hu
 ·rcases QX.1 hu with rfl | hu
  ·exact⟨⟨cs,kb⟩,zd⟩
  ·exact⟨u.weak (h.own u (.tail _ hu)).1 kj,(h.own u (.tail _ hu)).2⟩
 ·rcases QX.1 hu with rfl | hu
  ·exact fun hg=>(h.dHO p hp _ ke) hg
  ·exact h.dHO p hp u (.tail _ hu)
theorem Qh4(hT:Q4 P T)(h:Sb β X G D H O a w)(O1 O2:List TL){t:TypeId}{s x:Operand}{d:Nat}{ps:String}{af:Array Edge}{ty:TypeId}{gd:Option (Nat×Bool)}
  (hg:B4 ops G ⟨some d,.call ⟨.builtin .append,⟨[s,x]⟩,⟨[t,t]⟩⟩,ty,ps,af,gd⟩=some true) (hlt:okD X d=true)
  {τ:Type} {r:RT τ} {xs ys zs:List τ} {A:Option Addr} {A2:Option Addr} {m c m2 c2:Nat} {e:TypeId} {te ee:TE} (ht:Qh T t=some te) (kr:te.d=.slice e) (he:Qh T e=some ee) (hs:ee.size=r.size)
  (hz:Nat.beq (Qu ee.z).length ee.size=true) (ko:Nat.ble 1 ee.size=true) (y9:Nat.ble 1 ee.bytes=true)
  (hO:O=O1++ml (.slice A m c) e r xs::O2) (ua:gv G s=some (.v (.slice A m c))) (vj:gv G x=some (.v (.slice A2 m2 c2)))
  (hDy:Qz4 r (Jf X.ok X.w.heap.size β H O w) w ys A2 m2 c2) (zu:app ee.bytes xs ys=some zs)
  (hk:∀A' c' a' w',Sb β X (Tl G d (.v (.slice A' zs.length c'))) D H (O1++ml (.slice A' zs.length c') e r zs::O2) a' w'→wpList P ops Q rest a' w') :
  wpList P ops Q (⟨some d,.call ⟨.builtin .append,⟨[s,x]⟩,⟨[t,t]⟩⟩,ty,ps,af,gd⟩::rest) a w:=by
 obtain⟨zh,rfl⟩:=Qj0 zu
 have ke:ml (.slice A m c) e r xs∈O:=by rw[hO]; simp
 obtain⟨⟨hl,xs0,kb,hr⟩,zd⟩:=h.own _ ke
 obtain⟨csy,va,vk,bm,hA2,qp,qq,qs⟩:=hDy
 have xi:=QJ hz
 have tn:0<ee.size:=QF ko
 have tq:0<ee.bytes:=QF y9
 have y8:∀ad,A2=some ad→∀j u,csy[j]?=some u→w.cell? (ad.add j)=some u:=by
  intro ad vl j u hu
  have hj:=(QK.1 hu).1
  have uk:0<m2:=by
   rcases XJ m2 with h0 | h0
   ·rw[h0,XB]at va; omega
   ·exact h0
  obtain⟨b,o,hA',hc⟩:=qq uk
  rw[hA']at vl
  injection vl with vl
  subst vl
  rw[Hy]
  exact hc j u hu
 simp only[Zv]at kb hl
 rw[←hs]at kb
 obtain⟨v',w1,ka,zm,kp,hblk⟩:=Qgg (P:=P) (w:=w) (ty:=ty) hT ht kr he xi tn tq kb (JB _) (k:=m2) (c:=c2) (A:=A2) (news:=csy) (by rw[hs]; exact va) hA2 y8 qp (by rw[hl,←vk]; exact zh)
 have z8:(execOp a.eval ⟨some d,.call ⟨.builtin .append,⟨[s,x]⟩,⟨[t,t]⟩⟩,ty,ps,af,gd⟩).run P w=.ok (.value v') w1:=by
  unfold execOp
  have hm:(Array.mk [s,x]).map a.eval=⟨[.slice A m c,.slice A2 m2 c2]⟩:=by simp[h.ev ua,h.ev vj,Is]
  simp[resolve,hm,invoke,builtin,ka]
 have xa:∃A' c',v'=.slice A' (m+m2) c':=by
  rcases zm.2 with⟨rfl,h0⟩ | ⟨g,cap,cur,fz,rfl,_⟩
  ·exact⟨none,0,by rw[h0]⟩
  ·exact⟨_,cap,rfl⟩
 obtain⟨A',c',rfl⟩:=xa
 have hlen:m+m2=(xs++ys).length:=by rw[QI,hl,vk]
 refine Jl (Kj h hg) (Yo z8 ?_)
 have hS:Sb β X G D H (O1++ml (.slice A' (m+m2) c') e r (xs++ys)::O2) a w1:=by
  refine h.upd hO kp.os kp.tape kp.output kp.size (fun b hb hn=>kp.block b hb fun e=>hn e.symm) (fun b o hb=>hb) (fun g hg=>?_) fun kq kj=>?_
  ·rcases hblk with zw | ⟨zw,_⟩
   ·exact .inl (by have hg:(Value.slice A' (m+m2) c').ownBlock=some g:=hg; rw[zw]at hg; exact hg)
   ·have hg:(Value.slice A' (m+m2) c').ownBlock=some g:=hg
    rw[zw]at hg; injection hg with hg; exact .inr (by omega)
  ·refine⟨hlen,xs0++csy,by rw[←hs]; exact zm,N2 (X5 (Fv hr kq) kj) (X5 (Fv ?_ kq) kj)⟩
   exact Qh3 ys csy (by rw[va,vk]) qs
 have:=hk A' c' (a.put (some d) (.slice A' (m+m2) c')) w1
 rw[←hlen]at this
 exact this (hS.put hlt (.v _))
end
end Gd
namespace Gd
open Go Go.RowKit
section
variable {P:Program} {T:Tab} {β:Nat→Nat} {X:Cx} {G:GL} {D:List DF} {H:HL} {O:List TL} {a:Act} {w w':World}
variable {ops:Array Oper} {Q:Exit→Act→World→Prop} {rest:List Oper}
def Jo0(v:Value):List Nat:=match v.ownBlock with
 | some g=>[g]
 | none=>[]
theorem Qz7{v:Value}{g:Nat}:g∈Jo0 v↔v.ownBlock=some g:=by
 unfold Jo0
 cases h:v.ownBlock with
 | none=>simp
 | some b=>simp[eq_comm]
def Ql2(Ts:List TL)(L:List Nat)(ok:Ok)(w:World):Prop :=
 (∀t∈Ts,t.p ok w∧(∀g,t.blks g→g∈L)∧∀g o,t.blks g→¬ ok g o)∧(Ts.Pairwise fun s t=>∀g,s.blks g→¬ t.blks g)∧∀g∈L,∃t∈Ts,t.blks g
theorem Ja0{f:FuncId}{fn:Func}{c:Code}{vs:List Value}{R:Value→World→Prop}{ok:Ok}{n:Nat}{L:List Nat}{O:List TL}(kj:∀b o,ok b o→b<w.heap.size)
  (hf:P.funcs[f]?=some fn) (hb:fn.body=some c) (hn:fn.ntmps=n) (hle:Nat.ble vs.length n=true) {D:List DF} (hD:Qhx ok w D) (hO:Ql2 O L ok w)
  (h:∀a,Sb (fun _=>0) (cxL L n ok w) (Qz0 vs 0) D [] O a w→c.wp P (bodyPost P fn (Qws L w R)) a w):Calls P f ⟨vs⟩ w (Qws L w R):=by
 refine calls_of_wp hf hb (h _ ?_)
 have hle':=QF hle
 have hk:∀b o,ok b o→Jf (okL L ok) w.heap.size (fun _=>0) [] O w b o:=fun b o kn=>⟨.inl (.inl kn),kj b o kn,by simp,fun t ht hc=>(hO.1 t ht).2.2 b o (t.cb hc) kn⟩
 refine { sz:=by simp[hn]; omega,df:=rfl,fr:=by simp,pn:=by simp,tm:=?_,bel:=Ud.refl _ _ _,dat:=hD.weak hk,obj:=by simp,own:=fun t ht=>⟨t.weak (hO.1 t ht).1 hk,fun g hg=>.inr ((hO.1 t ht).2.1 g hg)⟩,dHH:=by simp,dHO:=by simp,dOO:=hO.2.1 }
 intro p hp
 obtain⟨j,v,rfl,hv⟩:=Qz1 hp
 have hj:=(QK.1 hv).1
 simp only[QE,Is]
 rw[XM (by simpa using hj)]
 simpa using hv
theorem Sb.melt0{A:Option Addr}{c e:Nat}{τ:Type}{r:RT τ}{O2:List TL}(h:Sb β X G D H (tl (.slice A 0 c) e r.size::O2) a w):Sb β X G D H (ml (.slice A 0 c) e r []::O2) a w:=by
 have kj:∀b o,Jf X.ok X.w.heap.size β H (tl (.slice A 0 c) e r.size::O2) w b o→Jf X.ok X.w.heap.size β H (ml (.slice A 0 c) e r []::O2) w b o:=by
  rintro b o ⟨h1,h2,h3,h4⟩
  refine⟨h1,h2,h3,fun u hu hc=>?_⟩
  rcases QX.1 hu with rfl | hu
  ·exact h4 _ (.head _) ⟨hc,by simp[Zv]⟩
  ·exact h4 u (.tail _ hu) hc
 obtain⟨⟨cs,kb⟩,zd⟩:=h.own _ (.head _)
 have xc:=QG.1 h.dOO
 have zr:cs=[]:=by
  have:=kb.1
  simp only[Zv,XB]at this
  exact JX this
 refine { sz:=h.sz,df:=h.df,fr:=h.fr,pn:=h.pn,tm:=h.tm,bel:=h.bel,dat:=h.dat.weak kj,obj:=h.obj,own:=fun u hu=>?_,dHH:=h.dHH,dHO:=fun p hp u hu=>?_,dOO:=QG.2 ⟨fun u hu g hg=>xc.1 u hu g hg,xc.2⟩ }
 ·rcases QX.1 hu with rfl | hu
  ·exact⟨⟨rfl,cs,kb,by subst zr; rfl⟩,zd⟩
  ·exact⟨u.weak (h.own u (.tail _ hu)).1 kj,(h.own u (.tail _ hu)).2⟩
 ·rcases QX.1 hu with rfl | hu
  ·exact fun hg=>h.dHO p hp _ (.head _) hg
  ·exact h.dHO p hp u (.tail _ hu)
end
end Gd

/- Results of a call's own, as rows that will be written: for elements that hold no addresses. -/
namespace Gd
open Go Go.RowKit
set_option linter.unusedVariables false
set_option linter.unusedSimpArgs false
section
variable {P:Program} {T:Tab} {β:Nat→Nat} {X:Cx} {G:GL} {D:List DF} {H:HL} {O:List TL} {a:Act} {w w':World}
variable {ops:Array Oper} {Q:Exit→Act→World→Prop} {rest:List Oper}
end
end Gd

/- From a statement's arguments to typed values, and back to the statement. -/
namespace Gd
open Go Go.RowKit Go.WideShapes Go.ChangeShapes
set_option linter.unusedVariables false
set_option linter.unusedSimpArgs false
def A6{τ:Type}(P:Program)(r:RT τ)(t:TypeId)(good:τ→Prop):Prop :=
 P.cellsOf t=r.size∧(∀{w:World} {rc:Reach} {b:Nat} {v:Value},Value.okWide P w rc b t v→(r.agg=true→∃cs,v=.agg cs)∧(r.agg=false→∃c,v.cells=#[c]∧v=c)) ∧
 ∀{H:Type} (enc:TypeId×Value→H) (w:World) (n:Nat) (cs:List Value) (x:DataW H×List MemPlace),
  DataW.trod enc P w 0 (fun _=>true) true n t cs=some x→∃y,r.rep (lt w) w y cs∧good y
def Je8(k:IntKind)(n:Int):Prop:=k.min≤n∧n≤k.max
def Je9(s:Str):Prop:=s.length≤maxLen
def Jqg(_:Bool):Prop:=True
def Qpr{τ:Type}(g:τ→Prop)(l:List τ):Prop:=l.length≤maxLen∧∀x∈l,g x
section
variable {P:Program}
theorem Ja1{t:TypeId}{k:IntKind}(ht:P.underlying t=some (.int k))(hc:P.cellsOf t=1):A6 P (Tk k) t (Je8 k):=by
 refine⟨hc,fun hv=>⟨fun h=>(nomatch h),fun _=>?_⟩,fun enc w n cs x h=>?_⟩
 ·obtain⟨n,rfl⟩:=okWide_int ht hv
  exact⟨_,rfl,rfl⟩
 ·obtain⟨m,rfl,_,hw⟩:=DataW.trod_int ht h
  exact⟨m,rfl,by simpa[Lit.wf,Je8]using hw⟩
theorem Q5o{t:TypeId}(ht:P.underlying t=some .bool)(hc:P.cellsOf t=1):A6 P Qtv t Jqg:=by
 refine⟨hc,fun hv=>⟨fun h=>(nomatch h),fun _=>?_⟩,fun enc w n cs x h=>?_⟩
 ·obtain⟨n,rfl⟩:=okWide_bool ht hv
  exact⟨_,rfl,rfl⟩
 ·obtain⟨m,rfl,_⟩:=DataW.trod_bool ht h
  exact⟨m,rfl,trivial⟩
theorem Ja2{t:TypeId}(ht:P.underlying t=some .string)(hc:P.cellsOf t=1):A6 P Joz t Je9:=by
 refine⟨hc,fun hv=>⟨fun h=>(nomatch h),fun _=>?_⟩,fun enc w n cs x h=>?_⟩
 ·obtain⟨n,rfl⟩:=okWide_string ht hv
  exact⟨_,rfl,rfl⟩
 ·obtain⟨s,rfl,_,hs⟩:=DataW.trod_string ht h
  refine⟨s.data.toList,?_,by simpa[Je9]using hs⟩
  show [Value.string s]=[Ye s.data.toList]
  simp[Ye]
theorem Jfa{τ:Type}{r:RT τ}{t e:TypeId}{g:τ→Prop}(ht:P.underlying t=some (.slice e))(hc:P.cellsOf t=1)(he:A6 P r e g)(zq:0<r.size):A6 P (rSl r) t (Qpr g):=by
 refine⟨hc,fun hv=>⟨fun h=>(nomatch h),fun _=>?_⟩,fun enc w n cs x h=>?_⟩
 ·obtain⟨a,l,c,rfl⟩:=okWide_slice ht hv
  exact⟨_,rfl,rfl⟩
 ·rcases DataW.trod_slice ht h with⟨rfl,_⟩ | ⟨a,len,cap,elems,rest,m,_,rfl,_,_,hlc,xh,bw,zi,_⟩
  ·exact⟨[],⟨_,rfl,none,0,0,rfl,rfl,QD _,fun h0=>absurd h0 (by omega)⟩,by simp[Qpr]⟩
  ·have ko:P.cellsOf e=r.size:=he.1
   have h1:∀i,i<len→∃y cs,r.rep (lt w) w y cs∧g y∧w.cells? 0 (a.add (i*P.cellsOf e)) (P.cellsOf e)=some cs:=by
    intro i hi
    have:=zi i hi
    obtain⟨z,hz⟩:∃z,elems[i]?=some z:=⟨elems[i]'(by omega),QU (by omega)⟩
    rw[hz]at this
    obtain⟨cs,zr,mc⟩:=ZH.1 this
    obtain⟨y,hy,hg⟩:=he.2.2 enc w m cs z mc
    exact⟨y,cs,hy,hg,zr⟩
   have h2:∀k,k≤len→∃ys:List τ,ys.length=k∧∀i y,ys[i]?=some y→∃cs,r.rep (lt w) w y cs∧g y∧w.cells? 0 (a.add (i*P.cellsOf e)) (P.cellsOf e)=some cs:=by
    intro k
    induction k with
    | zero=>exact fun _=>⟨[],rfl,fun i y h=>by simp at h⟩
    | succ k ih =>
     intro hk
     obtain⟨ys,hl,zp⟩:=ih (by omega)
     obtain⟨y,cs,hy,hg,zr⟩:=h1 k (by omega)
     refine⟨ys++[y],by simp[hl],fun i z hz=>?_⟩
     rcases JL i k with hlt | wx
     ·rw[JF (by omega)]at hz
      exact zp i z hz
     ·rw[JE (by omega)]at hz
      have:i - ys.length=0:=by
       rcases XJ (i - ys.length)with h | h
       ·exact h
       ·rw[ZV (by simp; omega)]at hz; cases hz
      rw[this]at hz
      simp at hz
      subst hz
      have bx:i=k:=by omega
      subst bx
      exact⟨cs,hy,hg,zr⟩
   obtain⟨ys,hl,zp⟩:=h2 len (QD _)
   refine⟨ys,⟨_,rfl,some a,len,cap,rfl,hl,hlc,fun h0=>?_⟩,⟨by omega,fun y hy=>?_⟩⟩
   ·have me:a.spot=none:=by
     obtain⟨y,cs,_,_,zr⟩:=h1 0 h0
     obtain⟨_,hlen,yz⟩:=World.cells?_some zr
     have g0:=yz 0 (by omega)
     obtain⟨c0,uj⟩:∃c0,cs[0]?=some c0:=⟨cs[0]'(by omega),QU (by omega)⟩
     rw[uj]at g0
     simpa[Addr.add]using World.cell?_spot g0
    obtain⟨b,o,sp⟩:=a
    simp only at me
    subst me
    refine⟨b,o,rfl,fun i y hi=>?_⟩
    obtain⟨cs,hy,_,zr⟩:=zp i y hi
    obtain⟨_,hlen,yz⟩:=World.cells?_some zr
    refine⟨cs,hy,fun j u hu=>?_⟩
    have hj:j<P.cellsOf e:=by rw[←hlen]; exact(QK.1 hu).1
    have:=yz j hj
    rw[hu,add_plain,add_plain,ko]at this
    refine⟨?_,this⟩
    show b<w.heap.size
    unfold World.cell? at this
    rcases JL b w.heap.size with hlt | wx
    ·exact hlt
    ·rw[XI wx]at this; cases this
   ·obtain⟨i,hi⟩:=XC hy
    obtain⟨_,_,hg,_⟩:=zp i y hi
    exact hg
theorem A6.fld{τ:Type}{r:RT τ}{t:TypeId}{g:τ→Prop}(ho:A6 P r t g){H:Type}{enc:TypeId×Value→H}{w:World}{n:Nat}{cs:List Value}{fs:Array Field}{xs:List (DataW H×List MemPlace)}
  (hlen:xs.length=fs.size) (hf:∀(i:Nat) (f:Field),fs[i]?=some f→DataW.trod enc P w 0 (fun _=>true) true n f.type ((cs.drop f.offset).take (P.cellsOf f.type))=xs[i]?)
  (i:Nat) (o:Nat) {f:Field} (hi:fs[i]?=some f) (ht:f.type=t) (ny:f.offset=o):∃y,r.rep (lt w) w y ((cs.drop o).take r.size)∧g y:=by
 have h1:=hf i f hi
 have hlt:=(ZN.1 hi).1
 rw[QU (by omega),ht,ny,ho.1]at h1
 exact ho.2.2 enc w n _ _ h1
theorem A6.arg{τ:Type}{r:RT τ}{t:TypeId}{g:τ→Prop}(ho:A6 P r t g){H:Type}{enc:TypeId×Value→H}{w:World}{rc:Reach}{b:Nat}{v:Value}{d:DataW H}{ps:List MemPlace}
  (hv:Value.okWide P w rc b t v) (h:DataW.Trod enc P w 0 (fun _=>true) true t v d ps):∃y,isV r (lt w) w y v∧g y:=by
 obtain⟨n,hn⟩:=h
 obtain⟨y,hy,hg⟩:=ho.2.2 enc w n _ _ hn
 refine⟨y,⟨_,hy,?_⟩,hg⟩
 unfold RT.val
 cases ha:r.agg with
 | true =>
  obtain⟨cs,rfl⟩:=(ho.2.1 hv).1 ha
  simp[Value.cells]
 | false =>
  obtain⟨c,hc,rfl⟩:=(ho.2.1 hv).2 ha
  rw[hc]; simp
end
section
variable {H:Type} {enc:TypeId×Value→H} {P:Program} {W:World} {base:Nat} {vs:List String}
theorem Jqh{t1 t2 t3:TypeId}{args:Array Value}{ds gs:List (DataW H)}{before:List MemPlace}{ts:Array TypeId}(hts:ts=#[t1,t2,t3])
  (ym:∀(j:Nat) t v,ts[j]?=some t→args[j]?=some v→Value.okWide P W .any base t v) (hW:DataW.Whole enc P ts.toList vs false W args.toList ds gs before)
  {τ1 τ2 τ3:Type} {r1:RT τ1} {r2:RT τ2} {r3:RT τ3} {g1:τ1→Prop} {g2:τ2→Prop} {g3:τ3→Prop} (ho1:A6 P r1 t1 g1) (ho2:A6 P r2 t2 g2) (ho3:A6 P r3 t3 g3) :
  ∃v1 v2 v3 y1 y2 y3,args=⟨[v1,v2,v3]⟩∧isV r1 (lt W) W y1 v1∧g1 y1∧isV r2 (lt W) W y2 v2∧g2 y2∧isV r3 (lt W) W y3 v3∧g3 y3:=by
 subst hts
 obtain⟨p,q,hA,_⟩:=hW
 obtain⟨v1,vs1,d1,ds1,p1,q1,zx,rfl,rfl,h1,k1⟩:=trodAll_cons hA
 obtain⟨v2,vs2,d2,ds2,p2,q2,rfl,rfl,rfl,h2,k2⟩:=trodAll_cons k1
 obtain⟨v3,vs3,d3,ds3,p3,q3,rfl,rfl,rfl,h3,k3⟩:=trodAll_cons k2
 obtain⟨rfl,rfl,rfl⟩:=trodAll_nil k3
 obtain rfl:args=⟨[v1,v2,v3]⟩:=by cases args; simp_all
 obtain⟨y1,hy1,hg1⟩:=ho1.arg (ym 0 t1 v1 rfl rfl) h1
 obtain⟨y2,hy2,zt⟩:=ho2.arg (ym 1 t2 v2 rfl rfl) h2
 obtain⟨y3,hy3,hg3⟩:=ho3.arg (ym 2 t3 v3 rfl rfl) h3
 exact⟨v1,v2,v3,y1,y2,y3,rfl,hy1,hg1,hy2,zt,hy3,hg3⟩
theorem Qfs(hl:laidOutB P=true){W':World}{sp:Nat→Bool}:∀{ts:List TypeId} {vs:List Value} {ds:List (DataW H)} {ps:List MemPlace},
  (ts.all fun t=>P.readableRec t&&decide (t<P.types.size))=true→DataW.TrodAll enc P W 0 (fun _=>true) true ts vs ds ps→(∀p∈ps,W.sameAt W' p)→(∀p∈ps,sp p.block=true)→DataW.TrodAll enc P W' 0 sp true ts vs ds ps
 | [],[],[],_,_,h,_,_=>h
 | t::ts,v::vs,d::ds,ps,hr,⟨p,q,h,hs,e⟩,h1,h2=>by
  subst e
  simp only[ZT,QQ,decide_eq_true_eq]at hr
  exact⟨p,q,WideElems.Trod_stays hl hr.1.1 hr.1.2 h (fun x hx=>h1 x (QW.2 (.inl hx))) (fun x hx=>h2 x (QW.2 (.inl hx))),
   Qfs hl hr.2 hs (fun x hx=>h1 x (QW.2 (.inr hx))) (fun x hx=>h2 x (QW.2 (.inr hx))),rfl⟩
theorem Ql3{w:World}{sp:Nat→Bool}{hd:Bool}:∀{ts:List TypeId} {vs:List Value} {ds:List (DataW H)} {ps:List MemPlace},DataW.TrodAll enc P w base sp hd ts vs ds ps→ds.length=ts.length
 | [],[],[],_,_=>rfl
 | _::_,_::_,_::_,_,⟨_,_,_,hs,_⟩=>congrArg (·+1) (Ql3 hs)
theorem Jfb{f:FuncId}{fn:Func}{s:ChangeSpec}{args:Array Value}{ds gs:List (DataW H)}{before:List MemPlace}{tb:TypeId}
  (vb:fn.resultTypes=#[tb]) (hb:P.underlying tb=some .bool) (hv:s.vars=[]) (bz:laidOutB P=true)
  (b9:(fn.params.toList.all fun t=>P.readableRec t&&decide (t<P.types.size))=true)
  (aa:∀d:List (DataW H),d.length=fn.params.size→s.fn H d={ results:=[.lit (.bool true)],args:=d })
  (hW:DataW.Whole enc P fn.params.toList s.vars false W args.toList ds gs before)
  (xd:Calls P f args W (Ret W (R1 Qtv (lt W) W true))) :
  Calls P f args W fun e W'=>∃v,e=.returned v∧s.post enc P fn false true false false W args v W':=by
 have hW':=hW
 obtain⟨p,q,hA,hV,rfl,yk,ye⟩:=hW
 rw[hv]at hV
 obtain⟨rfl,rfl⟩:=trodVars_none hV
 have hlen:=Ql3 hA
 have hs:s.fn H (ds++[])={ results:=[.lit (.bool true)],args:=ds }:=by
  rw[QR]; exact aa ds (by simpa using hlen)
 refine xd.mono ?_
 rintro e W' ⟨v,rfl,hr,zo⟩
 have zo:=zo.nil
 obtain rfl:=Qpg.1 hr
 simp only[QR]at hW'
 have hlt:∀p'∈p,p'.block<W.heap.size:=fun p' hp=>hW'.lt p' hp
 refine⟨_,rfl,?_⟩
 refine⟨ds,[],p,[],p,[],hW',?_,?_,?_,World.keptBut_mono (fun p' hp=>⟨hp,by simpa using hp⟩) (zo.frame (·∈p)),fun h=>by cases h⟩
 ·rw[hs,vb]
  exact trodAll_mk1 (shut_bool hb _)
 ·rw[hs]
  exact Qfs bz b9 hA (fun x hx=>zo.same (hlt x hx)) (fun x hx=>by simpa using hlt x hx)
 ·rw[hs,hv]
  rfl
end
end Gd

/- Plain facts on the functions that the texts are written with. -/
namespace Gd
open Go
set_option linter.unusedVariables false
set_option linter.unusedSimpArgs false
theorem Q2{n:Int}(h0 : -9223372036854775808≤n)(h1:n<9223372036854775808):IntKind.wrap .i64 n=n:=by
 have e:IntKind.wrap .i64 n=(if(18446744073709551616:Int) / 2≤n % 18446744073709551616 then n % 18446744073709551616 - 18446744073709551616 else n % 18446744073709551616):=by
  simp[IntKind.wrap,IntKind.bits,IntKind.signed]
 rw[e]
 split<;>omega
theorem Jkb{α:Type}{l:List α}{i:Nat}{x:α}(h:l[i]?=some x):idx l (i:Int)=some x:=by
 simp[idx,h]
end Gd

/- Types of data, abstract values, what they mean. -/
namespace Gx
open Go Go.RowKit Gd
set_option linter.unusedVariables false
set_option linter.unusedSimpArgs false
inductive Kk(α:Type) where
 | mk (x:α) (ks:List (Kk α))
def Kk.x{α:Type}:Kk α→α
 | .mk x _=>x
def Kk.ks{α:Type}:Kk α→List (Kk α)
 | .mk _ ks=>ks
inductive Ty where
 | int (k:IntKind) | bool | str
 | sl (e:Ty) | arr (n:Nat) (e:Ty)
 | unit | pr (f r:Ty) | st (fs:Ty) | ref | rose (fs:Ty)
@[reducible] def Ty.i:Ty:=.int .i64
@[reducible] def Ty.De:Ty→Type
 | .int _=>Int | .bool=>Bool | .str=>Str
 | .sl e=>List e.De | .arr _ e=>List e.De
 | .unit=>Unit | .pr f r=>f.De×r.De | .st fs=>fs.De | .ref=>Unit | .rose fs=>Kk fs.De
def Ty.beq:Ty→Ty→Bool
 | .int a,.int b=>Rk a b
 | .bool,.bool=>true
 | .str,.str=>true
 | .sl a,.sl b=>Ty.beq a b
 | .arr n a,.arr m b=>Nat.beq n m&&Ty.beq a b
 | .unit,.unit=>true
 | .pr a b,.pr c d=>Ty.beq a c&&Ty.beq b d
 | .st a,.st b=>Ty.beq a b
 | .ref,.ref=>true
 | .rose a,.rose b=>Ty.beq a b
 | _,_=>false
theorem Ty.beq_eq:∀{a b:Ty},Ty.beq a b=true→a=b
 | .int a,b,h=>by cases b<;>simp[Ty.beq]at h; rw[C4 h]
 | .bool,b,h=>by cases b<;>simp[Ty.beq]at h; rfl
 | .str,b,h=>by cases b<;>simp[Ty.beq]at h; rfl
 | .sl a,b,h=>by cases b<;>simp[Ty.beq]at h; rw[Ty.beq_eq h]
 | .arr n a,b,h=>by cases b<;>simp[Ty.beq]at h; rw[h.1,Ty.beq_eq h.2]
 | .unit,b,h=>by cases b<;>simp[Ty.beq]at h; rfl
 | .pr a c,b,h=>by cases b<;>simp[Ty.beq]at h; rw[Ty.beq_eq h.1,Ty.beq_eq h.2]
 | .st a,b,h=>by cases b<;>simp[Ty.beq]at h; rw[Ty.beq_eq h]
 | .ref,b,h=>by cases b<;>simp[Ty.beq]at h; rfl
 | .rose a,b,h=>by cases b<;>simp[Ty.beq]at h; rw[Ty.beq_eq h]
theorem Ty.beq_refl:∀a:Ty,Ty.beq a a=true
 | .int k=>by cases k<;>rfl
 | .bool=>rfl | .str=>rfl | .unit=>rfl
 | .sl a=>Ty.beq_refl a
 | .arr n a=>by simp[Ty.beq,Ty.beq_refl a,JY]
 | .pr a b=>by simp[Ty.beq,Ty.beq_refl a,Ty.beq_refl b]
 | .st a=>Ty.beq_refl a
 | .ref=>rfl
 | .rose a=>Ty.beq_refl a
def Ty.cast(a b:Ty)(x:a.De):Option b.De:=if h:Ty.beq a b=true then some (Ty.beq_eq h▸x)else none
theorem Ty.cast_ok{a b:Ty}{x:a.De}{y:b.De}(h:Ty.cast a b x=some y):∃e:a=b,y=e▸x:=by
 unfold Ty.cast at h
 split at h
 ·rename_i hb; exact⟨Ty.beq_eq hb,(Option.some.inj h).symm⟩
 ·cases h
def Jqi:RT Unit where
 size:=0
 agg:=true
 rep:=fun _ _ _ cs=>cs=[]
 len:=by rintro _ _ x cs rfl; rfl
 one:=fun h=>by cases h
 flat:=by rintro _ _ x cs rfl c hc; simp at hc
 evo:=fun h _=>h
 weak:=fun h _=>h
def Jmd{τ σ:Type}(r:RT τ)(s:RT σ):RT (τ×σ) where
 size:=r.size+s.size
 agg:=true
 rep:=fun ok w x cs=>∃c1 c2,cs=c1++c2∧r.rep ok w x.1 c1∧s.rep ok w x.2 c2
 len:=by rintro _ _ x cs ⟨c1,c2,rfl,h1,h2⟩; simp[r.len h1,s.len h2]
 one:=fun h=>by cases h
 flat:=by
  rintro _ _ x cs ⟨c1,c2,rfl,h1,h2⟩ c hc
  rcases QW.1 hc with hc | hc
  ·exact r.flat h1 c hc
  ·exact s.flat h2 c hc
 evo:=by rintro _ _ _ x cs ⟨c1,c2,rfl,h1,h2⟩ he; exact⟨c1,c2,rfl,r.evo h1 he,s.evo h2 he⟩
 weak:=by rintro _ _ _ x cs ⟨c1,c2,rfl,h1,h2⟩ he; exact⟨c1,c2,rfl,r.weak h1 he,s.weak h2 he⟩
def Jo1{τ:Type}(r:RT τ):RT τ where
 size:=r.size
 agg:=true
 rep:=r.rep
 len:=r.len
 one:=fun h=>by cases h
 flat:=r.flat
 evo:=r.evo
 weak:=r.weak
def Jqj:RT Unit where
 size:=1
 agg:=false
 rep:=fun _ _ _ _=>False
 len:=fun h=>h.elim
 one:=fun _=>rfl
 flat:=fun h=>h.elim
 evo:=fun h _=>h
 weak:=fun h _=>h
def Jo2{τ:Type}(r:RT τ):RT (Kk τ) where
 size:=r.size+1
 agg:=true
 rep:=fun _ _ _ _=>False
 len:=fun h=>h.elim
 one:=fun h=>by cases h
 flat:=fun h=>h.elim
 evo:=fun h _=>h
 weak:=fun h _=>h
def Jo3{τ:Type}(r:RT τ)(k:RT (Kk τ)):RT (Kk τ) where
 size:=r.size+1
 agg:=true
 rep:=fun ok w x cs=>∃c1 c2,cs=c1++c2∧r.rep ok w x.x c1∧(rSl k).rep ok w x.ks c2
 len:=by rintro _ _ x cs ⟨c1,c2,rfl,h1,h2⟩; simp[r.len h1,(rSl k).len h2,rSl]
 one:=fun h=>by cases h
 flat:=by
  rintro _ _ x cs ⟨c1,c2,rfl,h1,h2⟩ c hc
  rcases QW.1 hc with hc | hc
  ·exact r.flat h1 c hc
  ·exact(rSl k).flat h2 c hc
 evo:=by rintro _ _ _ x cs ⟨c1,c2,rfl,h1,h2⟩ he; exact⟨c1,c2,rfl,r.evo h1 he,(rSl k).evo h2 he⟩
 weak:=by rintro _ _ _ x cs ⟨c1,c2,rfl,h1,h2⟩ he; exact⟨c1,c2,rfl,r.weak h1 he,(rSl k).weak h2 he⟩
def D9{τ:Type}(r:RT τ):Nat→RT (Kk τ)
 | 0=>Jo2 r
 | n+1=>Jo3 r (D9 r n)
theorem C5{τ:Type}(r:RT τ):∀n,(D9 r n).size=r.size+1
 | 0=>rfl
 | _+1=>rfl
theorem Qps{τ:Type}{r s:RT τ}{ok:Ok}{w:World}(hs:r.size=s.size)(h:∀{x cs},r.rep ok w x cs→s.rep ok w x cs){xs:List τ}{cs:List Value}:(rSl r).rep ok w xs cs→(rSl s).rep ok w xs cs:=by
 rintro⟨v,rfl,A,n,c,rfl,hl,hc,hn⟩
 refine⟨_,rfl,A,n,c,rfl,hl,hc,fun h0=>?_⟩
 obtain⟨b,o,hA,hx⟩:=hn h0
 refine⟨b,o,hA,fun i x hi=>?_⟩
 obtain⟨cs,hr,ha⟩:=hx i x hi
 exact⟨cs,h hr,by rw[←hs]; exact ha⟩
theorem Ql4{τ:Type}(r:RT τ){ok:Ok}{w:World}:∀(n:Nat) {x:Kk τ} {cs:List Value},(D9 r n).rep ok w x cs→(D9 r (n+1)).rep ok w x cs
 | 0,_,_,h=>h.elim
 | n+1,x,cs,⟨c1,c2,e,h1,h2⟩=>⟨c1,c2,e,h1,Qps (by rw[C5,C5]) (Ql4 r n) h2⟩
theorem Qt0{τ:Type}(r:RT τ){ok:Ok}{w:World}{n m:Nat}(h:n≤m){x:Kk τ}{cs:List Value}(hx:(D9 r n).rep ok w x cs):(D9 r m).rep ok w x cs:=by
 induction h with
 | refl=>exact hx
 | step _ ih=>exact Ql4 r _ ih
def Ql5{τ:Type}(r:RT τ):RT (Kk τ) where
 size:=r.size+1
 agg:=true
 rep:=fun ok w x cs=>∃n,(D9 r n).rep ok w x cs
 len:=by rintro _ _ x cs ⟨n,h⟩; rw[(D9 r n).len h,C5]
 one:=fun h=>by cases h
 flat:=by rintro _ _ x cs ⟨n,h⟩; exact(D9 r n).flat h
 evo:=by rintro _ _ _ x cs ⟨n,h⟩ he; exact⟨n,(D9 r n).evo h he⟩
 weak:=by rintro _ _ _ x cs ⟨n,h⟩ he; exact⟨n,(D9 r n).weak h he⟩
theorem Ja3{τ:Type}{r:RT τ}{ok:Ok}{w:World}{x:Kk τ}{cs:List Value}(h:(Ql5 r).rep ok w x cs):∃c1 c2,cs=c1++c2∧r.rep ok w x.x c1∧(rSl (Ql5 r)).rep ok w x.ks c2:=by
 obtain⟨n,h⟩:=h
 cases n with
 | zero=>exact h.elim
 | succ n =>
  obtain⟨c1,c2,e,h1,h2⟩:=h
  exact⟨c1,c2,e,h1,Qps (s:=Ql5 r) (C5 r n) (fun h=>⟨n,h⟩) h2⟩
theorem Qz8{τ:Type}{r:RT τ}{ok:Ok}{w:World}{x:τ}{ks:List (Kk τ)}{c1 c2:List Value}(h1:r.rep ok w x c1)(h2:(rSl (Ql5 r)).rep ok w ks c2):(Ql5 r).rep ok w (.mk x ks) (c1++c2):=by
 obtain⟨v,rfl,A,n,c,rfl,hl,hc,hn⟩:=h2
 rcases XJ n with h0 | h0
 ·subst h0
  refine⟨1,c1,_,rfl,h1,_,rfl,A,0,c,rfl,hl,hc,fun h=>absurd h (by omega)⟩
 ·obtain⟨b,o,hA,hx⟩:=hn h0
  have key2:∀(k:Nat),∃m,∀(i:Nat) (y:Kk τ),i<k→ks[i]?=some y→∃cs,(D9 r m).rep ok w y cs∧Cz ok w b (o+i*(Ql5 r).size) cs:=by
   intro k
   induction k with
   | zero=>exact⟨0,fun i y hi=>absurd hi (by omega)⟩
   | succ k ih =>
    obtain⟨m,hm⟩:=ih
    cases hk:ks[k]? with
    | none =>
     refine⟨m,fun i y hi hy=>?_⟩
     rcases JL i k with hlt | wx
     ·exact hm i y hlt hy
     ·have:i=k:=by omega
      subst this; rw[hk]at hy; cases hy
    | some z =>
     obtain⟨cs,⟨m2,h3⟩,h4⟩:=hx k z hk
     refine⟨max m m2,fun i y hi hy=>?_⟩
     rcases JL i k with hlt | wx
     ·obtain⟨cs',h5,h6⟩:=hm i y hlt hy
      exact⟨cs',Qt0 r (KM _ _) h5,h6⟩
     ·have:i=k:=by omega
      subst this; rw[hk]at hy; injection hy with hy; subst hy
      exact⟨cs,Qt0 r (ZR _ _) h3,h4⟩
  obtain⟨m,hm⟩:=key2 ks.length
  refine⟨m+1,c1,_,rfl,h1,_,rfl,A,n,c,rfl,hl,hc,fun _=>⟨b,o,hA,fun i y hy=>?_⟩⟩
  obtain⟨cs,h5,h6⟩:=hm i y (QK.1 hy).1 hy
  exact⟨cs,h5,by rw[C5]; exact h6⟩
def rt:(t:Ty)→RT t.De
 | .int k=>Tk k
 | .bool=>Qtv
 | .str=>Joz
 | .sl e=>rSl (rt e)
 | .arr n e=>Je1 n (rt e)
 | .unit=>Jqi
 | .pr f r=>Jmd (rt f) (rt r)
 | .st fs=>Jo1 (rt fs)
 | .ref=>Jqj
 | .rose fs=>Ql5 (rt fs)
def Ty.size:Ty→Nat
 | .int _=>1 | .bool=>1 | .str=>1 | .sl _=>1
 | .arr n e=>n*e.size
 | .unit=>0 | .pr f r=>f.size+r.size | .st fs=>fs.size | .ref=>1 | .rose fs=>fs.size+1
def Ty.agg:Ty→Bool
 | .int _=>false | .bool=>false | .str=>false | .sl _=>false
 | .arr _ _=>true
 | .unit=>true | .pr _ _=>true | .st _=>true | .ref=>false | .rose _=>true
theorem Ji:∀t:Ty,(rt t).size=t.size
 | .int _=>rfl | .bool=>rfl | .str=>rfl | .sl _=>rfl
 | .arr n e=>by simp[rt,Je1,Ty.size,Ji e]
 | .unit=>rfl
 | .pr f r=>by simp[rt,Jmd,Ty.size,Ji f,Ji r]
 | .st fs=>by simp[rt,Jo1,Ty.size,Ji fs]
 | .ref=>rfl
 | .rose fs=>by simp[rt,Ql5,Ty.size,Ji fs]
theorem B7:∀t:Ty,(rt t).agg=t.agg
 | .int _=>rfl | .bool=>rfl | .str=>rfl | .sl _=>rfl | .arr _ _=>rfl | .unit=>rfl | .pr _ _=>rfl | .st _=>rfl | .ref=>rfl | .rose _=>rfl
inductive PS where
 | f (k off:Nat) | i (j:Int) (size:Nat)
def PS.off:PS→Nat
 | .f _ o=>o | .i j s=>j.toNat*s
def J8:List PS→Nat
 | []=>0
 | p::l=>p.off+J8 l
inductive AV where
 | d (t:Ty) (x:t.De)
 | p (id:Nat) (path:List PS)
 | e (id:Nat) (path:List PS)
 | s (id:Nat)
 | m (id:Nat)
 | b (id:Nat)
 | w (id:Nat) (j n:Int)
 | a (t:Ty) (x:t.De)
 | z | ns | np | nm | nf
 | f (fn:FuncId) (caps:AV)
 | ag (l:AV)
 | tp (l:AV)
 | nil
 | cons (x r:AV)
def AV.isAgg:AV→Bool
 | .d t _=>t.agg
 | .ag _=>true
 | _=>false
def AV.val(x:AV)(cs:List Value):Value:=bif x.isAgg then .agg cs.toArray else cs.headD undef
def AV.size:AV→Nat
 | .d t _=>t.size
 | .ag l=>l.size
 | .nil=>0
 | .cons x r=>x.size+r.size
 | _=>1
def AV.inMem:AV→Bool
 | .tp _=>false
 | .f _ _=>true
 | .ag l=>l.inMem
 | .cons x r=>x.inMem&&r.inMem
 | _=>true
def zal(v u:Value):Prop:=v=u∨(u=.slice none 0 0∧∃A,v=.slice A 0 0)
theorem zal.form{v u:Value}(h:zal v u)(hu:∃A n c,u=.slice A n c):∃A n c,v=.slice A n c:=by
 rcases h with rfl | ⟨_,A,rfl⟩
 ·exact hu
 ·exact⟨_,_,_,rfl⟩
section
variable (β:Nat→Nat) (ρ:Nat→Value) (ok:Ok) (w:World)
def cr:Bool→AV→List Value→Prop
 | _,.d t x,cs=>(rt t).rep ok w x cs
 | _,.p id path,cs=>cs=[.pointer (some ⟨β id,J8 path,none⟩)]
 | _,.e id path,cs=>∃g,(ρ id).ownBlock=some g∧cs=[.pointer (some ⟨g,J8 path,none⟩)]
 | _,.s id,cs=>(∃v,cs=[v]∧zal v (ρ id))∧∃A n c,ρ id=.slice A n c
 | _,.m id,cs=>cs=[.map (some (β id))]
 | _,.b id,cs=>cs=[.int .i64 (β id)]
 | _,.w id j n,cs=>∃A c,cs=[.slice (some A) n.toNat c]∧(0<n.toNat→A=⟨β id,j.toNat,none⟩)
 | _,.a t x,cs=>∃v,cs=[v]∧Qpf (rt t) ok w x v
 | _,.z,cs=>∃A,cs=[.slice A 0 0]
 | _,.ns,cs=>cs=[.slice none 0 0]
 | _,.np,cs=>cs=[.pointer none]
 | _,.nm,cs=>cs=[.map none]
 | _,.nf,cs=>cs=[.nilFunc]
 | _,.f fn caps,cs=>∃vs,cs=[.func (.func fn) #[] vs.toArray]∧cr true caps vs
 | _,.ag l,cs=>cr false l cs
 | _,.tp l,cs=>∃vs,cs=[.tuple vs.toArray]∧cr true l vs
 | _,.nil,cs=>cs=[]
 | true,.cons x r,cs=>∃c1 vs,cs=x.val c1::vs∧cr false x c1∧cr true r vs
 | false,.cons x r,cs=>∃c1 c2,cs=c1++c2∧cr false x c1∧cr false r c2
end
section
variable {β:Nat→Nat} {ρ:Nat→Value} {ok ok':Ok} {w w':World}
theorem Ly:∀{m:Bool} {x:AV} {cs:List Value},cr β ρ ok w m x cs→Evo ok w w'→cr β ρ ok w' m x cs
 | m,.d t x,cs,h,he=>by cases m<;>exact(rt t).evo h he
 | m,.p ..,cs,h,he=>by cases m<;>exact h
 | m,.e ..,cs,h,he=>by cases m<;>exact h
 | m,.s _,cs,h,he=>by cases m<;>exact h
 | m,.m _,cs,h,he=>by cases m<;>exact h
 | m,.b _,cs,h,he=>by cases m<;>exact h
 | m,.w ..,cs,h,he=>by cases m<;>exact h
 | m,.a t x,cs,h,he=>by cases m<;>exact let⟨v,h1,h2⟩:=h; ⟨v,h1,h2.evo he⟩
 | m,.z,cs,h,he=>by cases m<;>exact h
 | m,.ns,cs,h,he=>by cases m<;>exact h
 | m,.np,cs,h,he=>by cases m<;>exact h
 | m,.nm,cs,h,he=>by cases m<;>exact h
 | m,.nf,cs,h,he=>by cases m<;>exact h
 | m,.f fn caps,cs,h,he=>by cases m<;>exact let⟨vs,h1,h2⟩:=h; ⟨vs,h1,Ly h2 he⟩
 | m,.ag l,cs,h,he=>by cases m<;>exact Ly (m:=false) (x:=l) h he
 | m,.tp l,cs,h,he=>by cases m<;>exact let⟨vs,h1,h2⟩:=h; ⟨vs,h1,Ly h2 he⟩
 | m,.nil,cs,h,he=>by cases m<;>exact h
 | true,.cons x r,cs,h,he=>let⟨c1,vs,h1,h2,h3⟩:=h; ⟨c1,vs,h1,Ly h2 he,Ly h3 he⟩
 | false,.cons x r,cs,h,he=>let⟨c1,vs,h1,h2,h3⟩:=h; ⟨c1,vs,h1,Ly h2 he,Ly h3 he⟩
theorem Wg:∀{m:Bool} {x:AV} {cs:List Value},cr β ρ ok w m x cs→(∀b o,ok b o→ok' b o)→cr β ρ ok' w m x cs
 | m,.d t x,cs,h,he=>by cases m<;>exact(rt t).weak h he
 | m,.p ..,cs,h,he=>by cases m<;>exact h
 | m,.e ..,cs,h,he=>by cases m<;>exact h
 | m,.s _,cs,h,he=>by cases m<;>exact h
 | m,.m _,cs,h,he=>by cases m<;>exact h
 | m,.b _,cs,h,he=>by cases m<;>exact h
 | m,.w ..,cs,h,he=>by cases m<;>exact h
 | m,.a t x,cs,h,he=>by cases m<;>exact let⟨v,h1,h2⟩:=h; ⟨v,h1,h2.weak he⟩
 | m,.z,cs,h,he=>by cases m<;>exact h
 | m,.ns,cs,h,he=>by cases m<;>exact h
 | m,.np,cs,h,he=>by cases m<;>exact h
 | m,.nm,cs,h,he=>by cases m<;>exact h
 | m,.nf,cs,h,he=>by cases m<;>exact h
 | m,.f fn caps,cs,h,he=>by cases m<;>exact let⟨vs,h1,h2⟩:=h; ⟨vs,h1,Wg h2 he⟩
 | m,.ag l,cs,h,he=>by cases m<;>exact Wg (m:=false) (x:=l) h he
 | m,.tp l,cs,h,he=>by cases m<;>exact let⟨vs,h1,h2⟩:=h; ⟨vs,h1,Wg h2 he⟩
 | m,.nil,cs,h,he=>by cases m<;>exact h
 | true,.cons x r,cs,h,he=>let⟨c1,vs,h1,h2,h3⟩:=h; ⟨c1,vs,h1,Wg h2 he,Wg h3 he⟩
 | false,.cons x r,cs,h,he=>let⟨c1,vs,h1,h2,h3⟩:=h; ⟨c1,vs,h1,Wg h2 he,Wg h3 he⟩
theorem U1:∀{x:AV} {cs:List Value},cr β ρ ok w false x cs→cs.length=x.size
 | .d t x,cs,h=>by rw[AV.size,←Ji]; exact(rt t).len h
 | .p ..,cs,h=>by subst h; rfl
 | .e ..,cs,⟨_,_,h⟩=>by subst h; rfl
 | .s _,cs,⟨⟨_,h,_⟩,_⟩=>by subst h; rfl
 | .m _,cs,h=>by subst h; rfl
 | .b _,cs,h=>by subst h; rfl
 | .w ..,cs,⟨_,_,h,_⟩=>by subst h; rfl
 | .a t x,cs,⟨_,h,_⟩=>by subst h; rfl
 | .z,cs,⟨_,h⟩=>by subst h; rfl
 | .ns,cs,h=>by subst h; rfl
 | .np,cs,h=>by subst h; rfl
 | .nm,cs,h=>by subst h; rfl
 | .nf,cs,h=>by subst h; rfl
 | .f ..,cs,⟨_,h,_⟩=>by subst h; rfl
 | .ag l,cs,h=>by rw[AV.size]; exact U1 (x:=l) h
 | .tp l,cs,⟨_,h,_⟩=>by subst h; rfl
 | .nil,cs,h=>by subst h; rfl
 | .cons x r,cs,⟨c1,c2,h,h1,h2⟩=>by subst h; rw[QI,U1 h1,U1 h2]; rfl
theorem Tp:∀{x:AV} {cs:List Value},cr β ρ ok w false x cs→x.inMem=true→∀c∈cs,c.oneCell'=true
 | .d t x,cs,h,_=>(rt t).flat h
 | .p ..,cs,h,_=>by subst h; simp; rfl
 | .e ..,cs,⟨_,_,h⟩,_=>by subst h; simp; rfl
 | .s id,cs,⟨⟨v,h,hz⟩,hs⟩,_=>by
  subst h; obtain⟨A,n,c,rfl⟩:=hz.form hs
  intro c hc; simp at hc; subst hc; rfl
 | .m _,cs,h,_=>by subst h; simp; rfl
 | .b _,cs,h,_=>by subst h; simp; rfl
 | .w ..,cs,⟨_,_,h,_⟩,_=>by subst h; simp; rfl
 | .a t x,cs,⟨v,h,hv⟩,_=>by obtain⟨b,o,c,rfl,_⟩:=hv; subst h; simp; rfl
 | .z,cs,⟨_,h⟩,_=>by subst h; simp; rfl
 | .ns,cs,h,_=>by subst h; simp; rfl
 | .np,cs,h,_=>by subst h; simp; rfl
 | .nm,cs,h,_=>by subst h; simp; rfl
 | .nf,cs,h,_=>by subst h; simp; rfl
 | .f ..,cs,⟨_,h,_⟩,_=>by subst h; simp; rfl
 | .ag l,cs,h,hm=>Tp (x:=l) h hm
 | .tp l,cs,_,hm=>by cases hm
 | .nil,cs,h,_=>by subst h; simp
 | .cons x r,cs,⟨c1,c2,h,h1,h2⟩,hm=>by
  simp only[AV.inMem,QQ]at hm
  subst h
  intro c hc
  rcases QW.1 hc with hc | hc
  ·exact Tp h1 hm.1 c hc
  ·exact Tp h2 hm.2 c hc
theorem Jo4{x:AV}{cs:List Value}(h:cr β ρ ok w false x cs)(ha:x.isAgg=false)(hn:x.size=1):∃c,cs=[c]:=by
 have:=U1 h
 rw[hn]at this
 match cs,this with
 | [c],_=>exact⟨c,rfl⟩
theorem Jfc:∀{t:Ty},t.agg=false→t.size=1
 | .int _,_=>rfl | .bool,_=>rfl | .str,_=>rfl | .sl _,_=>rfl | .ref,_=>rfl
def AV.isVal:AV→Bool
 | .nil=>false
 | .cons _ _=>false
 | .d t _=>true
 | _=>true
theorem N3{x:AV}{cs:List Value}(h:cr β ρ ok w false x cs)(hv:x.isVal=true)(hm:x.inMem=true):Qu (x.val cs)=cs:=by
 unfold AV.val
 cases ha:x.isAgg with
 | true=>simp[Qu]
 | false =>
  have ko:x.size=1:=by
   cases x<;>first | rfl | (simp[AV.isAgg]at ha; done) | (simp[AV.isVal]at hv; done) | skip
   ·exact Jfc ha
  obtain⟨c,rfl⟩:=Jo4 h ha ko
  have:=Tp h hm c (.head _)
  simp only[cond_false,List.headD_cons]
  cases c<;>first | rfl | (simp[Value.oneCell']at this)
theorem Qz9{t:Ty}{x:t.De}{cs:List Value}:(AV.d t x).val cs=(rt t).val cs:=by
 simp only[AV.val,AV.isAgg,RT.val,B7]
 cases t.agg<;>simp
theorem Ja4{t:Ty}{x:t.De}{cs:List Value}(h:cr β ρ ok w false (.d t x) cs):isV (rt t) ok w x ((AV.d t x).val cs):=⟨cs,h,Qz9⟩
theorem Rn{t:Ty}{x:t.De}{v:Value}(h:isV (rt t) ok w x v):∃cs,cr β ρ ok w false (.d t x) cs∧v=(AV.d t x).val cs:=by
 obtain⟨cs,hr,rfl⟩:=h
 exact⟨cs,hr,Qz9.symm⟩
end
end Gx

/- Abstract states. -/
namespace Gx
open Go Go.RowKit Gd
set_option linter.unusedVariables false
set_option linter.unusedSimpArgs false
inductive CK where
 | sl (e:TypeId) (u:Ty)
 | mp (k v:Ty)
@[reducible] def CK.ty:CK→Ty
 | .sl _ u=>.sl u
 | .mp k v=>.sl (.pr k v)
inductive Ob where
 | var (tid:TypeId) (c:AV)
 | row (e:TypeId) (t:Ty) (xs:List t.De)
 | tail (e:TypeId) (t:Ty) (xs:List t.De)
 | map (k v:Ty) (xs:List (k.De×v.De))
 | mapC (k:Ty) (c:CK) (xs:List (k.De×c.ty.De)) (hole:Option (k.De×Nat))
 | mapE (k v:Ty) (xs:List (k.De×v.De)) (key:k.De) (j:Nat)
def Ql6(β:Nat→Nat)(ρ:Nat→Value)(g:Nat)(tid:TypeId)(c:AV):TL where
 blks:=fun b=>b=g
 cov:=fun b _=>b=g
 cb:=fun h=>h
 p:=fun ok w=>∃cs,w.heap[g]?=some (.cells cs.toArray tid (0,0))∧cr β ρ ok w false c cs
 keep:=fun⟨cs,h1,h2⟩ hb he=>⟨cs,by rw[hb _ rfl]; exact h1,Ly h2 he⟩
 weak:=fun⟨cs,h1,h2⟩ hk=>⟨cs,h1,Wg h2 hk⟩
 lt:=fun⟨_,h,_⟩ b hb=>by subst hb; exact Yi h
def Qck{τ:Type}(v:Value)(e:Nat)(r:RT τ)(xs:List τ):TL where
 blks:=fun g=>v.ownBlock=some g
 cov:=fun b o=>v.ownBlock=some b∧Zv v*r.size≤o
 cb:=fun h=>h.1
 p:=fun ok w=>isV (rSl r) ok w xs v∧∃ys,w.ownsRowS 0 e r.size v (Zv v) ys
 keep:=fun⟨h1,ys,h⟩ hb he=>⟨h1.evo he,ys,Tm h hb⟩
 weak:=fun⟨h1,h⟩ hk=>⟨h1.weak hk,h⟩
 lt:=fun⟨_,_,h⟩ g hg=>(h.lt g hg).2
def Xq{κ ν:Type}(r:RT κ)(s:RT ν)(ok:Ok)(w:World):List (κ×ν)→List MapEntry→Prop
 | [],es=>es=[]
 | x::xs,es=>∃e es',es=e::es'∧isV r ok w x.1 e.key∧isV s ok w x.2 e.val∧Xq r s ok w xs es'
theorem W9{κ ν:Type}{r:RT κ}{s:RT ν}{ok:Ok}{w w':World}:∀{xs:List (κ×ν)} {es:List MapEntry},Xq r s ok w xs es→Evo ok w w'→Xq r s ok w' xs es
 | [],_,h,_=>h
 | x::xs,es,⟨e,es',h,h1,h2,h3⟩,he=>⟨e,es',h,h1.evo he,h2.evo he,W9 h3 he⟩
theorem Vq{κ ν:Type}{r:RT κ}{s:RT ν}{ok ok':Ok}{w:World}:∀{xs:List (κ×ν)} {es:List MapEntry},Xq r s ok w xs es→(∀b o,ok b o→ok' b o)→Xq r s ok' w xs es
 | [],_,h,_=>h
 | x::xs,es,⟨e,es',h,h1,h2,h3⟩,he=>⟨e,es',h,h1.weak he,h2.weak he,Vq h3 he⟩
def Ro{κ ν:Type}(g:Nat)(r:RT κ)(s:RT ν)(xs:List (κ×ν)):TL where
 blks:=fun b=>b=g
 cov:=fun b _=>b=g
 cb:=fun h=>h
 p:=fun ok w=>∃es clock,w.heap[g]?=some (.map es clock)∧Xq r s ok w xs es.toList∧(xs.map Prod.fst).Nodup∧(es.toList.map MapEntry.born).Nodup∧∀e∈es.toList,e.born<clock
 keep:=fun⟨es,c,h1,h2,h3⟩ hb he=>⟨es,c,by rw[hb _ rfl]; exact h1,W9 h2 he,h3⟩
 weak:=fun⟨es,c,h1,h2,h3⟩ hk=>⟨es,c,h1,Vq h2 hk,h3⟩
 lt:=fun⟨_,_,h,_⟩ b hb=>by subst hb; exact Yi h
def Ke:Value→Option Nat
 | .map o=>o
 | v=>v.ownBlock
theorem Qcl{w:World}{base:Nat}{e:TypeId}{size n:Nat}{v:Value}{xs:List Value}(h:w.ownsRowS base e size v n xs){b:Nat}:v.ownBlock=some b↔Ke v=some b:=by
 rcases h.2 with⟨rfl,_⟩ | ⟨g,cap,cur,fz,rfl,_⟩<;>exact Iff.rfl
def Qb3:(c:CK)→Value→c.ty.De→TL
  | .sl e u,v,x=>ml v e (rt u) x
  | .mp k v0,v,x=>{ Ro ((Ke v).getD 0) (rt k) (rt v0) x with
      blks:=fun b=>Ke v=some b
      cov:=fun b _=>Ke v=some b
      cb:=fun h=>h
      p:=fun ok w=>∃g,v=.map (some g)∧(Ro g (rt k) (rt v0) x).p ok w
      keep:=fun⟨g,h1,h2⟩ hb he=>⟨g,h1,(Ro g (rt k) (rt v0) x).keep h2 (fun b hg=>hb b (by subst hg; rw[h1]; rfl)) he⟩
      weak:=fun⟨g,h1,h2⟩ hk=>⟨g,h1,(Ro g (rt k) (rt v0) x).weak h2 hk⟩
      lt:=fun⟨g,h1,h2⟩ b hb=>(Ro g (rt k) (rt v0) x).lt h2 b (by rw[h1]at hb; injection hb with hb; exact hb.symm) }
theorem Q0a{c:CK}{v:Value}{x:c.ty.De}{ok:Ok}{w:World}(h:(Qb3 c v x).p ok w){b:Nat}:(Qb3 c v x).blks b↔Ke v=some b:=by
 cases c with
 | sl e u =>
  obtain⟨_,cs,h2,_⟩:=h
  exact Qcl h2
 | mp k v0=>exact Iff.rfl
def Jkc:RT Value where
 size:=1
 agg:=false
 rep:=fun _ _ x cs=>cs=[x]∧x.oneCell'=true
 len:=fun h=>by rw[h.1]; rfl
 one:=fun _=>rfl
 flat:=fun h c hc=>by rw[h.1]at hc; simp at hc; subst hc; exact h.2
 evo:=fun h _=>h
 weak:=fun h _=>h
def B8{κ:Type}(c:CK)(hole:Option κ)(hv:Value)(ok:Ok)(w:World):List (κ×c.ty.De)→List (κ×Value)→List Value→Prop
 | [],[],[]=>True
 | x::xs,y::ys,v::vs=>x.1=y.1∧((hole=some x.1∧v=undef∧zal y.2 hv)∨(hole≠some x.1∧zal y.2 v∧(Qb3 c v x.2).p ok w))∧B8 c hole hv ok w xs ys vs
 | _,_,_=>False
section
variable {κ:Type} {c:CK} {hole:Option κ} {hv:Value} {ok ok':Ok} {w w':World}
theorem Qpt:∀{xs:List (κ×c.ty.De)} {ys:List (κ×Value)} {vs:List Value},B8 c hole hv ok w xs ys vs→(∀v∈vs,∀b,Ke v=some b→w'.heap[b]?=w.heap[b]?)→Evo ok w w'→B8 c hole hv ok w' xs ys vs
 | [],[],[],h,_,_=>h
 | x::xs,y::ys,v::vs,⟨h1,h2,h3⟩,hb,he=>⟨h1,h2.imp id fun⟨q1,q2,q3⟩=>⟨q1,q2,(Qb3 c v x.2).keep q3 (fun b hg=>hb v (.head _) b ((Q0a q3).1 hg)) he⟩,Qpt h3 (fun v hv=>hb v (.tail _ hv)) he⟩
 | [],[],_::_,h,_,_=>h.elim
 | [],_::_,_,h,_,_=>h.elim
 | _::_,[],_,h,_,_=>h.elim
 | _::_,_::_,[],h,_,_=>h.elim
theorem Rp:∀{xs:List (κ×c.ty.De)} {ys:List (κ×Value)} {vs:List Value},B8 c hole hv ok w xs ys vs→(∀b o,ok b o→ok' b o)→B8 c hole hv ok' w xs ys vs
 | [],[],[],h,_=>h
 | x::xs,y::ys,v::vs,⟨h1,h2,h3⟩,hk=>⟨h1,h2.imp id fun⟨q1,q2,q3⟩=>⟨q1,q2,(Qb3 c v x.2).weak q3 hk⟩,Rp h3 hk⟩
 | [],[],_::_,h,_=>h.elim
 | [],_::_,_,h,_=>h.elim
 | _::_,[],_,h,_=>h.elim
 | _::_,_::_,[],h,_=>h.elim
theorem Q74:∀{xs:List (κ×c.ty.De)} {ys:List (κ×Value)} {vs:List Value},B8 c hole hv ok w xs ys vs→∀v∈vs,∀b,Ke v=some b→b<w.heap.size
 | [],[],[],h=>by simp
 | x::xs,y::ys,v::vs,⟨h1,h2,h3⟩=>by
  intro y hy b hb
  rcases QX.1 hy with rfl | hy
  ·rcases h2 with⟨_,rfl,_⟩ | ⟨_,_,q3⟩
   ·cases hb
   ·exact(Qb3 c y x.2).lt q3 b ((Q0a q3).2 hb)
  ·exact Q74 h3 y hy b hb
 | [],[],_::_,h=>h.elim
 | [],_::_,_,h=>h.elim
 | _::_,[],_,h=>h.elim
 | _::_,_::_,[],h=>h.elim
end
def Tq:Value→List Value
 | .tuple vs=>vs.toList
 | _=>[]
abbrev Qh5(vs:List Value):Prop:=vs.Pairwise fun a b=>∀g,Ke a=some g→Ke b≠some g
def Jfd{κ:Type}(g:Nat)(r:RT κ)(c:CK)(vs:List Value)(xs:List (κ×c.ty.De))(hole:Option κ)(hv:Value)(ok:Ok)(w:World):Prop :=
 ∃ys,(∃es clock,w.heap[g]?=some (.map es clock)∧Xq r Jkc ok w ys es.toList∧(es.toList.map MapEntry.born).Nodup∧∀e∈es.toList,e.born<clock)∧B8 c hole hv ok w xs ys vs∧(xs.map Prod.fst).Nodup∧Qh5 vs∧(∀v∈vs,Ke v≠some g)∧∀k,hole=some k→k∉xs.map Prod.fst→hv=.slice none 0 0
def Jfe(g:Nat)(vs:List Value){κ:Type}(r:RT κ)(c:CK)(xs:List (κ×c.ty.De))(hole:Option κ)(hv:Value):TL where
 blks:=fun b=>b=g∨∃v∈vs,Ke v=some b
 cov:=fun b _=>b=g∨∃v∈vs,Ke v=some b
 cb:=fun h=>h
 p:=fun ok w=>Jfd g r c vs xs hole hv ok w
 keep:=fun⟨ys,⟨es,cl,h1,h2,h3⟩,h4,h5⟩ hb he=>⟨ys,⟨es,cl,by rw[hb _ (.inl rfl)]; exact h1,W9 h2 he,h3⟩,Qpt h4 (fun v hv b hvb=>hb b (.inr ⟨v,hv,hvb⟩)) he,h5⟩
 weak:=fun⟨ys,⟨es,cl,h1,h2,h3⟩,h4,h5⟩ hk=>⟨ys,⟨es,cl,h1,Vq h2 hk,h3⟩,Rp h4 hk,h5⟩
 lt:=fun⟨_,⟨_,_,h,_⟩,h2,_⟩ b hb=>by
  rcases hb with rfl | ⟨v,hv,hb⟩
  ·exact Yi h
  ·exact Q74 h2 v hv b hb
def Lz{k:Ty}(β:Nat→Nat)(ρ:Nat→Value)(c:CK)(hole:Option (k.De×Nat)):Value:=match hole with
 | some q=>(match c with
  | .sl _ _=>ρ q.2
  | .mp _ _=>.map (some (β q.2)))
 | none=>undef
def Q0b{k:Ty}(hole:Option (k.De×Nat)):Option k.De:=match hole with
 | some q=>some q.1
 | none=>none
def Jff{κ ν:Type}(g:Nat)(r:RT κ)(s:RT ν)(xs:List (κ×ν))(key:κ)(b:Nat):TL where
 blks:=fun b=>b=g
 cov:=fun b _=>b=g
 cb:=fun h=>h
 p:=fun ok w=>∃es clock,w.heap[g]?=some (.map es clock)∧Xq r s ok w xs es.toList∧(xs.map Prod.fst).Nodup∧(es.toList.map MapEntry.born).Nodup∧(∀e∈es.toList,e.born<clock)∧∃e∈es.toList,isV r ok w key e.key∧e.born=b
 keep:=fun⟨es,c,h1,h2,h3,h4,h5,e,h6,h7,h8⟩ hb he=>⟨es,c,by rw[hb _ rfl]; exact h1,W9 h2 he,h3,h4,h5,e,h6,h7.evo he,h8⟩
 weak:=fun⟨es,c,h1,h2,h3,h4,h5,e,h6,h7,h8⟩ hk=>⟨es,c,h1,Vq h2 hk,h3,h4,h5,e,h6,h7.weak hk,h8⟩
 lt:=fun⟨_,_,h,_⟩ b hb=>by subst hb; exact Yi h
def Qx(β:Nat→Nat)(ρ:Nat→Value)(id:Nat):Ob→TL
 | .var tid c=>Ql6 β ρ (β id) tid c
 | .row e t xs=>ml (ρ id) e (rt t) xs
 | .tail e t xs=>Qck (ρ id) e (rt t) xs
 | .map k v xs=>Ro (β id) (rt k) (rt v) xs
 | .mapC k c xs hole=>Jfe (β id) (Tq (ρ id)) (rt k) c xs (Q0b hole) (Lz β ρ c hole)
 | .mapE k v xs key j=>Jff (β id) (rt k) (rt v) xs key (β j)
abbrev Va:=List (Nat×Bool)
structure En where
 t:Nat
 cs:Va
 av:AV
structure St where
 env:List En
 mem:List (Nat×Ob)
def Ju(a:Act)(cs:Va):Prop:=∀c∈cs,a.tmps[c.1]?=some (.bool c.2)
def rd(a:Act)(t:Nat):Option Value:=bif Nat.blt t 100000 then a.tmps[t]? else some (.pointer (some ⟨t - 100000,0,none⟩))
theorem L0{a:Act}{t:Nat}(h:Nat.blt t 100000=true):rd a t=a.tmps[t]?:=by unfold rd; rw[h]; rfl
def enD(β:Nat→Nat)(ρ:Nat→Value)(a:Act)(e:En):DF where
 p:=fun ok w=>(Ju a e.cs→∃cs,rd a e.t=some (e.av.val cs)∧cr β ρ ok w false e.av cs)∧(Ju a e.cs∨rd a e.t=some undef)
 evo:=fun h he=>⟨fun hc=>let⟨cs,h1,h2⟩:=h.1 hc; ⟨cs,h1,Ly h2 he⟩,h.2⟩
 weak:=fun h hk=>⟨fun hc=>let⟨cs,h1,h2⟩:=h.1 hc; ⟨cs,h1,Wg h2 hk⟩,h.2⟩
abbrev Qg(β:Nat→Nat)(ρ:Nat→Value)(mem:List (Nat×Ob)):List TL:=mem.map fun q=>Qx β ρ q.1 q.2
abbrev okR(X:Cx)(β:Nat→Nat)(ρ:Nat→Value)(mem:List (Nat×Ob))(w:World):Ok:=Jf X.ok X.w.heap.size (fun _=>0) [] (Qg β ρ mem) w
def Rel(X:Cx)(β:Nat→Nat)(ρ:Nat→Value)(S:St)(a:Act)(w:World):Prop :=
 Sb (fun _=>0) X [] (S.env.map (enD β ρ a)) [] (Qg β ρ S.mem) a w
def Qj4:List En→Nat→Option En
 | [],_=>none
 | e::l,t=>bif Nat.beq e.t t then some e else Qj4 l t
theorem Qj5{l:List En}{t:Nat}{e:En}(h:Qj4 l t=some e):e∈l∧e.t=t:=by
 induction l with
 | nil=>simp[Qj4]at h
 | cons x l ih =>
  simp only[Qj4]at h
  cases hb:Nat.beq x.t t with
  | true=>rw[hb]at h; simp only[cond_true,Option.some.injEq]at h; subst h; exact⟨.head _,QJ hb⟩
  | false=>rw[hb]at h; exact⟨.tail _ (ih h).1,(ih h).2⟩
def Kl(l:List En)(t:Nat):Option En:=bif Nat.blt t 100000 then Qj4 l t else none
theorem Qcm{l:List En}{t:Nat}{e:En}(h:Kl l t=some e):Nat.blt t 100000=true:=by
 unfold Kl at h
 cases hb:Nat.blt t 100000 with
 | true=>rfl
 | false=>rw[hb]at h; cases h
theorem U2{l:List En}{t:Nat}{e:En}(h:Kl l t=some e):e∈l∧e.t=t:=by
 have hb:=Qcm h
 unfold Kl at h
 rw[hb]at h
 exact Qj5 h
theorem Q0c{l:List En}{t:Nat}{e:En}(h:Kl l t=some e)(a:Act):rd a e.t=a.tmps[e.t]?:=L0 (by rw[(U2 h).2]; exact Qcm h)
def Jqk(l:List En)(g:Nat):Option En:=Qj4 l (100000+g)
theorem Q5p(a:Act)(g:Nat):rd a (100000+g)=some (.pointer (some ⟨g,0,none⟩)):=by
 unfold rd
 have:Nat.blt (100000+g) 100000=false:=by
  cases hb:Nat.blt (100000+g) 100000 with
  | false=>rfl
  | true=>exact absurd (QF hb) (by omega)
 rw[this]
 simp
def Jkd:Va→Nat×Bool→Bool
 | [],_=>false
 | (t,b)::l,c=>(Nat.beq t c.1&&(b==c.2))||Jkd l c
theorem Q75:∀{l:Va} {c:Nat×Bool},Jkd l c=true→c∈l
 | (t,b)::l,(u,v),h=>by
  simp only[Jkd,JS,QQ]at h
  rcases h with⟨h1,h2⟩ | h
  ·have:=QJ h1
   simp only[beq_iff_eq]at h2
   subst this; subst h2; exact .head _
  ·exact .tail _ (Q75 h)
def Qwx:Va→Va→Bool
 | [],_=>true
 | c::l,cur=>Jkd cur c&&Qwx l cur
theorem Qen:∀{l cur:Va} {a:Act},Qwx l cur=true→Ju a cur→Ju a l
 | [],cur,a,_,_=>by intro c hc; cases hc
 | c::l,cur,a,h,hc=>by
  simp only[Qwx,QQ]at h
  intro x hx
  rcases QX.1 hx with rfl | hx
  ·exact hc _ (Q75 h.1)
  ·exact Qen h.2 hc x hx
def Qj6:Value→Option AV
 | .int k n=>some (.d (.int k) n)
 | .bool b=>some (.d .bool b)
 | .string ⟨⟨l⟩⟩=>some (.d .str l)
 | .slice none 0 0=>some .ns
 | .pointer none=>some .np
 | .map none=>some .nm
 | .nilFunc=>some .nf
 | _=>none
def Qpu:List Value→Option AV
 | []=>some .nil
 | v::l=>match Qj6 v,Qpu l with
  | some x,some r=>some (.cons x r)
  | _,_=>none
def Qwy:Value→Option AV
 | .agg ⟨l⟩=>match Qpu l with
  | some r=>some (.ag r)
  | none=>none
 | v=>Qj6 v
section
variable {β:Nat→Nat} {ρ:Nat→Value} {ok:Ok} {w:World}
theorem Qj7{v:Value}{x:AV}(h:Qj6 v=some x):cr β ρ ok w false x [v]∧x.val [v]=v:=by
 unfold Qj6 at h
 split at h<;>first | (simp at h; done) | skip
 all_goals
  simp only[Option.some.injEq]at h
  subst h
  exact⟨rfl,rfl⟩
theorem Qt1:∀{l:List Value} {x:AV},Qpu l=some x→cr β ρ ok w false x l
 | [],x,h=>by simp[Qpu]at h; subst h; rfl
 | v::l,x,h=>by
  simp only[Qpu]at h
  split at h
  ·rename_i y r h1 h2
   simp at h; subst h
   exact⟨[v],l,rfl,(Qj7 h1).1,Qt1 h2⟩
  ·cases h
theorem Qpv{v:Value}{x:AV}(h:Qwy v=some x):∃cs,v=x.val cs∧cr β ρ ok w false x cs:=by
 unfold Qwy at h
 split at h
 ·rename_i l
  split at h
  ·rename_i r hr
   simp at h; subst h
   exact⟨l,rfl,Qt1 (x:=r) hr⟩
  ·cases h
 ·obtain⟨h1,h2⟩:=Qj7 (β:=β) (ρ:=ρ) (ok:=ok) (w:=w) h
  exact⟨_,h2.symm,h1⟩
end
def ev(S:St)(cur:Va):Operand→Option AV
 | .tmp t=>match Kl S.env t with
  | some e=>bif Qwx e.cs cur then some e.av else none
  | none=>none
 | .const v=>Qwy v
 | .func f=>some (.f f .nil)
 | .global g=>match Jqk S.env g with
  | some e=>bif Qwx e.cs cur then some e.av else none
  | none=>none
def Rq(t:Nat):Va→Bool
 | []=>false
 | c::l=>Nat.beq c.1 t||Rq t l
theorem Qcn{t:Nat}:∀{l:Va},Rq t l=false→∀c∈l,c.1≠t
 | [],_,c,hc=>by cases hc
 | d::l,h,c,hc=>by
  simp only[Rq,ZO]at h
  rcases QX.1 hc with rfl | hc
  ·intro e; rw[e]at h; simp[JY]at h
  ·exact Qcn h.2 c hc
def Js:List En→Nat→List En
 | [],_=>[]
 | e::l,t=>bif Nat.beq e.t t||Rq t e.cs then Js l t else e::Js l t
theorem Fx{l:List En}{t:Nat}{e:En}(h:e∈Js l t):e∈l∧e.t≠t∧∀c∈e.cs,c.1≠t:=by
 induction l with
 | nil=>simp[Js]at h
 | cons x l ih =>
  simp only[Js]at h
  cases hb:(Nat.beq x.t t||Rq t x.cs)with
  | true=>rw[hb]at h; exact⟨.tail _ (ih h).1,(ih h).2⟩
  | false =>
   rw[hb]at h
   simp only[cond_false,QX]at h
   rcases h with rfl | h
   ·simp only[ZO]at hb
    exact⟨.head _,fun e=>by rw[e]at hb; simp[JY]at hb,Qcn hb.2⟩
   ·exact⟨.tail _ (ih h).1,(ih h).2⟩
def St.put(S:St)(d:Nat)(cs:Va)(x:AV):St:=⟨⟨d,cs,x⟩::Js S.env d,S.mem⟩
def St.del(S:St)(d:Nat):St:=⟨Js S.env d,S.mem⟩
section
variable {X:Cx} {β:Nat→Nat} {ρ:Nat→Value} {S:St} {a a':Act} {w w':World}
theorem Jg{ok:Ok}{w:World}:∀{D:List DF},Qhx ok w D↔∀d∈D,d.p ok w
 | []=>by simp[Qhx]
 | d::D=>by simp[Qhx,Jg (D:=D)]
theorem Rel.en(h:Rel X β ρ S a w){e:En}(he:e∈S.env):(enD β ρ a e).p (okR X β ρ S.mem w) w:=Jg.1 h.dat _ (QY.2 ⟨e,he,rfl⟩)
theorem Rel.get(h:Rel X β ρ S a w){t:Nat}{e:En}(he:Kl S.env t=some e)(hc:Ju a e.cs) :
  ∃cs,a.tmps[t]?=some (e.av.val cs)∧cr β ρ (okR X β ρ S.mem w) w false e.av cs:=by
 have hr:=Q0c he a
 obtain⟨hm,rfl⟩:=U2 he
 rw[←hr]
 exact(h.en hm).1 hc
theorem Rel.ev(h:Rel X β ρ S a w){cur:Va}(hc:Ju a cur){x:Operand}{v:AV}(hx:ev S cur x=some v) :
  ∃cs,a.eval x=v.val cs∧cr β ρ (okR X β ρ S.mem w) w false v cs:=by
 cases x with
 | tmp t =>
  simp only[Gx.ev]at hx
  split at hx
  ·rename_i e he
   cases hb:Qwx e.cs cur with
   | false=>rw[hb]at hx; cases hx
   | true =>
    rw[hb]at hx
    simp at hx; subst hx
    obtain⟨cs,h1,h2⟩:=h.get he (Qen hb hc)
    exact⟨cs,by simp[Act.eval,h1],h2⟩
  ·cases hx
 | const v =>
  obtain⟨cs,h1,h2⟩:=Qpv (β:=β) (ρ:=ρ) (ok:=okR X β ρ S.mem w) (w:=w) hx
  exact⟨cs,h1,h2⟩
 | func f =>
  simp[Gx.ev]at hx; subst hx
  exact⟨[.func (.func f) #[] #[]],rfl,[],rfl,rfl⟩
 | global g =>
  simp only[Gx.ev]at hx
  split at hx
  ·rename_i e he
   cases hb:Qwx e.cs cur with
   | false=>rw[hb]at hx; cases hx
   | true =>
    rw[hb]at hx
    simp at hx; subst hx
    obtain⟨hm,ht⟩:=Qj5 he
    obtain⟨cs,h1,h2⟩:=(h.en hm).1 (Qen hb hc)
    rw[ht,Q5p]at h1
    exact⟨cs,Option.some.inj h1,h2⟩
  ·cases hx
theorem Rel.act(h:Rel X β ρ S a w){env':List En}(hs:a'.tmps.size=a.tmps.size)(hd:a'.defers=a.defers)(hr:∀t∈X.res,a'.tmps[t]?=a.tmps[t]?)
  (he:∀e∈env',(enD β ρ a' e).p (okR X β ρ S.mem w) w):Rel X β ρ ⟨env',S.mem⟩ a' w :=
 {sz:=hs.trans h.sz,df:=hd.trans h.df,fr:=fun t ht=>(hr t ht).trans (h.fr t ht),pn:=h.pn,tm:=by simp,bel:=h.bel,
  dat:=Jg.2 fun d hd=>by obtain⟨e,hm,rfl⟩:=QY.1 hd; exact he e hm,
  obj:=h.obj,own:=h.own,dHH:=h.dHH,dHO:=h.dHO,dOO:=h.dOO }
theorem Y7{d t:Nat}(k8:t≠d)(v:Value):(a.put (some d) v).tmps[t]?=a.tmps[t]?:=by
 have:d≠t:=fun e=>k8 e.symm
 simp[Act.put,this]
theorem Qh6{d t:Nat}(k8:t≠d)(v:Value):rd (a.put (some d) v) t=rd a t:=by
 unfold rd
 rw[Y7 k8]
theorem en_put(h:Rel X β ρ S a w){d:Nat}(v:Value){e:En}(he:e∈Js S.env d):(enD β ρ (a.put (some d) v) e).p (okR X β ρ S.mem w) w:=by
 obtain⟨h1,h2,h3⟩:=Fx he
 have yg:Ju (a.put (some d) v) e.cs↔Ju a e.cs:=⟨fun hc c hm=>by rw[←Y7 (h3 c hm) v]; exact hc c hm,fun hc c hm=>by rw[Y7 (h3 c hm) v]; exact hc c hm⟩
 refine⟨fun hc=>?_,?_⟩
 ·obtain⟨cs,h4,h5⟩:=(h.en h1).1 (yg.1 hc)
  exact⟨cs,by rw[Qh6 h2]; exact h4,h5⟩
 ·rw[yg,Qh6 h2]; exact(h.en h1).2
theorem Rel.put(h:Rel X β ρ S a w){d:Nat}(hd:okD X d=true){cs:Va}{x:AV}{v:Value}
  (hx:Ju (a.put (some d) v) cs→∃c,v=x.val c∧cr β ρ (okR X β ρ S.mem w) w false x c) (hu:Ju (a.put (some d) v) cs∨v=undef):Rel X β ρ (S.put d cs x) (a.put (some d) v) w:=by
 refine h.act (by simp[Act.put]) rfl (fun k hk=>Y7 (fun(e:k=d)=>Qwp hd (e▸hk)) v) fun e he=>?_
 rcases QX.1 he with rfl | he
 ·refine⟨fun hc=>?_,hu.imp id fun e=>by rw[L0 (Rj hd)]; simp[Act.put,h.sz,Tn hd,e]⟩
  obtain⟨c,h1,h2⟩:=hx hc
  exact⟨c,by rw[L0 (Rj hd)]; simp[Act.put,h.sz,Tn hd,h1],h2⟩
 ·exact en_put h v he
theorem Rel.del(h:Rel X β ρ S a w){d:Nat}(hd:okD X d=true)(v:Value):Rel X β ρ (S.del d) (a.put (some d) v) w :=
 h.act (by simp[Act.put]) rfl (fun k hk=>Y7 (fun(e:k=d)=>Qwp hd (e▸hk)) v) fun e he=>en_put h v he
theorem Rel.less(h:Rel X β ρ S a w){env':List En}(he:∀e∈env',e∈S.env):Rel X β ρ ⟨env',S.mem⟩ a w :=
 h.act rfl rfl (fun _ _=>rfl) fun e hm=>h.en (he e hm)
theorem Qc(a:Act):Ju a []:=fun _ h=>by cases h
theorem Rel.put0(h:Rel X β ρ S a w){d:Nat}(hd:okD X d=true){x:AV}{c:List Value}(hx:cr β ρ (okR X β ρ S.mem w) w false x c):Rel X β ρ (S.put d [] x) (a.put (some d) (x.val c)) w :=
 h.put hd (fun _=>⟨c,rfl,hx⟩) (.inl (Qc _))
def Qe:List (Nat×Ob)→Nat→Option Ob
 | [],_=>none
 | q::l,t=>bif Nat.beq q.1 t then some q.2 else Qe l t
def Nv:List (Nat×Ob)→Nat→Ob→List (Nat×Ob)
 | [],_,_=>[]
 | q::l,t,o=>bif Nat.beq q.1 t then(t,o)::l else q::Nv l t o
def Jv:List (Nat×Ob)→Nat→List (Nat×Ob)
 | [],_=>[]
 | q::l,t=>bif Nat.beq q.1 t then l else q::Jv l t
theorem Jj:∀{l:List (Nat×Ob)} {t:Nat} {o:Ob},Qe l t=some o→∃l1 l2,l=l1++(t,o)::l2∧(∀o',Nv l t o'=l1++(t,o')::l2)∧Jv l t=l1++l2
 | q::l,t,o,h=>by
  simp only[Qe]at h
  cases hb:Nat.beq q.1 t with
  | true =>
   rw[hb]at h
   simp at h
   have:=QJ hb
   subst h; subst this
   exact⟨[],l,rfl,fun o'=>by simp[Nv,hb],by simp[Jv,hb]⟩
  | false =>
   rw[hb]at h
   obtain⟨l1,l2,h1,h2,h3⟩:=Jj h
   exact⟨q::l1,l2,by rw[h1]; rfl,fun o'=>by simp[Nv,hb,h2 o'],by simp[Jv,hb,h3]⟩
theorem Rel.ob(h:Rel X β ρ S a w){id:Nat}{o:Ob}(ho:Qe S.mem id=some o) :
  (Qx β ρ id o).p (okR X β ρ S.mem w) w∧∀g,(Qx β ρ id o).blks g→X.mine g:=by
 obtain⟨l1,l2,h1,_⟩:=Jj ho
 exact h.own _ (by rw[h1]; simp[Qg])
end
end Gx

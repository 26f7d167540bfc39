/- Rows of the call's own whose elements are written. -/
import Derived.Test.YtjjpjagokgfbdaaGreatGCore
import Derived.Laws.MakeOwn
import Derived.ProofKit
import Derived.OpenShut
import Derived.Below
import Derived.ChangeSame
namespace Gd
open Go Go.RowKit
set_option linter.unusedVariables false
set_option linter.unusedSimpArgs false
theorem Ft{τ:Type}{r:RT τ}{ok:Ok}{w w':World}{xs:List τ}{cs:List Value}(h:Ka r ok w xs cs)(he:Evo ok w w'):Ka r ok w' xs cs:=((Jev xs.length r).evo (x:=xs) ⟨rfl,h⟩ he).2
theorem Xy{τ:Type}{r:RT τ}{ok ok':Ok}{w:World}{xs:List τ}{cs:List Value}(h:Ka r ok w xs cs)(hk:∀b o,ok b o→ok' b o):Ka r ok' w xs cs:=((Jev xs.length r).weak (x:=xs) ⟨rfl,h⟩ hk).2
theorem Qts{τ:Type}{r:RT τ}{ok:Ok}{w:World}{xs:List τ}{cs:List Value}(h:Ka r ok w xs cs):∀c∈cs,c.oneCell'=true:=(Jev xs.length r).flat (x:=xs) ⟨rfl,h⟩
def ml{τ:Type}(v:Value)(e:Nat)(r:RT τ)(xs:List τ):TL where
 blks:=fun g=>v.ownBlock=some g
 cov:=fun b _=>v.ownBlock=some b
 cb:=fun h=>h
 p:=fun ok w=>Zt v=xs.length∧∃cs,w.ownsRowS 0 e r.size v (Zt v) cs∧Ka r ok w xs cs
 keep:=fun⟨h1,cs,h2,h3⟩ hb he=>⟨h1,cs,Tk h2 hb,Ft h3 he⟩
 weak:=fun⟨h1,cs,h2,h3⟩ hk=>⟨h1,cs,h2,Xy h3 hk⟩
 lt:=fun⟨_,_,h,_⟩ g hg=>(h.lt g hg).2
theorem Fu{τ:Type}{r:RT τ}{ok:Ok}{w:World}:∀{xs:List τ} {cs:List Value},Ka r ok w xs cs→∀{i:Nat} {y:τ},xs[i]?=some y→r.rep ok w y ((cs.drop (i*r.size)).take r.size)
 | x::xs,cs,⟨c1,c2,e,h1,h2⟩,i,y,hy=>by
  subst e
  have hl:=r.len h1
  cases i with
  | zero =>
   simp at hy; subst hy
   rw[XB,KW,←hl,ZX]; exact h1
  | succ i =>
   simp at hy
   have:=Fu h2 hy
   have e:(c1++c2).drop ((i+1)*r.size)=c2.drop (i*r.size):=by
    rw[QP,WH,VQ,←hl,←XL,KY,hl]
   rw[e]; exact this
theorem Je1{τ:Type}{r:RT τ}{ok:Ok}{w:World}{e:Nat}{xs:List τ}{A:Option Addr}{m c:Nat}(h:(ml (.slice A m c) e r xs).p ok w):Qzv r ok w xs A m c:=by
 obtain⟨hl,cs,hown,hr⟩:=h
 have hm:Zt (.slice A m c)=m:=rfl
 rw[hm]at hl hown
 have hrep:∀i x,xs[i]?=some x→∃ds,r.rep ok w x ds∧∀(j:Nat) u,ds[j]?=some u→cs[i*r.size+j]?=some u:=fun i x hx=>by
  refine⟨_,Fu hr hx,fun j u hu=>?_⟩
  rw[JD]at hu
  split at hu
  ·rw[JZ]at hu; exact hu
  ·cases hu
 rcases hown.2 with⟨hv,h0⟩ | ⟨g,cap,cur,fz,hv,_,_,_,hle,_⟩
 ·injection hv with e1 e2 e3
  exact⟨cs,hown.1,hl.symm,by omega,fun _=>h0,Qts hr,fun h=>absurd h (by omega),hrep⟩
 ·have hg:(Value.slice A m c).ownBlock=some g:=by rw[hv]; rfl
  have hcell:=hown.cells hg
  injection hv with e1 e2 e3
  exact⟨cs,hown.1,hl.symm,by omega,(fun h=>absurd (e1.symm.trans h) (by simp)),Qts hr,fun _=>⟨g,0,e1,fun j u hu=>by rw[←Hw]; exact hcell j u hu⟩,hrep⟩
theorem Qpj{τ:Type}{r:RT τ}{ok:Ok}{w:World}:∀{xs:List τ} {cs:List Value},Ka r ok w xs cs→∀{i:Nat} {z:τ} {ds:List Value},i<xs.length→r.rep ok w z ds →
  Ka r ok w (xs.set i z) (cs.take (i*r.size)++ds++cs.drop (i*r.size+ds.length))
 | x::xs,cs,⟨c1,c2,e,h1,h2⟩,i,z,ds,hi,hz=>by
  subst e
  have hl:=r.len h1
  have hd:=r.len hz
  cases i with
  | zero =>
   refine⟨ds,c2,?_,hz,h2⟩
   simp only[XB,ZA,QD,QE]
   rw[hd,←hl,KY]
  | succ i =>
   refine⟨c1,_,?_,h1,Qpj h2 (by simpa using hi) hz⟩
   have e1:(i+1)*r.size=c1.length+i*r.size:=by rw[QP,hl]; omega
   rw[e1,KE,QH,QH,QH,ZE,JP (by omega)]
   congr 3
   rw[ZG,←XL,KY]
theorem N1{τ:Type}{r:RT τ}{ok:Ok}{w:World}:∀{xs ys:List τ} {cs ds:List Value},Ka r ok w xs cs→Ka r ok w ys ds→Ka r ok w (xs++ys) (cs++ds)
 | [],ys,cs,ds,h,h2=>by simp only[Ka]at h; subst h; simpa using h2
 | x::xs,ys,cs,ds,⟨c1,c2,e,h1,h3⟩,h2=>by subst e; exact⟨c1,c2++ds,by rw[QH],h1,N1 h3 h2⟩
theorem Qhy{τ:Type}{r:RT τ}{ok:Ok}{w:World}:∀(xs:List τ) (cs:List Value),cs.length=xs.length*r.size→(∀i x,xs[i]?=some x→∃ds,r.rep ok w x ds∧∀(j:Nat) u,ds[j]?=some u→cs[i*r.size+j]?=some u)→Ka r ok w xs cs
 | [],cs,hl,_=>by simp only[Ka]; exact JJ (by simpa using hl)
 | x::xs,cs,hl,h=>by
  obtain⟨ds,hr,hd⟩:=h 0 x rfl
  have hdl:=r.len hr
  have hl':cs.length=r.size+xs.length*r.size:=by rw[hl]; simp[QP]; omega
  refine⟨ds,cs.drop r.size,?_,hr,Qhy xs _ (by simp; omega) fun i y hy=>?_⟩
  ·have:cs.take r.size=ds:=by
    apply ZU
    intro j
    rcases JL j r.size with hj | hj
    ·rw[JQ hj]
     have hu:ds[j]?=some (ds[j]'(by omega)):=QU _
     have:=hd j _ hu
     rw[hu,←this]; simp
    ·rw[ZK (by simp; omega),ZK (by omega)]
   rw[←this,JW]
  ·obtain⟨es,he,hc⟩:=h (i+1) y (by simpa using hy)
   refine⟨es,he,fun j u hu=>?_⟩
   rw[JZ]
   have:=hc j u hu
   have e:(i+1)*r.size+j=r.size+(i*r.size+j):=by rw[QP]; omega
   rw[←e]; exact this
section
variable {P:Program} {T:Tab} {β:Nat→Nat} {X:Cx} {G:GL} {D:List DF} {H:HL} {O:List TL} {a:Act} {w w':World}
variable {ops:Array Oper} {Q:Exit→Act→World→Prop} {rest:List Oper}
theorem Sb.mget(h:Sb β X G D H O a w){τ:Type}{r:RT τ}{xs:List τ}{A:Option Addr}{m c:Nat}{e:Nat}(hm:ml (.slice A m c) e r xs∈O){j:Int}{y:τ}(hy:idx xs j=some y)(hpos:0<r.size) :
  ∃g cap cur fz,A=some ⟨g,0,none⟩∧(w.heap[g]?=some (.cells cur e fz)∧Qwh fz cur.size)∧m=xs.length∧j.toNat<m∧m≤cap∧cap*r.size≤cur.size∧c=cap∧cap≤maxLen ∧
   Ka r (Je X.ok X.w.heap.size β H O w) w xs (cur.toList.take (m*r.size)):=by
 obtain⟨⟨hl,cs,hown,hr⟩,_⟩:=h.own _ hm
 obtain⟨h0,h1⟩:=W5 hy
 have hlt:=(QK.1 h1).1
 simp only[Zt]at hl hown
 rcases hown.2 with⟨hv,h0⟩ | ⟨g,cap,cur,fz,hv,_,hh,hfz,hle,hcm,hcs,htk⟩
 ·omega
 ·injection hv with e1 e2 e3
  exact⟨g,cap,cur,fz,e1,⟨hh,hfz⟩,hl,by omega,hle,hcs,e3,hcm,by rw[htk]; exact hr⟩
theorem Qtt{cur:Array Value}{g e:Nat}{fz:Nat×Nat}(hh:w.heap[g]?=some (.cells cur e fz))(i:Nat):w.cell? ⟨g,i,none⟩=cur.toList[i]?:=by
 simp[World.cell?,hh]
theorem Jas(L ds:List Value){a s M off:Nat}(h1:a+s≤M)(h2:off+ds.length≤s)(h3:M≤L.length) :
  ((L.take (a+off)++ds++L.drop (a+off+ds.length)).take M) =
   (L.take M).take a++(((L.drop a).take s).take off++ds++((L.drop a).take s).drop (off+ds.length))++(L.take M).drop (a+s):=by
 apply ZU
 intro i
 simp only[List.getElem?_append,JD,JZ,QC,QO,JX]
 have e1:min (a+off) L.length=a+off:=by omega
 have e2:min a (min M L.length)=a:=by omega
 have e3:min s (L.length - a)=s:=by omega
 have e4:min off s=off:=by omega
 rw[e1,e2,e3,e4]
 by_cases c1:i<a
 ·have c2:i<a+off:=by omega
  have c3:i<M:=by omega
  have c4:i<a+off+ds.length:=by omega
  have c5:i<a+(off+ds.length+(s - (off+ds.length))):=by omega
  simp[c1,c2,c3,c4,c5]
 ·by_cases c2:i<a+off
  ·have c3:i<M:=by omega
   have c4:i<a+off+ds.length:=by omega
   have c5:i<a+(off+ds.length+(s - (off+ds.length))):=by omega
   have c6:i - a<off:=by omega
   have c7:i - a<off+ds.length:=by omega
   have c8:i - a<s:=by omega
   have c9:a+(i - a)=i:=by omega
   simp[c1,c2,c3,c4,c5,c6,c7,c8,c9]
  ·by_cases c4:i<a+off+ds.length
   ·have c3:i<M:=by omega
    have c5:i<a+(off+ds.length+(s - (off+ds.length))):=by omega
    have c6:¬ i - a<off:=by omega
    have c7:i - a<off+ds.length:=by omega
    have c8:i - (a+off)=i - a - off:=by omega
    simp[c1,c2,c3,c4,c5,c6,c7,c8]
   ·by_cases c5:i<a+s
    ·have c3:i<M:=by omega
     have c6:i<a+(off+ds.length+(s - (off+ds.length))):=by omega
     have c7:¬ i - a<off+ds.length:=by omega
     have c8:off+ds.length+(i - a - (off+ds.length))<s:=by omega
     have c9:a+(off+ds.length+(i - a - (off+ds.length)))=i:=by omega
     have c10:a+off+ds.length+(i - (a+off+ds.length))=i:=by omega
     simp[c1,c2,c3,c4,c6,c7,c8,c9,c10]
    ·have c6:¬ i<a+(off+ds.length+(s - (off+ds.length))):=by omega
     have c9:a+s+(i - (a+(off+ds.length+(s - (off+ds.length)))))=i:=by omega
     have c10:a+off+ds.length+(i - (a+off+ds.length))=i:=by omega
     simp[c4,c6,c9,c10]
theorem Sb.upd(h:Sb β X G D H O a w){O1 O2:List TL}{t t':TL}(hO:O=O1++t::O2)(hos:w'.os=w.os)(htp:w'.tape=w.tape)(hout:w'.output=w.output)(hsz:w.heap.size≤w'.heap.size)
  (hblk:∀b,b<w.heap.size→¬ t.blks b→w'.heap[b]?=w.heap[b]?) (hcov:∀b o,t.blks b→t.cov b o) (hb':∀g,t'.blks g→t.blks g∨w.heap.size≤g)
  (hp:Evo (Je X.ok X.w.heap.size β H O w) w w'→(∀b o,Je X.ok X.w.heap.size β H O w b o→Je X.ok X.w.heap.size β H (O1++t'::O2) w' b o)→t'.p (Je X.ok X.w.heap.size β H (O1++t'::O2) w') w') :
  Sb β X G D H (O1++t'::O2) a w':=by
 subst hO
 have hmem:t∈O1++t::O2:=by simp
 have hmine:=(h.own _ hmem).2
 have hevo:Evo (Je X.ok X.w.heap.size β H (O1++t::O2) w) w w':=Evo.of_blocks hsz fun b o hk=>hblk b hk.2.1 fun hb=>hk.2.2.2 t hmem (hcov b o hb)
 have hok:∀b o,Je X.ok X.w.heap.size β H (O1++t::O2) w b o→Je X.ok X.w.heap.size β H (O1++t'::O2) w' b o:=by
  rintro b o ⟨h1,h2,h3,h4⟩
  refine⟨h1,JG h2 hsz,h3,fun u hu hc=>?_⟩
  rcases QW.1 hu with hu | hu
  ·exact h4 u (by simp[hu]) hc
  ·rcases QX.1 hu with rfl | hu
   ·rcases hb' b (u.cb hc)with hb | hb
    ·exact h4 t hmem (hcov b o hb)
    ·omega
   ·exact h4 u (by simp[hu]) hc
 have hpw:=QM.1 h.dOO
 have hpw2:=QG.1 hpw.2.1
 have hoth:∀u∈O1++O2,∀g,u.blks g→¬ t.blks g∧g<w.heap.size:=by
  intro u hu g hg
  refine⟨fun hb=>?_,h.olt (by rcases QW.1 hu with hu | hu<;>simp[hu]) hg⟩
  rcases QW.1 hu with hu | hu
  ·exact hpw.2.2 u hu t (.head _) g hg hb
  ·exact hpw2.1 u hu g hb hg
 have hnew:∀u∈O1++O2,∀g,u.blks g→¬ t'.blks g:=by
  intro u hu g hg hb
  have:=hoth u hu g hg
  rcases hb' g hb with hb | hb
  ·exact this.1 hb
  ·omega
 refine { sz:=h.sz,df:=h.df,fr:=h.fr,pn:=h.pn,tm:=h.tm,bel:=?_,dat:=(h.dat.evo hevo).weak hok,obj:=?_,own:=?_,dHH:=h.dHH,dHO:=?_,dOO:=?_ }
 ·exact h.bel.trans ⟨hos,htp,hout,hsz,fun k hk hn=>hblk k (JG hk h.bel.size) fun hb=>(hmine k hb).elim (fun h=>by omega) hn⟩
 ·intro p hp'
  refine⟨?_,(h.obj p hp').2⟩
  rw[hblk _ (h.hlt hp') (h.dHO p hp' t hmem)]
  exact(h.obj p hp').1
 ·intro u hu
  have keep:∀u∈O1++O2,u.p (Je X.ok X.w.heap.size β H (O1++t'::O2) w') w'∧∀g,u.blks g→X.mine g:=by
   intro u hu
   have hu':u∈O1++t::O2:=by rcases QW.1 hu with hu | hu<;>simp[hu]
   exact⟨u.weak (u.keep (h.own u hu').1 (fun g hg=>hblk g (hoth u hu g hg).2 (hoth u hu g hg).1) hevo) hok,(h.own u hu').2⟩
  rcases QW.1 hu with hu | hu
  ·exact keep u (by simp[hu])
  ·rcases QX.1 hu with rfl | hu
   ·exact⟨hp hevo hok,fun g hg=>(hb' g hg).elim (hmine g) fun hb=>.inl (QN h.bel.size hb)⟩
   ·exact keep u (by simp[hu])
 ·intro p hp' u hu
  rcases QW.1 hu with hu | hu
  ·exact h.dHO p hp' u (by simp[hu])
  ·rcases QX.1 hu with rfl | hu
   ·intro hb
    rcases hb' _ hb with hb | hb
    ·exact h.dHO p hp' t hmem hb
    ·have:=h.hlt hp'; omega
   ·exact h.dHO p hp' u (by simp[hu])
 ·refine QM.2 ⟨hpw.1,QG.2 ⟨fun u hu g hg hg2=>hnew u (by simp[hu]) g hg2 hg,hpw2.2⟩,?_⟩
  intro u hu v hv g hg
  rcases QX.1 hv with rfl | hv
  ·exact hnew u (by simp[hu]) g hg
  ·exact hpw.2.2 u hu v (.tail _ hv) g hg
theorem Sb.mset(h:Sb β X G D H O a w)(O1 O2:List TL){τ:Type}{r:RT τ}{xs:List τ}{m c g:Nat}{j:Int}{y z:τ}{e:TypeId}
  (hO:O=O1++ml (.slice (some ⟨g,0,none⟩) m c) e r xs::O2) (hy:idx xs j=some y) (hpos:0<r.size) {off:Nat} {ds:List Value} (hoff:off+ds.length≤r.size) (h1:∀d∈ds,d.oneCell'=true)
  (hz:∀es,r.rep (Je X.ok X.w.heap.size β H O w) w y es→r.rep (Je X.ok X.w.heap.size β H O w) w z (es.take off++ds++es.drop (off+ds.length))) :
  ∃cur fz,(w.heap[g]?=some (.cells cur e fz)∧Qwh fz cur.size)∧j.toNat*r.size+off+ds.length≤cur.size ∧
   Sb β X G D H (O1++ml (.slice (some ⟨g,0,none⟩) m c) e r (xs.set j.toNat z)::O2) a (w.setRow g (cur.toList.take (j.toNat*r.size+off)++ds++cur.toList.drop (j.toNat*r.size+off+ds.length)).toArray):=by
 have hmem:ml (.slice (some ⟨g,0,none⟩) m c) e r xs∈O:=by rw[hO]; simp
 obtain⟨g',cap,cur,fz,hA,⟨hh,hfz⟩,hm,hj,hle,hcs,hc,hcm,hr⟩:=h.mget hmem hy hpos
 injection hA with hA; injection hA with hA; subst hA
 have hj1:(j.toNat+1)*r.size≤m*r.size:=JH _ hj
 have hj2:m*r.size≤cap*r.size:=JH _ hle
 rw[QP]at hj1
 have hcl:cap*r.size≤cur.toList.length:=by simpa using hcs
 have hlen:j.toNat*r.size+off+ds.length≤cur.size:=by omega
 refine⟨cur,fz,⟨hh,hfz⟩,hlen,?_⟩
 have hset:=setRow_heap w g cur (cur.toList.take (j.toNat*r.size+off)++ds++cur.toList.drop (j.toNat*r.size+off+ds.length)).toArray e _ hh
 refine h.upd (t':=ml (.slice (some ⟨g,0,none⟩) m c) e r (xs.set j.toNat z)) hO rfl rfl rfl (by simp) (fun b hb hn=>setRow_other _ _ _ _ fun e=>hn (by subst e; rfl)) (fun b o hb=>hb) (fun g hg=>.inl hg) fun hevo hok=>?_
 have hrep:=Fu hr (W5 hy).2
 have hdrop:(cur.toList.take (m*r.size)).drop (j.toNat*r.size)=(cur.toList.drop (j.toNat*r.size)).take (m*r.size - j.toNat*r.size):=by rw[KU]
 have e1:((cur.toList.take (m*r.size)).drop (j.toNat*r.size)).take r.size=(cur.toList.drop (j.toNat*r.size)).take r.size:=by
  rw[hdrop,ZP]; congr 1; omega
 rw[e1]at hrep
 have hnew:=hz _ hrep
 have hL:((cur.toList.drop (j.toNat*r.size)).take r.size).length=r.size:=r.len hrep
 refine⟨by simp[Zt,hm],_,⟨?_,.inr ⟨g,cap,_,fz,by rw[hc]; rfl,JB _,hset,by rw[XK,QC,QC,QO,JX,ZW (by omega),show j.toNat*r.size+off+ds.length+(cur.toList.length - (j.toNat*r.size+off+ds.length))=cur.size by simp; omega]; exact hfz,hle,hcm,by rw[XK,QC,QC,QO,JX]; omega,rfl⟩⟩,?_⟩
 ·simp only[Zt,QO,QC,JX]; omega
 ·have h2:=Qpj (Xy (Ft hr hevo) hok) (i:=j.toNat) (z:=z) (by omega) (r.weak (r.evo hnew hevo) hok)
  simp only[Zt]
  have hfin:=Jas cur.toList ds (a:=j.toNat*r.size) (s:=r.size) (M:=m*r.size) (off:=off) (by omega) hoff (by omega)
  rw[hfin]
  have hlen2:(List.take off (List.take r.size (List.drop (j.toNat*r.size) cur.toList))++ds++List.drop (off+ds.length) (List.take r.size (List.drop (j.toNat*r.size) cur.toList))).length=r.size:=by
   simp; omega
  rw[hlen2]at h2
  exact h2
def mkL{α:Type}(bytes:Nat)(l c:Int)(z:α):Option (List α):=if 0≤l∧l≤c∧(bytes:Int)*c≤281474976710656 then some (List.replicate l.toNat z)else none
theorem Qpk(zc:List Value):∀l:Nat,((List.range (l*zc.length)).map fun j=>zc.getD (j % zc.length) undef)=(List.replicate l zc).flatten
 | 0=>by simp
 | l+1=>by
  rw[QP,WH,List.range_add,JK,Qpk zc l,List.replicate_succ',WZ]
  congr 1
  simp only[List.map_map,List.flatten_cons,List.flatten_nil,QR]
  apply List.ext_getElem
  ·simp
  ·intro i h1 h2
   simp only[KF,List.getElem_range,Function.comp]
   have hlt:i<zc.length:=h2
   rw[Nat.mul_comm,Nat.mul_add_mod,Nat.mod_eq_of_lt hlt]
   simp[hlt]
theorem Qzx{τ:Type}{r:RT τ}{ok:Ok}{z:τ}{zc:List Value}(h:r.rep ok w z zc):∀l,Ka r ok w (List.replicate l z) (List.replicate l zc).flatten
 | 0=>by simp[Ka]
 | l+1=>⟨zc,(List.replicate l zc).flatten,by simp[List.replicate_succ],h,Qzx h l⟩
theorem Jat(hT:Q4 P T)(h:Sb β X G D H O a w){t:TypeId}{lo co:Operand}{d:Nat}{ps:String}{af:Array Edge}{ty:TypeId}{gd:Option (Nat×Bool)}
  (hg:B3 ops G ⟨some d,.makeSlice t lo co,ty,ps,af,gd⟩=some true) (hlt:okD X d=true)
  {τ:Type} {r:RT τ} {z:τ} {zs:List τ} {kl kc:IntKind} {l c:Int} {e:TypeId} {te ee:TE} (ht:Qh T t=some te) (htd:te.d=.slice e) (he:Qh T e=some ee) (hs:ee.size=r.size)
  (hzl:Nat.beq (Qu ee.z).length ee.size=true) (hby:Nat.ble 1 ee.bytes=true) (hz:∀ok w,r.rep ok w z (Qu ee.z))
  (hl:gv G lo=some (.v (.int kl l))) (hc:gv G co=some (.v (.int kc c))) (hmk:mkL ee.bytes l c z=some zs)
  (hk:∀b a' w',Sb β X (Tj G d (.v (.slice (some ⟨b,0,none⟩) zs.length c.toNat))) D H (ml (.slice (some ⟨b,0,none⟩) zs.length c.toNat) e r zs::O) a' w'→wpList P ops Q rest a' w') :
  wpList P ops Q (⟨some d,.makeSlice t lo co,ty,ps,af,gd⟩::rest) a w:=by
 unfold mkL at hmk
 split at hmk
 ·rename_i hcd
  obtain⟨h0,h1,h2⟩:=hcd
  have hzs:zs=List.replicate l.toNat z:=(Option.some.inj hmk).symm
  have hlen:zs.length=l.toNat:=by rw[hzs]; simp
  have hu:P.underlying t=some (.slice e):=by rw[(Jl hT ht).2,htd]
  obtain⟨i,hi,hz',hsi,hbi⟩:=W0 hT he
  have hby':1≤ee.bytes:=QF hby
  have hc63:c≤281474976710656:=by
   have:(1:Int)*c≤(ee.bytes:Int)*c:=KA (by omega) (by omega)
   omega
  have hzz:=QJ hzl
  have hr:=run_make (P:=P) w t e i ee.z hu hi hz' kl kc l c h0 h1 (by rw[hbi]; exact h2) (by omega)
  have hrun:(execOp a.eval ⟨some d,.makeSlice t lo co,ty,ps,af,gd⟩).run P w=.ok (.value (.slice (some ⟨w.heap.size,0,none⟩) zs.length c.toNat)) (w.alloc (.cells (madeCells ee.z.cells (c.toNat*i.size)) e)):=by
   unfold execOp
   simp only[h.ev hl,h.ev hc,Iq]
   simp[hr,hlen]
  refine Jk (Kh h hg) (Yn hrun ?_)
  have hb:Below w.heap.size w (w.alloc (.cells (madeCells ee.z.cells (c.toNat*i.size)) e)):=(Below.refl _ _).alloc (QB _) _
  have hcells:(madeCells ee.z.cells (c.toNat*i.size)).toList=(List.replicate c.toNat (Qu ee.z)).flatten:=by
   rw[←Qpk,hzz,hsi]
   unfold madeCells
   rw[Vn]at hzz ⊢
   simp only[Array.toList_map,Array.toList_range]
   apply WK
   intro q hq
   have hq':q<c.toNat*ee.size:=by simpa using hq
   have hpos:0<ee.size:=by
    rcases XQ ee.size with h0 | h0
    ·rw[h0]at hq'; omega
    ·exact h0
   have hsz:ee.z.cells.size=ee.size:=by rw[←hzz]; simp
   have hm:q % ee.z.cells.size<ee.z.cells.size:=VJ _ (by omega)
   rw[getElem!_pos ee.z.cells _ hm]
   simp only[VX]
   have hm2:q % ee.size<ee.z.cells.toList.length:=by rw[hsz]at hm; simpa[hsz]using hm
   rw[QU hm2]
   simp[hsz]
  refine hk _ _ _ ((h.allocTL hb (t:=ml (.slice (some ⟨w.heap.size,0,none⟩) zs.length c.toNat) e r zs) (fun g hg=>?_) ⟨rfl,(List.replicate l.toNat (Qu ee.z)).flatten,⟨?_,.inr ⟨w.heap.size,c.toNat,_,(0,0),rfl,JB _,heap_alloc_new w _,.inl rfl,?_,?_,?_,?_⟩⟩,?_⟩).put hlt (.v _))
  ·have hg:some w.heap.size=some g:=hg
   injection hg with hg; omega
  ·simp[Zt,hlen,hzz,hs]
  ·simp only[Zt]; omega
  ·rw[Lu]; omega
  ·exact KZ (by rw[size_madeCells,hsi,hs])
  ·simp only[Zt]
   rw[hcells,hlen]
   have e1:c.toNat=l.toNat+(c.toNat - l.toNat):=by omega
   rw[e1,←List.replicate_append_replicate,WZ]
   have e2:l.toNat*r.size=(List.replicate l.toNat (Qu ee.z)).flatten.length:=by simp[hzz,hs]
   rw[e2,ZX]
  ·rw[hzs]; exact Qzx (hz _ _) _
 ·cases hmk
end
end Gd

/- Rows that are appended to, frozen, lent to a call. -/
namespace Gd
open Go Go.RowKit
set_option linter.unusedVariables false
set_option linter.unusedSimpArgs false
section
variable {P:Program} {T:Tab} {β:Nat→Nat} {X:Cx} {G:GL} {D:List DF} {H:HL} {O:List TL} {a:Act} {w w':World}
variable {ops:Array Oper} {Q:Exit→Act→World→Prop} {rest:List Oper}
theorem Sb.addNilM(h:Sb β X G D H O a w)(e:Nat){τ:Type}(r:RT τ):Sb β X G D H (ml (.slice none 0 0) e r []::O) a w :=
 h.allocTL (Below.refl _ _) (fun g hg=>by have hg:(none:Option Nat)=some g:=hg; cases hg) ⟨rfl,[],World.ownsRowS_nil _ _ _ _,rfl⟩
theorem Sb.freeze(h:Sb β X G D H O a w){τ:Type}{r:RT τ}{xs:List τ}{A:Option Addr}{c:Nat}{e:Nat}{O2:List TL}(hO:O=ml (.slice A xs.length c) e r xs::O2)(hpos:Nat.ble 1 r.size=true) :
  Sb β X G (DF.v (rSl r) xs (.slice A xs.length c)::D) H (tl (.slice A xs.length c) e r.size::O2) a w:=by
 subst hO
 have hmem:ml (.slice A xs.length c) e r xs∈ml (.slice A xs.length c) e r xs::O2:=.head _
 obtain⟨⟨hl,cs,hown,hr⟩,hmine⟩:=h.own _ hmem
 have hok:∀b o,Je X.ok X.w.heap.size β H (ml (.slice A xs.length c) e r xs::O2) w b o→Je X.ok X.w.heap.size β H (tl (.slice A xs.length c) e r.size::O2) w b o:=by
  rintro b o ⟨h1,h2,h3,h4⟩
  refine⟨h1,h2,h3,fun u hu hc=>?_⟩
  rcases QX.1 hu with rfl | hu
  ·exact h4 _ (.head _) hc.1
  ·exact h4 u (.tail _ hu) hc
 have hpw:=QG.1 h.dOO
 refine { sz:=h.sz,df:=h.df,fr:=h.fr,pn:=h.pn,tm:=h.tm,bel:=h.bel,dat:=⟨?_,h.dat.weak hok⟩,obj:=h.obj,own:=fun u hu=>?_,dHH:=h.dHH,dHO:=fun p hp u hu=>?_,dOO:=QG.2 ⟨fun u hu g hg=>hpw.1 u hu g hg,hpw.2⟩ }
 ·refine Z3.2 ⟨A,xs.length,c,rfl,rfl,?_,fun h0=>?_⟩
  ·rcases hown.2 with⟨hv,h0⟩ | ⟨g,cap,cur,fz,hv,_,_,_,hle,_⟩
   ·simp only[Zt]at h0; omega
   ·injection hv with e1 e2 e3; simp only[Zt]at hle; omega
  ·rcases hown.2 with⟨hv,h1⟩ | ⟨g,cap,cur,fz,hv,_,hh,hfz,hle,hcm,hcs,htk⟩
   ·simp only[Zt]at h1; omega
   ·injection hv with e1 e2 e3
    simp only[Zt]at hle htk
    refine⟨g,0,e1,fun i x hx=>?_⟩
    have hi:=(QK.1 hx).1
    have hrep:=Fu hr hx
    refine⟨_,r.weak hrep hok,fun j u hu=>?_⟩
    have hj:j<r.size:=by have:=(QK.1 hu).1; rw[r.len hrep]at this; exact this
    have hgb:(Value.slice A xs.length c).ownBlock=some g:=by rw[e1]; rfl
    rw[QE]
    refine⟨⟨X.mine_ok (hmine g hgb) _,Yg hh,fun p hp e2=>h.dHO p hp _ hmem (by rw[e2]; exact hgb),fun u' hu' hc=>?_⟩,?_⟩
    ·rcases QX.1 hu' with rfl | hu'
     ·have:=hc.2
      simp only[Zt]at this
      have:(i+1)*r.size≤xs.length*r.size:=JH _ hi
      rw[QP]at this
      omega
     ·exact hpw.1 u' hu' g hgb (u'.cb hc)
    ·rw[Qtt hh]
     rw[JQ hj,JZ,←htk,JD]at hu
     split at hu
     ·exact hu
     ·cases hu
 ·rcases QX.1 hu with rfl | hu
  ·exact⟨⟨cs,hown⟩,hmine⟩
  ·exact⟨u.weak (h.own u (.tail _ hu)).1 hok,(h.own u (.tail _ hu)).2⟩
 ·rcases QX.1 hu with rfl | hu
  ·exact fun hg=>(h.dHO p hp _ hmem) hg
  ·exact h.dHO p hp u (.tail _ hu)
theorem Qhz(hT:Q4 P T)(h:Sb β X G D H O a w)(O1 O2:List TL){t:TypeId}{s x:Operand}{d:Nat}{ps:String}{af:Array Edge}{ty:TypeId}{gd:Option (Nat×Bool)}
  (hg:B3 ops G ⟨some d,.call ⟨.builtin .append,⟨[s,x]⟩,⟨[t,t]⟩⟩,ty,ps,af,gd⟩=some true) (hlt:okD X d=true)
  {τ:Type} {r:RT τ} {xs ys zs:List τ} {A:Option Addr} {A2:Option Addr} {m c m2 c2:Nat} {e:TypeId} {te ee:TE} (ht:Qh T t=some te) (htd:te.d=.slice e) (he:Qh T e=some ee) (hs:ee.size=r.size)
  (hz:Nat.beq (Qu ee.z).length ee.size=true) (hsz:Nat.ble 1 ee.size=true) (hby:Nat.ble 1 ee.bytes=true)
  (hO:O=O1++ml (.slice A m c) e r xs::O2) (hs1:gv G s=some (.v (.slice A m c))) (hx1:gv G x=some (.v (.slice A2 m2 c2)))
  (hDy:Qzv r (Je X.ok X.w.heap.size β H O w) w ys A2 m2 c2) (happ:app ee.bytes xs ys=some zs)
  (hk:∀A' c' a' w',Sb β X (Tj G d (.v (.slice A' zs.length c'))) D H (O1++ml (.slice A' zs.length c') e r zs::O2) a' w'→wpList P ops Q rest a' w') :
  wpList P ops Q (⟨some d,.call ⟨.builtin .append,⟨[s,x]⟩,⟨[t,t]⟩⟩,ty,ps,af,gd⟩::rest) a w:=by
 obtain⟨hbytes,rfl⟩:=Qju happ
 have hmem:ml (.slice A m c) e r xs∈O:=by rw[hO]; simp
 obtain⟨⟨hl,xs0,hown,hr⟩,hmine⟩:=h.own _ hmem
 obtain⟨csy,hcy1,hyl,hmc2,hA2,hcy2,hcy3,hcy4⟩:=hDy
 have hzl:=QJ hz
 have hsz':0<ee.size:=QF hsz
 have hby':0<ee.bytes:=QF hby
 have hnews:∀ad,A2=some ad→∀j u,csy[j]?=some u→w.cell? (ad.add j)=some u:=by
  intro ad had j u hu
  have hj:=(QK.1 hu).1
  have hm2:0<m2:=by
   rcases XQ m2 with h0 | h0
   ·rw[h0,XB]at hcy1; omega
   ·exact h0
  obtain⟨b,o,hA',hc⟩:=hcy3 hm2
  rw[hA']at had
  injection had with had
  subst had
  rw[Hw]
  exact hc j u hu
 simp only[Zt]at hown hl
 rw[←hs]at hown
 obtain⟨v',w1,hrun,hown',hgrow,hblk⟩:=Qgd (P:=P) (w:=w) (ty:=ty) hT ht htd he hzl hsz' hby' hown (JB _) (k:=m2) (c:=c2) (A:=A2) (news:=csy) (by rw[hs]; exact hcy1) hA2 hnews hcy2 (by rw[hl,←hyl]; exact hbytes)
 have hrun':(execOp a.eval ⟨some d,.call ⟨.builtin .append,⟨[s,x]⟩,⟨[t,t]⟩⟩,ty,ps,af,gd⟩).run P w=.ok (.value v') w1:=by
  unfold execOp
  have hm:(Array.mk [s,x]).map a.eval=⟨[.slice A m c,.slice A2 m2 c2]⟩:=by simp[h.ev hs1,h.ev hx1,Iq]
  simp[resolve,hm,invoke,builtin,hrun]
 have hform:∃A' c',v'=.slice A' (m+m2) c':=by
  rcases hown'.2 with⟨rfl,h0⟩ | ⟨g,cap,cur,fz,rfl,_⟩
  ·exact⟨none,0,by rw[h0]⟩
  ·exact⟨_,cap,rfl⟩
 obtain⟨A',c',rfl⟩:=hform
 have hlen:m+m2=(xs++ys).length:=by rw[QC,hl,hyl]
 refine Jk (Kh h hg) (Yn hrun' ?_)
 have hS:Sb β X G D H (O1++ml (.slice A' (m+m2) c') e r (xs++ys)::O2) a w1:=by
  refine h.upd hO hgrow.os hgrow.tape hgrow.output hgrow.size (fun b hb hn=>hgrow.block b hb fun e=>hn e.symm) (fun b o hb=>hb) (fun g hg=>?_) fun hevo hok=>?_
  ·rcases hblk with he1 | ⟨he1,_⟩
   ·exact .inl (by have hg:(Value.slice A' (m+m2) c').ownBlock=some g:=hg; rw[he1]at hg; exact hg)
   ·have hg:(Value.slice A' (m+m2) c').ownBlock=some g:=hg
    rw[he1]at hg; injection hg with hg; exact .inr (by omega)
  ·refine⟨hlen,xs0++csy,by rw[←hs]; exact hown',N1 (Xy (Ft hr hevo) hok) (Xy (Ft ?_ hevo) hok)⟩
   exact Qhy ys csy (by rw[hcy1,hyl]) hcy4
 have:=hk A' c' (a.put (some d) (.slice A' (m+m2) c')) w1
 rw[←hlen]at this
 exact this (hS.put hlt (.v _))
end
end Gd
namespace Gd
open Go Go.RowKit
section
variable {P:Program} {T:Tab} {β:Nat→Nat} {X:Cx} {G:GL} {D:List DF} {H:HL} {O:List TL} {a:Act} {w w':World}
variable {ops:Array Oper} {Q:Exit→Act→World→Prop} {rest:List Oper}
def Jow(v:Value):List Nat:=match v.ownBlock with
 | some g=>[g]
 | none=>[]
theorem Qzy{v:Value}{g:Nat}:g∈Jow v↔v.ownBlock=some g:=by
 unfold Jow
 cases h:v.ownBlock with
 | none=>simp
 | some b=>simp[eq_comm]
def Qlx(Ts:List TL)(L:List Nat)(ok:Ok)(w:World):Prop :=
 (∀t∈Ts,t.p ok w∧(∀g,t.blks g→g∈L)∧∀g o,t.blks g→¬ ok g o)∧(Ts.Pairwise fun s t=>∀g,s.blks g→¬ t.blks g)∧∀g∈L,∃t∈Ts,t.blks g
theorem Jau{f:FuncId}{fn:Func}{c:Code}{vs:List Value}{R:Value→World→Prop}{ok:Ok}{n:Nat}{L:List Nat}{O:List TL}(hok:∀b o,ok b o→b<w.heap.size)
  (hf:P.funcs[f]?=some fn) (hb:fn.body=some c) (hn:fn.ntmps=n) (hle:Nat.ble vs.length n=true) {D:List DF} (hD:Qhs ok w D) (hO:Qlx O L ok w)
  (h:∀a,Sb (fun _=>0) (cxL L n ok w) (Qzr vs 0) D [] O a w→c.wp P (bodyPost P fn (Qwl L w R)) a w):Calls P f ⟨vs⟩ w (Qwl L w R):=by
 refine calls_of_wp hf hb (h _ ?_)
 have hle':=QF hle
 have hk:∀b o,ok b o→Je (okL L ok) w.heap.size (fun _=>0) [] O w b o:=fun b o hbo=>⟨.inl (.inl hbo),hok b o hbo,by simp,fun t ht hc=>(hO.1 t ht).2.2 b o (t.cb hc) hbo⟩
 refine { sz:=by simp[hn]; omega,df:=rfl,fr:=by simp,pn:=by simp,tm:=?_,bel:=Uc.refl _ _ _,dat:=hD.weak hk,obj:=by simp,own:=fun t ht=>⟨t.weak (hO.1 t ht).1 hk,fun g hg=>.inr ((hO.1 t ht).2.1 g hg)⟩,dHH:=by simp,dHO:=by simp,dOO:=hO.2.1 }
 intro p hp
 obtain⟨j,v,rfl,hv⟩:=Qzs hp
 have hj:=(QK.1 hv).1
 simp only[QE,Iq]
 rw[XM (by simpa using hj)]
 simpa using hv
theorem Sb.melt0{A:Option Addr}{c e:Nat}{τ:Type}{r:RT τ}{O2:List TL}(h:Sb β X G D H (tl (.slice A 0 c) e r.size::O2) a w):Sb β X G D H (ml (.slice A 0 c) e r []::O2) a w:=by
 have hok:∀b o,Je X.ok X.w.heap.size β H (tl (.slice A 0 c) e r.size::O2) w b o→Je X.ok X.w.heap.size β H (ml (.slice A 0 c) e r []::O2) w b o:=by
  rintro b o ⟨h1,h2,h3,h4⟩
  refine⟨h1,h2,h3,fun u hu hc=>?_⟩
  rcases QX.1 hu with rfl | hu
  ·exact h4 _ (.head _) ⟨hc,by simp[Zt]⟩
  ·exact h4 u (.tail _ hu) hc
 obtain⟨⟨cs,hown⟩,hmine⟩:=h.own _ (.head _)
 have hpw:=QG.1 h.dOO
 have hcs:cs=[]:=by
  have:=hown.1
  simp only[Zt,XB]at this
  exact JJ this
 refine { sz:=h.sz,df:=h.df,fr:=h.fr,pn:=h.pn,tm:=h.tm,bel:=h.bel,dat:=h.dat.weak hok,obj:=h.obj,own:=fun u hu=>?_,dHH:=h.dHH,dHO:=fun p hp u hu=>?_,dOO:=QG.2 ⟨fun u hu g hg=>hpw.1 u hu g hg,hpw.2⟩ }
 ·rcases QX.1 hu with rfl | hu
  ·exact⟨⟨rfl,cs,hown,by subst hcs; rfl⟩,hmine⟩
  ·exact⟨u.weak (h.own u (.tail _ hu)).1 hok,(h.own u (.tail _ hu)).2⟩
 ·rcases QX.1 hu with rfl | hu
  ·exact fun hg=>h.dHO p hp _ (.head _) hg
  ·exact h.dHO p hp u (.tail _ hu)
end
end Gd

/- Results of a call's own, as rows that will be written: for elements that hold no addresses. -/
namespace Gd
open Go Go.RowKit
set_option linter.unusedVariables false
set_option linter.unusedSimpArgs false
section
variable {P:Program} {T:Tab} {β:Nat→Nat} {X:Cx} {G:GL} {D:List DF} {H:HL} {O:List TL} {a:Act} {w w':World}
variable {ops:Array Oper} {Q:Exit→Act→World→Prop} {rest:List Oper}
end
end Gd

/- From a statement's arguments to typed values, and back to the statement. -/
namespace Gd
open Go Go.RowKit Go.WideShapes Go.ChangeShapes
set_option linter.unusedVariables false
set_option linter.unusedSimpArgs false
def A5{τ:Type}(P:Program)(r:RT τ)(t:TypeId)(good:τ→Prop):Prop :=
 P.cellsOf t=r.size∧(∀{w:World} {rc:Reach} {b:Nat} {v:Value},Value.okWide P w rc b t v→(r.agg=true→∃cs,v=.agg cs)∧(r.agg=false→∃c,v.cells=#[c]∧v=c)) ∧
 ∀{H:Type} (enc:TypeId×Value→H) (w:World) (n:Nat) (cs:List Value) (x:DataW H×List MemPlace),
  DataW.trod enc P w 0 (fun _=>true) true n t cs=some x→∃y,r.rep (lt w) w y cs∧good y
def Je2(k:IntKind)(n:Int):Prop:=k.min≤n∧n≤k.max
def Je3(s:Str):Prop:=s.length≤maxLen
def Jqd(_:Bool):Prop:=True
def Qpl{τ:Type}(g:τ→Prop)(l:List τ):Prop:=l.length≤maxLen∧∀x∈l,g x
section
variable {P:Program}
theorem Jav{t:TypeId}{k:IntKind}(ht:P.underlying t=some (.int k))(hc:P.cellsOf t=1):A5 P (Ti k) t (Je2 k):=by
 refine⟨hc,fun hv=>⟨fun h=>(nomatch h),fun _=>?_⟩,fun enc w n cs x h=>?_⟩
 ·obtain⟨n,rfl⟩:=okWide_int ht hv
  exact⟨_,rfl,rfl⟩
 ·obtain⟨m,rfl,_,hw⟩:=DataW.trod_int ht h
  exact⟨m,rfl,by simpa[Lit.wf,Je2]using hw⟩
theorem Q5g{t:TypeId}(ht:P.underlying t=some .bool)(hc:P.cellsOf t=1):A5 P Qtp t Jqd:=by
 refine⟨hc,fun hv=>⟨fun h=>(nomatch h),fun _=>?_⟩,fun enc w n cs x h=>?_⟩
 ·obtain⟨n,rfl⟩:=okWide_bool ht hv
  exact⟨_,rfl,rfl⟩
 ·obtain⟨m,rfl,_⟩:=DataW.trod_bool ht h
  exact⟨m,rfl,trivial⟩
theorem Jaw{t:TypeId}(ht:P.underlying t=some .string)(hc:P.cellsOf t=1):A5 P Jov t Je3:=by
 refine⟨hc,fun hv=>⟨fun h=>(nomatch h),fun _=>?_⟩,fun enc w n cs x h=>?_⟩
 ·obtain⟨n,rfl⟩:=okWide_string ht hv
  exact⟨_,rfl,rfl⟩
 ·obtain⟨s,rfl,_,hs⟩:=DataW.trod_string ht h
  refine⟨s.data.toList,?_,by simpa[Je3]using hs⟩
  show [Value.string s]=[Yd s.data.toList]
  simp[Yd]
theorem Je4{τ:Type}{r:RT τ}{t e:TypeId}{g:τ→Prop}(ht:P.underlying t=some (.slice e))(hc:P.cellsOf t=1)(he:A5 P r e g)(hpos:0<r.size):A5 P (rSl r) t (Qpl g):=by
 refine⟨hc,fun hv=>⟨fun h=>(nomatch h),fun _=>?_⟩,fun enc w n cs x h=>?_⟩
 ·obtain⟨a,l,c,rfl⟩:=okWide_slice ht hv
  exact⟨_,rfl,rfl⟩
 ·rcases DataW.trod_slice ht h with⟨rfl,_⟩ | ⟨a,len,cap,elems,rest,m,_,rfl,_,_,hlc,hcm,hel,hall,_⟩
  ·exact⟨[],⟨_,rfl,none,0,0,rfl,rfl,QB _,fun h0=>absurd h0 (by omega)⟩,by simp[Qpl]⟩
  ·have hsz:P.cellsOf e=r.size:=he.1
   have h1:∀i,i<len→∃y cs,r.rep (lt w) w y cs∧g y∧w.cells? 0 (a.add (i*P.cellsOf e)) (P.cellsOf e)=some cs:=by
    intro i hi
    have:=hall i hi
    obtain⟨z,hz⟩:∃z,elems[i]?=some z:=⟨elems[i]'(by omega),QU (by omega)⟩
    rw[hz]at this
    obtain⟨cs,hcs,hz2⟩:=ZH.1 this
    obtain⟨y,hy,hg⟩:=he.2.2 enc w m cs z hz2
    exact⟨y,cs,hy,hg,hcs⟩
   have h2:∀k,k≤len→∃ys:List τ,ys.length=k∧∀i y,ys[i]?=some y→∃cs,r.rep (lt w) w y cs∧g y∧w.cells? 0 (a.add (i*P.cellsOf e)) (P.cellsOf e)=some cs:=by
    intro k
    induction k with
    | zero=>exact fun _=>⟨[],rfl,fun i y h=>by simp at h⟩
    | succ k ih =>
     intro hk
     obtain⟨ys,hl,hys⟩:=ih (by omega)
     obtain⟨y,cs,hy,hg,hcs⟩:=h1 k (by omega)
     refine⟨ys++[y],by simp[hl],fun i z hz=>?_⟩
     rcases JL i k with hlt | hge
     ·rw[JF (by omega)]at hz
      exact hys i z hz
     ·rw[JE (by omega)]at hz
      have:i - ys.length=0:=by
       rcases XQ (i - ys.length)with h | h
       ·exact h
       ·rw[ZK (by simp; omega)]at hz; cases hz
      rw[this]at hz
      simp at hz
      subst hz
      have hik:i=k:=by omega
      subst hik
      exact⟨cs,hy,hg,hcs⟩
   obtain⟨ys,hl,hys⟩:=h2 len (QB _)
   refine⟨ys,⟨_,rfl,some a,len,cap,rfl,hl,hlc,fun h0=>?_⟩,⟨by omega,fun y hy=>?_⟩⟩
   ·have hsp:a.spot=none:=by
     obtain⟨y,cs,_,_,hcs⟩:=h1 0 h0
     obtain⟨_,hlen,hcell⟩:=World.cells?_some hcs
     have g0:=hcell 0 (by omega)
     obtain⟨c0,hc0⟩:∃c0,cs[0]?=some c0:=⟨cs[0]'(by omega),QU (by omega)⟩
     rw[hc0]at g0
     simpa[Addr.add]using World.cell?_spot g0
    obtain⟨b,o,sp⟩:=a
    simp only at hsp
    subst hsp
    refine⟨b,o,rfl,fun i y hi=>?_⟩
    obtain⟨cs,hy,_,hcs⟩:=hys i y hi
    obtain⟨_,hlen,hcell⟩:=World.cells?_some hcs
    refine⟨cs,hy,fun j u hu=>?_⟩
    have hj:j<P.cellsOf e:=by rw[←hlen]; exact(QK.1 hu).1
    have:=hcell j hj
    rw[hu,add_plain,add_plain,hsz]at this
    refine⟨?_,this⟩
    show b<w.heap.size
    unfold World.cell? at this
    rcases JL b w.heap.size with hlt | hge
    ·exact hlt
    ·rw[XI hge]at this; cases this
   ·obtain⟨i,hi⟩:=XC hy
    obtain⟨_,_,hg,_⟩:=hys i y hi
    exact hg
theorem A5.fld{τ:Type}{r:RT τ}{t:TypeId}{g:τ→Prop}(ho:A5 P r t g){H:Type}{enc:TypeId×Value→H}{w:World}{n:Nat}{cs:List Value}{fs:Array Field}{xs:List (DataW H×List MemPlace)}
  (hlen:xs.length=fs.size) (hf:∀(i:Nat) (f:Field),fs[i]?=some f→DataW.trod enc P w 0 (fun _=>true) true n f.type ((cs.drop f.offset).take (P.cellsOf f.type))=xs[i]?)
  (i:Nat) (o:Nat) {f:Field} (hi:fs[i]?=some f) (ht:f.type=t) (hof:f.offset=o):∃y,r.rep (lt w) w y ((cs.drop o).take r.size)∧g y:=by
 have h1:=hf i f hi
 have hlt:=(ZO.1 hi).1
 rw[QU (by omega),ht,hof,ho.1]at h1
 exact ho.2.2 enc w n _ _ h1
theorem A5.arg{τ:Type}{r:RT τ}{t:TypeId}{g:τ→Prop}(ho:A5 P r t g){H:Type}{enc:TypeId×Value→H}{w:World}{rc:Reach}{b:Nat}{v:Value}{d:DataW H}{ps:List MemPlace}
  (hv:Value.okWide P w rc b t v) (h:DataW.Trod enc P w 0 (fun _=>true) true t v d ps):∃y,isV r (lt w) w y v∧g y:=by
 obtain⟨n,hn⟩:=h
 obtain⟨y,hy,hg⟩:=ho.2.2 enc w n _ _ hn
 refine⟨y,⟨_,hy,?_⟩,hg⟩
 unfold RT.val
 cases ha:r.agg with
 | true =>
  obtain⟨cs,rfl⟩:=(ho.2.1 hv).1 ha
  simp[Value.cells]
 | false =>
  obtain⟨c,hc,rfl⟩:=(ho.2.1 hv).2 ha
  rw[hc]; simp
end
section
variable {H:Type} {enc:TypeId×Value→H} {P:Program} {W:World} {base:Nat} {vs:List String}
theorem Jqe{t1 t2 t3:TypeId}{args:Array Value}{ds gs:List (DataW H)}{before:List MemPlace}{ts:Array TypeId}(hts:ts=#[t1,t2,t3])
  (hval:∀(j:Nat) t v,ts[j]?=some t→args[j]?=some v→Value.okWide P W .any base t v) (hW:DataW.Whole enc P ts.toList vs false W args.toList ds gs before)
  {τ1 τ2 τ3:Type} {r1:RT τ1} {r2:RT τ2} {r3:RT τ3} {g1:τ1→Prop} {g2:τ2→Prop} {g3:τ3→Prop} (ho1:A5 P r1 t1 g1) (ho2:A5 P r2 t2 g2) (ho3:A5 P r3 t3 g3) :
  ∃v1 v2 v3 y1 y2 y3,args=⟨[v1,v2,v3]⟩∧isV r1 (lt W) W y1 v1∧g1 y1∧isV r2 (lt W) W y2 v2∧g2 y2∧isV r3 (lt W) W y3 v3∧g3 y3:=by
 subst hts
 obtain⟨p,q,hA,_⟩:=hW
 obtain⟨v1,vs1,d1,ds1,p1,q1,hargs,rfl,rfl,h1,k1⟩:=trodAll_cons hA
 obtain⟨v2,vs2,d2,ds2,p2,q2,rfl,rfl,rfl,h2,k2⟩:=trodAll_cons k1
 obtain⟨v3,vs3,d3,ds3,p3,q3,rfl,rfl,rfl,h3,k3⟩:=trodAll_cons k2
 obtain⟨rfl,rfl,rfl⟩:=trodAll_nil k3
 obtain rfl:args=⟨[v1,v2,v3]⟩:=by cases args; simp_all
 obtain⟨y1,hy1,hg1⟩:=ho1.arg (hval 0 t1 v1 rfl rfl) h1
 obtain⟨y2,hy2,hg2⟩:=ho2.arg (hval 1 t2 v2 rfl rfl) h2
 obtain⟨y3,hy3,hg3⟩:=ho3.arg (hval 2 t3 v3 rfl rfl) h3
 exact⟨v1,v2,v3,y1,y2,y3,rfl,hy1,hg1,hy2,hg2,hy3,hg3⟩
theorem Qfp(hl:laidOutB P=true){W':World}{sp:Nat→Bool}:∀{ts:List TypeId} {vs:List Value} {ds:List (DataW H)} {ps:List MemPlace},
  (ts.all fun t=>P.readableRec t&&decide (t<P.types.size))=true→DataW.TrodAll enc P W 0 (fun _=>true) true ts vs ds ps→(∀p∈ps,W.sameAt W' p)→(∀p∈ps,sp p.block=true)→DataW.TrodAll enc P W' 0 sp true ts vs ds ps
 | [],[],[],_,_,h,_,_=>h
 | t::ts,v::vs,d::ds,ps,hr,⟨p,q,h,hs,e⟩,h1,h2=>by
  subst e
  simp only[ZS,QQ,decide_eq_true_eq]at hr
  exact⟨p,q,WideElems.Trod_stays hl hr.1.1 hr.1.2 h (fun x hx=>h1 x (QW.2 (.inl hx))) (fun x hx=>h2 x (QW.2 (.inl hx))),
   Qfp hl hr.2 hs (fun x hx=>h1 x (QW.2 (.inr hx))) (fun x hx=>h2 x (QW.2 (.inr hx))),rfl⟩
theorem Qly{w:World}{sp:Nat→Bool}{hd:Bool}:∀{ts:List TypeId} {vs:List Value} {ds:List (DataW H)} {ps:List MemPlace},DataW.TrodAll enc P w base sp hd ts vs ds ps→ds.length=ts.length
 | [],[],[],_,_=>rfl
 | _::_,_::_,_::_,_,⟨_,_,_,hs,_⟩=>congrArg (·+1) (Qly hs)
theorem Je5{f:FuncId}{fn:Func}{s:ChangeSpec}{args:Array Value}{ds gs:List (DataW H)}{before:List MemPlace}{tb:TypeId}
  (hres:fn.resultTypes=#[tb]) (hb:P.underlying tb=some .bool) (hv:s.vars=[]) (hlaid:laidOutB P=true)
  (hread:(fn.params.toList.all fun t=>P.readableRec t&&decide (t<P.types.size))=true)
  (hspec:∀d:List (DataW H),d.length=fn.params.size→s.fn H d={ results:=[.lit (.bool true)],args:=d })
  (hW:DataW.Whole enc P fn.params.toList s.vars false W args.toList ds gs before)
  (hcall:Calls P f args W (Ret W (R1 Qtp (lt W) W true))) :
  Calls P f args W fun e W'=>∃v,e=.returned v∧s.post enc P fn false true false false W args v W':=by
 have hW':=hW
 obtain⟨p,q,hA,hV,rfl,hfz,hnd⟩:=hW
 rw[hv]at hV
 obtain⟨rfl,rfl⟩:=trodVars_none hV
 have hlen:=Qly hA
 have hs:s.fn H (ds++[])={ results:=[.lit (.bool true)],args:=ds }:=by
  rw[QR]; exact hspec ds (by simpa using hlen)
 refine hcall.mono ?_
 rintro e W' ⟨v,rfl,hr,hbel⟩
 have hbel:=hbel.nil
 obtain rfl:=Qpa.1 hr
 simp only[QR]at hW'
 have hlt:∀p'∈p,p'.block<W.heap.size:=fun p' hp=>hW'.lt p' hp
 refine⟨_,rfl,?_⟩
 refine⟨ds,[],p,[],p,[],hW',?_,?_,?_,World.keptBut_mono (fun p' hp=>⟨hp,by simpa using hp⟩) (hbel.frame (·∈p)),fun h=>by cases h⟩
 ·rw[hs,hres]
  exact trodAll_mk1 (shut_bool hb _)
 ·rw[hs]
  exact Qfp hlaid hread hA (fun x hx=>hbel.same (hlt x hx)) (fun x hx=>by simpa using hlt x hx)
 ·rw[hs,hv]
  rfl
end
end Gd

/- Plain facts on the functions that the texts are written with. -/
namespace Gd
open Go
set_option linter.unusedVariables false
set_option linter.unusedSimpArgs false
theorem Q3{n:Int}(h0 : -9223372036854775808≤n)(h1:n<9223372036854775808):IntKind.wrap .i64 n=n:=by
 have e:IntKind.wrap .i64 n=(if(18446744073709551616:Int) / 2≤n % 18446744073709551616 then n % 18446744073709551616 - 18446744073709551616 else n % 18446744073709551616):=by
  simp[IntKind.wrap,IntKind.bits,IntKind.signed]
 rw[e]
 split<;>omega
theorem Jj5{α:Type}{l:List α}{i:Nat}{x:α}(h:l[i]?=some x):idx l (i:Int)=some x:=by
 simp[idx,h]
end Gd

/- Types of data, abstract values, what they mean. -/
namespace Gx
open Go Go.RowKit Gd
set_option linter.unusedVariables false
set_option linter.unusedSimpArgs false
inductive Ki(α:Type) where
 | mk (x:α) (ks:List (Ki α))
def Ki.x{α:Type}:Ki α→α
 | .mk x _=>x
def Ki.ks{α:Type}:Ki α→List (Ki α)
 | .mk _ ks=>ks
inductive Ty where
 | int (k:IntKind) | bool | str
 | sl (e:Ty) | arr (n:Nat) (e:Ty)
 | unit | pr (f r:Ty) | st (fs:Ty) | ref | rose (fs:Ty)
@[reducible] def Ty.i:Ty:=.int .i64
@[reducible] def Ty.De:Ty→Type
 | .int _=>Int | .bool=>Bool | .str=>Str
 | .sl e=>List e.De | .arr _ e=>List e.De
 | .unit=>Unit | .pr f r=>f.De×r.De | .st fs=>fs.De | .ref=>Unit | .rose fs=>Ki fs.De
def Ty.beq:Ty→Ty→Bool
 | .int a,.int b=>Rh a b
 | .bool,.bool=>true
 | .str,.str=>true
 | .sl a,.sl b=>Ty.beq a b
 | .arr n a,.arr m b=>Nat.beq n m&&Ty.beq a b
 | .unit,.unit=>true
 | .pr a b,.pr c d=>Ty.beq a c&&Ty.beq b d
 | .st a,.st b=>Ty.beq a b
 | .ref,.ref=>true
 | .rose a,.rose b=>Ty.beq a b
 | _,_=>false
theorem Ty.beq_eq:∀{a b:Ty},Ty.beq a b=true→a=b
 | .int a,b,h=>by cases b<;>simp[Ty.beq]at h; rw[C3 h]
 | .bool,b,h=>by cases b<;>simp[Ty.beq]at h; rfl
 | .str,b,h=>by cases b<;>simp[Ty.beq]at h; rfl
 | .sl a,b,h=>by cases b<;>simp[Ty.beq]at h; rw[Ty.beq_eq h]
 | .arr n a,b,h=>by cases b<;>simp[Ty.beq]at h; rw[h.1,Ty.beq_eq h.2]
 | .unit,b,h=>by cases b<;>simp[Ty.beq]at h; rfl
 | .pr a c,b,h=>by cases b<;>simp[Ty.beq]at h; rw[Ty.beq_eq h.1,Ty.beq_eq h.2]
 | .st a,b,h=>by cases b<;>simp[Ty.beq]at h; rw[Ty.beq_eq h]
 | .ref,b,h=>by cases b<;>simp[Ty.beq]at h; rfl
 | .rose a,b,h=>by cases b<;>simp[Ty.beq]at h; rw[Ty.beq_eq h]
theorem Ty.beq_refl:∀a:Ty,Ty.beq a a=true
 | .int k=>by cases k<;>rfl
 | .bool=>rfl | .str=>rfl | .unit=>rfl
 | .sl a=>Ty.beq_refl a
 | .arr n a=>by simp[Ty.beq,Ty.beq_refl a,JY]
 | .pr a b=>by simp[Ty.beq,Ty.beq_refl a,Ty.beq_refl b]
 | .st a=>Ty.beq_refl a
 | .ref=>rfl
 | .rose a=>Ty.beq_refl a
def Ty.cast(a b:Ty)(x:a.De):Option b.De:=if h:Ty.beq a b=true then some (Ty.beq_eq h▸x)else none
theorem Ty.cast_ok{a b:Ty}{x:a.De}{y:b.De}(h:Ty.cast a b x=some y):∃e:a=b,y=e▸x:=by
 unfold Ty.cast at h
 split at h
 ·rename_i hb; exact⟨Ty.beq_eq hb,(Option.some.inj h).symm⟩
 ·cases h
def Jqf:RT Unit where
 size:=0
 agg:=true
 rep:=fun _ _ _ cs=>cs=[]
 len:=by rintro _ _ x cs rfl; rfl
 one:=fun h=>by cases h
 flat:=by rintro _ _ x cs rfl c hc; simp at hc
 evo:=fun h _=>h
 weak:=fun h _=>h
def Jl6{τ σ:Type}(r:RT τ)(s:RT σ):RT (τ×σ) where
 size:=r.size+s.size
 agg:=true
 rep:=fun ok w x cs=>∃c1 c2,cs=c1++c2∧r.rep ok w x.1 c1∧s.rep ok w x.2 c2
 len:=by rintro _ _ x cs ⟨c1,c2,rfl,h1,h2⟩; simp[r.len h1,s.len h2]
 one:=fun h=>by cases h
 flat:=by
  rintro _ _ x cs ⟨c1,c2,rfl,h1,h2⟩ c hc
  rcases QW.1 hc with hc | hc
  ·exact r.flat h1 c hc
  ·exact s.flat h2 c hc
 evo:=by rintro _ _ _ x cs ⟨c1,c2,rfl,h1,h2⟩ he; exact⟨c1,c2,rfl,r.evo h1 he,s.evo h2 he⟩
 weak:=by rintro _ _ _ x cs ⟨c1,c2,rfl,h1,h2⟩ he; exact⟨c1,c2,rfl,r.weak h1 he,s.weak h2 he⟩
def Jox{τ:Type}(r:RT τ):RT τ where
 size:=r.size
 agg:=true
 rep:=r.rep
 len:=r.len
 one:=fun h=>by cases h
 flat:=r.flat
 evo:=r.evo
 weak:=r.weak
def Jqg:RT Unit where
 size:=1
 agg:=false
 rep:=fun _ _ _ _=>False
 len:=fun h=>h.elim
 one:=fun _=>rfl
 flat:=fun h=>h.elim
 evo:=fun h _=>h
 weak:=fun h _=>h
def Joy{τ:Type}(r:RT τ):RT (Ki τ) where
 size:=r.size+1
 agg:=true
 rep:=fun _ _ _ _=>False
 len:=fun h=>h.elim
 one:=fun h=>by cases h
 flat:=fun h=>h.elim
 evo:=fun h _=>h
 weak:=fun h _=>h
def Joz{τ:Type}(r:RT τ)(k:RT (Ki τ)):RT (Ki τ) where
 size:=r.size+1
 agg:=true
 rep:=fun ok w x cs=>∃c1 c2,cs=c1++c2∧r.rep ok w x.x c1∧(rSl k).rep ok w x.ks c2
 len:=by rintro _ _ x cs ⟨c1,c2,rfl,h1,h2⟩; simp[r.len h1,(rSl k).len h2,rSl]
 one:=fun h=>by cases h
 flat:=by
  rintro _ _ x cs ⟨c1,c2,rfl,h1,h2⟩ c hc
  rcases QW.1 hc with hc | hc
  ·exact r.flat h1 c hc
  ·exact(rSl k).flat h2 c hc
 evo:=by rintro _ _ _ x cs ⟨c1,c2,rfl,h1,h2⟩ he; exact⟨c1,c2,rfl,r.evo h1 he,(rSl k).evo h2 he⟩
 weak:=by rintro _ _ _ x cs ⟨c1,c2,rfl,h1,h2⟩ he; exact⟨c1,c2,rfl,r.weak h1 he,(rSl k).weak h2 he⟩
def D7{τ:Type}(r:RT τ):Nat→RT (Ki τ)
 | 0=>Joy r
 | n+1=>Joz r (D7 r n)
theorem C4{τ:Type}(r:RT τ):∀n,(D7 r n).size=r.size+1
 | 0=>rfl
 | _+1=>rfl
theorem Qpm{τ:Type}{r s:RT τ}{ok:Ok}{w:World}(hs:r.size=s.size)(h:∀{x cs},r.rep ok w x cs→s.rep ok w x cs){xs:List τ}{cs:List Value}:(rSl r).rep ok w xs cs→(rSl s).rep ok w xs cs:=by
 rintro⟨v,rfl,A,n,c,rfl,hl,hc,hn⟩
 refine⟨_,rfl,A,n,c,rfl,hl,hc,fun h0=>?_⟩
 obtain⟨b,o,hA,hx⟩:=hn h0
 refine⟨b,o,hA,fun i x hi=>?_⟩
 obtain⟨cs,hr,ha⟩:=hx i x hi
 exact⟨cs,h hr,by rw[←hs]; exact ha⟩
theorem Qlz{τ:Type}(r:RT τ){ok:Ok}{w:World}:∀(n:Nat) {x:Ki τ} {cs:List Value},(D7 r n).rep ok w x cs→(D7 r (n+1)).rep ok w x cs
 | 0,_,_,h=>h.elim
 | n+1,x,cs,⟨c1,c2,e,h1,h2⟩=>⟨c1,c2,e,h1,Qpm (by rw[C4,C4]) (Qlz r n) h2⟩
theorem Qtu{τ:Type}(r:RT τ){ok:Ok}{w:World}{n m:Nat}(h:n≤m){x:Ki τ}{cs:List Value}(hx:(D7 r n).rep ok w x cs):(D7 r m).rep ok w x cs:=by
 induction h with
 | refl=>exact hx
 | step _ ih=>exact Qlz r _ ih
def Ql0{τ:Type}(r:RT τ):RT (Ki τ) where
 size:=r.size+1
 agg:=true
 rep:=fun ok w x cs=>∃n,(D7 r n).rep ok w x cs
 len:=by rintro _ _ x cs ⟨n,h⟩; rw[(D7 r n).len h,C4]
 one:=fun h=>by cases h
 flat:=by rintro _ _ x cs ⟨n,h⟩; exact(D7 r n).flat h
 evo:=by rintro _ _ _ x cs ⟨n,h⟩ he; exact⟨n,(D7 r n).evo h he⟩
 weak:=by rintro _ _ _ x cs ⟨n,h⟩ he; exact⟨n,(D7 r n).weak h he⟩
theorem Jax{τ:Type}{r:RT τ}{ok:Ok}{w:World}{x:Ki τ}{cs:List Value}(h:(Ql0 r).rep ok w x cs):∃c1 c2,cs=c1++c2∧r.rep ok w x.x c1∧(rSl (Ql0 r)).rep ok w x.ks c2:=by
 obtain⟨n,h⟩:=h
 cases n with
 | zero=>exact h.elim
 | succ n =>
  obtain⟨c1,c2,e,h1,h2⟩:=h
  exact⟨c1,c2,e,h1,Qpm (s:=Ql0 r) (C4 r n) (fun h=>⟨n,h⟩) h2⟩
theorem Qzz{τ:Type}{r:RT τ}{ok:Ok}{w:World}{x:τ}{ks:List (Ki τ)}{c1 c2:List Value}(h1:r.rep ok w x c1)(h2:(rSl (Ql0 r)).rep ok w ks c2):(Ql0 r).rep ok w (.mk x ks) (c1++c2):=by
 obtain⟨v,rfl,A,n,c,rfl,hl,hc,hn⟩:=h2
 rcases XQ n with h0 | h0
 ·subst h0
  refine⟨1,c1,_,rfl,h1,_,rfl,A,0,c,rfl,hl,hc,fun h=>absurd h (by omega)⟩
 ·obtain⟨b,o,hA,hx⟩:=hn h0
  have key2:∀(k:Nat),∃m,∀(i:Nat) (y:Ki τ),i<k→ks[i]?=some y→∃cs,(D7 r m).rep ok w y cs∧Cy ok w b (o+i*(Ql0 r).size) cs:=by
   intro k
   induction k with
   | zero=>exact⟨0,fun i y hi=>absurd hi (by omega)⟩
   | succ k ih =>
    obtain⟨m,hm⟩:=ih
    cases hk:ks[k]? with
    | none =>
     refine⟨m,fun i y hi hy=>?_⟩
     rcases JL i k with hlt | hge
     ·exact hm i y hlt hy
     ·have:i=k:=by omega
      subst this; rw[hk]at hy; cases hy
    | some z =>
     obtain⟨cs,⟨m2,h3⟩,h4⟩:=hx k z hk
     refine⟨max m m2,fun i y hi hy=>?_⟩
     rcases JL i k with hlt | hge
     ·obtain⟨cs',h5,h6⟩:=hm i y hlt hy
      exact⟨cs',Qtu r (KP _ _) h5,h6⟩
     ·have:i=k:=by omega
      subst this; rw[hk]at hy; injection hy with hy; subst hy
      exact⟨cs,Qtu r (ZR _ _) h3,h4⟩
  obtain⟨m,hm⟩:=key2 ks.length
  refine⟨m+1,c1,_,rfl,h1,_,rfl,A,n,c,rfl,hl,hc,fun _=>⟨b,o,hA,fun i y hy=>?_⟩⟩
  obtain⟨cs,h5,h6⟩:=hm i y (QK.1 hy).1 hy
  exact⟨cs,h5,by rw[C4]; exact h6⟩
def rt:(t:Ty)→RT t.De
 | .int k=>Ti k
 | .bool=>Qtp
 | .str=>Jov
 | .sl e=>rSl (rt e)
 | .arr n e=>Jev n (rt e)
 | .unit=>Jqf
 | .pr f r=>Jl6 (rt f) (rt r)
 | .st fs=>Jox (rt fs)
 | .ref=>Jqg
 | .rose fs=>Ql0 (rt fs)
def Ty.size:Ty→Nat
 | .int _=>1 | .bool=>1 | .str=>1 | .sl _=>1
 | .arr n e=>n*e.size
 | .unit=>0 | .pr f r=>f.size+r.size | .st fs=>fs.size | .ref=>1 | .rose fs=>fs.size+1
def Ty.agg:Ty→Bool
 | .int _=>false | .bool=>false | .str=>false | .sl _=>false
 | .arr _ _=>true
 | .unit=>true | .pr _ _=>true | .st _=>true | .ref=>false | .rose _=>true
theorem Jh:∀t:Ty,(rt t).size=t.size
 | .int _=>rfl | .bool=>rfl | .str=>rfl | .sl _=>rfl
 | .arr n e=>by simp[rt,Jev,Ty.size,Jh e]
 | .unit=>rfl
 | .pr f r=>by simp[rt,Jl6,Ty.size,Jh f,Jh r]
 | .st fs=>by simp[rt,Jox,Ty.size,Jh fs]
 | .ref=>rfl
 | .rose fs=>by simp[rt,Ql0,Ty.size,Jh fs]
theorem B6:∀t:Ty,(rt t).agg=t.agg
 | .int _=>rfl | .bool=>rfl | .str=>rfl | .sl _=>rfl | .arr _ _=>rfl | .unit=>rfl | .pr _ _=>rfl | .st _=>rfl | .ref=>rfl | .rose _=>rfl
inductive PS where
 | f (k off:Nat) | i (j:Int) (size:Nat)
def PS.off:PS→Nat
 | .f _ o=>o | .i j s=>j.toNat*s
def J7:List PS→Nat
 | []=>0
 | p::l=>p.off+J7 l
inductive AV where
 | d (t:Ty) (x:t.De)
 | p (id:Nat) (path:List PS)
 | e (id:Nat) (path:List PS)
 | s (id:Nat)
 | m (id:Nat)
 | b (id:Nat)
 | w (id:Nat) (j n:Int)
 | a (t:Ty) (x:t.De)
 | z | ns | np | nm | nf
 | f (fn:FuncId) (caps:AV)
 | ag (l:AV)
 | tp (l:AV)
 | nil
 | cons (x r:AV)
def AV.isAgg:AV→Bool
 | .d t _=>t.agg
 | .ag _=>true
 | _=>false
def AV.val(x:AV)(cs:List Value):Value:=bif x.isAgg then .agg cs.toArray else cs.headD undef
def AV.size:AV→Nat
 | .d t _=>t.size
 | .ag l=>l.size
 | .nil=>0
 | .cons x r=>x.size+r.size
 | _=>1
def AV.inMem:AV→Bool
 | .tp _=>false
 | .f _ _=>true
 | .ag l=>l.inMem
 | .cons x r=>x.inMem&&r.inMem
 | _=>true
def zal(v u:Value):Prop:=v=u∨(u=.slice none 0 0∧∃A,v=.slice A 0 0)
theorem zal.form{v u:Value}(h:zal v u)(hu:∃A n c,u=.slice A n c):∃A n c,v=.slice A n c:=by
 rcases h with rfl | ⟨_,A,rfl⟩
 ·exact hu
 ·exact⟨_,_,_,rfl⟩
section
variable (β:Nat→Nat) (ρ:Nat→Value) (ok:Ok) (w:World)
def cr:Bool→AV→List Value→Prop
 | _,.d t x,cs=>(rt t).rep ok w x cs
 | _,.p id path,cs=>cs=[.pointer (some ⟨β id,J7 path,none⟩)]
 | _,.e id path,cs=>∃g,(ρ id).ownBlock=some g∧cs=[.pointer (some ⟨g,J7 path,none⟩)]
 | _,.s id,cs=>(∃v,cs=[v]∧zal v (ρ id))∧∃A n c,ρ id=.slice A n c
 | _,.m id,cs=>cs=[.map (some (β id))]
 | _,.b id,cs=>cs=[.int .i64 (β id)]
 | _,.w id j n,cs=>∃A c,cs=[.slice (some A) n.toNat c]∧(0<n.toNat→A=⟨β id,j.toNat,none⟩)
 | _,.a t x,cs=>∃v,cs=[v]∧Qo9 (rt t) ok w x v
 | _,.z,cs=>∃A,cs=[.slice A 0 0]
 | _,.ns,cs=>cs=[.slice none 0 0]
 | _,.np,cs=>cs=[.pointer none]
 | _,.nm,cs=>cs=[.map none]
 | _,.nf,cs=>cs=[.nilFunc]
 | _,.f fn caps,cs=>∃vs,cs=[.func (.func fn) #[] vs.toArray]∧cr true caps vs
 | _,.ag l,cs=>cr false l cs
 | _,.tp l,cs=>∃vs,cs=[.tuple vs.toArray]∧cr true l vs
 | _,.nil,cs=>cs=[]
 | true,.cons x r,cs=>∃c1 vs,cs=x.val c1::vs∧cr false x c1∧cr true r vs
 | false,.cons x r,cs=>∃c1 c2,cs=c1++c2∧cr false x c1∧cr false r c2
end
section
variable {β:Nat→Nat} {ρ:Nat→Value} {ok ok':Ok} {w w':World}
theorem Lv:∀{m:Bool} {x:AV} {cs:List Value},cr β ρ ok w m x cs→Evo ok w w'→cr β ρ ok w' m x cs
 | m,.d t x,cs,h,he=>by cases m<;>exact(rt t).evo h he
 | m,.p ..,cs,h,he=>by cases m<;>exact h
 | m,.e ..,cs,h,he=>by cases m<;>exact h
 | m,.s _,cs,h,he=>by cases m<;>exact h
 | m,.m _,cs,h,he=>by cases m<;>exact h
 | m,.b _,cs,h,he=>by cases m<;>exact h
 | m,.w ..,cs,h,he=>by cases m<;>exact h
 | m,.a t x,cs,h,he=>by cases m<;>exact let⟨v,h1,h2⟩:=h; ⟨v,h1,h2.evo he⟩
 | m,.z,cs,h,he=>by cases m<;>exact h
 | m,.ns,cs,h,he=>by cases m<;>exact h
 | m,.np,cs,h,he=>by cases m<;>exact h
 | m,.nm,cs,h,he=>by cases m<;>exact h
 | m,.nf,cs,h,he=>by cases m<;>exact h
 | m,.f fn caps,cs,h,he=>by cases m<;>exact let⟨vs,h1,h2⟩:=h; ⟨vs,h1,Lv h2 he⟩
 | m,.ag l,cs,h,he=>by cases m<;>exact Lv (m:=false) (x:=l) h he
 | m,.tp l,cs,h,he=>by cases m<;>exact let⟨vs,h1,h2⟩:=h; ⟨vs,h1,Lv h2 he⟩
 | m,.nil,cs,h,he=>by cases m<;>exact h
 | true,.cons x r,cs,h,he=>let⟨c1,vs,h1,h2,h3⟩:=h; ⟨c1,vs,h1,Lv h2 he,Lv h3 he⟩
 | false,.cons x r,cs,h,he=>let⟨c1,vs,h1,h2,h3⟩:=h; ⟨c1,vs,h1,Lv h2 he,Lv h3 he⟩
theorem Wd:∀{m:Bool} {x:AV} {cs:List Value},cr β ρ ok w m x cs→(∀b o,ok b o→ok' b o)→cr β ρ ok' w m x cs
 | m,.d t x,cs,h,he=>by cases m<;>exact(rt t).weak h he
 | m,.p ..,cs,h,he=>by cases m<;>exact h
 | m,.e ..,cs,h,he=>by cases m<;>exact h
 | m,.s _,cs,h,he=>by cases m<;>exact h
 | m,.m _,cs,h,he=>by cases m<;>exact h
 | m,.b _,cs,h,he=>by cases m<;>exact h
 | m,.w ..,cs,h,he=>by cases m<;>exact h
 | m,.a t x,cs,h,he=>by cases m<;>exact let⟨v,h1,h2⟩:=h; ⟨v,h1,h2.weak he⟩
 | m,.z,cs,h,he=>by cases m<;>exact h
 | m,.ns,cs,h,he=>by cases m<;>exact h
 | m,.np,cs,h,he=>by cases m<;>exact h
 | m,.nm,cs,h,he=>by cases m<;>exact h
 | m,.nf,cs,h,he=>by cases m<;>exact h
 | m,.f fn caps,cs,h,he=>by cases m<;>exact let⟨vs,h1,h2⟩:=h; ⟨vs,h1,Wd h2 he⟩
 | m,.ag l,cs,h,he=>by cases m<;>exact Wd (m:=false) (x:=l) h he
 | m,.tp l,cs,h,he=>by cases m<;>exact let⟨vs,h1,h2⟩:=h; ⟨vs,h1,Wd h2 he⟩
 | m,.nil,cs,h,he=>by cases m<;>exact h
 | true,.cons x r,cs,h,he=>let⟨c1,vs,h1,h2,h3⟩:=h; ⟨c1,vs,h1,Wd h2 he,Wd h3 he⟩
 | false,.cons x r,cs,h,he=>let⟨c1,vs,h1,h2,h3⟩:=h; ⟨c1,vs,h1,Wd h2 he,Wd h3 he⟩
theorem U0:∀{x:AV} {cs:List Value},cr β ρ ok w false x cs→cs.length=x.size
 | .d t x,cs,h=>by rw[AV.size,←Jh]; exact(rt t).len h
 | .p ..,cs,h=>by subst h; rfl
 | .e ..,cs,⟨_,_,h⟩=>by subst h; rfl
 | .s _,cs,⟨⟨_,h,_⟩,_⟩=>by subst h; rfl
 | .m _,cs,h=>by subst h; rfl
 | .b _,cs,h=>by subst h; rfl
 | .w ..,cs,⟨_,_,h,_⟩=>by subst h; rfl
 | .a t x,cs,⟨_,h,_⟩=>by subst h; rfl
 | .z,cs,⟨_,h⟩=>by subst h; rfl
 | .ns,cs,h=>by subst h; rfl
 | .np,cs,h=>by subst h; rfl
 | .nm,cs,h=>by subst h; rfl
 | .nf,cs,h=>by subst h; rfl
 | .f ..,cs,⟨_,h,_⟩=>by subst h; rfl
 | .ag l,cs,h=>by rw[AV.size]; exact U0 (x:=l) h
 | .tp l,cs,⟨_,h,_⟩=>by subst h; rfl
 | .nil,cs,h=>by subst h; rfl
 | .cons x r,cs,⟨c1,c2,h,h1,h2⟩=>by subst h; rw[QC,U0 h1,U0 h2]; rfl
theorem Tn:∀{x:AV} {cs:List Value},cr β ρ ok w false x cs→x.inMem=true→∀c∈cs,c.oneCell'=true
 | .d t x,cs,h,_=>(rt t).flat h
 | .p ..,cs,h,_=>by subst h; simp; rfl
 | .e ..,cs,⟨_,_,h⟩,_=>by subst h; simp; rfl
 | .s id,cs,⟨⟨v,h,hz⟩,hs⟩,_=>by
  subst h; obtain⟨A,n,c,rfl⟩:=hz.form hs
  intro c hc; simp at hc; subst hc; rfl
 | .m _,cs,h,_=>by subst h; simp; rfl
 | .b _,cs,h,_=>by subst h; simp; rfl
 | .w ..,cs,⟨_,_,h,_⟩,_=>by subst h; simp; rfl
 | .a t x,cs,⟨v,h,hv⟩,_=>by obtain⟨b,o,c,rfl,_⟩:=hv; subst h; simp; rfl
 | .z,cs,⟨_,h⟩,_=>by subst h; simp; rfl
 | .ns,cs,h,_=>by subst h; simp; rfl
 | .np,cs,h,_=>by subst h; simp; rfl
 | .nm,cs,h,_=>by subst h; simp; rfl
 | .nf,cs,h,_=>by subst h; simp; rfl
 | .f ..,cs,⟨_,h,_⟩,_=>by subst h; simp; rfl
 | .ag l,cs,h,hm=>Tn (x:=l) h hm
 | .tp l,cs,_,hm=>by cases hm
 | .nil,cs,h,_=>by subst h; simp
 | .cons x r,cs,⟨c1,c2,h,h1,h2⟩,hm=>by
  simp only[AV.inMem,QQ]at hm
  subst h
  intro c hc
  rcases QW.1 hc with hc | hc
  ·exact Tn h1 hm.1 c hc
  ·exact Tn h2 hm.2 c hc
theorem Jo0{x:AV}{cs:List Value}(h:cr β ρ ok w false x cs)(ha:x.isAgg=false)(hn:x.size=1):∃c,cs=[c]:=by
 have:=U0 h
 rw[hn]at this
 match cs,this with
 | [c],_=>exact⟨c,rfl⟩
theorem Je6:∀{t:Ty},t.agg=false→t.size=1
 | .int _,_=>rfl | .bool,_=>rfl | .str,_=>rfl | .sl _,_=>rfl | .ref,_=>rfl
def AV.isVal:AV→Bool
 | .nil=>false
 | .cons _ _=>false
 | .d t _=>true
 | _=>true
theorem N2{x:AV}{cs:List Value}(h:cr β ρ ok w false x cs)(hv:x.isVal=true)(hm:x.inMem=true):Qu (x.val cs)=cs:=by
 unfold AV.val
 cases ha:x.isAgg with
 | true=>simp[Qu]
 | false =>
  have hsz:x.size=1:=by
   cases x<;>first | rfl | (simp[AV.isAgg]at ha; done) | (simp[AV.isVal]at hv; done) | skip
   ·exact Je6 ha
  obtain⟨c,rfl⟩:=Jo0 h ha hsz
  have:=Tn h hm c (.head _)
  simp only[cond_false,List.headD_cons]
  cases c<;>first | rfl | (simp[Value.oneCell']at this)
theorem Qz0{t:Ty}{x:t.De}{cs:List Value}:(AV.d t x).val cs=(rt t).val cs:=by
 simp only[AV.val,AV.isAgg,RT.val,B6]
 cases t.agg<;>simp
theorem Jay{t:Ty}{x:t.De}{cs:List Value}(h:cr β ρ ok w false (.d t x) cs):isV (rt t) ok w x ((AV.d t x).val cs):=⟨cs,h,Qz0⟩
theorem Rk{t:Ty}{x:t.De}{v:Value}(h:isV (rt t) ok w x v):∃cs,cr β ρ ok w false (.d t x) cs∧v=(AV.d t x).val cs:=by
 obtain⟨cs,hr,rfl⟩:=h
 exact⟨cs,hr,Qz0.symm⟩
end
end Gx

/- Abstract states. -/
namespace Gx
open Go Go.RowKit Gd
set_option linter.unusedVariables false
set_option linter.unusedSimpArgs false
inductive CK where
 | sl (e:TypeId) (u:Ty)
 | mp (k v:Ty)
@[reducible] def CK.ty:CK→Ty
 | .sl _ u=>.sl u
 | .mp k v=>.sl (.pr k v)
inductive Ob where
 | var (tid:TypeId) (c:AV)
 | row (e:TypeId) (t:Ty) (xs:List t.De)
 | tail (e:TypeId) (t:Ty) (xs:List t.De)
 | map (k v:Ty) (xs:List (k.De×v.De))
 | mapC (k:Ty) (c:CK) (xs:List (k.De×c.ty.De)) (hole:Option (k.De×Nat))
 | mapE (k v:Ty) (xs:List (k.De×v.De)) (key:k.De) (j:Nat)
def Ql1(β:Nat→Nat)(ρ:Nat→Value)(g:Nat)(tid:TypeId)(c:AV):TL where
 blks:=fun b=>b=g
 cov:=fun b _=>b=g
 cb:=fun h=>h
 p:=fun ok w=>∃cs,w.heap[g]?=some (.cells cs.toArray tid (0,0))∧cr β ρ ok w false c cs
 keep:=fun⟨cs,h1,h2⟩ hb he=>⟨cs,by rw[hb _ rfl]; exact h1,Lv h2 he⟩
 weak:=fun⟨cs,h1,h2⟩ hk=>⟨cs,h1,Wd h2 hk⟩
 lt:=fun⟨_,h,_⟩ b hb=>by subst hb; exact Yg h
def Qcg{τ:Type}(v:Value)(e:Nat)(r:RT τ)(xs:List τ):TL where
 blks:=fun g=>v.ownBlock=some g
 cov:=fun b o=>v.ownBlock=some b∧Zt v*r.size≤o
 cb:=fun h=>h.1
 p:=fun ok w=>isV (rSl r) ok w xs v∧∃ys,w.ownsRowS 0 e r.size v (Zt v) ys
 keep:=fun⟨h1,ys,h⟩ hb he=>⟨h1.evo he,ys,Tk h hb⟩
 weak:=fun⟨h1,h⟩ hk=>⟨h1.weak hk,h⟩
 lt:=fun⟨_,_,h⟩ g hg=>(h.lt g hg).2
def Xn{κ ν:Type}(r:RT κ)(s:RT ν)(ok:Ok)(w:World):List (κ×ν)→List MapEntry→Prop
 | [],es=>es=[]
 | x::xs,es=>∃e es',es=e::es'∧isV r ok w x.1 e.key∧isV s ok w x.2 e.val∧Xn r s ok w xs es'
theorem W6{κ ν:Type}{r:RT κ}{s:RT ν}{ok:Ok}{w w':World}:∀{xs:List (κ×ν)} {es:List MapEntry},Xn r s ok w xs es→Evo ok w w'→Xn r s ok w' xs es
 | [],_,h,_=>h
 | x::xs,es,⟨e,es',h,h1,h2,h3⟩,he=>⟨e,es',h,h1.evo he,h2.evo he,W6 h3 he⟩
theorem Vo{κ ν:Type}{r:RT κ}{s:RT ν}{ok ok':Ok}{w:World}:∀{xs:List (κ×ν)} {es:List MapEntry},Xn r s ok w xs es→(∀b o,ok b o→ok' b o)→Xn r s ok' w xs es
 | [],_,h,_=>h
 | x::xs,es,⟨e,es',h,h1,h2,h3⟩,he=>⟨e,es',h,h1.weak he,h2.weak he,Vo h3 he⟩
def Rl{κ ν:Type}(g:Nat)(r:RT κ)(s:RT ν)(xs:List (κ×ν)):TL where
 blks:=fun b=>b=g
 cov:=fun b _=>b=g
 cb:=fun h=>h
 p:=fun ok w=>∃es clock,w.heap[g]?=some (.map es clock)∧Xn r s ok w xs es.toList∧(xs.map Prod.fst).Nodup∧(es.toList.map MapEntry.born).Nodup∧∀e∈es.toList,e.born<clock
 keep:=fun⟨es,c,h1,h2,h3⟩ hb he=>⟨es,c,by rw[hb _ rfl]; exact h1,W6 h2 he,h3⟩
 weak:=fun⟨es,c,h1,h2,h3⟩ hk=>⟨es,c,h1,Vo h2 hk,h3⟩
 lt:=fun⟨_,_,h,_⟩ b hb=>by subst hb; exact Yg h
def Kb:Value→Option Nat
 | .map o=>o
 | v=>v.ownBlock
theorem Qch{w:World}{base:Nat}{e:TypeId}{size n:Nat}{v:Value}{xs:List Value}(h:w.ownsRowS base e size v n xs){b:Nat}:v.ownBlock=some b↔Kb v=some b:=by
 rcases h.2 with⟨rfl,_⟩ | ⟨g,cap,cur,fz,rfl,_⟩<;>exact Iff.rfl
def Qbz:(c:CK)→Value→c.ty.De→TL
  | .sl e u,v,x=>ml v e (rt u) x
  | .mp k v0,v,x=>{ Rl ((Kb v).getD 0) (rt k) (rt v0) x with
      blks:=fun b=>Kb v=some b
      cov:=fun b _=>Kb v=some b
      cb:=fun h=>h
      p:=fun ok w=>∃g,v=.map (some g)∧(Rl g (rt k) (rt v0) x).p ok w
      keep:=fun⟨g,h1,h2⟩ hb he=>⟨g,h1,(Rl g (rt k) (rt v0) x).keep h2 (fun b hg=>hb b (by subst hg; rw[h1]; rfl)) he⟩
      weak:=fun⟨g,h1,h2⟩ hk=>⟨g,h1,(Rl g (rt k) (rt v0) x).weak h2 hk⟩
      lt:=fun⟨g,h1,h2⟩ b hb=>(Rl g (rt k) (rt v0) x).lt h2 b (by rw[h1]at hb; injection hb with hb; exact hb.symm) }
theorem Qz1{c:CK}{v:Value}{x:c.ty.De}{ok:Ok}{w:World}(h:(Qbz c v x).p ok w){b:Nat}:(Qbz c v x).blks b↔Kb v=some b:=by
 cases c with
 | sl e u =>
  obtain⟨_,cs,h2,_⟩:=h
  exact Qch h2
 | mp k v0=>exact Iff.rfl
def Jj6:RT Value where
 size:=1
 agg:=false
 rep:=fun _ _ x cs=>cs=[x]∧x.oneCell'=true
 len:=fun h=>by rw[h.1]; rfl
 one:=fun _=>rfl
 flat:=fun h c hc=>by rw[h.1]at hc; simp at hc; subst hc; exact h.2
 evo:=fun h _=>h
 weak:=fun h _=>h
def B7{κ:Type}(c:CK)(hole:Option κ)(hv:Value)(ok:Ok)(w:World):List (κ×c.ty.De)→List (κ×Value)→List Value→Prop
 | [],[],[]=>True
 | x::xs,y::ys,v::vs=>x.1=y.1∧((hole=some x.1∧v=undef∧zal y.2 hv)∨(hole≠some x.1∧zal y.2 v∧(Qbz c v x.2).p ok w))∧B7 c hole hv ok w xs ys vs
 | _,_,_=>False
section
variable {κ:Type} {c:CK} {hole:Option κ} {hv:Value} {ok ok':Ok} {w w':World}
theorem Qpn:∀{xs:List (κ×c.ty.De)} {ys:List (κ×Value)} {vs:List Value},B7 c hole hv ok w xs ys vs→(∀v∈vs,∀b,Kb v=some b→w'.heap[b]?=w.heap[b]?)→Evo ok w w'→B7 c hole hv ok w' xs ys vs
 | [],[],[],h,_,_=>h
 | x::xs,y::ys,v::vs,⟨h1,h2,h3⟩,hb,he=>⟨h1,h2.imp id fun⟨q1,q2,q3⟩=>⟨q1,q2,(Qbz c v x.2).keep q3 (fun b hg=>hb v (.head _) b ((Qz1 q3).1 hg)) he⟩,Qpn h3 (fun v hv=>hb v (.tail _ hv)) he⟩
 | [],[],_::_,h,_,_=>h.elim
 | [],_::_,_,h,_,_=>h.elim
 | _::_,[],_,h,_,_=>h.elim
 | _::_,_::_,[],h,_,_=>h.elim
theorem Rm:∀{xs:List (κ×c.ty.De)} {ys:List (κ×Value)} {vs:List Value},B7 c hole hv ok w xs ys vs→(∀b o,ok b o→ok' b o)→B7 c hole hv ok' w xs ys vs
 | [],[],[],h,_=>h
 | x::xs,y::ys,v::vs,⟨h1,h2,h3⟩,hk=>⟨h1,h2.imp id fun⟨q1,q2,q3⟩=>⟨q1,q2,(Qbz c v x.2).weak q3 hk⟩,Rm h3 hk⟩
 | [],[],_::_,h,_=>h.elim
 | [],_::_,_,h,_=>h.elim
 | _::_,[],_,h,_=>h.elim
 | _::_,_::_,[],h,_=>h.elim
theorem Q7x:∀{xs:List (κ×c.ty.De)} {ys:List (κ×Value)} {vs:List Value},B7 c hole hv ok w xs ys vs→∀v∈vs,∀b,Kb v=some b→b<w.heap.size
 | [],[],[],h=>by simp
 | x::xs,y::ys,v::vs,⟨h1,h2,h3⟩=>by
  intro y hy b hb
  rcases QX.1 hy with rfl | hy
  ·rcases h2 with⟨_,rfl,_⟩ | ⟨_,_,q3⟩
   ·cases hb
   ·exact(Qbz c y x.2).lt q3 b ((Qz1 q3).2 hb)
  ·exact Q7x h3 y hy b hb
 | [],[],_::_,h=>h.elim
 | [],_::_,_,h=>h.elim
 | _::_,[],_,h=>h.elim
 | _::_,_::_,[],h=>h.elim
end
def To:Value→List Value
 | .tuple vs=>vs.toList
 | _=>[]
abbrev Qh0(vs:List Value):Prop:=vs.Pairwise fun a b=>∀g,Kb a=some g→Kb b≠some g
def Je7{κ:Type}(g:Nat)(r:RT κ)(c:CK)(vs:List Value)(xs:List (κ×c.ty.De))(hole:Option κ)(hv:Value)(ok:Ok)(w:World):Prop :=
 ∃ys,(∃es clock,w.heap[g]?=some (.map es clock)∧Xn r Jj6 ok w ys es.toList∧(es.toList.map MapEntry.born).Nodup∧∀e∈es.toList,e.born<clock)∧B7 c hole hv ok w xs ys vs∧(xs.map Prod.fst).Nodup∧Qh0 vs∧(∀v∈vs,Kb v≠some g)∧∀k,hole=some k→k∉xs.map Prod.fst→hv=.slice none 0 0
def Je8(g:Nat)(vs:List Value){κ:Type}(r:RT κ)(c:CK)(xs:List (κ×c.ty.De))(hole:Option κ)(hv:Value):TL where
 blks:=fun b=>b=g∨∃v∈vs,Kb v=some b
 cov:=fun b _=>b=g∨∃v∈vs,Kb v=some b
 cb:=fun h=>h
 p:=fun ok w=>Je7 g r c vs xs hole hv ok w
 keep:=fun⟨ys,⟨es,cl,h1,h2,h3⟩,h4,h5⟩ hb he=>⟨ys,⟨es,cl,by rw[hb _ (.inl rfl)]; exact h1,W6 h2 he,h3⟩,Qpn h4 (fun v hv b hvb=>hb b (.inr ⟨v,hv,hvb⟩)) he,h5⟩
 weak:=fun⟨ys,⟨es,cl,h1,h2,h3⟩,h4,h5⟩ hk=>⟨ys,⟨es,cl,h1,Vo h2 hk,h3⟩,Rm h4 hk,h5⟩
 lt:=fun⟨_,⟨_,_,h,_⟩,h2,_⟩ b hb=>by
  rcases hb with rfl | ⟨v,hv,hb⟩
  ·exact Yg h
  ·exact Q7x h2 v hv b hb
def Lw{k:Ty}(β:Nat→Nat)(ρ:Nat→Value)(c:CK)(hole:Option (k.De×Nat)):Value:=match hole with
 | some q=>(match c with
  | .sl _ _=>ρ q.2
  | .mp _ _=>.map (some (β q.2)))
 | none=>undef
def Qz2{k:Ty}(hole:Option (k.De×Nat)):Option k.De:=match hole with
 | some q=>some q.1
 | none=>none
def Je9{κ ν:Type}(g:Nat)(r:RT κ)(s:RT ν)(xs:List (κ×ν))(key:κ)(b:Nat):TL where
 blks:=fun b=>b=g
 cov:=fun b _=>b=g
 cb:=fun h=>h
 p:=fun ok w=>∃es clock,w.heap[g]?=some (.map es clock)∧Xn r s ok w xs es.toList∧(xs.map Prod.fst).Nodup∧(es.toList.map MapEntry.born).Nodup∧(∀e∈es.toList,e.born<clock)∧∃e∈es.toList,isV r ok w key e.key∧e.born=b
 keep:=fun⟨es,c,h1,h2,h3,h4,h5,e,h6,h7,h8⟩ hb he=>⟨es,c,by rw[hb _ rfl]; exact h1,W6 h2 he,h3,h4,h5,e,h6,h7.evo he,h8⟩
 weak:=fun⟨es,c,h1,h2,h3,h4,h5,e,h6,h7,h8⟩ hk=>⟨es,c,h1,Vo h2 hk,h3,h4,h5,e,h6,h7.weak hk,h8⟩
 lt:=fun⟨_,_,h,_⟩ b hb=>by subst hb; exact Yg h
def Qw(β:Nat→Nat)(ρ:Nat→Value)(id:Nat):Ob→TL
 | .var tid c=>Ql1 β ρ (β id) tid c
 | .row e t xs=>ml (ρ id) e (rt t) xs
 | .tail e t xs=>Qcg (ρ id) e (rt t) xs
 | .map k v xs=>Rl (β id) (rt k) (rt v) xs
 | .mapC k c xs hole=>Je8 (β id) (To (ρ id)) (rt k) c xs (Qz2 hole) (Lw β ρ c hole)
 | .mapE k v xs key j=>Je9 (β id) (rt k) (rt v) xs key (β j)
abbrev Y8:=List (Nat×Bool)
structure En where
 t:Nat
 cs:Y8
 av:AV
structure St where
 env:List En
 mem:List (Nat×Ob)
def Jt(a:Act)(cs:Y8):Prop:=∀c∈cs,a.tmps[c.1]?=some (.bool c.2)
def rd(a:Act)(t:Nat):Option Value:=bif Nat.blt t 100000 then a.tmps[t]? else some (.pointer (some ⟨t - 100000,0,none⟩))
theorem Lx{a:Act}{t:Nat}(h:Nat.blt t 100000=true):rd a t=a.tmps[t]?:=by unfold rd; rw[h]; rfl
def enD(β:Nat→Nat)(ρ:Nat→Value)(a:Act)(e:En):DF where
 p:=fun ok w=>(Jt a e.cs→∃cs,rd a e.t=some (e.av.val cs)∧cr β ρ ok w false e.av cs)∧(Jt a e.cs∨rd a e.t=some undef)
 evo:=fun h he=>⟨fun hc=>let⟨cs,h1,h2⟩:=h.1 hc; ⟨cs,h1,Lv h2 he⟩,h.2⟩
 weak:=fun h hk=>⟨fun hc=>let⟨cs,h1,h2⟩:=h.1 hc; ⟨cs,h1,Wd h2 hk⟩,h.2⟩
abbrev Qf(β:Nat→Nat)(ρ:Nat→Value)(mem:List (Nat×Ob)):List TL:=mem.map fun q=>Qw β ρ q.1 q.2
abbrev okR(X:Cx)(β:Nat→Nat)(ρ:Nat→Value)(mem:List (Nat×Ob))(w:World):Ok:=Je X.ok X.w.heap.size (fun _=>0) [] (Qf β ρ mem) w
def Rel(X:Cx)(β:Nat→Nat)(ρ:Nat→Value)(S:St)(a:Act)(w:World):Prop :=
 Sb (fun _=>0) X [] (S.env.map (enD β ρ a)) [] (Qf β ρ S.mem) a w
def Qjy:List En→Nat→Option En
 | [],_=>none
 | e::l,t=>bif Nat.beq e.t t then some e else Qjy l t
theorem Qjz{l:List En}{t:Nat}{e:En}(h:Qjy l t=some e):e∈l∧e.t=t:=by
 induction l with
 | nil=>simp[Qjy]at h
 | cons x l ih =>
  simp only[Qjy]at h
  cases hb:Nat.beq x.t t with
  | true=>rw[hb]at h; simp only[cond_true,Option.some.injEq]at h; subst h; exact⟨.head _,QJ hb⟩
  | false=>rw[hb]at h; exact⟨.tail _ (ih h).1,(ih h).2⟩
def Kj(l:List En)(t:Nat):Option En:=bif Nat.blt t 100000 then Qjy l t else none
theorem Qci{l:List En}{t:Nat}{e:En}(h:Kj l t=some e):Nat.blt t 100000=true:=by
 unfold Kj at h
 cases hb:Nat.blt t 100000 with
 | true=>rfl
 | false=>rw[hb]at h; cases h
theorem U1{l:List En}{t:Nat}{e:En}(h:Kj l t=some e):e∈l∧e.t=t:=by
 have hb:=Qci h
 unfold Kj at h
 rw[hb]at h
 exact Qjz h
theorem Qz3{l:List En}{t:Nat}{e:En}(h:Kj l t=some e)(a:Act):rd a e.t=a.tmps[e.t]?:=Lx (by rw[(U1 h).2]; exact Qci h)
def Jqh(l:List En)(g:Nat):Option En:=Qjy l (100000+g)
theorem Q5h(a:Act)(g:Nat):rd a (100000+g)=some (.pointer (some ⟨g,0,none⟩)):=by
 unfold rd
 have:Nat.blt (100000+g) 100000=false:=by
  cases hb:Nat.blt (100000+g) 100000 with
  | false=>rfl
  | true=>exact absurd (QF hb) (by omega)
 rw[this]
 simp
def Jj7:Y8→Nat×Bool→Bool
 | [],_=>false
 | (t,b)::l,c=>(Nat.beq t c.1&&(b==c.2))||Jj7 l c
theorem Q7y:∀{l:Y8} {c:Nat×Bool},Jj7 l c=true→c∈l
 | (t,b)::l,(u,v),h=>by
  simp only[Jj7,JS,QQ]at h
  rcases h with⟨h1,h2⟩ | h
  ·have:=QJ h1
   simp only[beq_iff_eq]at h2
   subst this; subst h2; exact .head _
  ·exact .tail _ (Q7y h)
def Qwq:Y8→Y8→Bool
 | [],_=>true
 | c::l,cur=>Jj7 cur c&&Qwq l cur
theorem Qej:∀{l cur:Y8} {a:Act},Qwq l cur=true→Jt a cur→Jt a l
 | [],cur,a,_,_=>by intro c hc; cases hc
 | c::l,cur,a,h,hc=>by
  simp only[Qwq,QQ]at h
  intro x hx
  rcases QX.1 hx with rfl | hx
  ·exact hc _ (Q7y h.1)
  ·exact Qej h.2 hc x hx
def Qj0:Value→Option AV
 | .int k n=>some (.d (.int k) n)
 | .bool b=>some (.d .bool b)
 | .string ⟨⟨l⟩⟩=>some (.d .str l)
 | .slice none 0 0=>some .ns
 | .pointer none=>some .np
 | .map none=>some .nm
 | .nilFunc=>some .nf
 | _=>none
def Qpo:List Value→Option AV
 | []=>some .nil
 | v::l=>match Qj0 v,Qpo l with
  | some x,some r=>some (.cons x r)
  | _,_=>none
def Qwr:Value→Option AV
 | .agg ⟨l⟩=>match Qpo l with
  | some r=>some (.ag r)
  | none=>none
 | v=>Qj0 v
section
variable {β:Nat→Nat} {ρ:Nat→Value} {ok:Ok} {w:World}
theorem Qj1{v:Value}{x:AV}(h:Qj0 v=some x):cr β ρ ok w false x [v]∧x.val [v]=v:=by
 unfold Qj0 at h
 split at h<;>first | (simp at h; done) | skip
 all_goals
  simp only[Option.some.injEq]at h
  subst h
  exact⟨rfl,rfl⟩
theorem Qtv:∀{l:List Value} {x:AV},Qpo l=some x→cr β ρ ok w false x l
 | [],x,h=>by simp[Qpo]at h; subst h; rfl
 | v::l,x,h=>by
  simp only[Qpo]at h
  split at h
  ·rename_i y r h1 h2
   simp at h; subst h
   exact⟨[v],l,rfl,(Qj1 h1).1,Qtv h2⟩
  ·cases h
theorem Qpp{v:Value}{x:AV}(h:Qwr v=some x):∃cs,v=x.val cs∧cr β ρ ok w false x cs:=by
 unfold Qwr at h
 split at h
 ·rename_i l
  split at h
  ·rename_i r hr
   simp at h; subst h
   exact⟨l,rfl,Qtv (x:=r) hr⟩
  ·cases h
 ·obtain⟨h1,h2⟩:=Qj1 (β:=β) (ρ:=ρ) (ok:=ok) (w:=w) h
  exact⟨_,h2.symm,h1⟩
end
def ev(S:St)(cur:Y8):Operand→Option AV
 | .tmp t=>match Kj S.env t with
  | some e=>bif Qwq e.cs cur then some e.av else none
  | none=>none
 | .const v=>Qwr v
 | .func f=>some (.f f .nil)
 | .global g=>match Jqh S.env g with
  | some e=>bif Qwq e.cs cur then some e.av else none
  | none=>none
def Rn(t:Nat):Y8→Bool
 | []=>false
 | c::l=>Nat.beq c.1 t||Rn t l
theorem Qcj{t:Nat}:∀{l:Y8},Rn t l=false→∀c∈l,c.1≠t
 | [],_,c,hc=>by cases hc
 | d::l,h,c,hc=>by
  simp only[Rn,ZY]at h
  rcases QX.1 hc with rfl | hc
  ·intro e; rw[e]at h; simp[JY]at h
  ·exact Qcj h.2 c hc
def Jr:List En→Nat→List En
 | [],_=>[]
 | e::l,t=>bif Nat.beq e.t t||Rn t e.cs then Jr l t else e::Jr l t
theorem Fv{l:List En}{t:Nat}{e:En}(h:e∈Jr l t):e∈l∧e.t≠t∧∀c∈e.cs,c.1≠t:=by
 induction l with
 | nil=>simp[Jr]at h
 | cons x l ih =>
  simp only[Jr]at h
  cases hb:(Nat.beq x.t t||Rn t x.cs)with
  | true=>rw[hb]at h; exact⟨.tail _ (ih h).1,(ih h).2⟩
  | false =>
   rw[hb]at h
   simp only[cond_false,QX]at h
   rcases h with rfl | h
   ·simp only[ZY]at hb
    exact⟨.head _,fun e=>by rw[e]at hb; simp[JY]at hb,Qcj hb.2⟩
   ·exact⟨.tail _ (ih h).1,(ih h).2⟩
def St.put(S:St)(d:Nat)(cs:Y8)(x:AV):St:=⟨⟨d,cs,x⟩::Jr S.env d,S.mem⟩
def St.del(S:St)(d:Nat):St:=⟨Jr S.env d,S.mem⟩
section
variable {X:Cx} {β:Nat→Nat} {ρ:Nat→Value} {S:St} {a a':Act} {w w':World}
theorem Jf{ok:Ok}{w:World}:∀{D:List DF},Qhs ok w D↔∀d∈D,d.p ok w
 | []=>by simp[Qhs]
 | d::D=>by simp[Qhs,Jf (D:=D)]
theorem Rel.en(h:Rel X β ρ S a w){e:En}(he:e∈S.env):(enD β ρ a e).p (okR X β ρ S.mem w) w:=Jf.1 h.dat _ (QY.2 ⟨e,he,rfl⟩)
theorem Rel.get(h:Rel X β ρ S a w){t:Nat}{e:En}(he:Kj S.env t=some e)(hc:Jt a e.cs) :
  ∃cs,a.tmps[t]?=some (e.av.val cs)∧cr β ρ (okR X β ρ S.mem w) w false e.av cs:=by
 have hr:=Qz3 he a
 obtain⟨hm,rfl⟩:=U1 he
 rw[←hr]
 exact(h.en hm).1 hc
theorem Rel.ev(h:Rel X β ρ S a w){cur:Y8}(hc:Jt a cur){x:Operand}{v:AV}(hx:ev S cur x=some v) :
  ∃cs,a.eval x=v.val cs∧cr β ρ (okR X β ρ S.mem w) w false v cs:=by
 cases x with
 | tmp t =>
  simp only[Gx.ev]at hx
  split at hx
  ·rename_i e he
   cases hb:Qwq e.cs cur with
   | false=>rw[hb]at hx; cases hx
   | true =>
    rw[hb]at hx
    simp at hx; subst hx
    obtain⟨cs,h1,h2⟩:=h.get he (Qej hb hc)
    exact⟨cs,by simp[Act.eval,h1],h2⟩
  ·cases hx
 | const v =>
  obtain⟨cs,h1,h2⟩:=Qpp (β:=β) (ρ:=ρ) (ok:=okR X β ρ S.mem w) (w:=w) hx
  exact⟨cs,h1,h2⟩
 | func f =>
  simp[Gx.ev]at hx; subst hx
  exact⟨[.func (.func f) #[] #[]],rfl,[],rfl,rfl⟩
 | global g =>
  simp only[Gx.ev]at hx
  split at hx
  ·rename_i e he
   cases hb:Qwq e.cs cur with
   | false=>rw[hb]at hx; cases hx
   | true =>
    rw[hb]at hx
    simp at hx; subst hx
    obtain⟨hm,ht⟩:=Qjz he
    obtain⟨cs,h1,h2⟩:=(h.en hm).1 (Qej hb hc)
    rw[ht,Q5h]at h1
    exact⟨cs,Option.some.inj h1,h2⟩
  ·cases hx
theorem Rel.act(h:Rel X β ρ S a w){env':List En}(hs:a'.tmps.size=a.tmps.size)(hd:a'.defers=a.defers)(hr:∀t∈X.res,a'.tmps[t]?=a.tmps[t]?)
  (he:∀e∈env',(enD β ρ a' e).p (okR X β ρ S.mem w) w):Rel X β ρ ⟨env',S.mem⟩ a' w :=
 {sz:=hs.trans h.sz,df:=hd.trans h.df,fr:=fun t ht=>(hr t ht).trans (h.fr t ht),pn:=h.pn,tm:=by simp,bel:=h.bel,
  dat:=Jf.2 fun d hd=>by obtain⟨e,hm,rfl⟩:=QY.1 hd; exact he e hm,
  obj:=h.obj,own:=h.own,dHH:=h.dHH,dHO:=h.dHO,dOO:=h.dOO }
theorem Y5{d t:Nat}(hne:t≠d)(v:Value):(a.put (some d) v).tmps[t]?=a.tmps[t]?:=by
 have:d≠t:=fun e=>hne e.symm
 simp[Act.put,this]
theorem Qh1{d t:Nat}(hne:t≠d)(v:Value):rd (a.put (some d) v) t=rd a t:=by
 unfold rd
 rw[Y5 hne]
theorem en_put(h:Rel X β ρ S a w){d:Nat}(v:Value){e:En}(he:e∈Jr S.env d):(enD β ρ (a.put (some d) v) e).p (okR X β ρ S.mem w) w:=by
 obtain⟨h1,h2,h3⟩:=Fv he
 have hcc:Jt (a.put (some d) v) e.cs↔Jt a e.cs:=⟨fun hc c hm=>by rw[←Y5 (h3 c hm) v]; exact hc c hm,fun hc c hm=>by rw[Y5 (h3 c hm) v]; exact hc c hm⟩
 refine⟨fun hc=>?_,?_⟩
 ·obtain⟨cs,h4,h5⟩:=(h.en h1).1 (hcc.1 hc)
  exact⟨cs,by rw[Qh1 h2]; exact h4,h5⟩
 ·rw[hcc,Qh1 h2]; exact(h.en h1).2
theorem Rel.put(h:Rel X β ρ S a w){d:Nat}(hd:okD X d=true){cs:Y8}{x:AV}{v:Value}
  (hx:Jt (a.put (some d) v) cs→∃c,v=x.val c∧cr β ρ (okR X β ρ S.mem w) w false x c) (hu:Jt (a.put (some d) v) cs∨v=undef):Rel X β ρ (S.put d cs x) (a.put (some d) v) w:=by
 refine h.act (by simp[Act.put]) rfl (fun k hk=>Y5 (fun(e:k=d)=>Qwi hd (e▸hk)) v) fun e he=>?_
 rcases QX.1 he with rfl | he
 ·refine⟨fun hc=>?_,hu.imp id fun e=>by rw[Lx (Rg hd)]; simp[Act.put,h.sz,Tl hd,e]⟩
  obtain⟨c,h1,h2⟩:=hx hc
  exact⟨c,by rw[Lx (Rg hd)]; simp[Act.put,h.sz,Tl hd,h1],h2⟩
 ·exact en_put h v he
theorem Rel.del(h:Rel X β ρ S a w){d:Nat}(hd:okD X d=true)(v:Value):Rel X β ρ (S.del d) (a.put (some d) v) w :=
 h.act (by simp[Act.put]) rfl (fun k hk=>Y5 (fun(e:k=d)=>Qwi hd (e▸hk)) v) fun e he=>en_put h v he
theorem Rel.less(h:Rel X β ρ S a w){env':List En}(he:∀e∈env',e∈S.env):Rel X β ρ ⟨env',S.mem⟩ a w :=
 h.act rfl rfl (fun _ _=>rfl) fun e hm=>h.en (he e hm)
theorem Qc(a:Act):Jt a []:=fun _ h=>by cases h
theorem Rel.put0(h:Rel X β ρ S a w){d:Nat}(hd:okD X d=true){x:AV}{c:List Value}(hx:cr β ρ (okR X β ρ S.mem w) w false x c):Rel X β ρ (S.put d [] x) (a.put (some d) (x.val c)) w :=
 h.put hd (fun _=>⟨c,rfl,hx⟩) (.inl (Qc _))
def Qe:List (Nat×Ob)→Nat→Option Ob
 | [],_=>none
 | q::l,t=>bif Nat.beq q.1 t then some q.2 else Qe l t
def Nu:List (Nat×Ob)→Nat→Ob→List (Nat×Ob)
 | [],_,_=>[]
 | q::l,t,o=>bif Nat.beq q.1 t then(t,o)::l else q::Nu l t o
def Ju:List (Nat×Ob)→Nat→List (Nat×Ob)
 | [],_=>[]
 | q::l,t=>bif Nat.beq q.1 t then l else q::Ju l t
theorem Ji:∀{l:List (Nat×Ob)} {t:Nat} {o:Ob},Qe l t=some o→∃l1 l2,l=l1++(t,o)::l2∧(∀o',Nu l t o'=l1++(t,o')::l2)∧Ju l t=l1++l2
 | q::l,t,o,h=>by
  simp only[Qe]at h
  cases hb:Nat.beq q.1 t with
  | true =>
   rw[hb]at h
   simp at h
   have:=QJ hb
   subst h; subst this
   exact⟨[],l,rfl,fun o'=>by simp[Nu,hb],by simp[Ju,hb]⟩
  | false =>
   rw[hb]at h
   obtain⟨l1,l2,h1,h2,h3⟩:=Ji h
   exact⟨q::l1,l2,by rw[h1]; rfl,fun o'=>by simp[Nu,hb,h2 o'],by simp[Ju,hb,h3]⟩
theorem Rel.ob(h:Rel X β ρ S a w){id:Nat}{o:Ob}(ho:Qe S.mem id=some o) :
  (Qw β ρ id o).p (okR X β ρ S.mem w) w∧∀g,(Qw β ρ id o).blks g→X.mine g:=by
 obtain⟨l1,l2,h1,_⟩:=Ji ho
 exact h.own _ (by rw[h1]; simp[Qf])
end
end Gx

/- Rows of the call's own whose elements are written. -/
import Derived.Test.YtpdhjildhjpjdaaGreatGCore
import Derived.Laws.MakeOwn
import Derived.ProofKit
import Derived.OpenShut
import Derived.Below
import Derived.ChangeSame
import Derived.MapKept
namespace Gd
open Go Go.RowKit
set_option linter.unusedVariables false
set_option linter.unusedSimpArgs false
theorem Be{τ:Type}{r:RT τ}{ok:Ok}{w w':World}{xs:List τ}{cs:List Value}(h:Wd r ok w xs cs)(he:Evo ok w w'):Wd r ok w' xs cs:=((Jiu xs.length r).evo (x:=xs) ⟨rfl,h⟩ he).2
theorem Gi{τ:Type}{r:RT τ}{ok ok':Ok}{w:World}{xs:List τ}{cs:List Value}(h:Wd r ok w xs cs)(hk:∀b o,ok b o→ok' b o):Wd r ok' w xs cs:=((Jiu xs.length r).weak (x:=xs) ⟨rfl,h⟩ hk).2
theorem Qwt{τ:Type}{r:RT τ}{ok:Ok}{w:World}{xs:List τ}{cs:List Value}(h:Wd r ok w xs cs):∀c∈cs,c.oneCell'=true:=(Jiu xs.length r).flat (x:=xs) ⟨rfl,h⟩
def ml{τ:Type}(v:Value)(e:Nat)(r:RT τ)(xs:List τ):TL where
 blks:=fun g=>v.ownBlock=some g
 cov:=fun b _=>v.ownBlock=some b
 cb:=fun h=>h
 p:=fun ok w=>Wl v=xs.length∧∃cs,w.ownsRowS 0 e r.size v (Wl v) cs∧Wd r ok w xs cs
 keep:=fun⟨h1,cs,h2,h3⟩ hb he=>⟨h1,cs,Qcd h2 hb,Be h3 he⟩
 weak:=fun⟨h1,cs,h2,h3⟩ hk=>⟨h1,cs,h2,Gi h3 hk⟩
 lt:=fun⟨_,_,h,_⟩ g hg=>(h.lt g hg).2
theorem Bf{τ:Type}{r:RT τ}{ok:Ok}{w:World}:∀{xs:List τ} {cs:List Value},Wd r ok w xs cs→∀{i:Nat} {y:τ},xs[i]?=some y→r.rep ok w y ((cs.drop (i*r.size)).take r.size)
 | x::xs,cs,⟨c1,c2,e,h1,h2⟩,i,y,hy=>by
  subst e
  have hl:=r.len h1
  cases i with
  | zero =>
   grind
  | succ i =>
   simp at hy
   have:=Bf h2 hy
   have e:(c1++c2).drop ((i+1)*r.size)=c2.drop (i*r.size):=by
    rw[Nat.add_mul,ZH,XC,←hl,←List.drop_drop,List.drop_left,hl]
   rw[e]; exact this
theorem Ji1{τ:Type}{r:RT τ}{ok:Ok}{w:World}{e:Nat}{xs:List τ}{A:Option Addr}{m c:Nat}(h:(ml (.slice A m c) e r xs).p ok w):Q3c r ok w xs A m c:=by
 obtain⟨hl,cs,hown,hr⟩:=h
 have hm:Wl (.slice A m c)=m:=rfl
 rw[hm]at hl hown
 have hrep:∀i x,xs[i]?=some x→∃ds,r.rep ok w x ds∧∀(j:Nat) u,ds[j]?=some u→cs[i*r.size+j]?=some u:=fun i x hx=>by
  refine⟨_,Bf hr hx,fun j u hu=>?_⟩
  rw[JV]at hu
  grind
 rcases hown.2 with⟨hv,h0⟩ | ⟨g,cap,cur,fz,hv,_,_,_,hle,_⟩
 ·injection hv with e1 e2 e3
  exact⟨cs,hown.1,hl.symm,by omega,fun _=>h0,Qwt hr,fun h=>absurd h (by omega),hrep⟩
 ·have hg:(Value.slice A m c).ownBlock=some g:=by rw[hv]; rfl
  have hcell:=hown.cells hg
  injection hv with e1 e2 e3
  exact⟨cs,hown.1,hl.symm,by omega,(fun h=>absurd (e1.symm.trans h) (by simp)),Qwt hr,fun _=>⟨g,0,e1,fun j u hu=>by rw[←E0]; grind⟩,hrep⟩
theorem Qr9{τ:Type}{r:RT τ}{ok:Ok}{w:World}:∀{xs:List τ} {cs:List Value},Wd r ok w xs cs→∀{i:Nat} {z:τ} {ds:List Value},i<xs.length→r.rep ok w z ds →
  Wd r ok w (xs.set i z) (cs.take (i*r.size)++ds++cs.drop (i*r.size+ds.length))
 | x::xs,cs,⟨c1,c2,e,h1,h2⟩,i,z,ds,hi,hz=>by
  subst e
  have hl:=r.len h1
  have hd:=r.len hz
  cases i with
  | zero =>
   refine⟨ds,c2,?_,hz,h2⟩
   grind
  | succ i =>
   refine⟨c1,_,?_,h1,Qr9 h2 (by simpa using hi) hz⟩
   have e1:(i+1)*r.size=c1.length+i*r.size:=by rw[Nat.add_mul,hl]; omega
   rw[e1,XG,List.append_assoc,List.append_assoc,List.append_assoc,JI,List.take_of_length_le (by omega)]
   grind [Nat.add_assoc,List.drop_drop,List.drop_left]
theorem R2{τ:Type}{r:RT τ}{ok:Ok}{w:World}:∀{xs ys:List τ} {cs ds:List Value},Wd r ok w xs cs→Wd r ok w ys ds→Wd r ok w (xs++ys) (cs++ds)
 | [],ys,cs,ds,h,h2=>by grind [Wd]
 | x::xs,ys,cs,ds,⟨c1,c2,e,h1,h3⟩,h2=>by subst e; exact⟨c1,c2++ds,by rw[List.append_assoc],h1,R2 h3 h2⟩
theorem Qlc{τ:Type}{r:RT τ}{ok:Ok}{w:World}:∀(xs:List τ) (cs:List Value),cs.length=xs.length*r.size→(∀i x,xs[i]?=some x→∃ds,r.rep ok w x ds∧∀(j:Nat) u,ds[j]?=some u→cs[i*r.size+j]?=some u)→Wd r ok w xs cs
 | [],cs,hl,_=>by simp_all [Wd,QH]
 | x::xs,cs,hl,h=>by
  obtain⟨ds,hr,hd⟩:=h 0 x rfl
  have hdl:=r.len hr
  have hl':cs.length=r.size+xs.length*r.size:=by rw[hl]; grind
  refine⟨ds,cs.drop r.size,?_,hr,Qlc xs _ (by simp; omega) fun i y hy=>?_⟩
  ·have:cs.take r.size=ds:=by
    apply JL
    grind
   rw[←this,List.take_append_drop]
  ·obtain⟨es,he,hc⟩:=h (i+1) y (by simpa using hy)
   grind
section
variable {P:Program} {T:Tab} {β:Nat→Nat} {X:Cx} {G:GL} {D:List DF} {H:HL} {O:List TL} {a:Act} {w w':World}
variable {ops:Array Oper} {Q:Exit→Act→World→Prop} {rest:List Oper}
theorem Sb.mget(h:Sb β X G D H O a w){τ:Type}{r:RT τ}{xs:List τ}{A:Option Addr}{m c:Nat}{e:Nat}(hm:ml (.slice A m c) e r xs∈O){j:Int}{y:τ}(hy:idx xs j=some y)(hpos:0<r.size) :
  ∃g cap cur fz,A=some ⟨g,0,none⟩∧(w.heap[g]?=some (.cells cur e fz)∧Qzh fz cur.size)∧m=xs.length∧j.toNat<m∧m≤cap∧cap*r.size≤cur.size∧c=cap∧cap≤maxLen ∧
   Wd r (Jn X.ok X.w.heap.size β H O w) w xs (cur.toList.take (m*r.size)):=by
 obtain⟨⟨hl,cs,hown,hr⟩,_⟩:=h.own _ hm
 obtain⟨h0,h1⟩:=Hg hy
 have hlt:=(List.getElem?_eq_some_iff.1 h1).1
 simp only[Wl]at hl hown
 rcases hown.2 with⟨hv,h0⟩ | ⟨g,cap,cur,fz,hv,_,hh,hfz,hle,hcm,hcs,htk⟩
 ·omega
 ·injection hv with e1 e2 e3
  exact⟨g,cap,cur,fz,e1,⟨hh,hfz⟩,hl,by omega,hle,hcs,e3,hcm,by rw[htk]; exact hr⟩
theorem Qwu{cur:Array Value}{g e:Nat}{fz:Nat×Nat}(hh:w.heap[g]?=some (.cells cur e fz))(i:Nat):w.cell? ⟨g,i,none⟩=cur.toList[i]?:=by
 simp[World.cell?,hh]
theorem Je9(L ds:List Value){a s M off:Nat}(h1:a+s≤M)(h2:off+ds.length≤s)(h3:M≤L.length) :
  ((L.take (a+off)++ds++L.drop (a+off+ds.length)).take M) =
   (L.take M).take a++(((L.drop a).take s).take off++ds++((L.drop a).take s).drop (off+ds.length))++(L.take M).drop (a+s):=by
 apply JL
 intro i
 simp only[List.getElem?_append,JV,JW,List.length_append,List.length_take,List.length_drop]
 grind
theorem Sb.upd(h:Sb β X G D H O a w){O1 O2:List TL}{t t':TL}(hO:O=O1++t::O2)(hos:w'.os=w.os)(htp:w'.tape=w.tape)(hout:w'.output=w.output)(hsz:w.heap.size≤w'.heap.size)
  (hblk:∀b,b<w.heap.size→¬ t.blks b→w'.heap[b]?=w.heap[b]?) (hcov:∀b o,t.blks b→t.cov b o) (hb':∀g,t'.blks g→t.blks g∨w.heap.size≤g)
  (hp:Evo (Jn X.ok X.w.heap.size β H O w) w w'→(∀b o,Jn X.ok X.w.heap.size β H O w b o→Jn X.ok X.w.heap.size β H (O1++t'::O2) w' b o)→t'.p (Jn X.ok X.w.heap.size β H (O1++t'::O2) w') w') :
  Sb β X G D H (O1++t'::O2) a w':=by
 subst hO
 have hmem:t∈O1++t::O2:=by simp
 have hmine:=(h.own _ hmem).2
 have hevo:Evo (Jn X.ok X.w.heap.size β H (O1++t::O2) w) w w':=Evo.of_blocks hsz fun b o hk=>hblk b hk.2.1 fun hb=>hk.2.2.2 t hmem (hcov b o hb)
 have hok:∀b o,Jn X.ok X.w.heap.size β H (O1++t::O2) w b o→Jn X.ok X.w.heap.size β H (O1++t'::O2) w' b o:=by
  rintro b o ⟨h1,h2,h3,h4⟩
  refine⟨h1,QC h2 hsz,h3,fun u hu hc=>?_⟩
  rcases QZ.1 hu with hu | hu
  ·grind
  ·rcases QX.1 hu with rfl | hu
   ·rcases hb' b (u.cb hc)with hb | hb
    ·grind
    ·omega
   grind
 have hpw:=QA.1 h.dOO
 have hpw2:=List.pairwise_cons.1 hpw.2.1
 have hoth:∀u∈O1++O2,∀g,u.blks g→¬ t.blks g∧g<w.heap.size:=by
  intro u hu g hg
  refine⟨fun hb=>?_,h.olt (by rcases QZ.1 hu with hu | hu<;>simp[hu]) hg⟩
  grind
 have hnew:∀u∈O1++O2,∀g,u.blks g→¬ t'.blks g:=by
  grind
 refine { sz:=h.sz,df:=h.df,fr:=h.fr,pn:=h.pn,tm:=h.tm,bel:=?_,dat:=(h.dat.evo hevo).weak hok,obj:=?_,own:=?_,dHH:=h.dHH,dHO:=?_,dOO:=?_ }
 ·exact h.bel.trans ⟨hos,htp,hout,hsz,fun k hk hn=>hblk k (QC hk h.bel.size) fun hb=>(hmine k hb).elim (fun h=>by omega) hn⟩
 ·intro p hp'
  refine⟨?_,(h.obj p hp').2⟩
  rw[hblk _ (h.hlt hp') (h.dHO p hp' t hmem)]
  exact(h.obj p hp').1
 ·intro u hu
  have keep:∀u∈O1++O2,u.p (Jn X.ok X.w.heap.size β H (O1++t'::O2) w') w'∧∀g,u.blks g→X.mine g:=by
   intro u hu
   have hu':u∈O1++t::O2:=by rcases QZ.1 hu with hu | hu<;>simp[hu]
   exact⟨u.weak (u.keep (h.own u hu').1 (fun g hg=>hblk g (hoth u hu g hg).2 (hoth u hu g hg).1) hevo) hok,(h.own u hu').2⟩
  rcases QZ.1 hu with hu | hu
  ·grind
  ·rcases QX.1 hu with rfl | hu
   ·exact⟨hp hevo hok,fun g hg=>(hb' g hg).elim (hmine g) fun hb=>.inl (QY h.bel.size hb)⟩
   grind
 ·intro p hp' u hu
  rcases QZ.1 hu with hu | hu
  ·exact h.dHO p hp' u (by simp[hu])
  ·rcases QX.1 hu with rfl | hu
   ·intro hb
    rcases hb' _ hb with hb | hb
    ·exact h.dHO p hp' t hmem hb
    ·have:=h.hlt hp'; omega
   ·exact h.dHO p hp' u (by simp[hu])
 ·refine QA.2 ⟨hpw.1,List.pairwise_cons.2 ⟨fun u hu g hg hg2=>hnew u (by simp[hu]) g hg2 hg,hpw2.2⟩,?_⟩
  grind
theorem Sb.mset(h:Sb β X G D H O a w)(O1 O2:List TL){τ:Type}{r:RT τ}{xs:List τ}{m c g:Nat}{j:Int}{y z:τ}{e:TypeId}
  (hO:O=O1++ml (.slice (some ⟨g,0,none⟩) m c) e r xs::O2) (hy:idx xs j=some y) (hpos:0<r.size) {off:Nat} {ds:List Value} (hoff:off+ds.length≤r.size) (h1:∀d∈ds,d.oneCell'=true)
  (hz:∀es,r.rep (Jn X.ok X.w.heap.size β H O w) w y es→r.rep (Jn X.ok X.w.heap.size β H O w) w z (es.take off++ds++es.drop (off+ds.length))) :
  ∃cur fz,(w.heap[g]?=some (.cells cur e fz)∧Qzh fz cur.size)∧j.toNat*r.size+off+ds.length≤cur.size ∧
   Sb β X G D H (O1++ml (.slice (some ⟨g,0,none⟩) m c) e r (xs.set j.toNat z)::O2) a (w.setRow g (cur.toList.take (j.toNat*r.size+off)++ds++cur.toList.drop (j.toNat*r.size+off+ds.length)).toArray):=by
 have hmem:ml (.slice (some ⟨g,0,none⟩) m c) e r xs∈O:=by rw[hO]; simp
 obtain⟨g',cap,cur,fz,hA,⟨hh,hfz⟩,hm,hj,hle,hcs,hc,hcm,hr⟩:=h.mget hmem hy hpos
 injection hA with hA; injection hA with hA; subst hA
 have hj1:(j.toNat+1)*r.size≤m*r.size:=QB _ hj
 have hj2:m*r.size≤cap*r.size:=QB _ hle
 rw[Nat.add_mul]at hj1
 have hcl:cap*r.size≤cur.toList.length:=by simpa using hcs
 have hlen:j.toNat*r.size+off+ds.length≤cur.size:=by omega
 refine⟨cur,fz,⟨hh,hfz⟩,hlen,?_⟩
 have hset:=setRow_heap w g cur (cur.toList.take (j.toNat*r.size+off)++ds++cur.toList.drop (j.toNat*r.size+off+ds.length)).toArray e _ hh
 refine h.upd (t':=ml (.slice (some ⟨g,0,none⟩) m c) e r (xs.set j.toNat z)) hO rfl rfl rfl (by simp) (fun b hb hn=>setRow_other _ _ _ _ fun e=>hn (by subst e; rfl)) (fun b o hb=>hb) (fun g hg=>.inl hg) fun hevo hok=>?_
 have hrep:=Bf hr (Hg hy).2
 have hdrop:(cur.toList.take (m*r.size)).drop (j.toNat*r.size)=(cur.toList.drop (j.toNat*r.size)).take (m*r.size - j.toNat*r.size):=by rw[List.drop_take]
 have e1:((cur.toList.take (m*r.size)).drop (j.toNat*r.size)).take r.size=(cur.toList.drop (j.toNat*r.size)).take r.size:=by
  rw[hdrop,ZJ]; congr 1; omega
 rw[e1]at hrep
 have hnew:=hz _ hrep
 have hL:((cur.toList.drop (j.toNat*r.size)).take r.size).length=r.size:=r.len hrep
 refine⟨by simp[Wl,hm],_,⟨?_,.inr ⟨g,cap,_,fz,by rw[hc]; rfl,QO _,hset,by rw[JD,List.length_append,List.length_append,List.length_take,List.length_drop,Nat.min_eq_left (by omega),show j.toNat*r.size+off+ds.length+(cur.toList.length - (j.toNat*r.size+off+ds.length))=cur.size by simp; omega]; exact hfz,hle,hcm,by rw[JD,List.length_append,List.length_append,List.length_take,List.length_drop]; omega,rfl⟩⟩,?_⟩
 ·grind [Wl,List.length_take,List.length_append,List.length_drop]
 ·have h2:=Qr9 (Gi (Be hr hevo) hok) (i:=j.toNat) (z:=z) (by omega) (r.weak (r.evo hnew hevo) hok)
  simp only[Wl]
  have hfin:=Je9 cur.toList ds (a:=j.toNat*r.size) (s:=r.size) (M:=m*r.size) (off:=off) (by omega) hoff (by omega)
  rw[hfin]
  have hlen2:(List.take off (List.take r.size (List.drop (j.toNat*r.size) cur.toList))++ds++List.drop (off+ds.length) (List.take r.size (List.drop (j.toNat*r.size) cur.toList))).length=r.size:=by
   simp; omega
  rw[hlen2]at h2
  exact h2
def mkL{α:Type}(bytes:Nat)(l c:Int)(z:α):Option (List α):=if 0≤l∧l≤c∧(bytes:Int)*c≤281474976710656 then some (List.replicate l.toNat z)else none
theorem Qsa(zc:List Value):∀l:Nat,((List.range (l*zc.length)).map fun j=>zc.getD (j % zc.length) undef)=(List.replicate l zc).flatten
 | 0=>by simp
 | l+1=>by
  rw[Nat.add_mul,ZH,List.range_add,QD,Qsa zc l,List.replicate_succ',KZ]
  congr 1
  simp only[ZQ,List.flatten_cons,List.flatten_nil,QG]
  apply List.ext_getElem
  ·simp
  simp_all [ZF,List.getElem_range,Function.comp,XH,Nat.mul_add_mod,ZA]
theorem Q3e{τ:Type}{r:RT τ}{ok:Ok}{z:τ}{zc:List Value}(h:r.rep ok w z zc):∀l,Wd r ok w (List.replicate l z) (List.replicate l zc).flatten
 | 0=>by simp[Wd]
 | l+1=>⟨zc,(List.replicate l zc).flatten,by grind,h,Q3e h l⟩
theorem Jfa(hT:Qy P T)(h:Sb β X G D H O a w){t:TypeId}{lo co:Operand}{d:Nat}{ps:String}{af:Array Edge}{ty:TypeId}{gd:Option (Nat×Bool)}
  (hg:Dc ops G ⟨some d,.makeSlice t lo co,ty,ps,af,gd⟩=some true) (hlt:okD X d=true)
  {τ:Type} {r:RT τ} {z:τ} {zs:List τ} {kl kc:IntKind} {l c:Int} {e:TypeId} {te ee:TE} (ht:Qi T t=some te) (htd:te.d=.slice e) (he:Qi T e=some ee) (hs:ee.size=r.size)
  (hzl:Nat.beq (Qr ee.z).length ee.size=true) (hby:Nat.ble 1 ee.bytes=true) (hz:∀ok w,r.rep ok w z (Qr ee.z))
  (hl:gv G lo=some (.v (.int kl l))) (hc:gv G co=some (.v (.int kc c))) (hmk:mkL ee.bytes l c z=some zs)
  (hk:∀b a' w',Sb β X (Qcc G d (.v (.slice (some ⟨b,0,none⟩) zs.length c.toNat))) D H (ml (.slice (some ⟨b,0,none⟩) zs.length c.toNat) e r zs::O) a' w'→wpList P ops Q rest a' w') :
  wpList P ops Q (⟨some d,.makeSlice t lo co,ty,ps,af,gd⟩::rest) a w:=by
 unfold mkL at hmk
 split at hmk
 ·rename_i hcd
  obtain⟨h0,h1,h2⟩:=hcd
  have hzs:zs=List.replicate l.toNat z:=(Option.some.inj hmk).symm
  have hlen:zs.length=l.toNat:=by rw[hzs]; simp
  have hu:P.underlying t=some (.slice e):=by rw[(Jr hT ht).2,htd]
  obtain⟨i,hi,hz',hsi,hbi⟩:=Hf hT he
  have hby':1≤ee.bytes:=QV hby
  have hc63:c≤281474976710656:=by
   have:(1:Int)*c≤(ee.bytes:Int)*c:=Int.mul_le_mul_of_nonneg_right (by omega) (by omega)
   omega
  have hzz:=Nat.eq_of_beq_eq_true hzl
  have hr:=run_make (P:=P) w t e i ee.z hu hi hz' kl kc l c h0 h1 (by rw[hbi]; exact h2) (by omega)
  have hrun:(execOp a.eval ⟨some d,.makeSlice t lo co,ty,ps,af,gd⟩).run P w=.ok (.value (.slice (some ⟨w.heap.size,0,none⟩) zs.length c.toNat)) (w.alloc (.cells (madeCells ee.z.cells (c.toNat*i.size)) e)):=by
   unfold execOp
   simp only[h.ev hl,h.ev hc,Mp]
   simp[hr,hlen]
  refine Jm (Xp h hg) (Ym hrun ?_)
  have hb:Below w.heap.size w (w.alloc (.cells (madeCells ee.z.cells (c.toNat*i.size)) e)):=(Below.refl _ _).alloc (QU _) _
  have hcells:(madeCells ee.z.cells (c.toNat*i.size)).toList=(List.replicate c.toNat (Qr ee.z)).flatten:=by
   rw[←Qsa,hzz,hsi]
   unfold madeCells
   rw[V2]at hzz ⊢
   simp only[Array.toList_map,Array.toList_range]
   grind [List.map_congr_left,Nat.eq_zero_or_pos,Nat.mod_lt,List.getElem?_eq_getElem]
  refine hk _ _ _ ((h.allocTL hb (t:=ml (.slice (some ⟨w.heap.size,0,none⟩) zs.length c.toNat) e r zs) (fun g hg=>?_) ⟨rfl,(List.replicate l.toNat (Qr ee.z)).flatten,⟨?_,.inr ⟨w.heap.size,c.toNat,_,(0,0),rfl,QO _,heap_alloc_new w _,.inl rfl,?_,?_,?_,?_⟩⟩,?_⟩).put hlt (.v _))
  ·have hg:some w.heap.size=some g:=hg
   grind
  ·simp_all [Wl]
  ·grind [Wl]
  ·rw[Df]; omega
  ·grind [Nat.le_of_eq,size_madeCells]
  ·simp only[Wl]
   rw[hcells,hlen]
   have e1:c.toNat=l.toNat+(c.toNat - l.toNat):=by omega
   rw[e1,←List.replicate_append_replicate,KZ]
   have e2:l.toNat*r.size=(List.replicate l.toNat (Qr ee.z)).flatten.length:=by simp[hzz,hs]
   rw[e2,List.take_left]
  grind [Q3e]
 ·cases hmk
end
end Gd

/- Rows that are appended to, frozen, lent to a call. -/
namespace Gd
open Go Go.RowKit
set_option linter.unusedVariables false
set_option linter.unusedSimpArgs false
section
variable {P:Program} {T:Tab} {β:Nat→Nat} {X:Cx} {G:GL} {D:List DF} {H:HL} {O:List TL} {a:Act} {w w':World}
variable {ops:Array Oper} {Q:Exit→Act→World→Prop} {rest:List Oper}
theorem Sb.addNilM(h:Sb β X G D H O a w)(e:Nat){τ:Type}(r:RT τ):Sb β X G D H (ml (.slice none 0 0) e r []::O) a w :=
 h.allocTL (Below.refl _ _) (fun g hg=>by have hg:(none:Option Nat)=some g:=hg; cases hg) ⟨rfl,[],World.ownsRowS_nil _ _ _ _,rfl⟩
theorem Sb.freeze(h:Sb β X G D H O a w){τ:Type}{r:RT τ}{xs:List τ}{A:Option Addr}{c:Nat}{e:Nat}{O2:List TL}(hO:O=ml (.slice A xs.length c) e r xs::O2)(hpos:Nat.ble 1 r.size=true) :
  Sb β X G (DF.v (rSl r) xs (.slice A xs.length c)::D) H (tl (.slice A xs.length c) e r.size::O2) a w:=by
 subst hO
 have hmem:ml (.slice A xs.length c) e r xs∈ml (.slice A xs.length c) e r xs::O2:=.head _
 obtain⟨⟨hl,cs,hown,hr⟩,hmine⟩:=h.own _ hmem
 have hok:∀b o,Jn X.ok X.w.heap.size β H (ml (.slice A xs.length c) e r xs::O2) w b o→Jn X.ok X.w.heap.size β H (tl (.slice A xs.length c) e r.size::O2) w b o:=by
  rintro b o ⟨h1,h2,h3,h4⟩
  refine⟨h1,h2,h3,fun u hu hc=>?_⟩
  rcases QX.1 hu with rfl | hu
  ·exact h4 _ (.head _) hc.1
  grind
 have hpw:=List.pairwise_cons.1 h.dOO
 refine { sz:=h.sz,df:=h.df,fr:=h.fr,pn:=h.pn,tm:=h.tm,bel:=h.bel,dat:=⟨?_,h.dat.weak hok⟩,obj:=h.obj,own:=fun u hu=>?_,dHH:=h.dHH,dHO:=fun p hp u hu=>?_,dOO:=List.pairwise_cons.2 ⟨fun u hu g hg=>hpw.1 u hu g hg,hpw.2⟩ }
 ·refine U9.2 ⟨A,xs.length,c,rfl,rfl,?_,fun h0=>?_⟩
  ·rcases hown.2 with⟨hv,h0⟩ | ⟨g,cap,cur,fz,hv,_,_,_,hle,_⟩
   ·grind
   grind
  ·rcases hown.2 with⟨hv,h1⟩ | ⟨g,cap,cur,fz,hv,_,hh,hfz,hle,hcm,hcs,htk⟩
   ·grind
   ·injection hv with e1 e2 e3
    simp only[Wl]at hle htk
    refine⟨g,0,e1,fun i x hx=>?_⟩
    have hi:=(List.getElem?_eq_some_iff.1 hx).1
    have hrep:=Bf hr hx
    refine⟨_,r.weak hrep hok,fun j u hu=>?_⟩
    have hj:j<r.size:=by have:=(List.getElem?_eq_some_iff.1 hu).1; rw[r.len hrep]at this; exact this
    have hgb:(Value.slice A xs.length c).ownBlock=some g:=by rw[e1]; rfl
    rw[QW]
    refine⟨⟨X.mine_ok (hmine g hgb) _,Vg hh,fun p hp e2=>h.dHO p hp _ hmem (by rw[e2]; exact hgb),fun u' hu' hc=>?_⟩,?_⟩
    ·rcases QX.1 hu' with rfl | hu'
     ·have:=hc.2
      grind
     ·exact hpw.1 u' hu' g hgb (u'.cb hc)
    grind [Qwu,List.getElem?_take_of_lt]
 ·rcases QX.1 hu with rfl | hu
  ·exact⟨⟨cs,hown⟩,hmine⟩
  ·exact⟨u.weak (h.own u (.tail _ hu)).1 hok,(h.own u (.tail _ hu)).2⟩
 ·rcases QX.1 hu with rfl | hu
  ·exact fun hg=>(h.dHO p hp _ hmem) hg
  ·exact h.dHO p hp u (.tail _ hu)
theorem Qld(hT:Qy P T)(h:Sb β X G D H O a w)(O1 O2:List TL){t:TypeId}{s x:Operand}{d:Nat}{ps:String}{af:Array Edge}{ty:TypeId}{gd:Option (Nat×Bool)}
  (hg:Dc ops G ⟨some d,.call ⟨.builtin .append,⟨[s,x]⟩,⟨[t,t]⟩⟩,ty,ps,af,gd⟩=some true) (hlt:okD X d=true)
  {τ:Type} {r:RT τ} {xs ys zs:List τ} {A:Option Addr} {A2:Option Addr} {m c m2 c2:Nat} {e:TypeId} {te ee:TE} (ht:Qi T t=some te) (htd:te.d=.slice e) (he:Qi T e=some ee) (hs:ee.size=r.size)
  (hz:Nat.beq (Qr ee.z).length ee.size=true) (hsz:Nat.ble 1 ee.size=true) (hby:Nat.ble 1 ee.bytes=true)
  (hO:O=O1++ml (.slice A m c) e r xs::O2) (hs1:gv G s=some (.v (.slice A m c))) (hx1:gv G x=some (.v (.slice A2 m2 c2)))
  (hDy:Q3c r (Jn X.ok X.w.heap.size β H O w) w ys A2 m2 c2) (happ:app ee.bytes xs ys=some zs)
  (hk:∀A' c' a' w',Sb β X (Qcc G d (.v (.slice A' zs.length c'))) D H (O1++ml (.slice A' zs.length c') e r zs::O2) a' w'→wpList P ops Q rest a' w') :
  wpList P ops Q (⟨some d,.call ⟨.builtin .append,⟨[s,x]⟩,⟨[t,t]⟩⟩,ty,ps,af,gd⟩::rest) a w:=by
 obtain⟨hbytes,rfl⟩:=Qnb happ
 have hmem:ml (.slice A m c) e r xs∈O:=by rw[hO]; simp
 obtain⟨⟨hl,xs0,hown,hr⟩,hmine⟩:=h.own _ hmem
 obtain⟨csy,hcy1,hyl,hmc2,hA2,hcy2,hcy3,hcy4⟩:=hDy
 have hzl:=Nat.eq_of_beq_eq_true hz
 have hsz':0<ee.size:=QV hsz
 have hby':0<ee.bytes:=QV hby
 have hnews:∀ad,A2=some ad→∀j u,csy[j]?=some u→w.cell? (ad.add j)=some u:=by
  intro ad had j u hu
  have hj:=(List.getElem?_eq_some_iff.1 hu).1
  have hm2:0<m2:=by
   grind
  grind [E0]
 simp only[Wl]at hown hl
 rw[←hs]at hown
 obtain⟨v',w1,hrun,hown',hgrow,hblk⟩:=Qjs (P:=P) (w:=w) (ty:=ty) hT ht htd he hzl hsz' hby' hown (QO _) (k:=m2) (c:=c2) (A:=A2) (news:=csy) (by rw[hs]; exact hcy1) hA2 hnews hcy2 (by rw[hl,←hyl]; exact hbytes)
 have hrun':(execOp a.eval ⟨some d,.call ⟨.builtin .append,⟨[s,x]⟩,⟨[t,t]⟩⟩,ty,ps,af,gd⟩).run P w=.ok (.value v') w1:=by
  unfold execOp
  have hm:(Array.mk [s,x]).map a.eval=⟨[.slice A m c,.slice A2 m2 c2]⟩:=by simp[h.ev hs1,h.ev hx1,Mp]
  simp_all [resolve,invoke,builtin]
 have hform:∃A' c',v'=.slice A' (m+m2) c':=by
  rcases hown'.2 with⟨rfl,h0⟩ | ⟨g,cap,cur,fz,rfl,_⟩
  ·grind
  grind
 obtain⟨A',c',rfl⟩:=hform
 have hlen:m+m2=(xs++ys).length:=by rw[List.length_append,hl,hyl]
 refine Jm (Xp h hg) (Ym hrun' ?_)
 have hS:Sb β X G D H (O1++ml (.slice A' (m+m2) c') e r (xs++ys)::O2) a w1:=by
  refine h.upd hO hgrow.os hgrow.tape hgrow.output hgrow.size (fun b hb hn=>hgrow.block b hb fun e=>hn e.symm) (fun b o hb=>hb) (fun g hg=>?_) fun hevo hok=>?_
  ·rcases hblk with he1 | ⟨he1,_⟩
   ·exact .inl (by have hg:(Value.slice A' (m+m2) c').ownBlock=some g:=hg; rw[he1]at hg; exact hg)
   ·have hg:(Value.slice A' (m+m2) c').ownBlock=some g:=hg
    rw[he1]at hg; grind
  ·refine⟨hlen,xs0++csy,by rw[←hs]; exact hown',R2 (Gi (Be hr hevo) hok) (Gi (Be ?_ hevo) hok)⟩
   grind [Qlc]
 have:=hk A' c' (a.put (some d) (.slice A' (m+m2) c')) w1
 rw[←hlen]at this
 exact this (hS.put hlt (.v _))
end
end Gd
namespace Gd
open Go Go.RowKit
section
variable {P:Program} {T:Tab} {β:Nat→Nat} {X:Cx} {G:GL} {D:List DF} {H:HL} {O:List TL} {a:Act} {w w':World}
variable {ops:Array Oper} {Q:Exit→Act→World→Prop} {rest:List Oper}
def Jt7(v:Value):List Nat:=match v.ownBlock with
 | some g=>[g]
 | none=>[]
theorem Q3f{v:Value}{g:Nat}:g∈Jt7 v↔v.ownBlock=some g:=by
 unfold Jt7
 grind
def R0:Value→World→Prop:=fun v _=>v=.tuple ⟨[]⟩
def Qle(Ts:List TL)(L:List Nat)(ok:Ok)(w:World):Prop :=
 (∀t∈Ts,t.p ok w∧(∀g,t.blks g→g∈L)∧∀g o,t.blks g→¬ ok g o)∧(Ts.Pairwise fun s t=>∀g,s.blks g→¬ t.blks g)∧∀g∈L,∃t∈Ts,t.blks g
theorem Jfb{f:FuncId}{fn:Func}{c:Code}{vs:List Value}{R:Value→World→Prop}{ok:Ok}{n:Nat}{L:List Nat}{O:List TL}(hok:∀b o,ok b o→b<w.heap.size)
  (hf:P.funcs[f]?=some fn) (hb:fn.body=some c) (hn:fn.ntmps=n) (hle:Nat.ble vs.length n=true) {D:List DF} (hD:Qk5 ok w D) (hO:Qle O L ok w)
  (h:∀a,Sb (fun _=>0) (cxL L n ok w) (Q28 vs 0) D [] O a w→c.wp P (bodyPost P fn (Qzl L w R)) a w):Calls P f ⟨vs⟩ w (Qzl L w R):=by
 refine calls_of_wp hf hb (h _ ?_)
 have hle':=QV hle
 have hk:∀b o,ok b o→Jn (okL L ok) w.heap.size (fun _=>0) [] O w b o:=fun b o hbo=>⟨.inl (.inl hbo),hok b o hbo,by simp,fun t ht hc=>(hO.1 t ht).2.2 b o (t.cb hc) hbo⟩
 refine { sz:=by grind,df:=rfl,fr:=by simp,pn:=by simp,tm:=?_,bel:=Zt.refl _ _ _,dat:=hD.weak hk,obj:=by simp,own:=fun t ht=>⟨t.weak (hO.1 t ht).1 hk,fun g hg=>.inr ((hO.1 t ht).2.1 g hg)⟩,dHH:=by simp,dHO:=by simp,dOO:=hO.2.1 }
 intro p hp
 obtain⟨j,v,rfl,hv⟩:=Q29 hp
 have hj:=(List.getElem?_eq_some_iff.1 hv).1
 simp_all [QW,Mp,XY]
theorem Sb.melt0{A:Option Addr}{c e:Nat}{τ:Type}{r:RT τ}{O2:List TL}(h:Sb β X G D H (tl (.slice A 0 c) e r.size::O2) a w):Sb β X G D H (ml (.slice A 0 c) e r []::O2) a w:=by
 have hok:∀b o,Jn X.ok X.w.heap.size β H (tl (.slice A 0 c) e r.size::O2) w b o→Jn X.ok X.w.heap.size β H (ml (.slice A 0 c) e r []::O2) w b o:=by
  rintro b o ⟨h1,h2,h3,h4⟩
  refine⟨h1,h2,h3,fun u hu hc=>?_⟩
  rcases QX.1 hu with rfl | hu
  ·exact h4 _ (.head _) ⟨hc,by simp[Wl]⟩
  grind
 obtain⟨⟨cs,hown⟩,hmine⟩:=h.own _ (.head _)
 have hpw:=List.pairwise_cons.1 h.dOO
 have hcs:cs=[]:=by
  have:=hown.1
  simp_all [Wl,XT,QH]
 refine { sz:=h.sz,df:=h.df,fr:=h.fr,pn:=h.pn,tm:=h.tm,bel:=h.bel,dat:=h.dat.weak hok,obj:=h.obj,own:=fun u hu=>?_,dHH:=h.dHH,dHO:=fun p hp u hu=>?_,dOO:=List.pairwise_cons.2 ⟨fun u hu g hg=>hpw.1 u hu g hg,hpw.2⟩ }
 ·rcases QX.1 hu with rfl | hu
  ·exact⟨⟨rfl,cs,hown,by subst hcs; rfl⟩,hmine⟩
  ·exact⟨u.weak (h.own u (.tail _ hu)).1 hok,(h.own u (.tail _ hu)).2⟩
 ·rcases QX.1 hu with rfl | hu
  ·exact fun hg=>h.dHO p hp _ (.head _) hg
  ·exact h.dHO p hp u (.tail _ hu)
end
end Gd

/- Results of a call's own, as rows that will be written: for elements that hold no addresses. -/
namespace Gd
open Go Go.RowKit
set_option linter.unusedVariables false
set_option linter.unusedSimpArgs false
section
variable {P:Program} {T:Tab} {β:Nat→Nat} {X:Cx} {G:GL} {D:List DF} {H:HL} {O:List TL} {a:Act} {w w':World}
variable {ops:Array Oper} {Q:Exit→Act→World→Prop} {rest:List Oper}
end
end Gd

/- From a statement's arguments to typed values, and back to the statement. -/
namespace Gd
open Go Go.RowKit Go.WideShapes Go.ChangeShapes
set_option linter.unusedVariables false
set_option linter.unusedSimpArgs false
def Qlf{τ:Type}(P:Program)(r:RT τ)(t:TypeId)(good:τ→Prop):Prop :=
 P.cellsOf t=r.size∧(∀{w:World} {rc:Reach} {b:Nat} {v:Value},Value.okWide P w rc b t v→(r.agg=true→∃cs,v=.agg cs)∧(r.agg=false→∃c,v.cells=#[c]∧v=c)) ∧
 ∀{H:Type} (enc:TypeId×Value→H) (w:World) (n:Nat) (cs:List Value) (x:DataW H×List MemPlace),
  DataW.trod enc P w 0 (fun _=>true) true n t cs=some x→∃y,r.rep (lt w) w y cs∧good y
def Qwv(k:IntKind)(n:Int):Prop:=k.min≤n∧n≤k.max
def Ji2(s:Str):Prop:=s.length≤maxLen
def Jwf(_:Bool):Prop:=True
def Q3g{τ:Type}(g:τ→Prop)(l:List τ):Prop:=l.length≤maxLen∧∀x∈l,g x
section
variable {P:Program}
theorem Jfc{t:TypeId}{k:IntKind}(ht:P.underlying t=some (.int k))(hc:P.cellsOf t=1):Qlf P (Tb k) t (Qwv k):=by
 refine⟨hc,fun hv=>⟨fun h=>(nomatch h),fun _=>?_⟩,fun enc w n cs x h=>?_⟩
 ·obtain⟨n,rfl⟩:=okWide_int ht hv
  exact⟨_,rfl,rfl⟩
 ·obtain⟨m,rfl,_,hw⟩:=DataW.trod_int ht h
  exact⟨m,rfl,by grind [Lit.wf,Qwv]⟩
theorem Q88{t:TypeId}(ht:P.underlying t=some .bool)(hc:P.cellsOf t=1):Qlf P Qwp t Jwf:=by
 refine⟨hc,fun hv=>⟨fun h=>(nomatch h),fun _=>?_⟩,fun enc w n cs x h=>?_⟩
 ·obtain⟨n,rfl⟩:=okWide_bool ht hv
  exact⟨_,rfl,rfl⟩
 ·obtain⟨m,rfl,_⟩:=DataW.trod_bool ht h
  exact⟨m,rfl,trivial⟩
theorem Jfd{t:TypeId}(ht:P.underlying t=some .string)(hc:P.cellsOf t=1):Qlf P Jt6 t Ji2:=by
 refine⟨hc,fun hv=>⟨fun h=>(nomatch h),fun _=>?_⟩,fun enc w n cs x h=>?_⟩
 ·obtain⟨n,rfl⟩:=okWide_string ht hv
  exact⟨_,rfl,rfl⟩
 ·obtain⟨s,rfl,_,hs⟩:=DataW.trod_string ht h
  refine⟨s.data.toList,?_,by simp_all [Ji2]⟩
  show [Value.string s]=[Yl s.data.toList]
  simp[Yl]
theorem Qlf.fld{τ:Type}{r:RT τ}{t:TypeId}{g:τ→Prop}(ho:Qlf P r t g){H:Type}{enc:TypeId×Value→H}{w:World}{n:Nat}{cs:List Value}{fs:Array Field}{xs:List (DataW H×List MemPlace)}
  (hlen:xs.length=fs.size) (hf:∀(i:Nat) (f:Field),fs[i]?=some f→DataW.trod enc P w 0 (fun _=>true) true n f.type ((cs.drop f.offset).take (P.cellsOf f.type))=xs[i]?)
  (i:Nat) (o:Nat) {f:Field} (hi:fs[i]?=some f) (ht:f.type=t) (hof:f.offset=o):∃y,r.rep (lt w) w y ((cs.drop o).take r.size)∧g y:=by
 have h1:=hf i f hi
 have hlt:=(Array.getElem?_eq_some_iff.1 hi).1
 rw[List.getElem?_eq_getElem (by omega),ht,hof,ho.1]at h1
 exact ho.2.2 enc w n _ _ h1
end
section
variable {H:Type} {enc:TypeId×Value→H} {P:Program} {W:World} {base:Nat} {vs:List String}
theorem Qi1(hl:laidOutB P=true){W':World}{sp:Nat→Bool}:∀{ts:List TypeId} {vs:List Value} {ds:List (DataW H)} {ps:List MemPlace},
  (ts.all fun t=>P.readableRec t&&decide (t<P.types.size))=true→DataW.TrodAll enc P W 0 (fun _=>true) true ts vs ds ps→(∀p∈ps,W.sameAt W' p)→(∀p∈ps,sp p.block=true)→DataW.TrodAll enc P W' 0 sp true ts vs ds ps
 | [],[],[],_,_,h,_,_=>h
 | t::ts,v::vs,d::ds,ps,hr,⟨p,q,h,hs,e⟩,h1,h2=>by
  subst e
  simp only[JP,QQ,decide_eq_true_eq]at hr
  exact⟨p,q,WideElems.Trod_stays hl hr.1.1 hr.1.2 h (fun x hx=>h1 x (QZ.2 (.inl hx))) (fun x hx=>h2 x (QZ.2 (.inl hx))),
   Qi1 hl hr.2 hs (fun x hx=>h1 x (QZ.2 (.inr hx))) (fun x hx=>h2 x (QZ.2 (.inr hx))),rfl⟩
theorem Qo6{w:World}{sp:Nat→Bool}{hd:Bool}:∀{ts:List TypeId} {vs:List Value} {ds:List (DataW H)} {ps:List MemPlace},DataW.TrodAll enc P w base sp hd ts vs ds ps→ds.length=ts.length
 | [],[],[],_,_=>rfl
 | _::_,_::_,_::_,_,⟨_,_,_,hs,_⟩=>congrArg (·+1) (Qo6 hs)
theorem Ji3{f:FuncId}{fn:Func}{s:ChangeSpec}{args:Array Value}{ds gs:List (DataW H)}{before:List MemPlace}{tb:TypeId}
  (hres:fn.resultTypes=#[tb]) (hb:P.underlying tb=some .bool) (hv:s.vars=[]) (hlaid:laidOutB P=true)
  (hread:(fn.params.toList.all fun t=>P.readableRec t&&decide (t<P.types.size))=true)
  (hspec:∀d:List (DataW H),d.length=fn.params.size→s.fn H d={ results:=[.lit (.bool true)],args:=d })
  (hW:DataW.Whole enc P fn.params.toList s.vars false W args.toList ds gs before)
  (hcall:Calls P f args W (Ret W (R1 Qwp (lt W) W true))) :
  Calls P f args W fun e W'=>∃v,e=.returned v∧s.post enc P fn false true false false W args v W':=by
 have hW':=hW
 obtain⟨p,q,hA,hV,rfl,hfz,hnd⟩:=hW
 rw[hv]at hV
 obtain⟨rfl,rfl⟩:=trodVars_none hV
 have hlen:=Qo6 hA
 have hs:s.fn H (ds++[])={ results:=[.lit (.bool true)],args:=ds }:=by
  rw[QG]; grind
 refine hcall.mono ?_
 rintro e W' ⟨v,rfl,hr,hbel⟩
 have hbel:=hbel.nil
 obtain rfl:=Qrz.1 hr
 simp only[QG]at hW'
 have hlt:∀p'∈p,p'.block<W.heap.size:=fun p' hp=>hW'.lt p' hp
 refine⟨_,rfl,?_⟩
 refine⟨ds,[],p,[],p,[],hW',?_,?_,?_,World.keptBut_mono (fun p' hp=>⟨hp,by simpa using hp⟩) (hbel.frame (·∈p)),fun h=>by cases h⟩
 ·rw[hs,hres]
  exact trodAll_mk1 (shut_bool hb _)
 ·rw[hs]
  exact Qi1 hlaid hread hA (fun x hx=>hbel.same (hlt x hx)) (fun x hx=>by grind)
 ·rw[hs,hv]
  rfl
end
end Gd

/- Plain facts on the functions that the texts are written with. -/
namespace Gd
open Go
set_option linter.unusedVariables false
set_option linter.unusedSimpArgs false
theorem Q5{n:Int}(h0 : -9223372036854775808≤n)(h1:n<9223372036854775808):IntKind.wrap .i64 n=n:=by
 grind [IntKind.wrap,Int,IntKind.bits,IntKind.signed]
theorem Jfe(n:Int):IntKind.wrap .i64 n=(if(9223372036854775808:Int)≤n % 18446744073709551616 then n % 18446744073709551616 - 18446744073709551616 else n % 18446744073709551616):=by
 simp[IntKind.wrap,IntKind.bits,IntKind.signed]
theorem Jff{i:Nat}(h:i<maxLen):IntKind.wrap .i64 ((i:Int)+1)=((i+1:Nat):Int):=by
 rw[Df]at h
 rw[Q5 (by omega) (by omega)]
 omega
theorem Jbr{α:Type}{l:List α}{i:Nat}{x:α}(h:l[i]?=some x):idx l (i:Int)=some x:=by
 simp[idx,h]
end Gd

/- Types of data, abstract values, what they mean. -/
namespace Gx
open Go Go.RowKit Gd
set_option linter.unusedVariables false
set_option linter.unusedSimpArgs false
inductive K9(α:Type) where
 | mk (x:α) (ks:List (K9 α))
def K9.x{α:Type}:K9 α→α
 | .mk x _=>x
def K9.ks{α:Type}:K9 α→List (K9 α)
 | .mk _ ks=>ks
inductive Ty where
 | int (k:IntKind) | bool | str
 | sl (e:Ty) | arr (n:Nat) (e:Ty)
 | unit | pr (f r:Ty) | st (fs:Ty) | ref | rose (fs:Ty)
@[reducible] def Ty.i:Ty:=.int .i64
@[reducible] def Ty.De:Ty→Type
 | .int _=>Int | .bool=>Bool | .str=>Str
 | .sl e=>List e.De | .arr _ e=>List e.De
 | .unit=>Unit | .pr f r=>f.De×r.De | .st fs=>fs.De | .ref=>Unit | .rose fs=>K9 fs.De
def Ty.beq:Ty→Ty→Bool
 | .int a,.int b=>Qar a b
 | .bool,.bool=>true
 | .str,.str=>true
 | .sl a,.sl b=>Ty.beq a b
 | .arr n a,.arr m b=>Nat.beq n m&&Ty.beq a b
 | .unit,.unit=>true
 | .pr a b,.pr c d=>Ty.beq a c&&Ty.beq b d
 | .st a,.st b=>Ty.beq a b
 | .ref,.ref=>true
 | .rose a,.rose b=>Ty.beq a b
 | _,_=>false
theorem Ty.beq_eq:∀{a b:Ty},Ty.beq a b=true→a=b
 | .int a,b,h=>by cases b<;>simp[Ty.beq]at h; rw[Im h]
 | .bool,b,h=>by cases b<;>simp[Ty.beq]at h; rfl
 | .str,b,h=>by cases b<;>simp[Ty.beq]at h; rfl
 | .sl a,b,h=>by cases b<;>simp[Ty.beq]at h; rw[Ty.beq_eq h]
 | .arr n a,b,h=>by cases b<;>simp[Ty.beq]at h; rw[h.1,Ty.beq_eq h.2]
 | .unit,b,h=>by cases b<;>simp[Ty.beq]at h; rfl
 | .pr a c,b,h=>by cases b<;>simp[Ty.beq]at h; rw[Ty.beq_eq h.1,Ty.beq_eq h.2]
 | .st a,b,h=>by cases b<;>simp[Ty.beq]at h; rw[Ty.beq_eq h]
 | .ref,b,h=>by cases b<;>simp[Ty.beq]at h; rfl
 | .rose a,b,h=>by cases b<;>simp[Ty.beq]at h; rw[Ty.beq_eq h]
theorem Ty.beq_refl:∀a:Ty,Ty.beq a a=true
 | .int k=>by cases k<;>rfl
 | .bool=>rfl | .str=>rfl | .unit=>rfl
 | .sl a=>Ty.beq_refl a
 | .arr n a=>by simp[Ty.beq,Ty.beq_refl a,Nat.beq_refl]
 | .pr a b=>by simp[Ty.beq,Ty.beq_refl a,Ty.beq_refl b]
 | .st a=>Ty.beq_refl a
 | .ref=>rfl
 | .rose a=>Ty.beq_refl a
def Ty.cast(a b:Ty)(x:a.De):Option b.De:=if h:Ty.beq a b=true then some (Ty.beq_eq h▸x)else none
theorem Ty.cast_ok{a b:Ty}{x:a.De}{y:b.De}(h:Ty.cast a b x=some y):∃e:a=b,y=e▸x:=by
 grind [Ty.cast,Ty.beq_eq,Option.some.inj]
def Jwg:RT Unit where
 size:=0
 agg:=true
 rep:=fun _ _ _ cs=>cs=[]
 len:=by grind
 one:=fun h=>by cases h
 flat:=by grind
 evo:=fun h _=>h
 weak:=fun h _=>h
def Jq9{τ σ:Type}(r:RT τ)(s:RT σ):RT (τ×σ) where
 size:=r.size+s.size
 agg:=true
 rep:=fun ok w x cs=>∃c1 c2,cs=c1++c2∧r.rep ok w x.1 c1∧s.rep ok w x.2 c2
 len:=by rintro _ _ x cs ⟨c1,c2,rfl,h1,h2⟩; simp[r.len h1,s.len h2]
 one:=fun h=>by cases h
 flat:=by
  rintro _ _ x cs ⟨c1,c2,rfl,h1,h2⟩ c hc
  rcases QZ.1 hc with hc | hc
  ·exact r.flat h1 c hc
  ·exact s.flat h2 c hc
 evo:=by rintro _ _ _ x cs ⟨c1,c2,rfl,h1,h2⟩ he; exact⟨c1,c2,rfl,r.evo h1 he,s.evo h2 he⟩
 weak:=by rintro _ _ _ x cs ⟨c1,c2,rfl,h1,h2⟩ he; exact⟨c1,c2,rfl,r.weak h1 he,s.weak h2 he⟩
def Jt8{τ:Type}(r:RT τ):RT τ where
 size:=r.size
 agg:=true
 rep:=r.rep
 len:=r.len
 one:=fun h=>by cases h
 flat:=r.flat
 evo:=r.evo
 weak:=r.weak
def Jwh:RT Unit where
 size:=1
 agg:=false
 rep:=fun _ _ _ _=>False
 len:=fun h=>h.elim
 one:=fun _=>rfl
 flat:=fun h=>h.elim
 evo:=fun h _=>h
 weak:=fun h _=>h
def Jt9{τ:Type}(r:RT τ):RT (K9 τ) where
 size:=r.size+1
 agg:=true
 rep:=fun _ _ _ _=>False
 len:=fun h=>h.elim
 one:=fun h=>by cases h
 flat:=fun h=>h.elim
 evo:=fun h _=>h
 weak:=fun h _=>h
def Jua{τ:Type}(r:RT τ)(k:RT (K9 τ)):RT (K9 τ) where
 size:=r.size+1
 agg:=true
 rep:=fun ok w x cs=>∃c1 c2,cs=c1++c2∧r.rep ok w x.x c1∧(rSl k).rep ok w x.ks c2
 len:=by rintro _ _ x cs ⟨c1,c2,rfl,h1,h2⟩; simp[r.len h1,(rSl k).len h2,rSl]
 one:=fun h=>by cases h
 flat:=by
  rintro _ _ x cs ⟨c1,c2,rfl,h1,h2⟩ c hc
  rcases QZ.1 hc with hc | hc
  ·exact r.flat h1 c hc
  ·exact(rSl k).flat h2 c hc
 evo:=by rintro _ _ _ x cs ⟨c1,c2,rfl,h1,h2⟩ he; exact⟨c1,c2,rfl,r.evo h1 he,(rSl k).evo h2 he⟩
 weak:=by rintro _ _ _ x cs ⟨c1,c2,rfl,h1,h2⟩ he; exact⟨c1,c2,rfl,r.weak h1 he,(rSl k).weak h2 he⟩
def Ly{τ:Type}(r:RT τ):Nat→RT (K9 τ)
 | 0=>Jt9 r
 | n+1=>Jua r (Ly r n)
theorem In{τ:Type}(r:RT τ):∀n,(Ly r n).size=r.size+1
 | 0=>rfl
 | _+1=>rfl
theorem Qsb{τ:Type}{r s:RT τ}{ok:Ok}{w:World}(hs:r.size=s.size)(h:∀{x cs},r.rep ok w x cs→s.rep ok w x cs){xs:List τ}{cs:List Value}:(rSl r).rep ok w xs cs→(rSl s).rep ok w xs cs:=by
 rintro⟨v,rfl,A,n,c,rfl,hl,hc,hn⟩
 refine⟨_,rfl,A,n,c,rfl,hl,hc,fun h0=>?_⟩
 grind
theorem Qo7{τ:Type}(r:RT τ){ok:Ok}{w:World}:∀(n:Nat) {x:K9 τ} {cs:List Value},(Ly r n).rep ok w x cs→(Ly r (n+1)).rep ok w x cs
 | 0,_,_,h=>h.elim
 | n+1,x,cs,⟨c1,c2,e,h1,h2⟩=>⟨c1,c2,e,h1,Qsb (by rw[In,In]) (Qo7 r n) h2⟩
theorem Jfg{τ:Type}(r:RT τ){ok:Ok}{w:World}{n m:Nat}(h:n≤m){x:K9 τ}{cs:List Value}(hx:(Ly r n).rep ok w x cs):(Ly r m).rep ok w x cs:=by
 induction h with
 | refl=>exact hx
 | step _ ih=>exact Qo7 r _ ih
def Qo8{τ:Type}(r:RT τ):RT (K9 τ) where
 size:=r.size+1
 agg:=true
 rep:=fun ok w x cs=>∃n,(Ly r n).rep ok w x cs
 len:=by rintro _ _ x cs ⟨n,h⟩; rw[(Ly r n).len h,In]
 one:=fun h=>by cases h
 flat:=by rintro _ _ x cs ⟨n,h⟩; exact(Ly r n).flat h
 evo:=by rintro _ _ _ x cs ⟨n,h⟩ he; exact⟨n,(Ly r n).evo h he⟩
 weak:=by rintro _ _ _ x cs ⟨n,h⟩ he; exact⟨n,(Ly r n).weak h he⟩
theorem Jfh{τ:Type}{r:RT τ}{ok:Ok}{w:World}{x:K9 τ}{cs:List Value}(h:(Qo8 r).rep ok w x cs):∃c1 c2,cs=c1++c2∧r.rep ok w x.x c1∧(rSl (Qo8 r)).rep ok w x.ks c2:=by
 obtain⟨n,h⟩:=h
 cases n with
 | zero=>exact h.elim
 | succ n =>
  obtain⟨c1,c2,e,h1,h2⟩:=h
  exact⟨c1,c2,e,h1,Qsb (s:=Qo8 r) (In r n) (fun h=>⟨n,h⟩) h2⟩
theorem Q3h{τ:Type}{r:RT τ}{ok:Ok}{w:World}{x:τ}{ks:List (K9 τ)}{c1 c2:List Value}(h1:r.rep ok w x c1)(h2:(rSl (Qo8 r)).rep ok w ks c2):(Qo8 r).rep ok w (.mk x ks) (c1++c2):=by
 obtain⟨v,rfl,A,n,c,rfl,hl,hc,hn⟩:=h2
 rcases Nat.eq_zero_or_pos n with h0 | h0
 ·subst h0
  refine⟨1,c1,_,rfl,h1,_,rfl,A,0,c,rfl,hl,hc,fun h=>absurd h (by omega)⟩
 ·obtain⟨b,o,hA,hx⟩:=hn h0
  have key2:∀(k:Nat),∃m,∀(i:Nat) (y:K9 τ),i<k→ks[i]?=some y→∃cs,(Ly r m).rep ok w y cs∧Id ok w b (o+i*(Qo8 r).size) cs:=by
   intro k
   induction k with
   | zero=>simp_all
   | succ k ih =>
    obtain⟨m,hm⟩:=ih
    cases hk:ks[k]? with
    | none =>
     refine⟨m,fun i y hi hy=>?_⟩
     grind
    | some z =>
     obtain⟨cs,⟨m2,h3⟩,h4⟩:=hx k z hk
     refine⟨max m m2,fun i y hi hy=>?_⟩
     grind [Nat.lt_or_ge,Jfg,Nat.le_max_left,Nat.le_max_right]
  obtain⟨m,hm⟩:=key2 ks.length
  refine⟨m+1,c1,_,rfl,h1,_,rfl,A,n,c,rfl,hl,hc,fun _=>⟨b,o,hA,fun i y hy=>?_⟩⟩
  obtain⟨cs,h5,h6⟩:=hm i y (List.getElem?_eq_some_iff.1 hy).1 hy
  exact⟨cs,h5,by rw[In]; exact h6⟩
def rt:(t:Ty)→RT t.De
 | .int k=>Tb k
 | .bool=>Qwp
 | .str=>Jt6
 | .sl e=>rSl (rt e)
 | .arr n e=>Jiu n (rt e)
 | .unit=>Jwg
 | .pr f r=>Jq9 (rt f) (rt r)
 | .st fs=>Jt8 (rt fs)
 | .ref=>Jwh
 | .rose fs=>Qo8 (rt fs)
def Ty.size:Ty→Nat
 | .int _=>1 | .bool=>1 | .str=>1 | .sl _=>1
 | .arr n e=>n*e.size
 | .unit=>0 | .pr f r=>f.size+r.size | .st fs=>fs.size | .ref=>1 | .rose fs=>fs.size+1
def Ty.agg:Ty→Bool
 | .int _=>false | .bool=>false | .str=>false | .sl _=>false
 | .arr _ _=>true
 | .unit=>true | .pr _ _=>true | .st _=>true | .ref=>false | .rose _=>true
theorem Jj:∀t:Ty,(rt t).size=t.size
 | .int _=>rfl | .bool=>rfl | .str=>rfl | .sl _=>rfl
 | .arr n e=>by simp[rt,Jiu,Ty.size,Jj e]
 | .unit=>rfl
 | .pr f r=>by simp[rt,Jq9,Ty.size,Jj f,Jj r]
 | .st fs=>by simp[rt,Jt8,Ty.size,Jj fs]
 | .ref=>rfl
 | .rose fs=>by simp[rt,Qo8,Ty.size,Jj fs]
theorem Dg:∀t:Ty,(rt t).agg=t.agg
 | .int _=>rfl | .bool=>rfl | .str=>rfl | .sl _=>rfl | .arr _ _=>rfl | .unit=>rfl | .pr _ _=>rfl | .st _=>rfl | .ref=>rfl | .rose _=>rfl
inductive PS where
 | f (k off:Nat) | i (j:Int) (size:Nat)
def PS.off:PS→Nat
 | .f _ o=>o | .i j s=>j.toNat*s
def Yp:List PS→Nat
 | []=>0
 | p::l=>p.off+Yp l
inductive AV where
 | d (t:Ty) (x:t.De)
 | p (id:Nat) (path:List PS)
 | e (id:Nat) (path:List PS)
 | s (id:Nat)
 | m (id:Nat)
 | b (id:Nat)
 | w (id:Nat) (j n:Int)
 | a (t:Ty) (x:t.De)
 | z | ns | np | nm | nf
 | f (fn:FuncId) (caps:AV)
 | ag (l:AV)
 | tp (l:AV)
 | nil
 | cons (x r:AV)
def AV.isAgg:AV→Bool
 | .d t _=>t.agg
 | .ag _=>true
 | _=>false
def AV.val(x:AV)(cs:List Value):Value:=bif x.isAgg then .agg cs.toArray else cs.headD undef
def AV.size:AV→Nat
 | .d t _=>t.size
 | .ag l=>l.size
 | .nil=>0
 | .cons x r=>x.size+r.size
 | _=>1
def AV.inMem:AV→Bool
 | .tp _=>false
 | .f _ _=>true
 | .ag l=>l.inMem
 | .cons x r=>x.inMem&&r.inMem
 | _=>true
def zal(v u:Value):Prop:=v=u∨(u=.slice none 0 0∧∃A,v=.slice A 0 0)
theorem zal.form{v u:Value}(h:zal v u)(hu:∃A n c,u=.slice A n c):∃A n c,v=.slice A n c:=by
 rcases h with rfl | ⟨_,A,rfl⟩
 ·exact hu
 grind
section
variable (β:Nat→Nat) (ρ:Nat→Value) (ok:Ok) (w:World)
def cr:Bool→AV→List Value→Prop
 | _,.d t x,cs=>(rt t).rep ok w x cs
 | _,.p id path,cs=>cs=[.pointer (some ⟨β id,Yp path,none⟩)]
 | _,.e id path,cs=>∃g,(ρ id).ownBlock=some g∧cs=[.pointer (some ⟨g,Yp path,none⟩)]
 | _,.s id,cs=>(∃v,cs=[v]∧zal v (ρ id))∧∃A n c,ρ id=.slice A n c
 | _,.m id,cs=>cs=[.map (some (β id))]
 | _,.b id,cs=>cs=[.int .i64 (β id)]
 | _,.w id j n,cs=>∃A c,cs=[.slice (some A) n.toNat c]∧(0<n.toNat→A=⟨β id,j.toNat,none⟩)
 | _,.a t x,cs=>∃v,cs=[v]∧Qry (rt t) ok w x v
 | _,.z,cs=>∃A,cs=[.slice A 0 0]
 | _,.ns,cs=>cs=[.slice none 0 0]
 | _,.np,cs=>cs=[.pointer none]
 | _,.nm,cs=>cs=[.map none]
 | _,.nf,cs=>cs=[.nilFunc]
 | _,.f fn caps,cs=>∃vs,cs=[.func (.func fn) #[] vs.toArray]∧cr true caps vs
 | _,.ag l,cs=>cr false l cs
 | _,.tp l,cs=>∃vs,cs=[.tuple vs.toArray]∧cr true l vs
 | _,.nil,cs=>cs=[]
 | true,.cons x r,cs=>∃c1 vs,cs=x.val c1::vs∧cr false x c1∧cr true r vs
 | false,.cons x r,cs=>∃c1 c2,cs=c1++c2∧cr false x c1∧cr false r c2
end
section
variable {β:Nat→Nat} {ρ:Nat→Value} {ok ok':Ok} {w w':World}
theorem Oc:∀{m:Bool} {x:AV} {cs:List Value},cr β ρ ok w m x cs→Evo ok w w'→cr β ρ ok w' m x cs
 | m,.d t x,cs,h,he=>by cases m<;>exact(rt t).evo h he
 | m,.p ..,cs,h,he=>by cases m<;>exact h
 | m,.e ..,cs,h,he=>by cases m<;>exact h
 | m,.s _,cs,h,he=>by cases m<;>exact h
 | m,.m _,cs,h,he=>by cases m<;>exact h
 | m,.b _,cs,h,he=>by cases m<;>exact h
 | m,.w ..,cs,h,he=>by cases m<;>exact h
 | m,.a t x,cs,h,he=>by cases m<;>exact let⟨v,h1,h2⟩:=h; ⟨v,h1,h2.evo he⟩
 | m,.z,cs,h,he=>by cases m<;>exact h
 | m,.ns,cs,h,he=>by cases m<;>exact h
 | m,.np,cs,h,he=>by cases m<;>exact h
 | m,.nm,cs,h,he=>by cases m<;>exact h
 | m,.nf,cs,h,he=>by cases m<;>exact h
 | m,.f fn caps,cs,h,he=>by cases m<;>exact let⟨vs,h1,h2⟩:=h; ⟨vs,h1,Oc h2 he⟩
 | m,.ag l,cs,h,he=>by cases m<;>exact Oc (m:=false) (x:=l) h he
 | m,.tp l,cs,h,he=>by cases m<;>exact let⟨vs,h1,h2⟩:=h; ⟨vs,h1,Oc h2 he⟩
 | m,.nil,cs,h,he=>by cases m<;>exact h
 | true,.cons x r,cs,h,he=>let⟨c1,vs,h1,h2,h3⟩:=h; ⟨c1,vs,h1,Oc h2 he,Oc h3 he⟩
 | false,.cons x r,cs,h,he=>let⟨c1,vs,h1,h2,h3⟩:=h; ⟨c1,vs,h1,Oc h2 he,Oc h3 he⟩
theorem Gp:∀{m:Bool} {x:AV} {cs:List Value},cr β ρ ok w m x cs→(∀b o,ok b o→ok' b o)→cr β ρ ok' w m x cs
 | m,.d t x,cs,h,he=>by cases m<;>exact(rt t).weak h he
 | m,.p ..,cs,h,he=>by cases m<;>exact h
 | m,.e ..,cs,h,he=>by cases m<;>exact h
 | m,.s _,cs,h,he=>by cases m<;>exact h
 | m,.m _,cs,h,he=>by cases m<;>exact h
 | m,.b _,cs,h,he=>by cases m<;>exact h
 | m,.w ..,cs,h,he=>by cases m<;>exact h
 | m,.a t x,cs,h,he=>by cases m<;>exact let⟨v,h1,h2⟩:=h; ⟨v,h1,h2.weak he⟩
 | m,.z,cs,h,he=>by cases m<;>exact h
 | m,.ns,cs,h,he=>by cases m<;>exact h
 | m,.np,cs,h,he=>by cases m<;>exact h
 | m,.nm,cs,h,he=>by cases m<;>exact h
 | m,.nf,cs,h,he=>by cases m<;>exact h
 | m,.f fn caps,cs,h,he=>by cases m<;>exact let⟨vs,h1,h2⟩:=h; ⟨vs,h1,Gp h2 he⟩
 | m,.ag l,cs,h,he=>by cases m<;>exact Gp (m:=false) (x:=l) h he
 | m,.tp l,cs,h,he=>by cases m<;>exact let⟨vs,h1,h2⟩:=h; ⟨vs,h1,Gp h2 he⟩
 | m,.nil,cs,h,he=>by cases m<;>exact h
 | true,.cons x r,cs,h,he=>let⟨c1,vs,h1,h2,h3⟩:=h; ⟨c1,vs,h1,Gp h2 he,Gp h3 he⟩
 | false,.cons x r,cs,h,he=>let⟨c1,vs,h1,h2,h3⟩:=h; ⟨c1,vs,h1,Gp h2 he,Gp h3 he⟩
theorem Zv:∀{x:AV} {cs:List Value},cr β ρ ok w false x cs→cs.length=x.size
 | .d t x,cs,h=>by rw[AV.size,←Jj]; exact(rt t).len h
 | .p ..,cs,h=>by subst h; rfl
 | .e ..,cs,⟨_,_,h⟩=>by subst h; rfl
 | .s _,cs,⟨⟨_,h,_⟩,_⟩=>by subst h; rfl
 | .m _,cs,h=>by subst h; rfl
 | .b _,cs,h=>by subst h; rfl
 | .w ..,cs,⟨_,_,h,_⟩=>by subst h; rfl
 | .a t x,cs,⟨_,h,_⟩=>by subst h; rfl
 | .z,cs,⟨_,h⟩=>by subst h; rfl
 | .ns,cs,h=>by subst h; rfl
 | .np,cs,h=>by subst h; rfl
 | .nm,cs,h=>by subst h; rfl
 | .nf,cs,h=>by subst h; rfl
 | .f ..,cs,⟨_,h,_⟩=>by subst h; rfl
 | .ag l,cs,h=>by rw[AV.size]; exact Zv (x:=l) h
 | .tp l,cs,⟨_,h,_⟩=>by subst h; rfl
 | .nil,cs,h=>by subst h; rfl
 | .cons x r,cs,⟨c1,c2,h,h1,h2⟩=>by subst h; rw[List.length_append,Zv h1,Zv h2]; rfl
theorem Qcf:∀{x:AV} {cs:List Value},cr β ρ ok w false x cs→x.inMem=true→∀c∈cs,c.oneCell'=true
 | .d t x,cs,h,_=>(rt t).flat h
 | .p ..,cs,h,_=>by subst h; simp; rfl
 | .e ..,cs,⟨_,_,h⟩,_=>by subst h; simp; rfl
 | .s id,cs,⟨⟨v,h,hz⟩,hs⟩,_=>by
  subst h; obtain⟨A,n,c,rfl⟩:=hz.form hs
  intro c hc; simp at hc; subst hc; rfl
 | .m _,cs,h,_=>by subst h; simp; rfl
 | .b _,cs,h,_=>by subst h; simp; rfl
 | .w ..,cs,⟨_,_,h,_⟩,_=>by subst h; simp; rfl
 | .a t x,cs,⟨v,h,hv⟩,_=>by obtain⟨b,o,c,rfl,_⟩:=hv; subst h; simp; rfl
 | .z,cs,⟨_,h⟩,_=>by subst h; simp; rfl
 | .ns,cs,h,_=>by subst h; simp; rfl
 | .np,cs,h,_=>by subst h; simp; rfl
 | .nm,cs,h,_=>by subst h; simp; rfl
 | .nf,cs,h,_=>by subst h; simp; rfl
 | .f ..,cs,⟨_,h,_⟩,_=>by subst h; simp; rfl
 | .ag l,cs,h,hm=>Qcf (x:=l) h hm
 | .tp l,cs,_,hm=>by cases hm
 | .nil,cs,h,_=>by subst h; simp
 | .cons x r,cs,⟨c1,c2,h,h1,h2⟩,hm=>by
  simp only[AV.inMem,QQ]at hm
  subst h
  intro c hc
  rcases QZ.1 hc with hc | hc
  ·exact Qcf h1 hm.1 c hc
  ·exact Qcf h2 hm.2 c hc
theorem Jub{x:AV}{cs:List Value}(h:cr β ρ ok w false x cs)(ha:x.isAgg=false)(hn:x.size=1):∃c,cs=[c]:=by
 have:=Zv h
 rw[hn]at this
 match cs,this with
 | [c],_=>exact⟨c,rfl⟩
theorem Ji4:∀{t:Ty},t.agg=false→t.size=1
 | .int _,_=>rfl | .bool,_=>rfl | .str,_=>rfl | .sl _,_=>rfl | .ref,_=>rfl
def AV.isVal:AV→Bool
 | .nil=>false
 | .cons _ _=>false
 | .d t _=>true
 | _=>true
theorem R3{x:AV}{cs:List Value}(h:cr β ρ ok w false x cs)(hv:x.isVal=true)(hm:x.inMem=true):Qr (x.val cs)=cs:=by
 unfold AV.val
 cases ha:x.isAgg with
 | true=>simp[Qr]
 | false =>
  have hsz:x.size=1:=by
   cases x<;>first | rfl | (simp[AV.isAgg]at ha; done) | (simp[AV.isVal]at hv; done) | skip
   ·exact Ji4 ha
  obtain⟨c,rfl⟩:=Jub h ha hsz
  have:=Qcf h hm c (.head _)
  simp only[cond_false,List.headD_cons]
  cases c<;>first | rfl | grind [Value.oneCell']
theorem Q3i{t:Ty}{x:t.De}{cs:List Value}:(AV.d t x).val cs=(rt t).val cs:=by
 grind [AV.val,AV.isAgg,RT.val,Dg]
theorem Jfi{t:Ty}{x:t.De}{cs:List Value}(h:cr β ρ ok w false (.d t x) cs):isV (rt t) ok w x ((AV.d t x).val cs):=⟨cs,h,Q3i⟩
theorem Qne{t:Ty}{x:t.De}{v:Value}(h:isV (rt t) ok w x v):∃cs,cr β ρ ok w false (.d t x) cs∧v=(AV.d t x).val cs:=by
 obtain⟨cs,hr,rfl⟩:=h
 exact⟨cs,hr,Q3i.symm⟩
end
end Gx

/- Abstract states. -/
namespace Gx
open Go Go.RowKit Gd
set_option linter.unusedVariables false
set_option linter.unusedSimpArgs false
inductive CK where
 | sl (e:TypeId) (u:Ty)
 | mp (k v:Ty)
@[reducible] def CK.ty:CK→Ty
 | .sl _ u=>.sl u
 | .mp k v=>.sl (.pr k v)
inductive Ob where
 | var (tid:TypeId) (c:AV)
 | row (e:TypeId) (t:Ty) (xs:List t.De)
 | tail (e:TypeId) (t:Ty) (xs:List t.De)
 | map (k v:Ty) (xs:List (k.De×v.De))
 | mapC (k:Ty) (c:CK) (xs:List (k.De×c.ty.De)) (hole:Option (k.De×Nat))
 | mapE (k v:Ty) (xs:List (k.De×v.De)) (key:k.De) (j:Nat)
def Qe9(β:Nat→Nat)(ρ:Nat→Value)(g:Nat)(tid:TypeId)(c:AV):TL where
 blks:=fun b=>b=g
 cov:=fun b _=>b=g
 cb:=fun h=>h
 p:=fun ok w=>∃cs,w.heap[g]?=some (.cells cs.toArray tid (0,0))∧cr β ρ ok w false c cs
 keep:=fun⟨cs,h1,h2⟩ hb he=>⟨cs,by rw[hb _ rfl]; exact h1,Oc h2 he⟩
 weak:=fun⟨cs,h1,h2⟩ hk=>⟨cs,h1,Gp h2 hk⟩
 lt:=fun⟨_,h,_⟩ b hb=>by grind
def Qfa{τ:Type}(v:Value)(e:Nat)(r:RT τ)(xs:List τ):TL where
 blks:=fun g=>v.ownBlock=some g
 cov:=fun b o=>v.ownBlock=some b∧Wl v*r.size≤o
 cb:=fun h=>h.1
 p:=fun ok w=>isV (rSl r) ok w xs v∧∃ys,w.ownsRowS 0 e r.size v (Wl v) ys
 keep:=fun⟨h1,ys,h⟩ hb he=>⟨h1.evo he,ys,Qcd h hb⟩
 weak:=fun⟨h1,h⟩ hk=>⟨h1.weak hk,h⟩
 lt:=fun⟨_,_,h⟩ g hg=>(h.lt g hg).2
def E1{κ ν:Type}(r:RT κ)(s:RT ν)(ok:Ok)(w:World):List (κ×ν)→List MapEntry→Prop
 | [],es=>es=[]
 | x::xs,es=>∃e es',es=e::es'∧isV r ok w x.1 e.key∧isV s ok w x.2 e.val∧E1 r s ok w xs es'
theorem Bg{κ ν:Type}{r:RT κ}{s:RT ν}{ok:Ok}{w w':World}:∀{xs:List (κ×ν)} {es:List MapEntry},E1 r s ok w xs es→Evo ok w w'→E1 r s ok w' xs es
 | [],_,h,_=>h
 | x::xs,es,⟨e,es',h,h1,h2,h3⟩,he=>⟨e,es',h,h1.evo he,h2.evo he,Bg h3 he⟩
theorem Zm{κ ν:Type}{r:RT κ}{s:RT ν}{ok ok':Ok}{w:World}:∀{xs:List (κ×ν)} {es:List MapEntry},E1 r s ok w xs es→(∀b o,ok b o→ok' b o)→E1 r s ok' w xs es
 | [],_,h,_=>h
 | x::xs,es,⟨e,es',h,h1,h2,h3⟩,he=>⟨e,es',h,h1.weak he,h2.weak he,Zm h3 he⟩
def R4{κ ν:Type}(g:Nat)(r:RT κ)(s:RT ν)(xs:List (κ×ν)):TL where
 blks:=fun b=>b=g
 cov:=fun b _=>b=g
 cb:=fun h=>h
 p:=fun ok w=>∃es clock,w.heap[g]?=some (.map es clock)∧E1 r s ok w xs es.toList∧(xs.map Prod.fst).Nodup∧(es.toList.map MapEntry.born).Nodup∧∀e∈es.toList,e.born<clock
 keep:=fun⟨es,c,h1,h2,h3⟩ hb he=>⟨es,c,by rw[hb _ rfl]; exact h1,Bg h2 he,h3⟩
 weak:=fun⟨es,c,h1,h2,h3⟩ hk=>⟨es,c,h1,Zm h2 hk,h3⟩
 lt:=fun⟨_,_,h,_⟩ b hb=>by grind
def Xm:Value→Option Nat
 | .map o=>o
 | v=>v.ownBlock
theorem Qfb{w:World}{base:Nat}{e:TypeId}{size n:Nat}{v:Value}{xs:List Value}(h:w.ownsRowS base e size v n xs){b:Nat}:v.ownBlock=some b↔Xm v=some b:=by
 rcases h.2 with⟨rfl,_⟩ | ⟨g,cap,cur,fz,rfl,_⟩<;>exact Iff.rfl
def Qet:(c:CK)→Value→c.ty.De→TL
  | .sl e u,v,x=>ml v e (rt u) x
  | .mp k v0,v,x=>{ R4 ((Xm v).getD 0) (rt k) (rt v0) x with
      blks:=fun b=>Xm v=some b
      cov:=fun b _=>Xm v=some b
      cb:=fun h=>h
      p:=fun ok w=>∃g,v=.map (some g)∧(R4 g (rt k) (rt v0) x).p ok w
      keep:=fun⟨g,h1,h2⟩ hb he=>⟨g,h1,(R4 g (rt k) (rt v0) x).keep h2 (fun b hg=>hb b (by subst hg; rw[h1]; rfl)) he⟩
      weak:=fun⟨g,h1,h2⟩ hk=>⟨g,h1,(R4 g (rt k) (rt v0) x).weak h2 hk⟩
      lt:=fun⟨g,h1,h2⟩ b hb=>(R4 g (rt k) (rt v0) x).lt h2 b (by rw[h1]at hb; injection hb with hb; exact hb.symm) }
theorem Q3j{c:CK}{v:Value}{x:c.ty.De}{ok:Ok}{w:World}(h:(Qet c v x).p ok w){b:Nat}:(Qet c v x).blks b↔Xm v=some b:=by
 cases c with
 | sl e u =>
  obtain⟨_,cs,h2,_⟩:=h
  exact Qfb h2
 | mp k v0=>exact Iff.rfl
def Jov:RT Value where
 size:=1
 agg:=false
 rep:=fun _ _ x cs=>cs=[x]∧x.oneCell'=true
 len:=fun h=>by rw[h.1]; rfl
 one:=fun _=>rfl
 flat:=fun h c hc=>by rw[h.1]at hc; grind
 evo:=fun h _=>h
 weak:=fun h _=>h
def Dh{κ:Type}(c:CK)(hole:Option κ)(hv:Value)(ok:Ok)(w:World):List (κ×c.ty.De)→List (κ×Value)→List Value→Prop
 | [],[],[]=>True
 | x::xs,y::ys,v::vs=>x.1=y.1∧((hole=some x.1∧v=undef∧zal y.2 hv)∨(hole≠some x.1∧zal y.2 v∧(Qet c v x.2).p ok w))∧Dh c hole hv ok w xs ys vs
 | _,_,_=>False
section
variable {κ:Type} {c:CK} {hole:Option κ} {hv:Value} {ok ok':Ok} {w w':World}
theorem Qsc:∀{xs:List (κ×c.ty.De)} {ys:List (κ×Value)} {vs:List Value},Dh c hole hv ok w xs ys vs→(∀v∈vs,∀b,Xm v=some b→w'.heap[b]?=w.heap[b]?)→Evo ok w w'→Dh c hole hv ok w' xs ys vs
 | [],[],[],h,_,_=>h
 | x::xs,y::ys,v::vs,⟨h1,h2,h3⟩,hb,he=>⟨h1,h2.imp id fun⟨q1,q2,q3⟩=>⟨q1,q2,(Qet c v x.2).keep q3 (fun b hg=>hb v (.head _) b ((Q3j q3).1 hg)) he⟩,Qsc h3 (fun v hv=>hb v (.tail _ hv)) he⟩
 | [],[],_::_,h,_,_=>h.elim
 | [],_::_,_,h,_,_=>h.elim
 | _::_,[],_,h,_,_=>h.elim
 | _::_,_::_,[],h,_,_=>h.elim
theorem Qau:∀{xs:List (κ×c.ty.De)} {ys:List (κ×Value)} {vs:List Value},Dh c hole hv ok w xs ys vs→(∀b o,ok b o→ok' b o)→Dh c hole hv ok' w xs ys vs
 | [],[],[],h,_=>h
 | x::xs,y::ys,v::vs,⟨h1,h2,h3⟩,hk=>⟨h1,h2.imp id fun⟨q1,q2,q3⟩=>⟨q1,q2,(Qet c v x.2).weak q3 hk⟩,Qau h3 hk⟩
 | [],[],_::_,h,_=>h.elim
 | [],_::_,_,h,_=>h.elim
 | _::_,[],_,h,_=>h.elim
 | _::_,_::_,[],h,_=>h.elim
theorem Jbs:∀{xs:List (κ×c.ty.De)} {ys:List (κ×Value)} {vs:List Value},Dh c hole hv ok w xs ys vs→∀v∈vs,∀b,Xm v=some b→b<w.heap.size
 | [],[],[],h=>by simp
 | x::xs,y::ys,v::vs,⟨h1,h2,h3⟩=>by
  intro y hy b hb
  rcases QX.1 hy with rfl | hy
  ·rcases h2 with⟨_,rfl,_⟩ | ⟨_,_,q3⟩
   ·cases hb
   ·exact(Qet c y x.2).lt q3 b ((Q3j q3).2 hb)
  ·exact Jbs h3 y hy b hb
 | [],[],_::_,h=>h.elim
 | [],_::_,_,h=>h.elim
 | _::_,[],_,h=>h.elim
 | _::_,_::_,[],h=>h.elim
end
def Qcg:Value→List Value
 | .tuple vs=>vs.toList
 | _=>[]
abbrev Qlg(vs:List Value):Prop:=vs.Pairwise fun a b=>∀g,Xm a=some g→Xm b≠some g
def Ji5{κ:Type}(g:Nat)(r:RT κ)(c:CK)(vs:List Value)(xs:List (κ×c.ty.De))(hole:Option κ)(hv:Value)(ok:Ok)(w:World):Prop :=
 ∃ys,(∃es clock,w.heap[g]?=some (.map es clock)∧E1 r Jov ok w ys es.toList∧(es.toList.map MapEntry.born).Nodup∧∀e∈es.toList,e.born<clock)∧Dh c hole hv ok w xs ys vs∧(xs.map Prod.fst).Nodup∧Qlg vs∧(∀v∈vs,Xm v≠some g)∧∀k,hole=some k→k∉xs.map Prod.fst→hv=.slice none 0 0
def Ji6(g:Nat)(vs:List Value){κ:Type}(r:RT κ)(c:CK)(xs:List (κ×c.ty.De))(hole:Option κ)(hv:Value):TL where
 blks:=fun b=>b=g∨∃v∈vs,Xm v=some b
 cov:=fun b _=>b=g∨∃v∈vs,Xm v=some b
 cb:=fun h=>h
 p:=fun ok w=>Ji5 g r c vs xs hole hv ok w
 keep:=fun⟨ys,⟨es,cl,h1,h2,h3⟩,h4,h5⟩ hb he=>⟨ys,⟨es,cl,by rw[hb _ (.inl rfl)]; exact h1,Bg h2 he,h3⟩,Qsc h4 (fun v hv b hvb=>hb b (.inr ⟨v,hv,hvb⟩)) he,h5⟩
 weak:=fun⟨ys,⟨es,cl,h1,h2,h3⟩,h4,h5⟩ hk=>⟨ys,⟨es,cl,h1,Zm h2 hk,h3⟩,Qau h4 hk,h5⟩
 lt:=fun⟨_,⟨_,_,h,_⟩,h2,_⟩ b hb=>by
  rcases hb with rfl | ⟨v,hv,hb⟩
  ·exact Vg h
  ·exact Jbs h2 v hv b hb
def Od{k:Ty}(β:Nat→Nat)(ρ:Nat→Value)(c:CK)(hole:Option (k.De×Nat)):Value:=match hole with
 | some q=>(match c with
  | .sl _ _=>ρ q.2
  | .mp _ _=>.map (some (β q.2)))
 | none=>undef
def Q3k{k:Ty}(hole:Option (k.De×Nat)):Option k.De:=match hole with
 | some q=>some q.1
 | none=>none
def Ji7{κ ν:Type}(g:Nat)(r:RT κ)(s:RT ν)(xs:List (κ×ν))(key:κ)(b:Nat):TL where
 blks:=fun b=>b=g
 cov:=fun b _=>b=g
 cb:=fun h=>h
 p:=fun ok w=>∃es clock,w.heap[g]?=some (.map es clock)∧E1 r s ok w xs es.toList∧(xs.map Prod.fst).Nodup∧(es.toList.map MapEntry.born).Nodup∧(∀e∈es.toList,e.born<clock)∧∃e∈es.toList,isV r ok w key e.key∧e.born=b
 keep:=fun⟨es,c,h1,h2,h3,h4,h5,e,h6,h7,h8⟩ hb he=>⟨es,c,by rw[hb _ rfl]; exact h1,Bg h2 he,h3,h4,h5,e,h6,h7.evo he,h8⟩
 weak:=fun⟨es,c,h1,h2,h3,h4,h5,e,h6,h7,h8⟩ hk=>⟨es,c,h1,Zm h2 hk,h3,h4,h5,e,h6,h7.weak hk,h8⟩
 lt:=fun⟨_,_,h,_⟩ b hb=>by grind
def Qv(β:Nat→Nat)(ρ:Nat→Value)(id:Nat):Ob→TL
 | .var tid c=>Qe9 β ρ (β id) tid c
 | .row e t xs=>ml (ρ id) e (rt t) xs
 | .tail e t xs=>Qfa (ρ id) e (rt t) xs
 | .map k v xs=>R4 (β id) (rt k) (rt v) xs
 | .mapC k c xs hole=>Ji6 (β id) (Qcg (ρ id)) (rt k) c xs (Q3k hole) (Od β ρ c hole)
 | .mapE k v xs key j=>Ji7 (β id) (rt k) (rt v) xs key (β j)
abbrev Vr:=List (Nat×Bool)
structure En where
 t:Nat
 cs:Vr
 av:AV
structure St where
 env:List En
 mem:List (Nat×Ob)
def Jy(a:Act)(cs:Vr):Prop:=∀c∈cs,a.tmps[c.1]?=some (.bool c.2)
def rd(a:Act)(t:Nat):Option Value:=bif Nat.blt t 100000 then a.tmps[t]? else some (.pointer (some ⟨t - 100000,0,none⟩))
theorem R5{a:Act}{t:Nat}(h:Nat.blt t 100000=true):rd a t=a.tmps[t]?:=by grind [rd]
def enD(β:Nat→Nat)(ρ:Nat→Value)(a:Act)(e:En):DF where
 p:=fun ok w=>(Jy a e.cs→∃cs,rd a e.t=some (e.av.val cs)∧cr β ρ ok w false e.av cs)∧(Jy a e.cs∨rd a e.t=some undef)
 evo:=fun h he=>⟨fun hc=>let⟨cs,h1,h2⟩:=h.1 hc; ⟨cs,h1,Oc h2 he⟩,h.2⟩
 weak:=fun h hk=>⟨fun hc=>let⟨cs,h1,h2⟩:=h.1 hc; ⟨cs,h1,Gp h2 hk⟩,h.2⟩
abbrev Qk(β:Nat→Nat)(ρ:Nat→Value)(mem:List (Nat×Ob)):List TL:=mem.map fun q=>Qv β ρ q.1 q.2
abbrev okR(X:Cx)(β:Nat→Nat)(ρ:Nat→Value)(mem:List (Nat×Ob))(w:World):Ok:=Jn X.ok X.w.heap.size (fun _=>0) [] (Qk β ρ mem) w
def Rel(X:Cx)(β:Nat→Nat)(ρ:Nat→Value)(S:St)(a:Act)(w:World):Prop :=
 Sb (fun _=>0) X [] (S.env.map (enD β ρ a)) [] (Qk β ρ S.mem) a w
def Qnf:List En→Nat→Option En
 | [],_=>none
 | e::l,t=>bif Nat.beq e.t t then some e else Qnf l t
theorem Qng{l:List En}{t:Nat}{e:En}(h:Qnf l t=some e):e∈l∧e.t=t:=by
 induction l with
 | nil=>simp[Qnf]at h
 | cons x l ih =>
  simp only[Qnf]at h
  cases hb:Nat.beq x.t t with
  | true=>rw[hb]at h; simp_all
  | false=>rw[hb]at h; grind
def Xq(l:List En)(t:Nat):Option En:=bif Nat.blt t 100000 then Qnf l t else none
theorem Qfc{l:List En}{t:Nat}{e:En}(h:Xq l t=some e):Nat.blt t 100000=true:=by
 grind [Xq,Nat.blt]
theorem Zw{l:List En}{t:Nat}{e:En}(h:Xq l t=some e):e∈l∧e.t=t:=by
 have hb:=Qfc h
 grind [Xq,Qng]
theorem Q3l{l:List En}{t:Nat}{e:En}(h:Xq l t=some e)(a:Act):rd a e.t=a.tmps[e.t]?:=R5 (by rw[(Zw h).2]; exact Qfc h)
def Jwi(l:List En)(g:Nat):Option En:=Qnf l (100000+g)
theorem Q89(a:Act)(g:Nat):rd a (100000+g)=some (.pointer (some ⟨g,0,none⟩)):=by
 unfold rd
 have:Nat.blt (100000+g) 100000=false:=by
  cases hb:Nat.blt (100000+g) 100000 with
  | false=>rfl
  | true=>exact absurd (QV hb) (by omega)
 rw[this]
 simp
def Jow:Vr→Nat×Bool→Bool
 | [],_=>false
 | (t,b)::l,c=>(Nat.beq t c.1&&(b==c.2))||Jow l c
theorem Jbt:∀{l:Vr} {c:Nat×Bool},Jow l c=true→c∈l
 | (t,b)::l,(u,v),h=>by
  simp only[Jow,JB,QQ]at h
  rcases h with⟨h1,h2⟩ | h
  ·have:=Nat.eq_of_beq_eq_true h1
   grind
  ·exact .tail _ (Jbt h)
def Qzp:Vr→Vr→Bool
 | [],_=>true
 | c::l,cur=>Jow cur c&&Qzp l cur
theorem Qhq:∀{l cur:Vr} {a:Act},Qzp l cur=true→Jy a cur→Jy a l
 | [],cur,a,_,_=>by intro c hc; cases hc
 | c::l,cur,a,h,hc=>by
  simp only[Qzp,QQ]at h
  intro x hx
  rcases QX.1 hx with rfl | hx
  ·exact hc _ (Jbt h.1)
  ·exact Qhq h.2 hc x hx
def Qnh:Value→Option AV
 | .int k n=>some (.d (.int k) n)
 | .bool b=>some (.d .bool b)
 | .string ⟨⟨l⟩⟩=>some (.d .str l)
 | .slice none 0 0=>some .ns
 | .pointer none=>some .np
 | .map none=>some .nm
 | .nilFunc=>some .nf
 | _=>none
def Qsd:List Value→Option AV
 | []=>some .nil
 | v::l=>match Qnh v,Qsd l with
  | some x,some r=>some (.cons x r)
  | _,_=>none
def Qzq:Value→Option AV
 | .agg ⟨l⟩=>match Qsd l with
  | some r=>some (.ag r)
  | none=>none
 | v=>Qnh v
section
variable {β:Nat→Nat} {ρ:Nat→Value} {ok:Ok} {w:World}
theorem Qni{v:Value}{x:AV}(h:Qnh v=some x):cr β ρ ok w false x [v]∧x.val [v]=v:=by
 unfold Qnh at h
 split at h<;>first | (simp at h; done) | skip
 all_goals
  simp only[Option.some.injEq]at h
  subst h
  exact⟨rfl,rfl⟩
theorem Qww:∀{l:List Value} {x:AV},Qsd l=some x→cr β ρ ok w false x l
 | [],x,h=>by simp[Qsd]at h; subst h; rfl
 | v::l,x,h=>by
  simp only[Qsd]at h
  split at h
  ·rename_i y r h1 h2
   simp at h; subst h
   exact⟨[v],l,rfl,(Qni h1).1,Qww h2⟩
  ·cases h
theorem Qse{v:Value}{x:AV}(h:Qzq v=some x):∃cs,v=x.val cs∧cr β ρ ok w false x cs:=by
 unfold Qzq at h
 split at h
 ·rename_i l
  split at h
  ·rename_i r hr
   simp at h; subst h
   exact⟨l,rfl,Qww (x:=r) hr⟩
  ·cases h
 ·obtain⟨h1,h2⟩:=Qni (β:=β) (ρ:=ρ) (ok:=ok) (w:=w) h
  grind
end
def ev(S:St)(cur:Vr):Operand→Option AV
 | .tmp t=>match Xq S.env t with
  | some e=>bif Qzp e.cs cur then some e.av else none
  | none=>none
 | .const v=>Qzq v
 | .func f=>some (.f f .nil)
 | .global g=>match Jwi S.env g with
  | some e=>bif Qzp e.cs cur then some e.av else none
  | none=>none
def Qd4(t:Nat):Vr→Bool
 | []=>false
 | c::l=>Nat.beq c.1 t||Qd4 t l
theorem Qfd{t:Nat}:∀{l:Vr},Qd4 t l=false→∀c∈l,c.1≠t
 | [],_,c,hc=>by cases hc
 | d::l,h,c,hc=>by
  simp only[Qd4,JT]at h
  rcases QX.1 hc with rfl | hc
  ·grind [Nat.beq_refl]
  ·exact Qfd h.2 c hc
def Yu:List En→Nat→List En
 | [],_=>[]
 | e::l,t=>bif Nat.beq e.t t||Qd4 t e.cs then Yu l t else e::Yu l t
theorem Oe{l:List En}{t:Nat}{e:En}(h:e∈Yu l t):e∈l∧e.t≠t∧∀c∈e.cs,c.1≠t:=by
 induction l with
 | nil=>simp[Yu]at h
 | cons x l ih =>
  simp only[Yu]at h
  cases hb:(Nat.beq x.t t||Qd4 t x.cs)with
  | true=>rw[hb]at h; grind
  | false =>
   rw[hb]at h
   simp only[cond_false,QX]at h
   rcases h with rfl | h
   ·simp only[JT]at hb
    exact⟨.head _,fun e=>by rw[e]at hb; simp_all,Qfd hb.2⟩
   grind
def St.put(S:St)(d:Nat)(cs:Vr)(x:AV):St:=⟨⟨d,cs,x⟩::Yu S.env d,S.mem⟩
def St.del(S:St)(d:Nat):St:=⟨Yu S.env d,S.mem⟩
section
variable {X:Cx} {β:Nat→Nat} {ρ:Nat→Value} {S:St} {a a':Act} {w w':World}
theorem Yf{ok:Ok}{w:World}:∀{D:List DF},Qk5 ok w D↔∀d∈D,d.p ok w
 | []=>by simp[Qk5]
 | d::D=>by simp[Qk5,Yf (D:=D)]
theorem Rel.en(h:Rel X β ρ S a w){e:En}(he:e∈S.env):(enD β ρ a e).p (okR X β ρ S.mem w) w:=Yf.1 h.dat _ (QK.2 ⟨e,he,rfl⟩)
theorem Rel.get(h:Rel X β ρ S a w){t:Nat}{e:En}(he:Xq S.env t=some e)(hc:Jy a e.cs) :
  ∃cs,a.tmps[t]?=some (e.av.val cs)∧cr β ρ (okR X β ρ S.mem w) w false e.av cs:=by
 have hr:=Q3l he a
 obtain⟨hm,rfl⟩:=Zw he
 rw[←hr]
 exact(h.en hm).1 hc
theorem Rel.ev(h:Rel X β ρ S a w){cur:Vr}(hc:Jy a cur){x:Operand}{v:AV}(hx:ev S cur x=some v) :
  ∃cs,a.eval x=v.val cs∧cr β ρ (okR X β ρ S.mem w) w false v cs:=by
 cases x with
 | tmp t =>
  simp only[Gx.ev]at hx
  split at hx
  ·rename_i e he
   cases hb:Qzp e.cs cur with
   | false=>rw[hb]at hx; cases hx
   | true =>
    rw[hb]at hx
    simp at hx; subst hx
    obtain⟨cs,h1,h2⟩:=h.get he (Qhq hb hc)
    exact⟨cs,by simp[Act.eval,h1],h2⟩
  ·cases hx
 | const v =>
  obtain⟨cs,h1,h2⟩:=Qse (β:=β) (ρ:=ρ) (ok:=okR X β ρ S.mem w) (w:=w) hx
  exact⟨cs,h1,h2⟩
 | func f =>
  simp[Gx.ev]at hx; subst hx
  exact⟨[.func (.func f) #[] #[]],rfl,[],rfl,rfl⟩
 | global g =>
  simp only[Gx.ev]at hx
  split at hx
  ·rename_i e he
   cases hb:Qzp e.cs cur with
   | false=>rw[hb]at hx; cases hx
   | true =>
    rw[hb]at hx
    simp at hx; subst hx
    obtain⟨hm,ht⟩:=Qng he
    obtain⟨cs,h1,h2⟩:=(h.en hm).1 (Qhq hb hc)
    rw[ht,Q89]at h1
    exact⟨cs,Option.some.inj h1,h2⟩
  ·cases hx
theorem Rel.act(h:Rel X β ρ S a w){env':List En}(hs:a'.tmps.size=a.tmps.size)(hd:a'.defers=a.defers)(hr:∀t∈X.res,a'.tmps[t]?=a.tmps[t]?)
  (he:∀e∈env',(enD β ρ a' e).p (okR X β ρ S.mem w) w):Rel X β ρ ⟨env',S.mem⟩ a' w :=
 {sz:=hs.trans h.sz,df:=hd.trans h.df,fr:=fun t ht=>(hr t ht).trans (h.fr t ht),pn:=h.pn,tm:=by simp,bel:=h.bel,
  dat:=Yf.2 fun d hd=>by grind,
  obj:=h.obj,own:=h.own,dHH:=h.dHH,dHO:=h.dHO,dOO:=h.dOO }
theorem Vj{d t:Nat}(hne:t≠d)(v:Value):(a.put (some d) v).tmps[t]?=a.tmps[t]?:=by
 have:d≠t:=fun e=>hne e.symm
 grind [Act.put]
theorem Qlh{d t:Nat}(hne:t≠d)(v:Value):rd (a.put (some d) v) t=rd a t:=by
 grind [rd,Vj]
theorem en_put(h:Rel X β ρ S a w){d:Nat}(v:Value){e:En}(he:e∈Yu S.env d):(enD β ρ (a.put (some d) v) e).p (okR X β ρ S.mem w) w:=by
 obtain⟨h1,h2,h3⟩:=Oe he
 have hcc:Jy (a.put (some d) v) e.cs↔Jy a e.cs:=⟨fun hc c hm=>by rw[←Vj (h3 c hm) v]; exact hc c hm,fun hc c hm=>by rw[Vj (h3 c hm) v]; exact hc c hm⟩
 refine⟨fun hc=>?_,?_⟩
 ·obtain⟨cs,h4,h5⟩:=(h.en h1).1 (hcc.1 hc)
  grind [Qlh]
 ·rw[hcc,Qlh h2]; exact(h.en h1).2
theorem Rel.put(h:Rel X β ρ S a w){d:Nat}(hd:okD X d=true){cs:Vr}{x:AV}{v:Value}
  (hx:Jy (a.put (some d) v) cs→∃c,v=x.val c∧cr β ρ (okR X β ρ S.mem w) w false x c) (hu:Jy (a.put (some d) v) cs∨v=undef):Rel X β ρ (S.put d cs x) (a.put (some d) v) w:=by
 refine h.act (by simp[Act.put]) rfl (fun k hk=>Vj (fun(e:k=d)=>Qzi hd (e▸hk)) v) fun e he=>?_
 rcases QX.1 he with rfl | he
 ·refine⟨fun hc=>?_,hu.imp id fun e=>by rw[R5 (Qhp hd)]; simp[Act.put,h.sz,Qr0 hd,e]⟩
  obtain⟨c,h1,h2⟩:=hx hc
  exact⟨c,by rw[R5 (Qhp hd)]; simp[Act.put,h.sz,Qr0 hd,h1],h2⟩
 ·exact en_put h v he
theorem Rel.del(h:Rel X β ρ S a w){d:Nat}(hd:okD X d=true)(v:Value):Rel X β ρ (S.del d) (a.put (some d) v) w :=
 h.act (by simp[Act.put]) rfl (fun k hk=>Vj (fun(e:k=d)=>Qzi hd (e▸hk)) v) fun e he=>en_put h v he
theorem Rel.less(h:Rel X β ρ S a w){env':List En}(he:∀e∈env',e∈S.env):Rel X β ρ ⟨env',S.mem⟩ a w :=
 h.act rfl rfl (fun _ _=>rfl) fun e hm=>h.en (he e hm)
theorem Qf(a:Act):Jy a []:=fun _ h=>by cases h
theorem Rel.put0(h:Rel X β ρ S a w){d:Nat}(hd:okD X d=true){x:AV}{c:List Value}(hx:cr β ρ (okR X β ρ S.mem w) w false x c):Rel X β ρ (S.put d [] x) (a.put (some d) (x.val c)) w :=
 h.put hd (fun _=>⟨c,rfl,hx⟩) (.inl (Qf _))
def Qg:List (Nat×Ob)→Nat→Option Ob
 | [],_=>none
 | q::l,t=>bif Nat.beq q.1 t then some q.2 else Qg l t
def Rk:List (Nat×Ob)→Nat→Ob→List (Nat×Ob)
 | [],_,_=>[]
 | q::l,t,o=>bif Nat.beq q.1 t then(t,o)::l else q::Rk l t o
def J0:List (Nat×Ob)→Nat→List (Nat×Ob)
 | [],_=>[]
 | q::l,t=>bif Nat.beq q.1 t then l else q::J0 l t
theorem Jk:∀{l:List (Nat×Ob)} {t:Nat} {o:Ob},Qg l t=some o→∃l1 l2,l=l1++(t,o)::l2∧(∀o',Rk l t o'=l1++(t,o')::l2)∧J0 l t=l1++l2
 | q::l,t,o,h=>by
  simp only[Qg]at h
  cases hb:Nat.beq q.1 t with
  | true =>
   rw[hb]at h
   simp at h
   have:=Nat.eq_of_beq_eq_true hb
   subst h; subst this
   exact⟨[],l,rfl,fun o'=>by simp[Rk,hb],by simp[J0,hb]⟩
  | false =>
   rw[hb]at h
   obtain⟨l1,l2,h1,h2,h3⟩:=Jk h
   grind [Rk,J0]
theorem Rel.ob(h:Rel X β ρ S a w){id:Nat}{o:Ob}(ho:Qg S.mem id=some o) :
  (Qv β ρ id o).p (okR X β ρ S.mem w) w∧∀g,(Qv β ρ id o).blks g→X.mine g:=by
 obtain⟨l1,l2,h1,_⟩:=Jk ho
 exact h.own _ (by rw[h1]; simp[Qk])
end
end Gx

/- Maps of data: what the model does with them. -/
namespace Gx
open Go Go.RowKit Gd
set_option linter.unusedVariables false
set_option linter.unusedSimpArgs false
def Lz:Ty→Bool
 | .int _=>true
 | .bool=>true
 | .str=>true
 | _=>false
def Qch:Ty→Bool
 | .pr a r=>Lz a&&Qch r
 | .unit=>true
 | t=>Lz t
def Qci:Ty→Bool
 | .st fs=>Qch fs
 | t=>Lz t
def eqK:(t:Ty)→t.De→t.De→Bool
 | .int _,a,b=>a==b
 | .bool,a,b=>a==b
 | .str,a,b=>a==b
 | .pr f r,a,b=>eqK f a.1 b.1&&eqK r a.2 b.2
 | .unit,_,_=>true
 | .st fs,a,b=>eqK fs a b
 | _,_,_=>false
def Qj{k:Ty}{ν:Type}(key:k.De):List (k.De×ν)→Option ν
 | []=>none
 | x::l=>bif eqK k key x.1 then some x.2 else Qj key l
def Jc{k:Ty}{ν:Type}(key:k.De)(v:ν):List (k.De×ν)→List (k.De×ν)
 | []=>[(key,v)]
 | x::l=>bif eqK k key x.1 then(key,v)::l else x::Jc key v l
def We:(t:Ty)→t.De→List Value
 | .int k,n=>[.int k n]
 | .bool,b=>[.bool b]
 | .str,s=>[Yl s]
 | .pr f r,x=>We f x.1++We r x.2
 | .st fs,x=>We fs x
 | _,_=>[]
def Yh:(t:Ty)→t.De→Value
 | .int k,n=>.int k n
 | .bool,b=>.bool b
 | .str,s=>Yl s
 | .st fs,x=>.agg (We fs x).toArray
 | _,_=>undef
theorem Qfe{t:Ty}(ht:Lz t=true){ok:Ok}{w:World}{x:t.De}{cs:List Value}:(rt t).rep ok w x cs↔cs=We t x:=by
 cases t<;>simp[Lz]at ht<;>exact Iff.rfl
theorem Qli:∀{t:Ty},Qch t=true→∀{ok:Ok} {w:World} {x:t.De} {cs:List Value},(rt t).rep ok w x cs↔cs=We t x
 | .pr f r,ht,ok,w,x,cs=>by
  simp only[Qch,QQ]at ht
  constructor
  ·rintro⟨c1,c2,rfl,h1,h2⟩
   rw[(Qfe ht.1).1 h1,(Qli ht.2).1 h2]; rfl
  ·rintro rfl
   exact⟨_,_,rfl,(Qfe ht.1).2 rfl,(Qli ht.2).2 rfl⟩
 | .unit,ht,ok,w,x,cs=>Iff.rfl
 | .int _,ht,ok,w,x,cs=>Qfe ht
 | .bool,ht,ok,w,x,cs=>Qfe ht
 | .str,ht,ok,w,x,cs=>Qfe ht
 | .sl _,ht,_,_,_,_=>by simp[Qch,Lz]at ht
 | .arr _ _,ht,_,_,_,_=>by simp[Qch,Lz]at ht
 | .st _,ht,_,_,_,_=>by simp[Qch,Lz]at ht
theorem Q3m{t:Ty}(ht:Qci t=true){ok:Ok}{w:World}{x:t.De}{v:Value}:isV (rt t) ok w x v↔v=Yh t x:=by
 cases t with
 | int k=>exact Jbn
 | bool=>exact Qrz
 | str=>exact Jol
 | st fs =>
  constructor
  ·rintro⟨cs,h,rfl⟩
   rw[(Qli ht).1 h]; rfl
  ·rintro rfl
   exact⟨_,(Qli ht).2 rfl,rfl⟩
 | _=>simp[Qci,Lz]at ht
theorem Hh{t:Ty}(ht:Qci t=true){ok:Ok}{w:World}{x:t.De}{v:Value}(h:isV (rt t) ok w x v):v=Yh t x:=(Q3m ht).1 h
theorem Qzr{t:Ty}(ht:Qci t=true){ok:Ok}{w:World}(x:t.De):isV (rt t) ok w x (Yh t x):=(Q3m ht).2 rfl
theorem Qcj{t:Ty}(ht:Lz t=true){x y:t.De}:eqK t x y=true↔x=y:=by
 cases t<;>simp[Lz]at ht<;>simp[eqK]
theorem Jbu:∀{t:Ty},Qch t=true→∀{x y:t.De},eqK t x y=true↔x=y
 | .pr f r,ht,x,y=>by
  simp only[Qch,QQ]at ht
  obtain⟨x1,x2⟩:=x
  obtain⟨y1,y2⟩:=y
  simp only[eqK,QQ,Qcj ht.1,Jbu ht.2,Prod.mk.injEq]
 | .unit,ht,x,y=>by simp[eqK]
 | .int _,ht,x,y=>Qcj ht
 | .bool,ht,x,y=>Qcj ht
 | .str,ht,x,y=>Qcj ht
 | .sl _,ht,_,_=>by simp[Qch,Lz]at ht
 | .arr _ _,ht,_,_=>by simp[Qch,Lz]at ht
 | .st _,ht,_,_=>by simp[Qch,Lz]at ht
theorem Za{t:Ty}(ht:Qci t=true){x y:t.De}:eqK t x y=true↔x=y:=by
 cases t with
 | st fs=>exact Jbu (t:=fs) ht
 | int k=>exact Qcj (t:=.int k) rfl
 | bool=>exact Qcj (t:=.bool) rfl
 | str=>exact Qcj (t:=.str) rfl
 | _=>simp[Qci,Lz]at ht
def Gq:Ty→TypeDesc→Bool
 | .int k,.int k'=>Qar k k'
 | .bool,.bool=>true
 | .str,.string=>true
 | _,_=>false
def Jfj(T:Tab)(f:Field)(t:Ty)(i:Nat):Bool:=f.name != "_" && Nat.beq f.offset i&&(match Qi T f.type with
 | some e=>Gq t e.d
 | none=>false)
def H4(T:Tab):List Field→Ty→Nat→Bool
 | [],.unit,_=>true
 | [f],t,i=>Jfj T f t i
 | f::g::fs,.pr a r,i=>Jfj T f a i&&H4 T (g::fs) r (i+1)
 | _,_,_=>false
def Y2(T:Tab):Ty→TypeDesc→Bool
 | .st fs,.struct ⟨fds⟩=>H4 T fds fs 0
 | t,d=>Gq t d
theorem Di{t:Ty}{d:TypeDesc}(h:Gq t d=true):Lz t=true:=by
 cases t<;>cases d<;>simp[Gq]at h<;>rfl
theorem Ie{T:Tab}{f:Field}{t:Ty}{i:Nat}(h:Jfj T f t i=true):(f.name != "_")=true∧f.offset=i∧∃e,Qi T f.type=some e∧Gq t e.d=true:=by
 simp only[Jfj,QQ]at h
 grind [Nat.eq_of_beq_eq_true]
theorem Qo9{T:Tab}:∀{fds:List Field} {t:Ty} {i:Nat},H4 T fds t i=true→Qch t=true
 | [],t,i,h=>by cases t<;>simp[H4]at h; rfl
 | [f],t,i,h=>by
  simp only[H4]at h
  obtain⟨_,_,e,_,h3⟩:=Ie h
  have:=Di h3
  cases t<;>simp[Lz]at this<;>rfl
 | f::g::fs,t,i,h=>by
  cases t<;>simp only[H4,QQ]at h
  all_goals first | (cases h; done) | skip
  obtain⟨_,_,e,_,h3⟩:=Ie h.1
  simp only[Qch,QQ]
  exact⟨Di h3,Qo9 h.2⟩
theorem Jz{T:Tab}{t:Ty}{d:TypeDesc}(h:Y2 T t d=true):Qci t=true:=by
 cases t with
 | st fs =>
  cases d<;>simp[Y2,Gq]at h
  rename_i fds
  obtain⟨fds⟩:=fds
  exact Qo9 h
 | _=>cases d<;>simp[Y2,Gq]at h<;>rfl
theorem Of{t:Ty}(h:Lz t=true)(x:t.De):We t x=[Yh t x]:=by
 cases t<;>simp[Lz]at h<;>rfl
section
variable {P:Program} {T:Tab}
theorem Q3n(hT:Qy P T){f:Field}{t:Ty}{i:Nat}(h:Jfj T f t i=true){fs:List Field}{p1 p2 r1 r2:List Value}{x y:t.De}(h1:p1.length=i)(h2:p2.length=i){q:Bool}
  (hq:Qr7 T fs (p1++We t x++r1) (p2++We t y++r2)=some q):Qr7 T (f::fs) (p1++We t x++r1) (p2++We t y++r2)=some (eqK t x y&&q):=by
 obtain⟨_,ho,e,he,hs⟩:=Ie h
 obtain⟨e1,e2,e3,e4,e5⟩:=e
 have g1:(p1++We t x++r1)[f.offset]?=some (Yh t x):=by
  rw[Of (Di hs),ho,←h1]; simp
 have g2:(p2++We t y++r2)[f.offset]?=some (Yh t y):=by
  rw[Of (Di hs),ho,←h2]; simp
 unfold Qr7
 rw[he,g1,g2,hq]
 cases t<;>cases e2<;>simp[Gq]at hs
 ·rename_i k k'
  simp only[Yh]
  rw[show Qar k k=true from by cases k<;>rfl]
  rfl
 ·rfl
 ·rfl
theorem Q3o(hT:Qy P T):∀{fds:List Field} {t:Ty} {i:Nat},H4 T fds t i=true→∀{p1 p2:List Value} {x y:t.De},p1.length=i→p2.length=i →
  Qr7 T fds (p1++We t x) (p2++We t y)=some (eqK t x y)∧Tc fds=true
 | [],t,i,h,p1,p2,x,y,h1,h2=>by
  cases t<;>simp[H4]at h
  exact⟨rfl,rfl⟩
 | [f],t,i,h,p1,p2,x,y,h1,h2=>by
  simp only[H4]at h
  have hb:Tc [f]=true:=by simp only[Tc,JP,List.all_nil,Bool.and_true]; exact(Ie h).1
  refine⟨?_,hb⟩
  have:=Q3n hT h (fs:=[]) (r1:=[]) (r2:=[]) (x:=x) (y:=y) h1 h2 rfl
  grind
 | f::g::fs,t,i,h,p1,p2,x,y,h1,h2=>by
  cases t<;>simp only[H4,QQ]at h
  all_goals first | (cases h; done) | skip
  rename_i a r
  obtain⟨x1,x2⟩:=x
  obtain⟨y1,y2⟩:=y
  have hs:=Di (Ie h.1).2.2.choose_spec.2
  have l1:(We a x1).length=1:=by rw[Of hs]; rfl
  have l2:(We a y1).length=1:=by rw[Of hs]; rfl
  obtain⟨q1,q2⟩:=Q3o hT h.2 (p1:=p1++We a x1) (p2:=p2++We a y1) (x:=x2) (y:=y2) (by simp[l1,h1]) (by simp[l2,h2])
  refine⟨?_,?_⟩
  ·have:=Q3n hT h.1 (fs:=g::fs) (r1:=We r x2) (r2:=We r y2) (x:=x1) (y:=y1) h1 h2 q1
   grind [We,eqK,List.append_assoc]
  ·simp only[Tc,JP,QQ]at q2 ⊢
   grind [Ie]
theorem Og(hT:Qy P T){kt:TypeId}{te:TE}(ht:Qi T kt=some te){t:Ty}(h:Y2 T t te.d=true)(x y:t.De)(w:World):(Op.equal kt (Yh t x) (Yh t y)).run P w=.ok (eqK t x y) w:=by
 have hu:=(Jr hT ht).2
 cases t with
 | st fs =>
  obtain⟨e1,e2,e3,e4,e5⟩:=te
  cases e2<;>simp[Y2,Gq]at h
  rename_i fds
  obtain⟨fds⟩:=fds
  have hf:P.fieldsOf kt=⟨fds⟩:=by simp[Program.fieldsOf,hu]
  have:=run_equalIn_struct (P:=P) w 9999 kt (We fs x).toArray (We fs y).toArray (by rw[hf,hu]) (Q25 hT ht).1
  rw[hf]at this
  show(Op.equalIn 10000 kt _ _).run P w=_
  simp only[Yh]
  rw[this]
  obtain⟨q1,q2⟩:=Q3o hT h (p1:=[]) (p2:=[]) (x:=x) (y:=y) rfl rfl
  grind [eqK,Qzo]
 | int k =>
  obtain⟨e1,e2,e3,e4,e5⟩:=te
  cases e2<;>simp[Y2,Gq]at h
  exact run_equalIn_int w 9999 kt k _ x y hu
 | bool =>
  obtain⟨e1,e2,e3,e4,e5⟩:=te
  cases e2<;>simp[Y2,Gq]at h
  exact run_equalIn_bool' w 9999 kt x y hu
 | str =>
  obtain⟨e1,e2,e3,e4,e5⟩:=te
  cases e2<;>simp[Y2,Gq]at h
  show(Op.equalIn 10000 kt _ _).run P w=_
  simp only[Yh,Yl]
  rw[run_equalIn_string w 9999 kt ⟨⟨x⟩⟩ ⟨⟨y⟩⟩ hu]
  rw[show(ByteArray.mk ⟨x⟩).toList=x from ByteArray.toList_mk x,show(ByteArray.mk ⟨y⟩).toList=y from ByteArray.toList_mk y]
  rfl
 | _=>cases te with | mk e1 e2 e3 e4 e5=>cases e2<;>simp[Y2,Gq]at h
theorem Oh(hT:Qy P T){kt:TypeId}{te:TE}(ht:Qi T kt=some te){t:Ty}(h:Y2 T t te.d=true)(key:t.De)(w:World){ν:Type}{s:RT ν}{ok:Ok}:∀{xs:List (t.De×ν)} {es:List MapEntry} (i:Nat),E1 (rt t) s ok w xs es →
  (Qj key xs=none∧(Instr.findAsking kt (Yh t key) es i).run P w=.ok none w∧(Instr.findNow te.d (Yh t key) es i=some none∨Instr.findNow te.d (Yh t key) es i=none)) ∨
  (∃(j:Nat) (e:MapEntry) (y:ν),Qj key xs=some y∧(Instr.findAsking kt (Yh t key) es i).run P w=.ok (some (i+j,e.val)) w∧(Instr.findNow te.d (Yh t key) es i=some (some (i+j,e.val))∨Instr.findNow te.d (Yh t key) es i=none)∧es[j]?=some e∧e.key=Yh t key∧isV s ok w y e.val)
 | [],es,i,hp=>by
  have:es=[]:=hp
  subst this
  exact .inl ⟨rfl,rfl,.inl rfl⟩
 | x::xs,es,i,hp=>by
  obtain⟨e,es',rfl,h1,h2,h3⟩:=hp
  have hk:=Hh (Jz h) h1
  have heq:=Og hT ht h key x.1 w
  have hsn:Instr.sameNow te.d (Yh t key) e.key=some (eqK t key x.1)∨Instr.sameNow te.d (Yh t key) e.key=none:=by
   rw[hk]
   cases t with
   | st fs=>exact .inr (by cases te with | mk e1 e2 e3 e4 e5=>cases e2<;>rfl)
   | int k =>
    obtain⟨e1,e2,e3,e4,e5⟩:=te
    cases e2<;>simp[Y2,Gq]at h
    grind [Instr.sameNow,Yh,eqK]
   | bool =>
    grind [Y2,Gq,Instr.sameNow,Yh,eqK]
   | str =>
    obtain⟨e1,e2,e3,e4,e5⟩:=te
    cases e2<;>simp[Y2,Gq]at h
    refine .inl ?_
    simp only[Instr.sameNow,Yh,eqK,Yl]
    congr 1
    rw[Bool.eq_iff_iff,MapKept.bytes_beq]
    simp
   | _=>cases te with | mk e1 e2 e3 e4 e5=>cases e2<;>simp[Y2,Gq]at h
  simp only[Qj,Instr.findNow,Instr.findAsking,Sem.run_bind,hk,heq,Result.andThen_ok]
  rw[hk]at hsn
  cases he:eqK t key x.1 with
  | true =>
   have:=(Za (Jz h)).1 he
   refine .inr ⟨0,e,x.2,rfl,by simp,?_,rfl,by rw[hk,this],h2⟩
   rcases hsn with hsn | hsn<;>rw[hsn]
   ·rw[he]; exact .inl rfl
   ·exact .inr rfl
  | false =>
   rcases Oh hT ht h key w (i+1) h3 with⟨q1,q2,q3⟩ | ⟨j,e',y,q1,q2,q3,q4,q5,q6⟩
   ·grind
   ·have ea:i+1+j=i+(j+1):=by omega
    rw[ea]at q2 q3
    refine .inr ⟨j+1,e',y,q1,by simpa using q2,?_,q4,q5,q6⟩
    rcases hsn with hsn | hsn<;>rw[hsn]
    ·rw[he]; exact q3
    ·exact .inr rfl
theorem Qav(hT:Qy P T){kt:TypeId}{te:TE}(ht:Qi T kt=some te){t:Ty}(h:Y2 T t te.d=true)(key:t.De)(w:World){ν:Type}{s:RT ν}{ok:Ok}{xs:List (t.De×ν)}{es:List MapEntry}(hp:E1 (rt t) s ok w xs es) :
  (Qj key xs=none∧(Instr.findKey kt (Yh t key) es).run P w=.ok none w) ∨
  (∃(j:Nat) (e:MapEntry) (y:ν),Qj key xs=some y∧(Instr.findKey kt (Yh t key) es).run P w=.ok (some (j,e.val)) w∧es[j]?=some e∧e.key=Yh t key∧isV s ok w y e.val):=by
 have hu:=(Jr hT ht).2
 rcases Oh hT ht h key w 0 hp with⟨q1,q2,q3⟩ | ⟨j,e,y,q1,q2,q3,q4,q5,q6⟩
 ·refine .inl ⟨q1,?_⟩
  rcases q3 with q3 | q3
  ·exact MapKept.run_findKey hu q3
  simp_all [Instr.findKey,run_underlying,Result.andThen]
 ·rw[QW]at q2 q3
  refine .inr ⟨j,e,y,q1,?_,q4,q5,q6⟩
  rcases q3 with q3 | q3
  ·exact MapKept.run_findKey hu q3
  simp_all [Instr.findKey,run_underlying,Result.andThen]
theorem Qlj(hT:Qy P T){f:Field}{t:Ty}{i:Nat}(h:Jfj T f t i=true){p r:List Value}{x:t.De}(h1:p.length=i)(w:World)(e:Bool)(n:Nat) :
  (part f.type (p++We t x++r).toArray f.offset).run P w=.ok (Yh t x) w∧(Instr.checkKey e (n+1) f.type (Yh t x)).run P w=.ok () w:=by
 obtain⟨_,ho,te,he,hs⟩:=Ie h
 have hu:=(Jr hT he).2
 have g1:(p++We t x++r)[f.offset]?=some (Yh t x):=by
  rw[Of (Di hs),ho,←h1]; simp
 refine⟨Qju hT he ?_ g1,?_⟩
 ·obtain⟨e1,e2,e3,e4,e5⟩:=te
  cases t<;>cases e2<;>simp[Gq]at hs<;>rfl
 ·refine MapKept.run_checkKey hu ?_ e n
  obtain⟨e1,e2,e3,e4,e5⟩:=te
  cases t<;>cases e2<;>simp[Gq]at hs
  ·rename_i a b
   have:=Im hs
   exact this
  ·trivial
  ·trivial
theorem Qd5(hT:Qy P T)(w:World)(e:Bool)(n:Nat){body:Field→PUnit→Sem (ForInStep PUnit)}{cs:List Value}
  (hbody:∀(f:Field) (v:Value),f.name ≠ "_" → (part f.type cs.toArray f.offset).run P w=.ok v w→(Instr.checkKey e (n+1) f.type v).run P w=.ok () w→(body f ⟨⟩).run P w=.ok (ForInStep.yield ⟨⟩) w):∀{fds:List Field} {t:Ty} {i:Nat},H4 T fds t i=true→∀{p:List Value} {x:t.De},p.length=i→cs=p++We t x →
  (forIn fds PUnit.unit body).run P w=.ok ⟨⟩ w
 | [],t,i,h,p,x,h1,hc=>by simp
 | [f],t,i,h,p,x,h1,hc=>by
  simp only[H4]at h
  have hn:f.name ≠ "_" := by grind [Ie]
  obtain⟨q1,q2⟩:=Qlj hT h (r:=[]) (x:=x) h1 w e n
  rw[QG,←hc]at q1
  simp_all
 | f::g::fs,t,i,h,p,x,h1,hc=>by
  cases t<;>simp only[H4,QQ]at h
  all_goals first | (cases h; done) | skip
  rename_i a r
  obtain⟨x1,x2⟩:=x
  have hs:=Di (Ie h.1).2.2.choose_spec.2
  have l1:(We a x1).length=1:=by rw[Of hs]; rfl
  have hn:f.name ≠ "_" := by grind [Ie]
  obtain⟨q1,q2⟩:=Qlj hT h.1 (r:=We r x2) (x:=x1) h1 w e n
  have hc':cs=p++We a x1++We r x2:=by rw[hc]; simp[We]
  rw[←hc']at q1
  have ih:=Qd5 hT w e n hbody h.2 (p:=p++We a x1) (x:=x2) (by simp[l1,h1]) hc'
  rw[List.forIn_cons]
  simp_all
theorem Wm(hT:Qy P T){kt:TypeId}{te:TE}(ht:Qi T kt=some te){t:Ty}(h:Y2 T t te.d=true)(x:t.De)(w:World)(e:Bool):(Instr.checkKey e 10000 kt (Yh t x)).run P w=.ok () w:=by
 have hu:=(Jr hT ht).2
 cases t with
 | st fs =>
  obtain⟨e1,e2,e3,e4,e5⟩:=te
  cases e2<;>simp[Y2,Gq]at h
  rename_i fds
  obtain⟨fds⟩:=fds
  unfold Instr.checkKey
  simp only[Sem.run_bind,run_underlying hu,Result.andThen,Yh]
  simp only[List.forIn_toArray]
  rw[Qd5 hT w e 9998 (cs:=We fs x) (fun f v hn h1 h2=>by simp_all) h (p:=[]) (x:=x) rfl rfl]
  rfl
 | int k =>
  obtain⟨e1,e2,e3,e4,e5⟩:=te
  cases e2<;>simp[Y2,Gq]at h
  exact MapKept.run_checkKey hu (show MapKept.IsKey (.int _) (.int k x)from Im h) e 9999
 | bool =>
  obtain⟨e1,e2,e3,e4,e5⟩:=te
  cases e2<;>simp[Y2,Gq]at h
  exact MapKept.run_checkKey hu (show MapKept.IsKey .bool (.bool x)from trivial) e 9999
 | str =>
  obtain⟨e1,e2,e3,e4,e5⟩:=te
  cases e2<;>simp[Y2,Gq]at h
  exact MapKept.run_checkKey hu (show MapKept.IsKey .string (Yl x)from trivial) e 9999
 | _=>cases te with | mk e1 e2 e3 e4 e5=>cases e2<;>simp[Y2,Gq]at h
theorem Fq{t:Ty}(h:Lz t=true)(x:t.De)(n:Nat):Instr.sameBits n (Yh t x) (Yh t x)=true:=by
 cases t<;>simp[Lz]at h<;>cases n<;>simp[Instr.sameBits,Yh,Yl]
 all_goals rw[MapKept.bytes_beq]
theorem Qsf{n:Nat}:∀{t:Ty},Qch t=true→∀(x:t.De),((We t x).zip (We t x)).all (fun(x,y)=>Instr.sameBits n x y)=true
 | .pr f r,ht,x=>by
  simp only[Qch,QQ]at ht
  have ih:=Qsf (n:=n) ht.2 x.2
  simp only[We,Of ht.1,List.singleton_append,List.zip_cons_cons,JP,Fq ht.1,ih,Bool.and_self]
 | .unit,ht,x=>rfl
 | .int k,ht,x=>by have:=Fq (t:=.int k) rfl x n; simp_all [We,Yh]
 | .bool,ht,x=>by have:=Fq (t:=.bool) rfl x n; simp_all [We,Yh]
 | .str,ht,x=>by have:=Fq (t:=.str) rfl x n; simp_all [We,Yh]
 | .sl _,ht,_=>by simp[Qch,Lz]at ht
 | .arr _ _,ht,_=>by simp[Qch,Lz]at ht
 | .st _,ht,_=>by simp[Qch,Lz]at ht
theorem Qwx{t:Ty}(h:Qci t=true)(x:t.De)(w:World):(Instr.keyThatStays (Yh t x) (Yh t x)).run P w=.ok (Yh t x) w:=by
 have:Instr.sameBits 10000 (Yh t x) (Yh t x)=true:=by
  cases t with
  | st fs =>
   have:=Qsf (n:=9999) h x
   grind [Yh,Instr.sameBits]
  | int k=>exact Fq (t:=.int k) rfl x _
  | bool=>exact Fq (t:=.bool) rfl x _
  | str=>exact Fq (t:=.str) rfl x _
  | _=>simp[Qci,Lz]at h
 simp[Instr.keyThatStays,this]
theorem Qsg(hT:Qy P T){t kt et:TypeId}{te tk tz:TE}(ht:Qi T t=some te)(htd:te.d=.map kt et)(hk:Qi T kt=some tk)(hz:Qi T et=some tz)
  {k:Ty} {ν:Type} {s:RT ν} (hd:Y2 T k tk.d=true) {ok:Ok} {w:World} {g:Nat} {es:Array MapEntry} {clock:Nat} (hg:w.heap[g]?=some (.map es clock)) {xs:List (k.De×ν)} (hp:E1 (rt k) s ok w xs es.toList)
  (key:k.De) {z:ν} (hzv:isV s ok w z tz.z) (c:Bool) :
  ∃v,(Instr.lookup t (.map (some g)) (Yh k key) c).run P w=.ok (if c=true then .tuple #[v,.bool (Qj key xs).isSome]else v) w∧isV s ok w ((Qj key xs).getD z) v ∧
   (Qj key xs=none∧v=tz.z∨∃(j:Nat) (e:MapEntry),es.toList[j]?=some e∧e.key=Yh k key∧v=e.val):=by
 have hu:=(Jr hT ht).2
 rw[htd]at hu
 have hzr:(zeroValue et).run P w=.ok tz.z w:=Vt hT w hz
 rcases Qav hT hk hd key w hp with⟨q1,q2⟩ | ⟨j,e,y,q1,q2,q3,q4,q5⟩
 ·refine⟨tz.z,?_,by rw[q1]; exact hzv,.inl ⟨q1,rfl⟩⟩
  simp[Instr.lookup,run_underlying hu,MapKept.run_getObj_map hg,Wm hT hk hd,q2,hzr,Result.andThen,q1]
 ·refine⟨e.val,?_,by rw[q1]; exact q5,.inr ⟨j,e,q3,q4,rfl⟩⟩
  simp[Instr.lookup,run_underlying hu,MapKept.run_getObj_map hg,Wm hT hk hd,q2,Result.andThen,q1]
theorem Qvz(hT:Qy P T){t kt et:TypeId}{te tk tz:TE}(ht:Qi T t=some te)(htd:te.d=.map kt et)(hk:Qi T kt=some tk)(hz:Qi T et=some tz)
  {k:Ty} (hd:Y2 T k tk.d=true) {w:World} (key:k.De) (c:Bool) :
  (Instr.lookup t (.map none) (Yh k key) c).run P w=.ok (if c=true then .tuple #[tz.z,.bool false]else tz.z) w:=by
 have hu:=(Jr hT ht).2
 rw[htd]at hu
 have hzr:(zeroValue et).run P w=.ok tz.z w:=Vt hT w hz
 rcases Qav (ok:=fun _ _=>True) hT hk hd key w (s:=Qwp) (xs:=[]) (es:=[]) rfl with⟨q1,q2⟩ | ⟨j,e,y,q1,q2,q3,q4,q5⟩
 ·simp[Instr.lookup,run_underlying hu,Wm hT hk hd,q2,hzr,Result.andThen]
 ·simp at q3
theorem Qlk(hT:Qy P T){kt:TypeId}{te:TE}(ht:Qi T kt=some te){k:Ty}(h:Y2 T k te.d=true)(key:k.De){ν:Type}{s:RT ν}{ok:Ok}{w:World}{y:ν}{v:Value}(hv:isV s ok w y v):∀{xs:List (k.De×ν)} {es:List MapEntry},E1 (rt k) s ok w xs es →
  (Qj key xs=none∧∀c,E1 (rt k) s ok w (Jc key y xs) (es++[⟨Yh k key,v,c⟩])) ∨
  (∃(j:Nat) (e:MapEntry),(∀i,(Instr.findAsking kt (Yh k key) es i).run P w=.ok (some (i+j,e.val)) w)∧es[j]?=some e∧e.key=Yh k key∧E1 (rt k) s ok w (Jc key y xs) (es.modify j fun e=>{ e with key:=Yh k key,val:=v }))
 | [],es,hp=>by
  have:es=[]:=hp
  subst this
  exact .inl ⟨rfl,fun c=>⟨_,[],rfl,Qzr (Jz h) key,hv,rfl⟩⟩
 | x::xs,es,hp=>by
  obtain⟨e,es',rfl,h1,h2,h3⟩:=hp
  have hk:=Hh (Jz h) h1
  have heq:=Og hT ht h key x.1 w
  simp only[Jc,Qj,Instr.findAsking,Sem.run_bind,hk,heq,Result.andThen_ok]
  cases he:eqK k key x.1 with
  | true =>
   have:=(Za (Jz h)).1 he
   exact .inr ⟨0,e,by simp,rfl,by rw[hk,this],⟨_,es',rfl,Qzr (Jz h) key,hv,h3⟩⟩
  | false =>
   rcases Qlk hT ht h key hv h3 with⟨q1,q2⟩ | ⟨j,e',q2,q3,q4,q5⟩
   ·exact .inl ⟨q1,fun c=>⟨e,_,rfl,h1,h2,q2 c⟩⟩
   ·exact .inr ⟨j+1,e',fun i=>by rw[show i+(j+1)=i+1+j by omega]; grind,q3,q4,⟨e,_,rfl,h1,h2,q5⟩⟩
def Bh(es:Array MapEntry)(clock:Nat):Prop:=(es.toList.map MapEntry.born).Nodup∧∀e∈es.toList,e.born<clock
theorem N6{k:Ty}{ν:Type}(hk:Qci k=true)(key:k.De)(y:ν):∀{xs:List (k.De×ν)},(xs.map Prod.fst).Nodup→((Jc key y xs).map Prod.fst).Nodup∧∀z∈(Jc key y xs).map Prod.fst,z=key∨z∈xs.map Prod.fst
 | [],_=>⟨by simp[Jc],by simp[Jc]⟩
 | x::xs,h=>by
  simp only[Jc]
  have h1:=QT.1 h
  cases he:eqK k key x.1 with
  | true =>
   have:=(Za hk).1 he
   grind
  | false =>
   obtain⟨h2,h3⟩:=N6 hk key y h1.2
   refine⟨?_,fun z hz=>?_⟩
   ·simp only[cond_false,QR,QT]
    refine⟨fun hm=>?_,h2⟩
    rcases h3 _ hm with hm | hm
    ·rw[hm,(Za hk).2 rfl]at he; cases he
    ·exact h1.1 hm
   grind
theorem Qll(hT:Qy P T){t kt et:TypeId}{te tk:TE}(ht:Qi T t=some te)(htd:te.d=.map kt et)(hk:Qi T kt=some tk)
  {k:Ty} (hd:Y2 T k tk.d=true) {w:World} {g:Nat} {es:Array MapEntry} {clock:Nat} (hg:w.heap[g]?=some (.map es clock)) (key:k.De) {v:Value} :
  ((Instr.findKey kt (Yh k key) es.toList).run P w=.ok none w→(Instr.mapUpdate t (.map (some g)) (Yh k key) v).run P w=.ok () { w with heap:=w.heap.setIfInBounds g (.map (es.push ⟨Yh k key,v,clock⟩) (clock+1)) }) ∧
  (∀j e,(Instr.findKey kt (Yh k key) es.toList).run P w=.ok (some (j,e.val)) w→es.toList[j]?=some e→e.key=Yh k key →
   (Instr.mapUpdate t (.map (some g)) (Yh k key) v).run P w=.ok () { w with heap:=w.heap.setIfInBounds g (.map (es.modify j fun e=>{ e with key:=Yh k key,val:=v }) clock) }):=by
 have hu:=(Jr hT ht).2
 rw[htd]at hu
 refine⟨fun q=>?_,fun j e q2 q3 q4=>?_⟩
 ·simp[Instr.mapUpdate,run_underlying hu,MapKept.run_getObj_map hg,Wm hT hk hd,q,MapKept.run_setObj_map _ hg,Result.andThen]
 ·have hj:es[j]?=some e:=by simpa using q3
  simp[Instr.mapUpdate,run_underlying hu,MapKept.run_getObj_map hg,Wm hT hk hd,q2,hj,q4,Qwx (Jz hd),MapKept.run_setObj_map _ hg,Result.andThen]
theorem Qsh{es:Array MapEntry}{clock:Nat}(hst:Bh es clock)(kv v:Value):Bh (es.push ⟨kv,v,clock⟩) (clock+1):=by
 refine⟨?_,fun e he=>?_⟩
 ·simp only[Array.toList_push,QD,QR,ZD]
  refine List.nodup_append.2 ⟨hst.1,by simp,fun a ha b hb=>?_⟩
  obtain⟨e,he,rfl⟩:=QK.1 ha
  simp at hb; subst hb
  exact KY (hst.2 e he)
 ·simp only[Array.toList_push,QZ,XZ]at he
  rcases he with he | rfl
  ·exact Nat.lt_succ_of_lt (hst.2 e he)
  grind
theorem Qzs{es:Array MapEntry}{clock:Nat}(hst:Bh es clock)(kv v:Value)(j:Nat):Bh (es.modify j fun e=>{ e with key:=kv,val:=v }) clock:=by
 have hmap:∀(l:List MapEntry) (j:Nat),(l.modify j fun e=>{ e with key:=kv,val:=v }).map MapEntry.born=l.map MapEntry.born:=by
  intro l
  induction l with
  | nil=>grind
  | cons x l ih=>grind
 refine⟨?_,fun e he=>?_⟩
 ·rw[Array.toList_modify,hmap]; exact hst.1
 ·have hb:e.born∈(es.toList.modify j fun e=>{ e with key:=kv,val:=v }).map MapEntry.born:=QK.2 ⟨e,by simpa using he,rfl⟩
  rw[hmap]at hb
  obtain⟨e',he',hbe⟩:=QK.1 hb
  rw[←hbe]; exact hst.2 e' he'
theorem Oi(hT:Qy P T){kt:TypeId}{te:TE}(ht:Qi T kt=some te){t:Ty}(h:Y2 T t te.d=true)(key:t.De)(w:World){ν:Type}{s:RT ν}{ok:Ok}{xs:List (t.De×ν)}{es:List MapEntry}(hp:E1 (rt t) s ok w xs es)
  {r:Option (Nat×Value)} (hr:(Instr.findAsking kt (Yh t key) es 0).run P w=.ok r w):(Instr.findKey kt (Yh t key) es).run P w=.ok r w:=by
 have hu:=(Jr hT ht).2
 rcases Oh hT ht h key w 0 hp with⟨q1,q2,q3⟩ | ⟨j,e,y,q1,q2,q3,q4,q5,q6⟩
 ·rw[hr]at q2; injection q2 with q2; subst q2
  rcases q3 with q3 | q3
  ·exact MapKept.run_findKey hu q3
  simp_all [Instr.findKey,run_underlying,Result.andThen]
 ·rw[hr]at q2; injection q2 with q2; subst q2
  rcases q3 with q3 | q3
  ·exact MapKept.run_findKey hu q3
  simp_all [Instr.findKey,run_underlying,Result.andThen]
theorem Qi2(hT:Qy P T){t kt et:TypeId}{te tk:TE}(ht:Qi T t=some te)(htd:te.d=.map kt et)(hk:Qi T kt=some tk)
  {k:Ty} {ν:Type} {s:RT ν} (hd:Y2 T k tk.d=true) {ok:Ok} {w:World} {g:Nat} {es:Array MapEntry} {clock:Nat} (hg:w.heap[g]?=some (.map es clock)) {xs:List (k.De×ν)} (hp:E1 (rt k) s ok w xs es.toList) (hst:Bh es clock)
  (key:k.De) {y:ν} {v:Value} (hv:isV s ok w y v) :
  ∃es' clock',(Instr.mapUpdate t (.map (some g)) (Yh k key) v).run P w=.ok () { w with heap:=w.heap.setIfInBounds g (.map es' clock') }∧E1 (rt k) s ok w (Jc key y xs) es'.toList∧Bh es' clock':=by
 rcases Qlk hT hk hd key hv hp with⟨q1,q2⟩ | ⟨j,e,q2,q3,q4,q5⟩
 ·rcases Qav hT hk hd key w hp with⟨r1,r2⟩ | ⟨j,e,y',r1,_⟩
  ·exact⟨_,_,(Qll hT ht htd hk hd hg key).1 r2,by grind,Qsh hst _ _⟩
  grind
 ·have h2:=q2 0
  rw[QW]at h2
  exact⟨_,_,(Qll hT ht htd hk hd hg key).2 j e (Oi hT hk hd key w hp h2) q3 q4,by simpa using q5,Qzs hst _ _ _⟩
end
end Gx

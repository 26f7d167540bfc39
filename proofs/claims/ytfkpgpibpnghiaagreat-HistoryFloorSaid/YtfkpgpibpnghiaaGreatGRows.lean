/- Rows of the call's own whose elements are written. -/
import Derived.Test.YtfkpgpibpnghiaaGreatGCore
import Derived.Laws.MakeOwn
import Derived.ProofKit
import Derived.OpenShut
import Derived.Below
import Derived.ChangeSame
namespace Gd
open Go Go.RowKit
set_option linter.unusedVariables false
set_option linter.unusedSimpArgs false
theorem Fg{τ:Type}{r:RT τ}{ok:Ok}{w w':World}{xs:List τ}{cs:List Value}(h:Ku r ok w xs cs)(he:Evo ok w w'):Ku r ok w' xs cs:=((Jdl xs.length r).evo (x:=xs) ⟨rfl,h⟩ he).2
theorem Xr{τ:Type}{r:RT τ}{ok ok':Ok}{w:World}{xs:List τ}{cs:List Value}(h:Ku r ok w xs cs)(hk:∀b o,ok b o→ok' b o):Ku r ok' w xs cs:=((Jdl xs.length r).weak (x:=xs) ⟨rfl,h⟩ hk).2
theorem Qsy{τ:Type}{r:RT τ}{ok:Ok}{w:World}{xs:List τ}{cs:List Value}(h:Ku r ok w xs cs):∀c∈cs,c.oneCell'=true:=(Jdl xs.length r).flat (x:=xs) ⟨rfl,h⟩
def ml{τ:Type}(v:Value)(e:Nat)(r:RT τ)(xs:List τ):TL where
 blks:=fun g=>v.ownBlock=some g
 cov:=fun b _=>v.ownBlock=some b
 cb:=fun h=>h
 p:=fun ok w=>K2 v=xs.length∧∃cs,w.ownsRowS 0 e r.size v (K2 v) cs∧Ku r ok w xs cs
 keep:=fun⟨h1,cs,h2,h3⟩ hb he=>⟨h1,cs,Sl h2 hb,Fg h3 he⟩
 weak:=fun⟨h1,cs,h2,h3⟩ hk=>⟨h1,cs,h2,Xr h3 hk⟩
 lt:=fun⟨_,_,h,_⟩ g hg=>(h.lt g hg).2
theorem Fh{τ:Type}{r:RT τ}{ok:Ok}{w:World}:∀{xs:List τ} {cs:List Value},Ku r ok w xs cs→∀{i:Nat} {y:τ},xs[i]?=some y→r.rep ok w y ((cs.drop (i*r.size)).take r.size)
 | x::xs,cs,⟨c1,c2,e,h1,h2⟩,i,y,hy=>by
  subst e
  have hl:=r.len h1
  cases i with
  | zero =>
   grind
  | succ i =>
   simp at hy
   have:=Fh h2 hy
   have e:(c1++c2).drop ((i+1)*r.size)=c2.drop (i*r.size):=by
    rw[Nat.add_mul,ZN,XD,←hl,←List.drop_drop,List.drop_left,hl]
   rw[e]; exact this
theorem Jdr{τ:Type}{r:RT τ}{ok:Ok}{w:World}{e:Nat}{xs:List τ}{A:Option Addr}{m c:Nat}(h:(ml (.slice A m c) e r xs).p ok w):Qyl r ok w xs A m c:=by
 obtain⟨hl,cs,kb,hr⟩:=h
 have hm:K2 (.slice A m c)=m:=rfl
 rw[hm]at hl kb
 have zr:∀i x,xs[i]?=some x→∃ds,r.rep ok w x ds∧∀(j:Nat) u,ds[j]?=some u→cs[i*r.size+j]?=some u:=fun i x hx=>by
  refine⟨_,Fh hr hx,fun j u hu=>?_⟩
  rw[JJ]at hu
  grind
 rcases kb.2 with⟨hv,h0⟩ | ⟨g,cap,cur,fz,hv,_,_,_,hle,_⟩
 ·injection hv with e1 e2 e3
  exact⟨cs,kb.1,hl.symm,by omega,fun _=>h0,Qsy hr,fun h=>absurd h (by omega),zr⟩
 ·have hg:(Value.slice A m c).ownBlock=some g:=by rw[hv]; rfl
  have yy:=kb.cells hg
  injection hv with e1 e2 e3
  exact⟨cs,kb.1,hl.symm,by omega,(fun h=>absurd (e1.symm.trans h) (by simp)),Qsy hr,fun _=>⟨g,0,e1,fun j u hu=>by rw[←Hi]; grind⟩,zr⟩
theorem Qoq{τ:Type}{r:RT τ}{ok:Ok}{w:World}:∀{xs:List τ} {cs:List Value},Ku r ok w xs cs→∀{i:Nat} {z:τ} {ds:List Value},i<xs.length→r.rep ok w z ds →
  Ku r ok w (xs.set i z) (cs.take (i*r.size)++ds++cs.drop (i*r.size+ds.length))
 | x::xs,cs,⟨c1,c2,e,h1,h2⟩,i,z,ds,hi,hz=>by
  subst e
  have hl:=r.len h1
  have hd:=r.len hz
  cases i with
  | zero =>
   refine⟨ds,c2,?_,hz,h2⟩
   grind
  | succ i =>
   refine⟨c1,_,?_,h1,Qoq h2 (by simpa using hi) hz⟩
   have e1:(i+1)*r.size=c1.length+i*r.size:=by rw[Nat.add_mul,hl]; omega
   rw[e1,XG,List.append_assoc,List.append_assoc,List.append_assoc,JM,List.take_of_length_le (by omega)]
   grind [Nat.add_assoc,List.drop_drop,List.drop_left]
theorem Nk{τ:Type}{r:RT τ}{ok:Ok}{w:World}:∀{xs ys:List τ} {cs ds:List Value},Ku r ok w xs cs→Ku r ok w ys ds→Ku r ok w (xs++ys) (cs++ds)
 | [],ys,cs,ds,h,h2=>by grind [Ku]
 | x::xs,ys,cs,ds,⟨c1,c2,e,h1,h3⟩,h2=>by subst e; exact⟨c1,c2++ds,by rw[List.append_assoc],h1,Nk h3 h2⟩
theorem Qha{τ:Type}{r:RT τ}{ok:Ok}{w:World}:∀(xs:List τ) (cs:List Value),cs.length=xs.length*r.size→(∀i x,xs[i]?=some x→∃ds,r.rep ok w x ds∧∀(j:Nat) u,ds[j]?=some u→cs[i*r.size+j]?=some u)→Ku r ok w xs cs
 | [],cs,hl,_=>by simp_all [Ku,QE]
 | x::xs,cs,hl,h=>by
  obtain⟨ds,hr,hd⟩:=h 0 x rfl
  have hdl:=r.len hr
  have mf:cs.length=r.size+xs.length*r.size:=by rw[hl]; grind
  refine⟨ds,cs.drop r.size,?_,hr,Qha xs _ (by simp; omega) fun i y hy=>?_⟩
  ·have:cs.take r.size=ds:=by
    apply ZZ
    grind
   rw[←this,List.take_append_drop]
  ·obtain⟨es,he,hc⟩:=h (i+1) y (by simpa using hy)
   grind
section
variable {P:Program} {T:Tab} {β:Nat→Nat} {X:Cx} {G:GL} {D:List DF} {H:HL} {O:List TL} {a:Act} {w w':World}
variable {ops:Array Oper} {Q:Exit→Act→World→Prop} {rest:List Oper}
theorem Sb.mget(h:Sb β X G D H O a w){τ:Type}{r:RT τ}{xs:List τ}{A:Option Addr}{m c:Nat}{e:Nat}(hm:ml (.slice A m c) e r xs∈O){j:Int}{y:τ}(hy:idx xs j=some y)(zn:0<r.size) :
  ∃g cap cur fz,A=some ⟨g,0,none⟩∧(w.heap[g]?=some (.cells cur e fz)∧Qvj fz cur.size)∧m=xs.length∧j.toNat<m∧m≤cap∧cap*r.size≤cur.size∧c=cap∧cap≤maxLen ∧
   Ku r (Jh X.ok X.w.heap.size β H O w) w xs (cur.toList.take (m*r.size)):=by
 obtain⟨⟨hl,cs,kb,hr⟩,_⟩:=h.own _ hm
 obtain⟨h0,h1⟩:=Ws hy
 have hlt:=(List.getElem?_eq_some_iff.1 h1).1
 simp only[K2]at hl kb
 rcases kb.2 with⟨hv,h0⟩ | ⟨g,cap,cur,fz,hv,_,hh,ya,hle,yw,zx,xz⟩
 ·omega
 ·injection hv with e1 e2 e3
  exact⟨g,cap,cur,fz,e1,⟨hh,ya⟩,hl,by omega,hle,zx,e3,yw,by rw[xz]; exact hr⟩
theorem Qsz{cur:Array Value}{g e:Nat}{fz:Nat×Nat}(hh:w.heap[g]?=some (.cells cur e fz))(i:Nat):w.cell? ⟨g,i,none⟩=cur.toList[i]?:=by
 simp[World.cell?,hh]
theorem Q9k(L ds:List Value){a s M off:Nat}(h1:a+s≤M)(h2:off+ds.length≤s)(h3:M≤L.length) :
  ((L.take (a+off)++ds++L.drop (a+off+ds.length)).take M) =
   (L.take M).take a++(((L.drop a).take s).take off++ds++((L.drop a).take s).drop (off+ds.length))++(L.take M).drop (a+s):=by
 apply ZZ
 intro i
 simp only[List.getElem?_append,JJ,JX,List.length_append,List.length_take,List.length_drop]
 grind
theorem Sb.upd(h:Sb β X G D H O a w){O1 O2:List TL}{t t':TL}(hO:O=O1++t::O2)(mg:w'.os=w.os)(mh:w'.tape=w.tape)(uc:w'.output=w.output)(kg:w.heap.size≤w'.heap.size)
  (hblk:∀b,b<w.heap.size→¬ t.blks b→w'.heap[b]?=w.heap[b]?) (wt:∀b o,t.blks b→t.cov b o) (yu:∀g,t'.blks g→t.blks g∨w.heap.size≤g)
  (hp:Evo (Jh X.ok X.w.heap.size β H O w) w w'→(∀b o,Jh X.ok X.w.heap.size β H O w b o→Jh X.ok X.w.heap.size β H (O1++t'::O2) w' b o)→t'.p (Jh X.ok X.w.heap.size β H (O1++t'::O2) w') w') :
  Sb β X G D H (O1++t'::O2) a w':=by
 subst hO
 have ke:t∈O1++t::O2:=by simp
 have zg:=(h.own _ ke).2
 have kq:Evo (Jh X.ok X.w.heap.size β H (O1++t::O2) w) w w':=Evo.of_blocks kg fun b o hk=>hblk b hk.2.1 fun hb=>hk.2.2.2 t ke (wt b o hb)
 have kn:∀b o,Jh X.ok X.w.heap.size β H (O1++t::O2) w b o→Jh X.ok X.w.heap.size β H (O1++t'::O2) w' b o:=by
  rintro b o ⟨h1,h2,h3,h4⟩
  refine⟨h1,QC h2 kg,h3,fun u hu hc=>?_⟩
  rcases QX.1 hu with hu | hu
  ·grind
  ·rcases QJ.1 hu with rfl | hu
   ·rcases yu b (u.cb hc)with hb | hb
    ·grind
    ·omega
   grind
 have xu:=QF.1 h.dOO
 have sj:=List.pairwise_cons.1 xu.2.1
 have sn:∀u∈O1++O2,∀g,u.blks g→¬ t.blks g∧g<w.heap.size:=by
  intro u hu g hg
  refine⟨fun hb=>?_,h.olt (by rcases QX.1 hu with hu | hu<;>simp[hu]) hg⟩
  grind
 have u3:∀u∈O1++O2,∀g,u.blks g→¬ t'.blks g:=by
  grind
 refine { sz:=h.sz,df:=h.df,fr:=h.fr,pn:=h.pn,tm:=h.tm,bel:=?_,dat:=(h.dat.evo kq).weak kn,obj:=?_,own:=?_,dHH:=h.dHH,dHO:=?_,dOO:=?_ }
 ·exact h.bel.trans ⟨mg,mh,uc,kg,fun k hk hn=>hblk k (QC hk h.bel.size) fun hb=>(zg k hb).elim (fun h=>by omega) hn⟩
 ·intro p xe
  refine⟨?_,(h.obj p xe).2⟩
  rw[hblk _ (h.hlt xe) (h.dHO p xe t ke)]
  exact(h.obj p xe).1
 ·intro u hu
  have keep:∀u∈O1++O2,u.p (Jh X.ok X.w.heap.size β H (O1++t'::O2) w') w'∧∀g,u.blks g→X.mine g:=by
   intro u hu
   have ud:u∈O1++t::O2:=by rcases QX.1 hu with hu | hu<;>simp[hu]
   exact⟨u.weak (u.keep (h.own u ud).1 (fun g hg=>hblk g (sn u hu g hg).2 (sn u hu g hg).1) kq) kn,(h.own u ud).2⟩
  rcases QX.1 hu with hu | hu
  ·grind
  ·rcases QJ.1 hu with rfl | hu
   ·exact⟨hp kq kn,fun g hg=>(yu g hg).elim (zg g) fun hb=>.inl (Nat.le_trans h.bel.size hb)⟩
   grind
 ·intro p xe u hu
  rcases QX.1 hu with hu | hu
  ·exact h.dHO p xe u (by simp[hu])
  ·rcases QJ.1 hu with rfl | hu
   ·intro hb
    rcases yu _ hb with hb | hb
    ·exact h.dHO p xe t ke hb
    ·have:=h.hlt xe; omega
   ·exact h.dHO p xe u (by simp[hu])
 ·refine QF.2 ⟨xu.1,List.pairwise_cons.2 ⟨fun u hu g hg y9=>u3 u (by simp[hu]) g y9 hg,sj.2⟩,?_⟩
  grind
theorem Sb.mset(h:Sb β X G D H O a w)(O1 O2:List TL){τ:Type}{r:RT τ}{xs:List τ}{m c g:Nat}{j:Int}{y z:τ}{e:TypeId}
  (hO:O=O1++ml (.slice (some ⟨g,0,none⟩) m c) e r xs::O2) (hy:idx xs j=some y) (zn:0<r.size) {off:Nat} {ds:List Value} (z7:off+ds.length≤r.size) (h1:∀d∈ds,d.oneCell'=true)
  (hz:∀es,r.rep (Jh X.ok X.w.heap.size β H O w) w y es→r.rep (Jh X.ok X.w.heap.size β H O w) w z (es.take off++ds++es.drop (off+ds.length))) :
  ∃cur fz,(w.heap[g]?=some (.cells cur e fz)∧Qvj fz cur.size)∧j.toNat*r.size+off+ds.length≤cur.size ∧
   Sb β X G D H (O1++ml (.slice (some ⟨g,0,none⟩) m c) e r (xs.set j.toNat z)::O2) a (w.setRow g (cur.toList.take (j.toNat*r.size+off)++ds++cur.toList.drop (j.toNat*r.size+off+ds.length)).toArray):=by
 have ke:ml (.slice (some ⟨g,0,none⟩) m c) e r xs∈O:=by rw[hO]; simp
 obtain⟨g',cap,cur,fz,hA,⟨hh,ya⟩,hm,hj,hle,zx,hc,yw,hr⟩:=h.mget ke hy zn
 injection hA with hA; injection hA with hA; subst hA
 have hj1:(j.toNat+1)*r.size≤m*r.size:=QD _ hj
 have hj2:m*r.size≤cap*r.size:=QD _ hle
 rw[Nat.add_mul]at hj1
 have xg:cap*r.size≤cur.toList.length:=by simpa using zx
 have hlen:j.toNat*r.size+off+ds.length≤cur.size:=by omega
 refine⟨cur,fz,⟨hh,ya⟩,hlen,?_⟩
 have wu:=setRow_heap w g cur (cur.toList.take (j.toNat*r.size+off)++ds++cur.toList.drop (j.toNat*r.size+off+ds.length)).toArray e _ hh
 refine h.upd (t':=ml (.slice (some ⟨g,0,none⟩) m c) e r (xs.set j.toNat z)) hO rfl rfl rfl (by simp) (fun b hb hn=>setRow_other _ _ _ _ fun e=>hn (by subst e; rfl)) (fun b o hb=>hb) (fun g hg=>.inl hg) fun kq kn=>?_
 have zr:=Fh hr (Ws hy).2
 have iw:(cur.toList.take (m*r.size)).drop (j.toNat*r.size)=(cur.toList.drop (j.toNat*r.size)).take (m*r.size - j.toNat*r.size):=by rw[List.drop_take]
 have e1:((cur.toList.take (m*r.size)).drop (j.toNat*r.size)).take r.size=(cur.toList.drop (j.toNat*r.size)).take r.size:=by
  rw[iw,XY]; congr 1; omega
 rw[e1]at zr
 have u3:=hz _ zr
 have hL:((cur.toList.drop (j.toNat*r.size)).take r.size).length=r.size:=r.len zr
 refine⟨by simp[K2,hm],_,⟨?_,.inr ⟨g,cap,_,fz,by rw[hc]; rfl,QM _,wu,by rw[JF,List.length_append,List.length_append,List.length_take,List.length_drop,Nat.min_eq_left (by omega),show j.toNat*r.size+off+ds.length+(cur.toList.length - (j.toNat*r.size+off+ds.length))=cur.size by simp; omega]; exact ya,hle,yw,by rw[JF,List.length_append,List.length_append,List.length_take,List.length_drop]; omega,rfl⟩⟩,?_⟩
 ·grind [K2,List.length_take,List.length_append,List.length_drop]
 ·have h2:=Qoq (Xr (Fg hr kq) kn) (i:=j.toNat) (z:=z) (by omega) (r.weak (r.evo u3 kq) kn)
  simp only[K2]
  have ye:=Q9k cur.toList ds (a:=j.toNat*r.size) (s:=r.size) (M:=m*r.size) (off:=off) (by omega) z7 (by omega)
  rw[ye]
  have iy:(List.take off (List.take r.size (List.drop (j.toNat*r.size) cur.toList))++ds++List.drop (off+ds.length) (List.take r.size (List.drop (j.toNat*r.size) cur.toList))).length=r.size:=by
   simp; omega
  rw[iy]at h2
  exact h2
def mkL{α:Type}(bytes:Nat)(l c:Int)(z:α):Option (List α):=if 0≤l∧l≤c∧(bytes:Int)*c≤281474976710656 then some (List.replicate l.toNat z)else none
theorem Qor(zc:List Value):∀l:Nat,((List.range (l*zc.length)).map fun j=>zc.getD (j % zc.length) undef)=(List.replicate l zc).flatten
 | 0=>by simp
 | l+1=>by
  rw[Nat.add_mul,ZN,List.range_add,QB,Qor zc l,List.replicate_succ',ZC]
  congr 1
  simp only[List.map_map,List.flatten_cons,List.flatten_nil,QH]
  apply List.ext_getElem
  ·simp
  simp_all [List.getElem_map,List.getElem_range,Function.comp,Nat.mul_comm,Nat.mul_add_mod,Nat.mod_eq_of_lt]
theorem Qyn{τ:Type}{r:RT τ}{ok:Ok}{z:τ}{zc:List Value}(h:r.rep ok w z zc):∀l,Ku r ok w (List.replicate l z) (List.replicate l zc).flatten
 | 0=>by simp[Ku]
 | l+1=>⟨zc,(List.replicate l zc).flatten,by grind,h,Qyn h l⟩
theorem Q9l(hT:Q6 P T)(h:Sb β X G D H O a w){t:TypeId}{lo co:Operand}{d:Nat}{ps:String}{af:Array Edge}{ty:TypeId}{gd:Option (Nat×Bool)}
  (hg:Bm ops G ⟨some d,.makeSlice t lo co,ty,ps,af,gd⟩=some true) (hlt:okD X d=true)
  {τ:Type} {r:RT τ} {z:τ} {zs:List τ} {kl kc:IntKind} {l c:Int} {e:TypeId} {te ee:TE} (ht:Qh T t=some te) (kr:te.d=.slice e) (he:Qh T e=some ee) (hs:ee.size=r.size)
  (xa:Nat.beq (Qu ee.z).length ee.size=true) (yk:Nat.ble 1 ee.bytes=true) (hz:∀ok w,r.rep ok w z (Qu ee.z))
  (hl:gv G lo=some (.v (.int kl l))) (hc:gv G co=some (.v (.int kc c))) (qi:mkL ee.bytes l c z=some zs)
  (hk:∀b a' w',Sb β X (Sj G d (.v (.slice (some ⟨b,0,none⟩) zs.length c.toNat))) D H (ml (.slice (some ⟨b,0,none⟩) zs.length c.toNat) e r zs::O) a' w'→wpList P ops Q rest a' w') :
  wpList P ops Q (⟨some d,.makeSlice t lo co,ty,ps,af,gd⟩::rest) a w:=by
 unfold mkL at qi
 split at qi
 ·rename_i hcd
  obtain⟨h0,h1,h2⟩:=hcd
  have xb:zs=List.replicate l.toNat z:=(Option.some.inj qi).symm
  have hlen:zs.length=l.toNat:=by rw[xb]; simp
  have hu:P.underlying t=some (.slice e):=by rw[(Jq hT ht).2,kr]
  obtain⟨i,hi,vy,aa,uw⟩:=Wr hT he
  have ub:1≤ee.bytes:=QK yk
  have hc63:c≤281474976710656:=by
   have:(1:Int)*c≤(ee.bytes:Int)*c:=XH (by omega) (by omega)
   omega
  have qm:=Nat.eq_of_beq_eq_true xa
  have hr:=run_make (P:=P) w t e i ee.z hu hi vy kl kc l c h0 h1 (by rw[uw]; exact h2) (by omega)
  have ka:(execOp a.eval ⟨some d,.makeSlice t lo co,ty,ps,af,gd⟩).run P w=.ok (.value (.slice (some ⟨w.heap.size,0,none⟩) zs.length c.toNat)) (w.alloc (.cells (madeCells ee.z.cells (c.toNat*i.size)) e)):=by
   unfold execOp
   simp only[h.ev hl,h.ev hc,D8]
   simp[hr,hlen]
  refine Jr (Kc h hg) (Yr ka ?_)
  have hb:Below w.heap.size w (w.alloc (.cells (madeCells ee.z.cells (c.toNat*i.size)) e)):=(Below.refl _ _).alloc (QY _) _
  have yn:(madeCells ee.z.cells (c.toNat*i.size)).toList=(List.replicate c.toNat (Qu ee.z)).flatten:=by
   rw[←Qor,qm,aa]
   unfold madeCells
   rw[Vk]at qm ⊢
   simp only[Array.toList_map,Array.toList_range]
   grind [List.map_congr_left,Nat.eq_zero_or_pos,Nat.mod_lt,List.getElem?_eq_getElem]
  refine hk _ _ _ ((h.allocTL hb (t:=ml (.slice (some ⟨w.heap.size,0,none⟩) zs.length c.toNat) e r zs) (fun g hg=>?_) ⟨rfl,(List.replicate l.toNat (Qu ee.z)).flatten,⟨?_,.inr ⟨w.heap.size,c.toNat,_,(0,0),rfl,QM _,heap_alloc_new w _,.inl rfl,?_,?_,?_,?_⟩⟩,?_⟩).put hlt (.v _))
  ·have hg:some w.heap.size=some g:=hg
   grind
  ·simp_all [K2]
  ·grind [K2]
  ·rw[Lc]; omega
  ·grind [Nat.le_of_eq,size_madeCells]
  ·simp only[K2]
   rw[yn,hlen]
   have e1:c.toNat=l.toNat+(c.toNat - l.toNat):=by omega
   rw[e1,←List.replicate_append_replicate,ZC]
   have e2:l.toNat*r.size=(List.replicate l.toNat (Qu ee.z)).flatten.length:=by simp[qm,hs]
   rw[e2,List.take_left]
  grind [Qyn]
 ·cases qi
end
end Gd

/- Rows that are appended to, frozen, lent to a call. -/
namespace Gd
open Go Go.RowKit
set_option linter.unusedVariables false
set_option linter.unusedSimpArgs false
section
variable {P:Program} {T:Tab} {β:Nat→Nat} {X:Cx} {G:GL} {D:List DF} {H:HL} {O:List TL} {a:Act} {w w':World}
variable {ops:Array Oper} {Q:Exit→Act→World→Prop} {rest:List Oper}
theorem Sb.addNilM(h:Sb β X G D H O a w)(e:Nat){τ:Type}(r:RT τ):Sb β X G D H (ml (.slice none 0 0) e r []::O) a w :=
 h.allocTL (Below.refl _ _) (fun g hg=>by have hg:(none:Option Nat)=some g:=hg; cases hg) ⟨rfl,[],World.ownsRowS_nil _ _ _ _,rfl⟩
theorem Sb.freeze(h:Sb β X G D H O a w){τ:Type}{r:RT τ}{xs:List τ}{A:Option Addr}{c:Nat}{e:Nat}{O2:List TL}(hO:O=ml (.slice A xs.length c) e r xs::O2)(zn:Nat.ble 1 r.size=true) :
  Sb β X G (DF.v (rSl r) xs (.slice A xs.length c)::D) H (tl (.slice A xs.length c) e r.size::O2) a w:=by
 subst hO
 have ke:ml (.slice A xs.length c) e r xs∈ml (.slice A xs.length c) e r xs::O2:=.head _
 obtain⟨⟨hl,cs,kb,hr⟩,zg⟩:=h.own _ ke
 have kn:∀b o,Jh X.ok X.w.heap.size β H (ml (.slice A xs.length c) e r xs::O2) w b o→Jh X.ok X.w.heap.size β H (tl (.slice A xs.length c) e r.size::O2) w b o:=by
  rintro b o ⟨h1,h2,h3,h4⟩
  refine⟨h1,h2,h3,fun u hu hc=>?_⟩
  rcases QJ.1 hu with rfl | hu
  ·exact h4 _ (.head _) hc.1
  grind
 have xu:=List.pairwise_cons.1 h.dOO
 refine { sz:=h.sz,df:=h.df,fr:=h.fr,pn:=h.pn,tm:=h.tm,bel:=h.bel,dat:=⟨?_,h.dat.weak kn⟩,obj:=h.obj,own:=fun u hu=>?_,dHH:=h.dHH,dHO:=fun p hp u hu=>?_,dOO:=List.pairwise_cons.2 ⟨fun u hu g hg=>xu.1 u hu g hg,xu.2⟩ }
 ·refine Zu.2 ⟨A,xs.length,c,rfl,rfl,?_,fun h0=>?_⟩
  ·rcases kb.2 with⟨hv,h0⟩ | ⟨g,cap,cur,fz,hv,_,_,_,hle,_⟩
   ·grind
   grind
  ·rcases kb.2 with⟨hv,h1⟩ | ⟨g,cap,cur,fz,hv,_,hh,ya,hle,yw,zx,xz⟩
   ·grind
   ·injection hv with e1 e2 e3
    simp only[K2]at hle xz
    refine⟨g,0,e1,fun i x hx=>?_⟩
    have hi:=(List.getElem?_eq_some_iff.1 hx).1
    have zr:=Fh hr hx
    refine⟨_,r.weak zr kn,fun j u hu=>?_⟩
    have hj:j<r.size:=by have:=(List.getElem?_eq_some_iff.1 hu).1; rw[r.len zr]at this; exact this
    have qo:(Value.slice A xs.length c).ownBlock=some g:=by rw[e1]; rfl
    rw[QV]
    refine⟨⟨X.mine_ok (zg g qo) _,Y9 hh,fun p hp e2=>h.dHO p hp _ ke (by rw[e2]; exact qo),fun u' ud hc=>?_⟩,?_⟩
    ·rcases QJ.1 ud with rfl | ud
     ·have:=hc.2
      grind
     ·exact xu.1 u' ud g qo (u'.cb hc)
    grind [Qsz,List.getElem?_take_of_lt]
 ·rcases QJ.1 hu with rfl | hu
  ·exact⟨⟨cs,kb⟩,zg⟩
  ·exact⟨u.weak (h.own u (.tail _ hu)).1 kn,(h.own u (.tail _ hu)).2⟩
 ·rcases QJ.1 hu with rfl | hu
  ·exact fun hg=>(h.dHO p hp _ ke) hg
  ·exact h.dHO p hp u (.tail _ hu)
theorem Qhb(hT:Q6 P T)(h:Sb β X G D H O a w)(O1 O2:List TL){t:TypeId}{s x:Operand}{d:Nat}{ps:String}{af:Array Edge}{ty:TypeId}{gd:Option (Nat×Bool)}
  (hg:Bm ops G ⟨some d,.call ⟨.builtin .append,⟨[s,x]⟩,⟨[t,t]⟩⟩,ty,ps,af,gd⟩=some true) (hlt:okD X d=true)
  {τ:Type} {r:RT τ} {xs ys zs:List τ} {A:Option Addr} {A2:Option Addr} {m c m2 c2:Nat} {e:TypeId} {te ee:TE} (ht:Qh T t=some te) (kr:te.d=.slice e) (he:Qh T e=some ee) (hs:ee.size=r.size)
  (hz:Nat.beq (Qu ee.z).length ee.size=true) (kg:Nat.ble 1 ee.size=true) (yk:Nat.ble 1 ee.bytes=true)
  (hO:O=O1++ml (.slice A m c) e r xs::O2) (wy:gv G s=some (.v (.slice A m c))) (xy:gv G x=some (.v (.slice A2 m2 c2)))
  (hDy:Qyl r (Jh X.ok X.w.heap.size β H O w) w ys A2 m2 c2) (zo:app ee.bytes xs ys=some zs)
  (hk:∀A' c' a' w',Sb β X (Sj G d (.v (.slice A' zs.length c'))) D H (O1++ml (.slice A' zs.length c') e r zs::O2) a' w'→wpList P ops Q rest a' w') :
  wpList P ops Q (⟨some d,.call ⟨.builtin .append,⟨[s,x]⟩,⟨[t,t]⟩⟩,ty,ps,af,gd⟩::rest) a w:=by
 obtain⟨zd,rfl⟩:=Qja zo
 have ke:ml (.slice A m c) e r xs∈O:=by rw[hO]; simp
 obtain⟨⟨hl,xs0,kb,hr⟩,zg⟩:=h.own _ ke
 obtain⟨csy,vz,va,iq,hA2,sc,mb,mc⟩:=hDy
 have xa:=Nat.eq_of_beq_eq_true hz
 have ua:0<ee.size:=QK kg
 have ub:0<ee.bytes:=QK yk
 have yz:∀ad,A2=some ad→∀j u,csy[j]?=some u→w.cell? (ad.add j)=some u:=by
  intro ad had j u hu
  have hj:=(List.getElem?_eq_some_iff.1 hu).1
  have tn:0<m2:=by
   grind
  grind [Hi]
 simp only[K2]at kb hl
 rw[←hs]at kb
 obtain⟨v',w1,ka,zl,kj,hblk⟩:=Qfo (P:=P) (w:=w) (ty:=ty) hT ht kr he xa ua ub kb (QM _) (k:=m2) (c:=c2) (A:=A2) (news:=csy) (by rw[hs]; exact vz) hA2 yz sc (by rw[hl,←va]; exact zd)
 have yd:(execOp a.eval ⟨some d,.call ⟨.builtin .append,⟨[s,x]⟩,⟨[t,t]⟩⟩,ty,ps,af,gd⟩).run P w=.ok (.value v') w1:=by
  unfold execOp
  have hm:(Array.mk [s,x]).map a.eval=⟨[.slice A m c,.slice A2 m2 c2]⟩:=by simp[h.ev wy,h.ev xy,D8]
  simp_all [resolve,invoke,builtin]
 have ym:∃A' c',v'=.slice A' (m+m2) c':=by
  rcases zl.2 with⟨rfl,h0⟩ | ⟨g,cap,cur,fz,rfl,_⟩
  ·grind
  grind
 obtain⟨A',c',rfl⟩:=ym
 have hlen:m+m2=(xs++ys).length:=by rw[List.length_append,hl,va]
 refine Jr (Kc h hg) (Yr yd ?_)
 have hS:Sb β X G D H (O1++ml (.slice A' (m+m2) c') e r (xs++ys)::O2) a w1:=by
  refine h.upd hO kj.os kj.tape kj.output kj.size (fun b hb hn=>kj.block b hb fun e=>hn e.symm) (fun b o hb=>hb) (fun g hg=>?_) fun kq kn=>?_
  ·rcases hblk with xc | ⟨xc,_⟩
   ·exact .inl (by have hg:(Value.slice A' (m+m2) c').ownBlock=some g:=hg; rw[xc]at hg; exact hg)
   ·have hg:(Value.slice A' (m+m2) c').ownBlock=some g:=hg
    rw[xc]at hg; grind
  ·refine⟨hlen,xs0++csy,by rw[←hs]; exact zl,Nk (Xr (Fg hr kq) kn) (Xr (Fg ?_ kq) kn)⟩
   grind [Qha]
 have:=hk A' c' (a.put (some d) (.slice A' (m+m2) c')) w1
 rw[←hlen]at this
 exact this (hS.put hlt (.v _))
end
end Gd
namespace Gd
open Go Go.RowKit
section
variable {P:Program} {T:Tab} {β:Nat→Nat} {X:Cx} {G:GL} {D:List DF} {H:HL} {O:List TL} {a:Act} {w w':World}
variable {ops:Array Oper} {Q:Exit→Act→World→Prop} {rest:List Oper}
def Jnk(v:Value):List Nat:=match v.ownBlock with
 | some g=>[g]
 | none=>[]
theorem Qyo{v:Value}{g:Nat}:g∈Jnk v↔v.ownBlock=some g:=by
 unfold Jnk
 grind
def Qle(Ts:List TL)(L:List Nat)(ok:Ok)(w:World):Prop :=
 (∀t∈Ts,t.p ok w∧(∀g,t.blks g→g∈L)∧∀g o,t.blks g→¬ ok g o)∧(Ts.Pairwise fun s t=>∀g,s.blks g→¬ t.blks g)∧∀g∈L,∃t∈Ts,t.blks g
theorem Q9m{f:FuncId}{fn:Func}{c:Code}{vs:List Value}{R:Value→World→Prop}{ok:Ok}{n:Nat}{L:List Nat}{O:List TL}(kn:∀b o,ok b o→b<w.heap.size)
  (hf:P.funcs[f]?=some fn) (hb:fn.body=some c) (hn:fn.ntmps=n) (hle:Nat.ble vs.length n=true) {D:List DF} (hD:Qg3 ok w D) (hO:Qle O L ok w)
  (h:∀a,Sb (fun _=>0) (cxL L n ok w) (Qyh vs 0) D [] O a w→c.wp P (bodyPost P fn (Qvn L w R)) a w):Calls P f ⟨vs⟩ w (Qvn L w R):=by
 refine calls_of_wp hf hb (h _ ?_)
 have hle':=QK hle
 have hk:∀b o,ok b o→Jh (okL L ok) w.heap.size (fun _=>0) [] O w b o:=fun b o kp=>⟨.inl (.inl kp),kn b o kp,by simp,fun t ht hc=>(hO.1 t ht).2.2 b o (t.cb hc) kp⟩
 refine { sz:=by grind,df:=rfl,fr:=by simp,pn:=by simp,tm:=?_,bel:=Uv.refl _ _ _,dat:=hD.weak hk,obj:=by simp,own:=fun t ht=>⟨t.weak (hO.1 t ht).1 hk,fun g hg=>.inr ((hO.1 t ht).2.1 g hg)⟩,dHH:=by simp,dHO:=by simp,dOO:=hO.2.1 }
 intro p hp
 obtain⟨j,v,rfl,hv⟩:=Qyi hp
 have hj:=(List.getElem?_eq_some_iff.1 hv).1
 simp_all [QV,D8,XQ]
theorem Sb.melt0{A:Option Addr}{c e:Nat}{τ:Type}{r:RT τ}{O2:List TL}(h:Sb β X G D H (tl (.slice A 0 c) e r.size::O2) a w):Sb β X G D H (ml (.slice A 0 c) e r []::O2) a w:=by
 have kn:∀b o,Jh X.ok X.w.heap.size β H (tl (.slice A 0 c) e r.size::O2) w b o→Jh X.ok X.w.heap.size β H (ml (.slice A 0 c) e r []::O2) w b o:=by
  rintro b o ⟨h1,h2,h3,h4⟩
  refine⟨h1,h2,h3,fun u hu hc=>?_⟩
  rcases QJ.1 hu with rfl | hu
  ·exact h4 _ (.head _) ⟨hc,by simp[K2]⟩
  grind
 obtain⟨⟨cs,kb⟩,zg⟩:=h.own _ (.head _)
 have xu:=List.pairwise_cons.1 h.dOO
 have zx:cs=[]:=by
  have:=kb.1
  simp_all [K2,XI,QE]
 refine { sz:=h.sz,df:=h.df,fr:=h.fr,pn:=h.pn,tm:=h.tm,bel:=h.bel,dat:=h.dat.weak kn,obj:=h.obj,own:=fun u hu=>?_,dHH:=h.dHH,dHO:=fun p hp u hu=>?_,dOO:=List.pairwise_cons.2 ⟨fun u hu g hg=>xu.1 u hu g hg,xu.2⟩ }
 ·rcases QJ.1 hu with rfl | hu
  ·exact⟨⟨rfl,cs,kb,by subst zx; rfl⟩,zg⟩
  ·exact⟨u.weak (h.own u (.tail _ hu)).1 kn,(h.own u (.tail _ hu)).2⟩
 ·rcases QJ.1 hu with rfl | hu
  ·exact fun hg=>h.dHO p hp _ (.head _) hg
  ·exact h.dHO p hp u (.tail _ hu)
end
end Gd

/- Results of a call's own, as rows that will be written: for elements that hold no addresses. -/
namespace Gd
open Go Go.RowKit
set_option linter.unusedVariables false
set_option linter.unusedSimpArgs false
section
variable {P:Program} {T:Tab} {β:Nat→Nat} {X:Cx} {G:GL} {D:List DF} {H:HL} {O:List TL} {a:Act} {w w':World}
variable {ops:Array Oper} {Q:Exit→Act→World→Prop} {rest:List Oper}
end
end Gd

/- From a statement's arguments to typed values, and back to the statement. -/
namespace Gd
open Go Go.RowKit Go.WideShapes Go.ChangeShapes
set_option linter.unusedVariables false
set_option linter.unusedSimpArgs false
def Co{τ:Type}(P:Program)(r:RT τ)(t:TypeId)(good:τ→Prop):Prop :=
 P.cellsOf t=r.size∧(∀{w:World} {rc:Reach} {b:Nat} {v:Value},Value.okWide P w rc b t v→(r.agg=true→∃cs,v=.agg cs)∧(r.agg=false→∃c,v.cells=#[c]∧v=c)) ∧
 ∀{H:Type} (enc:TypeId×Value→H) (w:World) (n:Nat) (cs:List Value) (x:DataW H×List MemPlace),
  DataW.trod enc P w 0 (fun _=>true) true n t cs=some x→∃y,r.rep (lt w) w y cs∧good y
def Jds(k:IntKind)(n:Int):Prop:=k.min≤n∧n≤k.max
def Jdt(s:Str):Prop:=s.length≤maxLen
def Jo2(_:Bool):Prop:=True
def Qos{τ:Type}(g:τ→Prop)(l:List τ):Prop:=l.length≤maxLen∧∀x∈l,g x
section
variable {P:Program}
theorem Q9n{t:TypeId}{k:IntKind}(ht:P.underlying t=some (.int k))(hc:P.cellsOf t=1):Co P (Si k) t (Jds k):=by
 refine⟨hc,fun hv=>⟨fun h=>(nomatch h),fun _=>?_⟩,fun enc w n cs x h=>?_⟩
 ·obtain⟨n,rfl⟩:=okWide_int ht hv
  exact⟨_,rfl,rfl⟩
 ·obtain⟨m,rfl,_,hw⟩:=DataW.trod_int ht h
  exact⟨m,rfl,by grind [Lit.wf,Jds]⟩
theorem Q30{t:TypeId}(ht:P.underlying t=some .bool)(hc:P.cellsOf t=1):Co P Qsv t Jo2:=by
 refine⟨hc,fun hv=>⟨fun h=>(nomatch h),fun _=>?_⟩,fun enc w n cs x h=>?_⟩
 ·obtain⟨n,rfl⟩:=okWide_bool ht hv
  exact⟨_,rfl,rfl⟩
 ·obtain⟨m,rfl,_⟩:=DataW.trod_bool ht h
  exact⟨m,rfl,trivial⟩
theorem Q9o{t:TypeId}(ht:P.underlying t=some .string)(hc:P.cellsOf t=1):Co P Jnj t Jdt:=by
 refine⟨hc,fun hv=>⟨fun h=>(nomatch h),fun _=>?_⟩,fun enc w n cs x h=>?_⟩
 ·obtain⟨n,rfl⟩:=okWide_string ht hv
  exact⟨_,rfl,rfl⟩
 ·obtain⟨s,rfl,_,hs⟩:=DataW.trod_string ht h
  refine⟨s.data.toList,?_,by simp_all [Jdt]⟩
  show [Value.string s]=[Yg s.data.toList]
  simp[Yg]
theorem Jdu{τ:Type}{r:RT τ}{t e:TypeId}{g:τ→Prop}(ht:P.underlying t=some (.slice e))(hc:P.cellsOf t=1)(he:Co P r e g)(zn:0<r.size):Co P (rSl r) t (Qos g):=by
 refine⟨hc,fun hv=>⟨fun h=>(nomatch h),fun _=>?_⟩,fun enc w n cs x h=>?_⟩
 ·obtain⟨a,l,c,rfl⟩:=okWide_slice ht hv
  exact⟨_,rfl,rfl⟩
 ·rcases DataW.trod_slice ht h with⟨rfl,_⟩ | ⟨a,len,cap,elems,rest,m,_,rfl,_,_,hlc,yw,hel,ze,_⟩
  ·exact⟨[],⟨_,rfl,none,0,0,rfl,rfl,QY _,fun h0=>absurd h0 (by omega)⟩,by simp[Qos]⟩
  ·have kg:P.cellsOf e=r.size:=he.1
   have h1:∀i,i<len→∃y cs,r.rep (lt w) w y cs∧g y∧w.cells? 0 (a.add (i*P.cellsOf e)) (P.cellsOf e)=some cs:=by
    intro i hi
    have:=ze i hi
    obtain⟨z,hz⟩:∃z,elems[i]?=some z:=⟨elems[i]'(by omega),List.getElem?_eq_getElem (by omega)⟩
    rw[hz]at this
    obtain⟨cs,zx,mi⟩:=Option.bind_eq_some_iff.1 this
    obtain⟨y,hy,hg⟩:=he.2.2 enc w m cs z mi
    grind
   have h2:∀k,k≤len→∃ys:List τ,ys.length=k∧∀i y,ys[i]?=some y→∃cs,r.rep (lt w) w y cs∧g y∧w.cells? 0 (a.add (i*P.cellsOf e)) (P.cellsOf e)=some cs:=by
    intro k
    induction k with
    | zero=>simp_all
    | succ k ih =>
     intro hk
     obtain⟨ys,hl,zu⟩:=ih (by omega)
     obtain⟨y,cs,hy,hg,zx⟩:=h1 k (by omega)
     refine⟨ys++[y],by simp[hl],fun i z hz=>?_⟩
     grind
   obtain⟨ys,hl,zu⟩:=h2 len (QY _)
   refine⟨ys,⟨_,rfl,some a,len,cap,rfl,hl,hlc,fun h0=>?_⟩,⟨by omega,fun y hy=>?_⟩⟩
   ·have mj:a.spot=none:=by
     obtain⟨y,cs,_,_,zx⟩:=h1 0 h0
     obtain⟨_,hlen,yy⟩:=World.cells?_some zx
     have g0:=yy 0 (by omega)
     grind [List.getElem?_eq_getElem,Addr.add,World.cell?_spot]
    obtain⟨b,o,sp⟩:=a
    simp only at mj
    subst mj
    refine⟨b,o,rfl,fun i y hi=>?_⟩
    obtain⟨cs,hy,_,zx⟩:=zu i y hi
    obtain⟨_,hlen,yy⟩:=World.cells?_some zx
    refine⟨cs,hy,fun j u hu=>?_⟩
    have hj:j<P.cellsOf e:=by rw[←hlen]; grind
    have:=yy j hj
    rw[hu,add_plain,add_plain,kg]at this
    refine⟨?_,this⟩
    show b<w.heap.size
    grind [World.cell?,Nat.lt_or_ge,Array.getElem?_eq_none]
   grind [List.getElem?_of_mem]
theorem Co.fld{τ:Type}{r:RT τ}{t:TypeId}{g:τ→Prop}(ho:Co P r t g){H:Type}{enc:TypeId×Value→H}{w:World}{n:Nat}{cs:List Value}{fs:Array Field}{xs:List (DataW H×List MemPlace)}
  (hlen:xs.length=fs.size) (hf:∀(i:Nat) (f:Field),fs[i]?=some f→DataW.trod enc P w 0 (fun _=>true) true n f.type ((cs.drop f.offset).take (P.cellsOf f.type))=xs[i]?)
  (i:Nat) (o:Nat) {f:Field} (hi:fs[i]?=some f) (ht:f.type=t) (qs:f.offset=o):∃y,r.rep (lt w) w y ((cs.drop o).take r.size)∧g y:=by
 have h1:=hf i f hi
 have hlt:=(Array.getElem?_eq_some_iff.1 hi).1
 rw[List.getElem?_eq_getElem (by omega),ht,qs,ho.1]at h1
 exact ho.2.2 enc w n _ _ h1
theorem Co.arg{τ:Type}{r:RT τ}{t:TypeId}{g:τ→Prop}(ho:Co P r t g){H:Type}{enc:TypeId×Value→H}{w:World}{rc:Reach}{b:Nat}{v:Value}{d:DataW H}{ps:List MemPlace}
  (hv:Value.okWide P w rc b t v) (h:DataW.Trod enc P w 0 (fun _=>true) true t v d ps):∃y,isV r (lt w) w y v∧g y:=by
 obtain⟨n,hn⟩:=h
 obtain⟨y,hy,hg⟩:=ho.2.2 enc w n _ _ hn
 refine⟨y,⟨_,hy,?_⟩,hg⟩
 unfold RT.val
 cases ha:r.agg with
 | true =>
  obtain⟨cs,rfl⟩:=(ho.2.1 hv).1 ha
  simp[Value.cells]
 | false =>
  obtain⟨c,hc,rfl⟩:=(ho.2.1 hv).2 ha
  rw[hc]; simp
end
section
variable {H:Type} {enc:TypeId×Value→H} {P:Program} {W:World} {base:Nat} {vs:List String}
theorem Jo3{t1 t2:TypeId}{args:Array Value}{ds gs:List (DataW H)}{before:List MemPlace}{ts:Array TypeId}(hts:ts=#[t1,t2])
  (yg:∀(j:Nat) t v,ts[j]?=some t→args[j]?=some v→Value.okWide P W .any base t v) (hW:DataW.Whole enc P ts.toList vs false W args.toList ds gs before)
  {τ1 τ2:Type} {r1:RT τ1} {r2:RT τ2} {g1:τ1→Prop} {g2:τ2→Prop} (ho1:Co P r1 t1 g1) (ho2:Co P r2 t2 g2) :
  ∃v1 v2 y1 y2,args=⟨[v1,v2]⟩∧isV r1 (lt W) W y1 v1∧g1 y1∧isV r2 (lt W) W y2 v2∧g2 y2:=by
 subst hts
 obtain⟨p,q,hA,_⟩:=hW
 obtain⟨v1,vs1,d1,ds1,p1,q1,zq,rfl,rfl,h1,k1⟩:=trodAll_cons hA
 obtain⟨v2,vs2,d2,ds2,p2,q2,rfl,rfl,rfl,h2,k2⟩:=trodAll_cons k1
 obtain⟨rfl,rfl,rfl⟩:=trodAll_nil k2
 obtain rfl:args=⟨[v1,v2]⟩:=by grind
 obtain⟨y1,hy1,hg1⟩:=ho1.arg (yg 0 t1 v1 rfl rfl) h1
 obtain⟨y2,hy2,y9⟩:=ho2.arg (yg 1 t2 v2 rfl rfl) h2
 grind
theorem Qe0(hl:laidOutB P=true){W':World}{sp:Nat→Bool}:∀{ts:List TypeId} {vs:List Value} {ds:List (DataW H)} {ps:List MemPlace},
  (ts.all fun t=>P.readableRec t&&decide (t<P.types.size))=true→DataW.TrodAll enc P W 0 (fun _=>true) true ts vs ds ps→(∀p∈ps,W.sameAt W' p)→(∀p∈ps,sp p.block=true)→DataW.TrodAll enc P W' 0 sp true ts vs ds ps
 | [],[],[],_,_,h,_,_=>h
 | t::ts,v::vs,d::ds,ps,hr,⟨p,q,h,hs,e⟩,h1,h2=>by
  subst e
  simp only[XX,QQ,decide_eq_true_eq]at hr
  exact⟨p,q,WideElems.Trod_stays hl hr.1.1 hr.1.2 h (fun x hx=>h1 x (QX.2 (.inl hx))) (fun x hx=>h2 x (QX.2 (.inl hx))),
   Qe0 hl hr.2 hs (fun x hx=>h1 x (QX.2 (.inr hx))) (fun x hx=>h2 x (QX.2 (.inr hx))),rfl⟩
theorem Qlf{w:World}{sp:Nat→Bool}{hd:Bool}:∀{ts:List TypeId} {vs:List Value} {ds:List (DataW H)} {ps:List MemPlace},DataW.TrodAll enc P w base sp hd ts vs ds ps→ds.length=ts.length
 | [],[],[],_,_=>rfl
 | _::_,_::_,_::_,_,⟨_,_,_,hs,_⟩=>congrArg (·+1) (Qlf hs)
theorem Jdv{f:FuncId}{fn:Func}{s:ChangeSpec}{args:Array Value}{ds gs:List (DataW H)}{before:List MemPlace}{tb:TypeId}
  (xq:fn.resultTypes=#[tb]) (hb:P.underlying tb=some .bool) (hv:s.vars=[]) (iz:laidOutB P=true)
  (i6:(fn.params.toList.all fun t=>P.readableRec t&&decide (t<P.types.size))=true)
  (hspec:∀d:List (DataW H),d.length=fn.params.size→s.fn H d={ results:=[.lit (.bool true)],args:=d })
  (hW:DataW.Whole enc P fn.params.toList s.vars false W args.toList ds gs before)
  (yo:Calls P f args W (Ret W (R1 Qsv (lt W) W true))) :
  Calls P f args W fun e W'=>∃v,e=.returned v∧s.post enc P fn false true false false W args v W':=by
 have hW':=hW
 obtain⟨p,q,hA,hV,rfl,ya,yf⟩:=hW
 rw[hv]at hV
 obtain⟨rfl,rfl⟩:=trodVars_none hV
 have hlen:=Qlf hA
 have hs:s.fn H (ds++[])={ results:=[.lit (.bool true)],args:=ds }:=by
  rw[QH]; grind
 refine yo.mono ?_
 rintro e W' ⟨v,rfl,hr,zp⟩
 have zp:=zp.nil
 obtain rfl:=Qog.1 hr
 simp only[QH]at hW'
 have hlt:∀p'∈p,p'.block<W.heap.size:=fun p' hp=>hW'.lt p' hp
 refine⟨_,rfl,?_⟩
 refine⟨ds,[],p,[],p,[],hW',?_,?_,?_,World.keptBut_mono (fun p' hp=>⟨hp,by simpa using hp⟩) (zp.frame (·∈p)),fun h=>by cases h⟩
 ·rw[hs,xq]
  exact trodAll_mk1 (shut_bool hb _)
 ·rw[hs]
  exact Qe0 iz i6 hA (fun x hx=>zp.same (hlt x hx)) (fun x hx=>by grind)
 ·rw[hs,hv]
  rfl
end
end Gd

/- Plain facts on the functions that the texts are written with. -/
namespace Gd
open Go
set_option linter.unusedVariables false
set_option linter.unusedSimpArgs false
theorem Qx{n:Int}(h0 : -9223372036854775808≤n)(h1:n<9223372036854775808):IntKind.wrap .i64 n=n:=by
 grind [IntKind.wrap,Int,IntKind.bits,IntKind.signed]
theorem Q9p(n:Int):IntKind.wrap .i64 n=(if(9223372036854775808:Int)≤n % 18446744073709551616 then n % 18446744073709551616 - 18446744073709551616 else n % 18446744073709551616):=by
 simp[IntKind.wrap,IntKind.bits,IntKind.signed]
theorem Jit{α:Type}{l:List α}{i:Nat}{x:α}(h:l[i]?=some x):idx l (i:Int)=some x:=by
 simp[idx,h]
end Gd

/- Types of data, abstract values, what they mean. -/
namespace Gx
open Go Go.RowKit Gd
set_option linter.unusedVariables false
set_option linter.unusedSimpArgs false
inductive Ke(α:Type) where
 | mk (x:α) (ks:List (Ke α))
def Ke.x{α:Type}:Ke α→α
 | .mk x _=>x
def Ke.ks{α:Type}:Ke α→List (Ke α)
 | .mk _ ks=>ks
inductive Ty where
 | int (k:IntKind) | bool | str
 | sl (e:Ty) | arr (n:Nat) (e:Ty)
 | unit | pr (f r:Ty) | st (fs:Ty) | ref | rose (fs:Ty)
@[reducible] def Ty.i:Ty:=.int .i64
@[reducible] def Ty.De:Ty→Type
 | .int _=>Int | .bool=>Bool | .str=>Str
 | .sl e=>List e.De | .arr _ e=>List e.De
 | .unit=>Unit | .pr f r=>f.De×r.De | .st fs=>fs.De | .ref=>Unit | .rose fs=>Ke fs.De
def Ty.beq:Ty→Ty→Bool
 | .int a,.int b=>Pw a b
 | .bool,.bool=>true
 | .str,.str=>true
 | .sl a,.sl b=>Ty.beq a b
 | .arr n a,.arr m b=>Nat.beq n m&&Ty.beq a b
 | .unit,.unit=>true
 | .pr a b,.pr c d=>Ty.beq a c&&Ty.beq b d
 | .st a,.st b=>Ty.beq a b
 | .ref,.ref=>true
 | .rose a,.rose b=>Ty.beq a b
 | _,_=>false
theorem Ty.beq_eq:∀{a b:Ty},Ty.beq a b=true→a=b
 | .int a,b,h=>by cases b<;>simp[Ty.beq]at h; rw[Cn h]
 | .bool,b,h=>by cases b<;>simp[Ty.beq]at h; rfl
 | .str,b,h=>by cases b<;>simp[Ty.beq]at h; rfl
 | .sl a,b,h=>by cases b<;>simp[Ty.beq]at h; rw[Ty.beq_eq h]
 | .arr n a,b,h=>by cases b<;>simp[Ty.beq]at h; rw[h.1,Ty.beq_eq h.2]
 | .unit,b,h=>by cases b<;>simp[Ty.beq]at h; rfl
 | .pr a c,b,h=>by cases b<;>simp[Ty.beq]at h; rw[Ty.beq_eq h.1,Ty.beq_eq h.2]
 | .st a,b,h=>by cases b<;>simp[Ty.beq]at h; rw[Ty.beq_eq h]
 | .ref,b,h=>by cases b<;>simp[Ty.beq]at h; rfl
 | .rose a,b,h=>by cases b<;>simp[Ty.beq]at h; rw[Ty.beq_eq h]
theorem Ty.beq_refl:∀a:Ty,Ty.beq a a=true
 | .int k=>by cases k<;>rfl
 | .bool=>rfl | .str=>rfl | .unit=>rfl
 | .sl a=>Ty.beq_refl a
 | .arr n a=>by simp[Ty.beq,Ty.beq_refl a,Nat.beq_refl]
 | .pr a b=>by simp[Ty.beq,Ty.beq_refl a,Ty.beq_refl b]
 | .st a=>Ty.beq_refl a
 | .ref=>rfl
 | .rose a=>Ty.beq_refl a
def Ty.cast(a b:Ty)(x:a.De):Option b.De:=if h:Ty.beq a b=true then some (Ty.beq_eq h▸x)else none
theorem Ty.cast_ok{a b:Ty}{x:a.De}{y:b.De}(h:Ty.cast a b x=some y):∃e:a=b,y=e▸x:=by
 grind [Ty.cast,Ty.beq_eq,Option.some.inj]
def Jo4:RT Unit where
 size:=0
 agg:=true
 rep:=fun _ _ _ cs=>cs=[]
 len:=by grind
 one:=fun h=>by cases h
 flat:=by grind
 evo:=fun h _=>h
 weak:=fun h _=>h
def Jkw{τ σ:Type}(r:RT τ)(s:RT σ):RT (τ×σ) where
 size:=r.size+s.size
 agg:=true
 rep:=fun ok w x cs=>∃c1 c2,cs=c1++c2∧r.rep ok w x.1 c1∧s.rep ok w x.2 c2
 len:=by rintro _ _ x cs ⟨c1,c2,rfl,h1,h2⟩; simp[r.len h1,s.len h2]
 one:=fun h=>by cases h
 flat:=by
  rintro _ _ x cs ⟨c1,c2,rfl,h1,h2⟩ c hc
  rcases QX.1 hc with hc | hc
  ·exact r.flat h1 c hc
  ·exact s.flat h2 c hc
 evo:=by rintro _ _ _ x cs ⟨c1,c2,rfl,h1,h2⟩ he; exact⟨c1,c2,rfl,r.evo h1 he,s.evo h2 he⟩
 weak:=by rintro _ _ _ x cs ⟨c1,c2,rfl,h1,h2⟩ he; exact⟨c1,c2,rfl,r.weak h1 he,s.weak h2 he⟩
def Jnl{τ:Type}(r:RT τ):RT τ where
 size:=r.size
 agg:=true
 rep:=r.rep
 len:=r.len
 one:=fun h=>by cases h
 flat:=r.flat
 evo:=r.evo
 weak:=r.weak
def Jo5:RT Unit where
 size:=1
 agg:=false
 rep:=fun _ _ _ _=>False
 len:=fun h=>h.elim
 one:=fun _=>rfl
 flat:=fun h=>h.elim
 evo:=fun h _=>h
 weak:=fun h _=>h
def Jnm{τ:Type}(r:RT τ):RT (Ke τ) where
 size:=r.size+1
 agg:=true
 rep:=fun _ _ _ _=>False
 len:=fun h=>h.elim
 one:=fun h=>by cases h
 flat:=fun h=>h.elim
 evo:=fun h _=>h
 weak:=fun h _=>h
def Jnn{τ:Type}(r:RT τ)(k:RT (Ke τ)):RT (Ke τ) where
 size:=r.size+1
 agg:=true
 rep:=fun ok w x cs=>∃c1 c2,cs=c1++c2∧r.rep ok w x.x c1∧(rSl k).rep ok w x.ks c2
 len:=by rintro _ _ x cs ⟨c1,c2,rfl,h1,h2⟩; simp[r.len h1,(rSl k).len h2,rSl]
 one:=fun h=>by cases h
 flat:=by
  rintro _ _ x cs ⟨c1,c2,rfl,h1,h2⟩ c hc
  rcases QX.1 hc with hc | hc
  ·exact r.flat h1 c hc
  ·exact(rSl k).flat h2 c hc
 evo:=by rintro _ _ _ x cs ⟨c1,c2,rfl,h1,h2⟩ he; exact⟨c1,c2,rfl,r.evo h1 he,(rSl k).evo h2 he⟩
 weak:=by rintro _ _ _ x cs ⟨c1,c2,rfl,h1,h2⟩ he; exact⟨c1,c2,rfl,r.weak h1 he,(rSl k).weak h2 he⟩
def Dq{τ:Type}(r:RT τ):Nat→RT (Ke τ)
 | 0=>Jnm r
 | n+1=>Jnn r (Dq r n)
theorem Cp{τ:Type}(r:RT τ):∀n,(Dq r n).size=r.size+1
 | 0=>rfl
 | _+1=>rfl
theorem Qot{τ:Type}{r s:RT τ}{ok:Ok}{w:World}(hs:r.size=s.size)(h:∀{x cs},r.rep ok w x cs→s.rep ok w x cs){xs:List τ}{cs:List Value}:(rSl r).rep ok w xs cs→(rSl s).rep ok w xs cs:=by
 rintro⟨v,rfl,A,n,c,rfl,hl,hc,hn⟩
 refine⟨_,rfl,A,n,c,rfl,hl,hc,fun h0=>?_⟩
 grind
theorem Qlg{τ:Type}(r:RT τ){ok:Ok}{w:World}:∀(n:Nat) {x:Ke τ} {cs:List Value},(Dq r n).rep ok w x cs→(Dq r (n+1)).rep ok w x cs
 | 0,_,_,h=>h.elim
 | n+1,x,cs,⟨c1,c2,e,h1,h2⟩=>⟨c1,c2,e,h1,Qot (by rw[Cp,Cp]) (Qlg r n) h2⟩
theorem Q9q{τ:Type}(r:RT τ){ok:Ok}{w:World}{n m:Nat}(h:n≤m){x:Ke τ}{cs:List Value}(hx:(Dq r n).rep ok w x cs):(Dq r m).rep ok w x cs:=by
 induction h with
 | refl=>exact hx
 | step _ ih=>exact Qlg r _ ih
def Qlh{τ:Type}(r:RT τ):RT (Ke τ) where
 size:=r.size+1
 agg:=true
 rep:=fun ok w x cs=>∃n,(Dq r n).rep ok w x cs
 len:=by rintro _ _ x cs ⟨n,h⟩; rw[(Dq r n).len h,Cp]
 one:=fun h=>by cases h
 flat:=by rintro _ _ x cs ⟨n,h⟩; exact(Dq r n).flat h
 evo:=by rintro _ _ _ x cs ⟨n,h⟩ he; exact⟨n,(Dq r n).evo h he⟩
 weak:=by rintro _ _ _ x cs ⟨n,h⟩ he; exact⟨n,(Dq r n).weak h he⟩
theorem Q9r{τ:Type}{r:RT τ}{ok:Ok}{w:World}{x:Ke τ}{cs:List Value}(h:(Qlh r).rep ok w x cs):∃c1 c2,cs=c1++c2∧r.rep ok w x.x c1∧(rSl (Qlh r)).rep ok w x.ks c2:=by
 obtain⟨n,h⟩:=h
 cases n with
 | zero=>exact h.elim
 | succ n =>
  obtain⟨c1,c2,e,h1,h2⟩:=h
  exact⟨c1,c2,e,h1,Qot (s:=Qlh r) (Cp r n) (fun h=>⟨n,h⟩) h2⟩
theorem Qyp{τ:Type}{r:RT τ}{ok:Ok}{w:World}{x:τ}{ks:List (Ke τ)}{c1 c2:List Value}(h1:r.rep ok w x c1)(h2:(rSl (Qlh r)).rep ok w ks c2):(Qlh r).rep ok w (.mk x ks) (c1++c2):=by
 obtain⟨v,rfl,A,n,c,rfl,hl,hc,hn⟩:=h2
 rcases Nat.eq_zero_or_pos n with h0 | h0
 ·subst h0
  refine⟨1,c1,_,rfl,h1,_,rfl,A,0,c,rfl,hl,hc,fun h=>absurd h (by omega)⟩
 ·obtain⟨b,o,hA,hx⟩:=hn h0
  have key2:∀(k:Nat),∃m,∀(i:Nat) (y:Ke τ),i<k→ks[i]?=some y→∃cs,(Dq r m).rep ok w y cs∧Ci ok w b (o+i*(Qlh r).size) cs:=by
   intro k
   induction k with
   | zero=>simp_all
   | succ k ih =>
    obtain⟨m,hm⟩:=ih
    cases hk:ks[k]? with
    | none =>
     refine⟨m,fun i y hi hy=>?_⟩
     grind
    | some z =>
     obtain⟨cs,⟨m2,h3⟩,h4⟩:=hx k z hk
     refine⟨max m m2,fun i y hi hy=>?_⟩
     grind [Nat.lt_or_ge,Q9q,Nat.le_max_left,Nat.le_max_right]
  obtain⟨m,hm⟩:=key2 ks.length
  refine⟨m+1,c1,_,rfl,h1,_,rfl,A,n,c,rfl,hl,hc,fun _=>⟨b,o,hA,fun i y hy=>?_⟩⟩
  obtain⟨cs,h5,h6⟩:=hm i y (List.getElem?_eq_some_iff.1 hy).1 hy
  exact⟨cs,h5,by rw[Cp]; exact h6⟩
def rt:(t:Ty)→RT t.De
 | .int k=>Si k
 | .bool=>Qsv
 | .str=>Jnj
 | .sl e=>rSl (rt e)
 | .arr n e=>Jdl n (rt e)
 | .unit=>Jo4
 | .pr f r=>Jkw (rt f) (rt r)
 | .st fs=>Jnl (rt fs)
 | .ref=>Jo5
 | .rose fs=>Qlh (rt fs)
def Ty.size:Ty→Nat
 | .int _=>1 | .bool=>1 | .str=>1 | .sl _=>1
 | .arr n e=>n*e.size
 | .unit=>0 | .pr f r=>f.size+r.size | .st fs=>fs.size | .ref=>1 | .rose fs=>fs.size+1
def Ty.agg:Ty→Bool
 | .int _=>false | .bool=>false | .str=>false | .sl _=>false
 | .arr _ _=>true
 | .unit=>true | .pr _ _=>true | .st _=>true | .ref=>false | .rose _=>true
theorem Jf:∀t:Ty,(rt t).size=t.size
 | .int _=>rfl | .bool=>rfl | .str=>rfl | .sl _=>rfl
 | .arr n e=>by simp[rt,Jdl,Ty.size,Jf e]
 | .unit=>rfl
 | .pr f r=>by simp[rt,Jkw,Ty.size,Jf f,Jf r]
 | .st fs=>by simp[rt,Jnl,Ty.size,Jf fs]
 | .ref=>rfl
 | .rose fs=>by simp[rt,Qlh,Ty.size,Jf fs]
theorem Ld:∀t:Ty,(rt t).agg=t.agg
 | .int _=>rfl | .bool=>rfl | .str=>rfl | .sl _=>rfl | .arr _ _=>rfl | .unit=>rfl | .pr _ _=>rfl | .st _=>rfl | .ref=>rfl | .rose _=>rfl
inductive PS where
 | f (k off:Nat) | i (j:Int) (size:Nat)
def PS.off:PS→Nat
 | .f _ o=>o | .i j s=>j.toNat*s
def Yi:List PS→Nat
 | []=>0
 | p::l=>p.off+Yi l
inductive AV where
 | d (t:Ty) (x:t.De)
 | p (id:Nat) (path:List PS)
 | e (id:Nat) (path:List PS)
 | s (id:Nat)
 | m (id:Nat)
 | b (id:Nat)
 | w (id:Nat) (j n:Int)
 | a (t:Ty) (x:t.De)
 | z | ns | np | nm | nf
 | f (fn:FuncId) (caps:AV)
 | ag (l:AV)
 | tp (l:AV)
 | nil
 | cons (x r:AV)
def AV.isAgg:AV→Bool
 | .d t _=>t.agg
 | .ag _=>true
 | _=>false
def AV.val(x:AV)(cs:List Value):Value:=bif x.isAgg then .agg cs.toArray else cs.headD undef
def AV.size:AV→Nat
 | .d t _=>t.size
 | .ag l=>l.size
 | .nil=>0
 | .cons x r=>x.size+r.size
 | _=>1
def AV.inMem:AV→Bool
 | .tp _=>false
 | .f _ _=>true
 | .ag l=>l.inMem
 | .cons x r=>x.inMem&&r.inMem
 | _=>true
def zal(v u:Value):Prop:=v=u∨(u=.slice none 0 0∧∃A,v=.slice A 0 0)
theorem zal.form{v u:Value}(h:zal v u)(hu:∃A n c,u=.slice A n c):∃A n c,v=.slice A n c:=by
 rcases h with rfl | ⟨_,A,rfl⟩
 ·exact hu
 grind
section
variable (β:Nat→Nat) (ρ:Nat→Value) (ok:Ok) (w:World)
def cr:Bool→AV→List Value→Prop
 | _,.d t x,cs=>(rt t).rep ok w x cs
 | _,.p id path,cs=>cs=[.pointer (some ⟨β id,Yi path,none⟩)]
 | _,.e id path,cs=>∃g,(ρ id).ownBlock=some g∧cs=[.pointer (some ⟨g,Yi path,none⟩)]
 | _,.s id,cs=>(∃v,cs=[v]∧zal v (ρ id))∧∃A n c,ρ id=.slice A n c
 | _,.m id,cs=>cs=[.map (some (β id))]
 | _,.b id,cs=>cs=[.int .i64 (β id)]
 | _,.w id j n,cs=>∃A c,cs=[.slice (some A) n.toNat c]∧(0<n.toNat→A=⟨β id,j.toNat,none⟩)
 | _,.a t x,cs=>∃v,cs=[v]∧Qof (rt t) ok w x v
 | _,.z,cs=>∃A,cs=[.slice A 0 0]
 | _,.ns,cs=>cs=[.slice none 0 0]
 | _,.np,cs=>cs=[.pointer none]
 | _,.nm,cs=>cs=[.map none]
 | _,.nf,cs=>cs=[.nilFunc]
 | _,.f fn caps,cs=>∃vs,cs=[.func (.func fn) #[] vs.toArray]∧cr true caps vs
 | _,.ag l,cs=>cr false l cs
 | _,.tp l,cs=>∃vs,cs=[.tuple vs.toArray]∧cr true l vs
 | _,.nil,cs=>cs=[]
 | true,.cons x r,cs=>∃c1 vs,cs=x.val c1::vs∧cr false x c1∧cr true r vs
 | false,.cons x r,cs=>∃c1 c2,cs=c1++c2∧cr false x c1∧cr false r c2
end
section
variable {β:Nat→Nat} {ρ:Nat→Value} {ok ok':Ok} {w w':World}
theorem Le:∀{m:Bool} {x:AV} {cs:List Value},cr β ρ ok w m x cs→Evo ok w w'→cr β ρ ok w' m x cs
 | m,.d t x,cs,h,he=>by cases m<;>exact(rt t).evo h he
 | m,.p ..,cs,h,he=>by cases m<;>exact h
 | m,.e ..,cs,h,he=>by cases m<;>exact h
 | m,.s _,cs,h,he=>by cases m<;>exact h
 | m,.m _,cs,h,he=>by cases m<;>exact h
 | m,.b _,cs,h,he=>by cases m<;>exact h
 | m,.w ..,cs,h,he=>by cases m<;>exact h
 | m,.a t x,cs,h,he=>by cases m<;>exact let⟨v,h1,h2⟩:=h; ⟨v,h1,h2.evo he⟩
 | m,.z,cs,h,he=>by cases m<;>exact h
 | m,.ns,cs,h,he=>by cases m<;>exact h
 | m,.np,cs,h,he=>by cases m<;>exact h
 | m,.nm,cs,h,he=>by cases m<;>exact h
 | m,.nf,cs,h,he=>by cases m<;>exact h
 | m,.f fn caps,cs,h,he=>by cases m<;>exact let⟨vs,h1,h2⟩:=h; ⟨vs,h1,Le h2 he⟩
 | m,.ag l,cs,h,he=>by cases m<;>exact Le (m:=false) (x:=l) h he
 | m,.tp l,cs,h,he=>by cases m<;>exact let⟨vs,h1,h2⟩:=h; ⟨vs,h1,Le h2 he⟩
 | m,.nil,cs,h,he=>by cases m<;>exact h
 | true,.cons x r,cs,h,he=>let⟨c1,vs,h1,h2,h3⟩:=h; ⟨c1,vs,h1,Le h2 he,Le h3 he⟩
 | false,.cons x r,cs,h,he=>let⟨c1,vs,h1,h2,h3⟩:=h; ⟨c1,vs,h1,Le h2 he,Le h3 he⟩
theorem X4:∀{m:Bool} {x:AV} {cs:List Value},cr β ρ ok w m x cs→(∀b o,ok b o→ok' b o)→cr β ρ ok' w m x cs
 | m,.d t x,cs,h,he=>by cases m<;>exact(rt t).weak h he
 | m,.p ..,cs,h,he=>by cases m<;>exact h
 | m,.e ..,cs,h,he=>by cases m<;>exact h
 | m,.s _,cs,h,he=>by cases m<;>exact h
 | m,.m _,cs,h,he=>by cases m<;>exact h
 | m,.b _,cs,h,he=>by cases m<;>exact h
 | m,.w ..,cs,h,he=>by cases m<;>exact h
 | m,.a t x,cs,h,he=>by cases m<;>exact let⟨v,h1,h2⟩:=h; ⟨v,h1,h2.weak he⟩
 | m,.z,cs,h,he=>by cases m<;>exact h
 | m,.ns,cs,h,he=>by cases m<;>exact h
 | m,.np,cs,h,he=>by cases m<;>exact h
 | m,.nm,cs,h,he=>by cases m<;>exact h
 | m,.nf,cs,h,he=>by cases m<;>exact h
 | m,.f fn caps,cs,h,he=>by cases m<;>exact let⟨vs,h1,h2⟩:=h; ⟨vs,h1,X4 h2 he⟩
 | m,.ag l,cs,h,he=>by cases m<;>exact X4 (m:=false) (x:=l) h he
 | m,.tp l,cs,h,he=>by cases m<;>exact let⟨vs,h1,h2⟩:=h; ⟨vs,h1,X4 h2 he⟩
 | m,.nil,cs,h,he=>by cases m<;>exact h
 | true,.cons x r,cs,h,he=>let⟨c1,vs,h1,h2,h3⟩:=h; ⟨c1,vs,h1,X4 h2 he,X4 h3 he⟩
 | false,.cons x r,cs,h,he=>let⟨c1,vs,h1,h2,h3⟩:=h; ⟨c1,vs,h1,X4 h2 he,X4 h3 he⟩
theorem Ux:∀{x:AV} {cs:List Value},cr β ρ ok w false x cs→cs.length=x.size
 | .d t x,cs,h=>by rw[AV.size,←Jf]; exact(rt t).len h
 | .p ..,cs,h=>by subst h; rfl
 | .e ..,cs,⟨_,_,h⟩=>by subst h; rfl
 | .s _,cs,⟨⟨_,h,_⟩,_⟩=>by subst h; rfl
 | .m _,cs,h=>by subst h; rfl
 | .b _,cs,h=>by subst h; rfl
 | .w ..,cs,⟨_,_,h,_⟩=>by subst h; rfl
 | .a t x,cs,⟨_,h,_⟩=>by subst h; rfl
 | .z,cs,⟨_,h⟩=>by subst h; rfl
 | .ns,cs,h=>by subst h; rfl
 | .np,cs,h=>by subst h; rfl
 | .nm,cs,h=>by subst h; rfl
 | .nf,cs,h=>by subst h; rfl
 | .f ..,cs,⟨_,h,_⟩=>by subst h; rfl
 | .ag l,cs,h=>by rw[AV.size]; exact Ux (x:=l) h
 | .tp l,cs,⟨_,h,_⟩=>by subst h; rfl
 | .nil,cs,h=>by subst h; rfl
 | .cons x r,cs,⟨c1,c2,h,h1,h2⟩=>by subst h; rw[List.length_append,Ux h1,Ux h2]; rfl
theorem Sm:∀{x:AV} {cs:List Value},cr β ρ ok w false x cs→x.inMem=true→∀c∈cs,c.oneCell'=true
 | .d t x,cs,h,_=>(rt t).flat h
 | .p ..,cs,h,_=>by subst h; simp; rfl
 | .e ..,cs,⟨_,_,h⟩,_=>by subst h; simp; rfl
 | .s id,cs,⟨⟨v,h,hz⟩,hs⟩,_=>by
  subst h; obtain⟨A,n,c,rfl⟩:=hz.form hs
  intro c hc; simp at hc; subst hc; rfl
 | .m _,cs,h,_=>by subst h; simp; rfl
 | .b _,cs,h,_=>by subst h; simp; rfl
 | .w ..,cs,⟨_,_,h,_⟩,_=>by subst h; simp; rfl
 | .a t x,cs,⟨v,h,hv⟩,_=>by obtain⟨b,o,c,rfl,_⟩:=hv; subst h; simp; rfl
 | .z,cs,⟨_,h⟩,_=>by subst h; simp; rfl
 | .ns,cs,h,_=>by subst h; simp; rfl
 | .np,cs,h,_=>by subst h; simp; rfl
 | .nm,cs,h,_=>by subst h; simp; rfl
 | .nf,cs,h,_=>by subst h; simp; rfl
 | .f ..,cs,⟨_,h,_⟩,_=>by subst h; simp; rfl
 | .ag l,cs,h,hm=>Sm (x:=l) h hm
 | .tp l,cs,_,hm=>by cases hm
 | .nil,cs,h,_=>by subst h; simp
 | .cons x r,cs,⟨c1,c2,h,h1,h2⟩,hm=>by
  simp only[AV.inMem,QQ]at hm
  subst h
  intro c hc
  rcases QX.1 hc with hc | hc
  ·exact Sm h1 hm.1 c hc
  ·exact Sm h2 hm.2 c hc
theorem Jno{x:AV}{cs:List Value}(h:cr β ρ ok w false x cs)(ha:x.isAgg=false)(hn:x.size=1):∃c,cs=[c]:=by
 have:=Ux h
 rw[hn]at this
 match cs,this with
 | [c],_=>exact⟨c,rfl⟩
theorem Jdw:∀{t:Ty},t.agg=false→t.size=1
 | .int _,_=>rfl | .bool,_=>rfl | .str,_=>rfl | .sl _,_=>rfl | .ref,_=>rfl
def AV.isVal:AV→Bool
 | .nil=>false
 | .cons _ _=>false
 | .d t _=>true
 | _=>true
theorem Nl{x:AV}{cs:List Value}(h:cr β ρ ok w false x cs)(hv:x.isVal=true)(hm:x.inMem=true):Qu (x.val cs)=cs:=by
 unfold AV.val
 cases ha:x.isAgg with
 | true=>simp[Qu]
 | false =>
  have kg:x.size=1:=by
   cases x<;>first | rfl | (simp[AV.isAgg]at ha; done) | (simp[AV.isVal]at hv; done) | skip
   ·exact Jdw ha
  obtain⟨c,rfl⟩:=Jno h ha kg
  have:=Sm h hm c (.head _)
  simp only[cond_false,List.headD_cons]
  cases c<;>first | rfl | grind [Value.oneCell']
theorem Qyq{t:Ty}{x:t.De}{cs:List Value}:(AV.d t x).val cs=(rt t).val cs:=by
 grind [AV.val,AV.isAgg,RT.val,Ld]
theorem Q9s{t:Ty}{x:t.De}{cs:List Value}(h:cr β ρ ok w false (.d t x) cs):isV (rt t) ok w x ((AV.d t x).val cs):=⟨cs,h,Qyq⟩
theorem Qdt{t:Ty}{x:t.De}{v:Value}(h:isV (rt t) ok w x v):∃cs,cr β ρ ok w false (.d t x) cs∧v=(AV.d t x).val cs:=by
 obtain⟨cs,hr,rfl⟩:=h
 exact⟨cs,hr,Qyq.symm⟩
end
end Gx

/- Abstract states. -/
namespace Gx
open Go Go.RowKit Gd
set_option linter.unusedVariables false
set_option linter.unusedSimpArgs false
inductive CK where
 | sl (e:TypeId) (u:Ty)
 | mp (k v:Ty)
@[reducible] def CK.ty:CK→Ty
 | .sl _ u=>.sl u
 | .mp k v=>.sl (.pr k v)
inductive Ob where
 | var (tid:TypeId) (c:AV)
 | row (e:TypeId) (t:Ty) (xs:List t.De)
 | tail (e:TypeId) (t:Ty) (xs:List t.De)
 | map (k v:Ty) (xs:List (k.De×v.De))
 | mapC (k:Ty) (c:CK) (xs:List (k.De×c.ty.De)) (hole:Option (k.De×Nat))
def Qou(β:Nat→Nat)(ρ:Nat→Value)(g:Nat)(tid:TypeId)(c:AV):TL where
 blks:=fun b=>b=g
 cov:=fun b _=>b=g
 cb:=fun h=>h
 p:=fun ok w=>∃cs,w.heap[g]?=some (.cells cs.toArray tid (0,0))∧cr β ρ ok w false c cs
 keep:=fun⟨cs,h1,h2⟩ hb he=>⟨cs,by rw[hb _ rfl]; exact h1,Le h2 he⟩
 weak:=fun⟨cs,h1,h2⟩ hk=>⟨cs,h1,X4 h2 hk⟩
 lt:=fun⟨_,h,_⟩ b hb=>by grind
def Qbl{τ:Type}(v:Value)(e:Nat)(r:RT τ)(xs:List τ):TL where
 blks:=fun g=>v.ownBlock=some g
 cov:=fun b o=>v.ownBlock=some b∧K2 v*r.size≤o
 cb:=fun h=>h.1
 p:=fun ok w=>isV (rSl r) ok w xs v∧∃ys,w.ownsRowS 0 e r.size v (K2 v) ys
 keep:=fun⟨h1,ys,h⟩ hb he=>⟨h1.evo he,ys,Sl h hb⟩
 weak:=fun⟨h1,h⟩ hk=>⟨h1.weak hk,h⟩
 lt:=fun⟨_,_,h⟩ g hg=>(h.lt g hg).2
def Dr{κ ν:Type}(r:RT κ)(s:RT ν)(ok:Ok)(w:World):List (κ×ν)→List MapEntry→Prop
 | [],es=>es=[]
 | x::xs,es=>∃e es',es=e::es'∧isV r ok w x.1 e.key∧isV s ok w x.2 e.val∧Dr r s ok w xs es'
theorem Pz{κ ν:Type}{r:RT κ}{s:RT ν}{ok:Ok}{w w':World}:∀{xs:List (κ×ν)} {es:List MapEntry},Dr r s ok w xs es→Evo ok w w'→Dr r s ok w' xs es
 | [],_,h,_=>h
 | x::xs,es,⟨e,es',h,h1,h2,h3⟩,he=>⟨e,es',h,h1.evo he,h2.evo he,Pz h3 he⟩
theorem Gi{κ ν:Type}{r:RT κ}{s:RT ν}{ok ok':Ok}{w:World}:∀{xs:List (κ×ν)} {es:List MapEntry},Dr r s ok w xs es→(∀b o,ok b o→ok' b o)→Dr r s ok' w xs es
 | [],_,h,_=>h
 | x::xs,es,⟨e,es',h,h1,h2,h3⟩,he=>⟨e,es',h,h1.weak he,h2.weak he,Gi h3 he⟩
def Qhc{κ ν:Type}(g:Nat)(r:RT κ)(s:RT ν)(xs:List (κ×ν)):TL where
 blks:=fun b=>b=g
 cov:=fun b _=>b=g
 cb:=fun h=>h
 p:=fun ok w=>∃es clock,w.heap[g]?=some (.map es clock)∧Dr r s ok w xs es.toList∧(xs.map Prod.fst).Nodup∧(es.toList.map MapEntry.born).Nodup∧∀e∈es.toList,e.born<clock
 keep:=fun⟨es,c,h1,h2,h3⟩ hb he=>⟨es,c,by rw[hb _ rfl]; exact h1,Pz h2 he,h3⟩
 weak:=fun⟨es,c,h1,h2,h3⟩ hk=>⟨es,c,h1,Gi h2 hk,h3⟩
 lt:=fun⟨_,_,h,_⟩ b hb=>by grind
def Z5:Value→Option Nat
 | .map o=>o
 | v=>v.ownBlock
theorem Qbm{w:World}{base:Nat}{e:TypeId}{size n:Nat}{v:Value}{xs:List Value}(h:w.ownsRowS base e size v n xs){b:Nat}:v.ownBlock=some b↔Z5 v=some b:=by
 rcases h.2 with⟨rfl,_⟩ | ⟨g,cap,cur,fz,rfl,_⟩<;>exact Iff.rfl
def Qa4:(c:CK)→Value→c.ty.De→TL
  | .sl e u,v,x=>ml v e (rt u) x
  | .mp k v0,v,x=>{ Qhc ((Z5 v).getD 0) (rt k) (rt v0) x with
      blks:=fun b=>Z5 v=some b
      cov:=fun b _=>Z5 v=some b
      cb:=fun h=>h
      p:=fun ok w=>∃g,v=.map (some g)∧(Qhc g (rt k) (rt v0) x).p ok w
      keep:=fun⟨g,h1,h2⟩ hb he=>⟨g,h1,(Qhc g (rt k) (rt v0) x).keep h2 (fun b hg=>hb b (by subst hg; rw[h1]; rfl)) he⟩
      weak:=fun⟨g,h1,h2⟩ hk=>⟨g,h1,(Qhc g (rt k) (rt v0) x).weak h2 hk⟩
      lt:=fun⟨g,h1,h2⟩ b hb=>(Qhc g (rt k) (rt v0) x).lt h2 b (by rw[h1]at hb; injection hb with hb; exact hb.symm) }
theorem Qyr{c:CK}{v:Value}{x:c.ty.De}{ok:Ok}{w:World}(h:(Qa4 c v x).p ok w){b:Nat}:(Qa4 c v x).blks b↔Z5 v=some b:=by
 cases c with
 | sl e u =>
  obtain⟨_,cs,h2,_⟩:=h
  exact Qbm h2
 | mp k v0=>exact Iff.rfl
def Jiu:RT Value where
 size:=1
 agg:=false
 rep:=fun _ _ x cs=>cs=[x]∧x.oneCell'=true
 len:=fun h=>by rw[h.1]; rfl
 one:=fun _=>rfl
 flat:=fun h c hc=>by rw[h.1]at hc; grind
 evo:=fun h _=>h
 weak:=fun h _=>h
def Bp{κ:Type}(c:CK)(hole:Option κ)(hv:Value)(ok:Ok)(w:World):List (κ×c.ty.De)→List (κ×Value)→List Value→Prop
 | [],[],[]=>True
 | x::xs,y::ys,v::vs=>x.1=y.1∧((hole=some x.1∧v=undef∧zal y.2 hv)∨(hole≠some x.1∧zal y.2 v∧(Qa4 c v x.2).p ok w))∧Bp c hole hv ok w xs ys vs
 | _,_,_=>False
section
variable {κ:Type} {c:CK} {hole:Option κ} {hv:Value} {ok ok':Ok} {w w':World}
theorem Qov:∀{xs:List (κ×c.ty.De)} {ys:List (κ×Value)} {vs:List Value},Bp c hole hv ok w xs ys vs→(∀v∈vs,∀b,Z5 v=some b→w'.heap[b]?=w.heap[b]?)→Evo ok w w'→Bp c hole hv ok w' xs ys vs
 | [],[],[],h,_,_=>h
 | x::xs,y::ys,v::vs,⟨h1,h2,h3⟩,hb,he=>⟨h1,h2.imp id fun⟨q1,q2,q3⟩=>⟨q1,q2,(Qa4 c v x.2).keep q3 (fun b hg=>hb v (.head _) b ((Qyr q3).1 hg)) he⟩,Qov h3 (fun v hv=>hb v (.tail _ hv)) he⟩
 | [],[],_::_,h,_,_=>h.elim
 | [],_::_,_,h,_,_=>h.elim
 | _::_,[],_,h,_,_=>h.elim
 | _::_,_::_,[],h,_,_=>h.elim
theorem P0:∀{xs:List (κ×c.ty.De)} {ys:List (κ×Value)} {vs:List Value},Bp c hole hv ok w xs ys vs→(∀b o,ok b o→ok' b o)→Bp c hole hv ok' w xs ys vs
 | [],[],[],h,_=>h
 | x::xs,y::ys,v::vs,⟨h1,h2,h3⟩,hk=>⟨h1,h2.imp id fun⟨q1,q2,q3⟩=>⟨q1,q2,(Qa4 c v x.2).weak q3 hk⟩,P0 h3 hk⟩
 | [],[],_::_,h,_=>h.elim
 | [],_::_,_,h,_=>h.elim
 | _::_,[],_,h,_=>h.elim
 | _::_,_::_,[],h,_=>h.elim
theorem Q6l:∀{xs:List (κ×c.ty.De)} {ys:List (κ×Value)} {vs:List Value},Bp c hole hv ok w xs ys vs→∀v∈vs,∀b,Z5 v=some b→b<w.heap.size
 | [],[],[],h=>by simp
 | x::xs,y::ys,v::vs,⟨h1,h2,h3⟩=>by
  intro y hy b hb
  rcases QJ.1 hy with rfl | hy
  ·rcases h2 with⟨_,rfl,_⟩ | ⟨_,_,q3⟩
   ·cases hb
   ·exact(Qa4 c y x.2).lt q3 b ((Qyr q3).2 hb)
  ·exact Q6l h3 y hy b hb
 | [],[],_::_,h=>h.elim
 | [],_::_,_,h=>h.elim
 | _::_,[],_,h=>h.elim
 | _::_,_::_,[],h=>h.elim
end
def Sn:Value→List Value
 | .tuple vs=>vs.toList
 | _=>[]
abbrev Qhd(vs:List Value):Prop:=vs.Pairwise fun a b=>∀g,Z5 a=some g→Z5 b≠some g
def Jdx{κ:Type}(g:Nat)(r:RT κ)(c:CK)(vs:List Value)(xs:List (κ×c.ty.De))(hole:Option κ)(hv:Value)(ok:Ok)(w:World):Prop :=
 ∃ys,(∃es clock,w.heap[g]?=some (.map es clock)∧Dr r Jiu ok w ys es.toList∧(es.toList.map MapEntry.born).Nodup∧∀e∈es.toList,e.born<clock)∧Bp c hole hv ok w xs ys vs∧(xs.map Prod.fst).Nodup∧Qhd vs∧(∀v∈vs,Z5 v≠some g)∧∀k,hole=some k→k∉xs.map Prod.fst→hv=.slice none 0 0
def Jdy(g:Nat)(vs:List Value){κ:Type}(r:RT κ)(c:CK)(xs:List (κ×c.ty.De))(hole:Option κ)(hv:Value):TL where
 blks:=fun b=>b=g∨∃v∈vs,Z5 v=some b
 cov:=fun b _=>b=g∨∃v∈vs,Z5 v=some b
 cb:=fun h=>h
 p:=fun ok w=>Jdx g r c vs xs hole hv ok w
 keep:=fun⟨ys,⟨es,cl,h1,h2,h3⟩,h4,h5⟩ hb he=>⟨ys,⟨es,cl,by rw[hb _ (.inl rfl)]; exact h1,Pz h2 he,h3⟩,Qov h4 (fun v hv b hvb=>hb b (.inr ⟨v,hv,hvb⟩)) he,h5⟩
 weak:=fun⟨ys,⟨es,cl,h1,h2,h3⟩,h4,h5⟩ hk=>⟨ys,⟨es,cl,h1,Gi h2 hk,h3⟩,P0 h4 hk,h5⟩
 lt:=fun⟨_,⟨_,_,h,_⟩,h2,_⟩ b hb=>by
  rcases hb with rfl | ⟨v,hv,hb⟩
  ·exact Y9 h
  ·exact Q6l h2 v hv b hb
def Lf{k:Ty}(β:Nat→Nat)(ρ:Nat→Value)(c:CK)(hole:Option (k.De×Nat)):Value:=match hole with
 | some q=>(match c with
  | .sl _ _=>ρ q.2
  | .mp _ _=>.map (some (β q.2)))
 | none=>undef
def Qys{k:Ty}(hole:Option (k.De×Nat)):Option k.De:=match hole with
 | some q=>some q.1
 | none=>none
def Q0(β:Nat→Nat)(ρ:Nat→Value)(id:Nat):Ob→TL
 | .var tid c=>Qou β ρ (β id) tid c
 | .row e t xs=>ml (ρ id) e (rt t) xs
 | .tail e t xs=>Qbl (ρ id) e (rt t) xs
 | .map k v xs=>Qhc (β id) (rt k) (rt v) xs
 | .mapC k c xs hole=>Jdy (β id) (Sn (ρ id)) (rt k) c xs (Qys hole) (Lf β ρ c hole)
abbrev Y4:=List (Nat×Bool)
structure En where
 t:Nat
 cs:Y4
 av:AV
structure St where
 env:List En
 mem:List (Nat×Ob)
def Js(a:Act)(cs:Y4):Prop:=∀c∈cs,a.tmps[c.1]?=some (.bool c.2)
def rd(a:Act)(t:Nat):Option Value:=bif Nat.blt t 100000 then a.tmps[t]? else some (.pointer (some ⟨t - 100000,0,none⟩))
theorem Nm{a:Act}{t:Nat}(h:Nat.blt t 100000=true):rd a t=a.tmps[t]?:=by grind [rd]
def enD(β:Nat→Nat)(ρ:Nat→Value)(a:Act)(e:En):DF where
 p:=fun ok w=>(Js a e.cs→∃cs,rd a e.t=some (e.av.val cs)∧cr β ρ ok w false e.av cs)∧(Js a e.cs∨rd a e.t=some undef)
 evo:=fun h he=>⟨fun hc=>let⟨cs,h1,h2⟩:=h.1 hc; ⟨cs,h1,Le h2 he⟩,h.2⟩
 weak:=fun h hk=>⟨fun hc=>let⟨cs,h1,h2⟩:=h.1 hc; ⟨cs,h1,X4 h2 hk⟩,h.2⟩
abbrev Qi(β:Nat→Nat)(ρ:Nat→Value)(mem:List (Nat×Ob)):List TL:=mem.map fun q=>Q0 β ρ q.1 q.2
abbrev okR(X:Cx)(β:Nat→Nat)(ρ:Nat→Value)(mem:List (Nat×Ob))(w:World):Ok:=Jh X.ok X.w.heap.size (fun _=>0) [] (Qi β ρ mem) w
def Rel(X:Cx)(β:Nat→Nat)(ρ:Nat→Value)(S:St)(a:Act)(w:World):Prop :=
 Sb (fun _=>0) X [] (S.env.map (enD β ρ a)) [] (Qi β ρ S.mem) a w
def Qje:List En→Nat→Option En
 | [],_=>none
 | e::l,t=>bif Nat.beq e.t t then some e else Qje l t
theorem Qjf{l:List En}{t:Nat}{e:En}(h:Qje l t=some e):e∈l∧e.t=t:=by
 induction l with
 | nil=>simp[Qje]at h
 | cons x l ih =>
  simp only[Qje]at h
  cases hb:Nat.beq x.t t with
  | true=>rw[hb]at h; simp_all
  | false=>rw[hb]at h; grind
def Kf(l:List En)(t:Nat):Option En:=bif Nat.blt t 100000 then Qje l t else none
theorem Qbn{l:List En}{t:Nat}{e:En}(h:Kf l t=some e):Nat.blt t 100000=true:=by
 grind [Kf,Nat.blt]
theorem Uy{l:List En}{t:Nat}{e:En}(h:Kf l t=some e):e∈l∧e.t=t:=by
 have hb:=Qbn h
 grind [Kf,Qjf]
theorem Qyt{l:List En}{t:Nat}{e:En}(h:Kf l t=some e)(a:Act):rd a e.t=a.tmps[e.t]?:=Nm (by rw[(Uy h).2]; exact Qbn h)
def Jo6(l:List En)(g:Nat):Option En:=Qje l (100000+g)
theorem Q31(a:Act)(g:Nat):rd a (100000+g)=some (.pointer (some ⟨g,0,none⟩)):=by
 unfold rd
 have:Nat.blt (100000+g) 100000=false:=by
  cases hb:Nat.blt (100000+g) 100000 with
  | false=>rfl
  | true=>exact absurd (QK hb) (by omega)
 rw[this]
 simp
def Jiv:Y4→Nat×Bool→Bool
 | [],_=>false
 | (t,b)::l,c=>(Nat.beq t c.1&&(b==c.2))||Jiv l c
theorem Q6m:∀{l:Y4} {c:Nat×Bool},Jiv l c=true→c∈l
 | (t,b)::l,(u,v),h=>by
  simp only[Jiv,JZ,QQ]at h
  rcases h with⟨h1,h2⟩ | h
  ·have:=Nat.eq_of_beq_eq_true h1
   grind
  ·exact .tail _ (Q6m h)
def Qvs:Y4→Y4→Bool
 | [],_=>true
 | c::l,cur=>Jiv cur c&&Qvs l cur
theorem Qdu:∀{l cur:Y4} {a:Act},Qvs l cur=true→Js a cur→Js a l
 | [],cur,a,_,_=>by intro c hc; cases hc
 | c::l,cur,a,h,hc=>by
  simp only[Qvs,QQ]at h
  intro x hx
  rcases QJ.1 hx with rfl | hx
  ·exact hc _ (Q6m h.1)
  ·exact Qdu h.2 hc x hx
def Qjg:Value→Option AV
 | .int k n=>some (.d (.int k) n)
 | .bool b=>some (.d .bool b)
 | .string ⟨⟨l⟩⟩=>some (.d .str l)
 | .slice none 0 0=>some .ns
 | .pointer none=>some .np
 | .map none=>some .nm
 | .nilFunc=>some .nf
 | _=>none
def Qow:List Value→Option AV
 | []=>some .nil
 | v::l=>match Qjg v,Qow l with
  | some x,some r=>some (.cons x r)
  | _,_=>none
def Qvt:Value→Option AV
 | .agg ⟨l⟩=>match Qow l with
  | some r=>some (.ag r)
  | none=>none
 | v=>Qjg v
section
variable {β:Nat→Nat} {ρ:Nat→Value} {ok:Ok} {w:World}
theorem Qjh{v:Value}{x:AV}(h:Qjg v=some x):cr β ρ ok w false x [v]∧x.val [v]=v:=by
 unfold Qjg at h
 split at h<;>first | (simp at h; done) | skip
 all_goals
  simp only[Option.some.injEq]at h
  subst h
  exact⟨rfl,rfl⟩
theorem Qs0:∀{l:List Value} {x:AV},Qow l=some x→cr β ρ ok w false x l
 | [],x,h=>by simp[Qow]at h; subst h; rfl
 | v::l,x,h=>by
  simp only[Qow]at h
  split at h
  ·rename_i y r h1 h2
   simp at h; subst h
   exact⟨[v],l,rfl,(Qjh h1).1,Qs0 h2⟩
  ·cases h
theorem Qox{v:Value}{x:AV}(h:Qvt v=some x):∃cs,v=x.val cs∧cr β ρ ok w false x cs:=by
 unfold Qvt at h
 split at h
 ·rename_i l
  split at h
  ·rename_i r hr
   simp at h; subst h
   exact⟨l,rfl,Qs0 (x:=r) hr⟩
  ·cases h
 ·obtain⟨h1,h2⟩:=Qjh (β:=β) (ρ:=ρ) (ok:=ok) (w:=w) h
  grind
end
def ev(S:St)(cur:Y4):Operand→Option AV
 | .tmp t=>match Kf S.env t with
  | some e=>bif Qvs e.cs cur then some e.av else none
  | none=>none
 | .const v=>Qvt v
 | .func f=>some (.f f .nil)
 | .global g=>match Jo6 S.env g with
  | some e=>bif Qvs e.cs cur then some e.av else none
  | none=>none
def Qbo(t:Nat):Y4→Bool
 | []=>false
 | c::l=>Nat.beq c.1 t||Qbo t l
theorem Qbp{t:Nat}:∀{l:Y4},Qbo t l=false→∀c∈l,c.1≠t
 | [],_,c,hc=>by cases hc
 | d::l,h,c,hc=>by
  simp only[Qbo,JT]at h
  rcases QJ.1 hc with rfl | hc
  ·grind [Nat.beq_refl]
  ·exact Qbp h.2 c hc
def Yy:List En→Nat→List En
 | [],_=>[]
 | e::l,t=>bif Nat.beq e.t t||Qbo t e.cs then Yy l t else e::Yy l t
theorem Lg{l:List En}{t:Nat}{e:En}(h:e∈Yy l t):e∈l∧e.t≠t∧∀c∈e.cs,c.1≠t:=by
 induction l with
 | nil=>simp[Yy]at h
 | cons x l ih =>
  simp only[Yy]at h
  cases hb:(Nat.beq x.t t||Qbo t x.cs)with
  | true=>rw[hb]at h; grind
  | false =>
   rw[hb]at h
   simp only[cond_false,QJ]at h
   rcases h with rfl | h
   ·simp only[JT]at hb
    exact⟨.head _,fun e=>by rw[e]at hb; simp_all,Qbp hb.2⟩
   grind
def St.put(S:St)(d:Nat)(cs:Y4)(x:AV):St:=⟨⟨d,cs,x⟩::Yy S.env d,S.mem⟩
def St.del(S:St)(d:Nat):St:=⟨Yy S.env d,S.mem⟩
section
variable {X:Cx} {β:Nat→Nat} {ρ:Nat→Value} {S:St} {a a':Act} {w w':World}
theorem Yc{ok:Ok}{w:World}:∀{D:List DF},Qg3 ok w D↔∀d∈D,d.p ok w
 | []=>by simp[Qg3]
 | d::D=>by simp[Qg3,Yc (D:=D)]
theorem Rel.en(h:Rel X β ρ S a w){e:En}(he:e∈S.env):(enD β ρ a e).p (okR X β ρ S.mem w) w:=Yc.1 h.dat _ (QZ.2 ⟨e,he,rfl⟩)
theorem Rel.get(h:Rel X β ρ S a w){t:Nat}{e:En}(he:Kf S.env t=some e)(hc:Js a e.cs) :
  ∃cs,a.tmps[t]?=some (e.av.val cs)∧cr β ρ (okR X β ρ S.mem w) w false e.av cs:=by
 have hr:=Qyt he a
 obtain⟨hm,rfl⟩:=Uy he
 rw[←hr]
 exact(h.en hm).1 hc
theorem Rel.ev(h:Rel X β ρ S a w){cur:Y4}(hc:Js a cur){x:Operand}{v:AV}(hx:ev S cur x=some v) :
  ∃cs,a.eval x=v.val cs∧cr β ρ (okR X β ρ S.mem w) w false v cs:=by
 cases x with
 | tmp t =>
  simp only[Gx.ev]at hx
  split at hx
  ·rename_i e he
   cases hb:Qvs e.cs cur with
   | false=>rw[hb]at hx; cases hx
   | true =>
    rw[hb]at hx
    simp at hx; subst hx
    obtain⟨cs,h1,h2⟩:=h.get he (Qdu hb hc)
    exact⟨cs,by simp[Act.eval,h1],h2⟩
  ·cases hx
 | const v =>
  obtain⟨cs,h1,h2⟩:=Qox (β:=β) (ρ:=ρ) (ok:=okR X β ρ S.mem w) (w:=w) hx
  exact⟨cs,h1,h2⟩
 | func f =>
  simp[Gx.ev]at hx; subst hx
  exact⟨[.func (.func f) #[] #[]],rfl,[],rfl,rfl⟩
 | global g =>
  simp only[Gx.ev]at hx
  split at hx
  ·rename_i e he
   cases hb:Qvs e.cs cur with
   | false=>rw[hb]at hx; cases hx
   | true =>
    rw[hb]at hx
    simp at hx; subst hx
    obtain⟨hm,ht⟩:=Qjf he
    obtain⟨cs,h1,h2⟩:=(h.en hm).1 (Qdu hb hc)
    rw[ht,Q31]at h1
    exact⟨cs,Option.some.inj h1,h2⟩
  ·cases hx
theorem Rel.act(h:Rel X β ρ S a w){env':List En}(hs:a'.tmps.size=a.tmps.size)(hd:a'.defers=a.defers)(hr:∀t∈X.res,a'.tmps[t]?=a.tmps[t]?)
  (he:∀e∈env',(enD β ρ a' e).p (okR X β ρ S.mem w) w):Rel X β ρ ⟨env',S.mem⟩ a' w :=
 {sz:=hs.trans h.sz,df:=hd.trans h.df,fr:=fun t ht=>(hr t ht).trans (h.fr t ht),pn:=h.pn,tm:=by simp,bel:=h.bel,
  dat:=Yc.2 fun d hd=>by grind,
  obj:=h.obj,own:=h.own,dHH:=h.dHH,dHO:=h.dHO,dOO:=h.dOO }
theorem Yz{d t:Nat}(zk:t≠d)(v:Value):(a.put (some d) v).tmps[t]?=a.tmps[t]?:=by
 have:d≠t:=fun e=>zk e.symm
 grind [Act.put]
theorem Qhe{d t:Nat}(zk:t≠d)(v:Value):rd (a.put (some d) v) t=rd a t:=by
 grind [rd,Yz]
theorem en_put(h:Rel X β ρ S a w){d:Nat}(v:Value){e:En}(he:e∈Yy S.env d):(enD β ρ (a.put (some d) v) e).p (okR X β ρ S.mem w) w:=by
 obtain⟨h1,h2,h3⟩:=Lg he
 have yc:Js (a.put (some d) v) e.cs↔Js a e.cs:=⟨fun hc c hm=>by rw[←Yz (h3 c hm) v]; exact hc c hm,fun hc c hm=>by rw[Yz (h3 c hm) v]; exact hc c hm⟩
 refine⟨fun hc=>?_,?_⟩
 ·obtain⟨cs,h4,h5⟩:=(h.en h1).1 (yc.1 hc)
  grind [Qhe]
 ·rw[yc,Qhe h2]; exact(h.en h1).2
theorem Rel.put(h:Rel X β ρ S a w){d:Nat}(hd:okD X d=true){cs:Y4}{x:AV}{v:Value}
  (hx:Js (a.put (some d) v) cs→∃c,v=x.val c∧cr β ρ (okR X β ρ S.mem w) w false x c) (hu:Js (a.put (some d) v) cs∨v=undef):Rel X β ρ (S.put d cs x) (a.put (some d) v) w:=by
 refine h.act (by simp[Act.put]) rfl (fun k hk=>Yz (fun(e:k=d)=>Qvk hd (e▸hk)) v) fun e he=>?_
 rcases QJ.1 he with rfl | he
 ·refine⟨fun hc=>?_,hu.imp id fun e=>by rw[Nm (Qds hd)]; simp[Act.put,h.sz,Qoh hd,e]⟩
  obtain⟨c,h1,h2⟩:=hx hc
  exact⟨c,by rw[Nm (Qds hd)]; simp[Act.put,h.sz,Qoh hd,h1],h2⟩
 ·exact en_put h v he
theorem Rel.del(h:Rel X β ρ S a w){d:Nat}(hd:okD X d=true)(v:Value):Rel X β ρ (S.del d) (a.put (some d) v) w :=
 h.act (by simp[Act.put]) rfl (fun k hk=>Yz (fun(e:k=d)=>Qvk hd (e▸hk)) v) fun e he=>en_put h v he
theorem Rel.less(h:Rel X β ρ S a w){env':List En}(he:∀e∈env',e∈S.env):Rel X β ρ ⟨env',S.mem⟩ a w :=
 h.act rfl rfl (fun _ _=>rfl) fun e hm=>h.en (he e hm)
theorem Qd(a:Act):Js a []:=fun _ h=>by cases h
theorem Rel.put0(h:Rel X β ρ S a w){d:Nat}(hd:okD X d=true){x:AV}{c:List Value}(hx:cr β ρ (okR X β ρ S.mem w) w false x c):Rel X β ρ (S.put d [] x) (a.put (some d) (x.val c)) w :=
 h.put hd (fun _=>⟨c,rfl,hx⟩) (.inl (Qd _))
def Qe:List (Nat×Ob)→Nat→Option Ob
 | [],_=>none
 | q::l,t=>bif Nat.beq q.1 t then some q.2 else Qe l t
def Qhf:List (Nat×Ob)→Nat→Ob→List (Nat×Ob)
 | [],_,_=>[]
 | q::l,t,o=>bif Nat.beq q.1 t then(t,o)::l else q::Qhf l t o
def Jx:List (Nat×Ob)→Nat→List (Nat×Ob)
 | [],_=>[]
 | q::l,t=>bif Nat.beq q.1 t then l else q::Jx l t
theorem Jv:∀{l:List (Nat×Ob)} {t:Nat} {o:Ob},Qe l t=some o→∃l1 l2,l=l1++(t,o)::l2∧(∀o',Qhf l t o'=l1++(t,o')::l2)∧Jx l t=l1++l2
 | q::l,t,o,h=>by
  simp only[Qe]at h
  cases hb:Nat.beq q.1 t with
  | true =>
   rw[hb]at h
   simp at h
   have:=Nat.eq_of_beq_eq_true hb
   subst h; subst this
   exact⟨[],l,rfl,fun o'=>by simp[Qhf,hb],by simp[Jx,hb]⟩
  | false =>
   rw[hb]at h
   obtain⟨l1,l2,h1,h2,h3⟩:=Jv h
   grind [Qhf,Jx]
theorem Rel.ob(h:Rel X β ρ S a w){id:Nat}{o:Ob}(ho:Qe S.mem id=some o) :
  (Q0 β ρ id o).p (okR X β ρ S.mem w) w∧∀g,(Q0 β ρ id o).blks g→X.mine g:=by
 obtain⟨l1,l2,h1,_⟩:=Jv ho
 exact h.own _ (by rw[h1]; simp[Qi])
end
end Gx

/- A map's entry that is made first and written then. -/
import Derived.Test.YtpdhjildhjpjdaaGreatXM
namespace Gx
open Go Go.RowKit Gd
set_option linter.unusedVariables false
set_option linter.unusedSimpArgs false
section
variable {P:Program} {T:Tab}
theorem Jf8{es:Array MapEntry}(hst:(es.toList.map MapEntry.born).Nodup){j:Nat}{e:MapEntry}(hj:es.toList[j]?=some e):es.findIdx? (fun x=>(x.born:Int)==(e.born:Int))=some j:=by
 obtain⟨hl,hj⟩:=List.getElem?_eq_some_iff.1 hj
 have hl':j<es.size:=by simpa using hl
 rw[Array.findIdx?_eq_some_iff_getElem]
 refine⟨hl',by grind,fun i hi=>?_⟩
 have hij:i≠j:=KY hi
 have h1:i<(es.toList.map MapEntry.born).length:=by simp; omega
 have h2:j<(es.toList.map MapEntry.born).length:=by simpa using hl
 have hne:(es.toList.map MapEntry.born)[i]≠(es.toList.map MapEntry.born)[j]:=fun h=>hij ((List.getElem_inj hst).1 h)
 grind
theorem Qph{es:Array MapEntry}{j:Nat}{f:MapEntry→MapEntry}(hf:∀e,(f e).born=e.born):((es.modify j f).toList.map MapEntry.born)=es.toList.map MapEntry.born:=by
 apply JL
 grind
theorem Qxi{es:Array MapEntry}{clock:Nat}(hst:Bh es clock){j:Nat}{f:MapEntry→MapEntry}(hf:∀e,(f e).born=e.born):Bh (es.modify j f) clock:=by
 refine⟨by rw[Qph hf]; exact hst.1,fun e he=>?_⟩
 have hb:e.born∈(es.modify j f).toList.map MapEntry.born:=QK.2 ⟨e,he,rfl⟩
 rw[Qph hf]at hb
 obtain⟨e',he',hbe⟩:=QK.1 hb
 rw[←hbe]; exact hst.2 e' he'
theorem Qnz{k:Ty}(hk:Qci k=true){ν:Type}{s:RT ν}{ok:Ok}{w:World}:∀{xs:List (k.De×ν)} {es:List MapEntry},E1 (rt k) s ok w xs es→es.map MapEntry.key=xs.map fun q=>Yh k q.1
 | [],es,h=>by cases(show es=[]from h); rfl
 | x::xs,es,h=>by
  obtain⟨e,es',rfl,h1,_,h3⟩:=h
  simp[Hh hk h1,Qnz hk h3]
theorem Q4g(hT:Qy P T){kt:TypeId}{te:TE}(ht:Qi T kt=some te){k:Ty}(hd:Y2 T k te.d=true){x y:k.De}(w:World)(h:Yh k x=Yh k y):x=y:=by
 have h1:=Og hT ht hd x y w
 have h2:=Og hT ht hd x x w
 rw[←h]at h1
 rw[h1]at h2
 injection h2 with h2
 exact(Za (Jz hd)).1 (h2.trans ((Za (Jz hd)).2 rfl))
theorem Q0a(hT:Qy P T){t kt et:TypeId}{te tk tz:TE}(ht:Qi T t=some te)(htd:te.d=.map kt et)(hk:Qi T kt=some tk)(hz:Qi T et=some tz)
  {k:Ty} {ν:Type} {s:RT ν} (hd:Y2 T k tk.d=true) {ok:Ok} {w:World} {g:Nat} {es:Array MapEntry} {clock:Nat} (hg:w.heap[g]?=some (.map es clock)) {xs:List (k.De×ν)} (hp:E1 (rt k) s ok w xs es.toList) (hst:Bh es clock)
  (key:k.De) {z:ν} (hzv:isV s ok w z tz.z) :
  ∃es1 clock1 u b,(Instr.mapEntry t (.map (some g)) (Yh k key)).run P w=.ok (.tuple #[u,.int .i64 ((b:Nat):Int)]) { w with heap:=w.heap.setIfInBounds g (.map es1 clock1) } ∧
   E1 (rt k) s ok w (Jc key ((Qj key xs).getD z) xs) es1.toList∧Bh es1 clock1∧(∃e∈es1.toList,e.key=Yh k key∧e.born=b)∧isV s ok w ((Qj key xs).getD z) u:=by
 have hu:=(Jr hT ht).2
 rw[htd]at hu
 have hzr:(zeroValue et).run P w=.ok tz.z w:=Vt hT w hz
 rcases Qav hT hk hd key w hp with⟨r1,r2⟩ | ⟨j,e,y,r1,r2,r3,r4,r5⟩
 ·rw[r1]
  rcases Qlk hT hk hd key hzv hp with⟨q1,q2⟩ | ⟨j,e,q2,q3,q4,q5⟩
  ·refine⟨es.push ⟨Yh k key,tz.z,clock⟩,clock+1,tz.z,clock,?_,by grind,Qsh hst _ _,⟨⟨Yh k key,tz.z,clock⟩,by simp,rfl,rfl⟩,hzv⟩
   simp[Instr.mapEntry,run_underlying hu,MapKept.run_getObj_map hg,Wm hT hk hd,r2,hzr,MapKept.run_setObj_map _ hg,Result.andThen,goInt]
  ·have h2:=q2 0
   rw[QW]at h2
   rw[Oi hT hk hd key w hp h2]at r2
   cases r2
 ·rw[r1]
  rcases Qlk hT hk hd key r5 hp with⟨q1,q2⟩ | ⟨j',e',q2,q3,q4,q5⟩
  ·rw[q1]at r1; cases r1
  ·have h2:=q2 0
   rw[QW]at h2
   have h3:=Oi hT hk hd key w hp h2
   rw[h3]at r2
   injection r2 with r2
   injection r2 with r2
   injection r2 with r2 r2'
   subst r2
   rw[q3]at r3
   injection r3 with r3
   subst r3
   have q3':es[j']?=some e':=by simpa using q3
   refine⟨es.modify j' fun e=>{ e with key:=Yh k key },clock,e'.val,e'.born,?_,?_,Qxi hst (fun _=>rfl),⟨{ e' with key:=Yh k key },?_,rfl,rfl⟩,r5⟩
   ·simp[Instr.mapEntry,run_underlying hu,MapKept.run_getObj_map hg,Wm hT hk hd,h3,q3',q4,Qwx (Jz hd),MapKept.run_setObj_map _ hg,Result.andThen,goInt]
   ·have e1:(es.modify j' fun e=>{ e with key:=Yh k key }).toList=es.toList.modify j' fun e=>{ e with key:=Yh k key,val:=e'.val }:=by
     apply JL
     grind
    grind
   ·refine List.mem_of_getElem? (i:=j') ?_
    grind
theorem Qtb(hT:Qy P T){t kt:TypeId}{tk:TE}(hk:Qi T kt=some tk)
  {k:Ty} {ν:Type} {s:RT ν} (hd:Y2 T k tk.d=true) {ok:Ok} {w:World} {g:Nat} {es:Array MapEntry} {clock:Nat} (hg:w.heap[g]?=some (.map es clock)) {xs:List (k.De×ν)} (hp:E1 (rt k) s ok w xs es.toList) (hst:Bh es clock) (hnd:(xs.map Prod.fst).Nodup)
  (key:k.De) {y:ν} {v:Value} (hv:isV s ok w y v) {e:MapEntry} (he:e∈es.toList) (hek:e.key=Yh k key) :
  ∃es',(Instr.entryStore t (.map (some g)) (.int .i64 ((e.born:Nat):Int)) v).run P w=.ok () { w with heap:=w.heap.setIfInBounds g (.map es' clock) }∧E1 (rt k) s ok w (Jc key y xs) es'.toList∧Bh es' clock:=by
 obtain⟨j,hj⟩:=List.getElem?_of_mem he
 have hf:=Jf8 hst.1 hj
 have hkn:(es.toList.map MapEntry.key).Nodup:=by
  rw[Qnz (Jz hd) hp,show(xs.map fun q=>Yh k q.1)=(xs.map Prod.fst).map (Yh k)from by simp]
  exact hnd.map _ fun a b hab h=>hab (Q4g hT hk hd w h)
 have hrun:(Instr.entryStore t (.map (some g)) (.int .i64 ((e.born:Nat):Int)) v).run P w=.ok () { w with heap:=w.heap.setIfInBounds g (.map (es.modify j fun e=>{ e with val:=v }) clock) }:=by
  simp[Instr.entryStore,MapKept.run_getObj_map hg,asInt,asIntOf,hf,MapKept.run_setObj_map _ hg,Result.andThen]
 refine⟨_,hrun,?_,Qxi hst fun _=>rfl⟩
 rcases Qlk hT hk hd key hv hp with⟨q1,q2⟩ | ⟨j',e',q2,q3,q4,q5⟩
 ·rcases Qav hT hk hd key w hp with⟨r1,r2⟩ | ⟨j2,e2,y2,r1,_⟩
  ·exfalso
   have hm:Yh k key∈es.toList.map MapEntry.key:=QK.2 ⟨e,he,hek⟩
   rw[Qnz (Jz hd) hp]at hm
   obtain⟨q,hq,hqk⟩:=QK.1 hm
   have:=Q4g hT hk hd w hqk
   subst this
   clear q2 r2 r1 hnd hkn hp hm
   induction xs with
   | nil=>cases hq
   | cons x xs ih =>
    simp only[Qj]at q1
    cases hb:eqK k q.1 x.1 with
    | true=>rw[hb]at q1; cases q1
    | false =>
     rw[hb]at q1
     rcases QX.1 hq with rfl | hq
     ·rw[(Za (Jz hd)).2 rfl]at hb; cases hb
     ·exact ih hq q1
  grind
 ·have hjj:j=j':=by
   have h1:=(List.getElem?_eq_some_iff.1 hj)
   have h2:=(List.getElem?_eq_some_iff.1 q3)
   have g1:(es.toList.map MapEntry.key)[j]'(by grind)=(es.toList.map MapEntry.key)[j']'(by grind):=by
    rw[ZF,ZF,h1.2,h2.2,hek,q4]
   grind [List.getElem_inj]
  subst hjj
  have e1:(es.modify j fun e=>{ e with val:=v }).toList=es.toList.modify j fun e=>{ e with key:=Yh k key,val:=v }:=by
   have hj':es[j]?=some e:=by simpa using hj
   apply JL
   grind
  rw[e1]; exact q5
end
section
variable {P:Program} {Y:TX} {X:Cx} {S:XS} {β β':Nat→Nat} {ρ ρ':Nat→Value} {a a':Act} {w w':World} {n:Nat}
variable {ops:Array Oper} {Q:Exit→Act→World→Prop} {rest:List Oper} {R:Type} {k:XS→Option R} {r:R}
theorem Q4h{M:List (Nat×Ob)}{id:Nat}{ob:Ob}(hm:Qg M id=some ob)(hbb:∀o,(Qv β ρ id ob).cov (β id) o){o:Obj}:Evo (okR X β ρ M w) w { w with heap:=w.heap.setIfInBounds (β id) o }:=by
 obtain⟨l1,l2,e1,_,_⟩:=Jk hm
 refine Evo.of_blocks (by simp) fun b f hk=>?_
 have hne:β id≠b:=fun e=>hk.2.2.2 (Qv β ρ id ob) (by rw[e1]; simp[Qk]) (e▸hbb f)
 grind
theorem Jcf{M:List (Nat×Ob)}{id:Nat}{ob ob':Ob}(hm:Qg M id=some ob)(hc:∀b f,(Qv β ρ id ob').cov b f→(Qv β ρ id ob).cov b f){o:Obj}:∀b f,okR X β ρ M w b f→okR X β ρ (Rk M id ob') { w with heap:=w.heap.setIfInBounds (β id) o } b f:=by
 obtain⟨l1,l2,e1,e2,_⟩:=Jk hm
 rintro b f ⟨h1,h2,h3,h4⟩
 refine⟨h1,by simpa using h2,h3,fun t ht=>?_⟩
 rw[e2]at ht
 grind
theorem Rel.turnM{env:List En}{M:List (Nat×Ob)}(h:Rel X β ρ ⟨env,M⟩ a w){id:Nat}{ob ob':Ob}(hm:Qg M id=some ob)(hb1:∀b o,(Qv β ρ id ob).blks b→(Qv β ρ id ob).cov b o)(hb2:∀g,(Qv β ρ id ob').blks g→(Qv β ρ id ob).blks g){o:Obj}
  (hbb:(Qv β ρ id ob).blks (β id)) (hq:(Qv β ρ id ob').p (okR X β ρ (Rk M id ob') { w with heap:=w.heap.setIfInBounds (β id) o }) { w with heap:=w.heap.setIfInBounds (β id) o }) :
  Rel X β ρ ⟨env,Rk M id ob'⟩ a { w with heap:=w.heap.setIfInBounds (β id) o }:=by
 obtain⟨l1,l2,e1,e2,e3⟩:=Jk hm
 have hO:Qk β ρ M=Qk β ρ l1++Qv β ρ id ob::Qk β ρ l2:=by rw[e1]; simp[Qk]
 have hmem:Qk β ρ (l1++(id,ob')::l2)=Qk β ρ l1++Qv β ρ id ob'::Qk β ρ l2:=by simp[Qk]
 have hS:=Sb.upd h hO (t':=Qv β ρ id ob') (w':={ w with heap:=w.heap.setIfInBounds (β id) o }) rfl rfl rfl (by simp) (fun b hb hn=>by
   have hne:β id≠b:=fun e=>hn (e▸hbb)
   grind) hb1 (fun g hg=>.inl (hb2 g hg)) (fun hevo hok=>by rw[←hmem,←e2]; exact hq)
 rw[e2]
 exact Rel.ofSb hS hmem.symm fun e he=>by
  have:=Yf.1 hS.dat _ (QK.2 ⟨e,he,rfl⟩)
  rw[←hmem]at this
  exact this
theorem Q9r(hT:Qy P Y.T)(hX:X.n=n)(hr:X.res=[])(h:Rel X β ρ S.flat a w){o:Oper}(hw:Region.wanted o (yielded ops a.tmps)=true){t:TypeId}{m ky:Operand}{d:Nat}(hop:o.op=.mapEntry t m ky)(hd:o.dst=some d){te tk tz:TE}{kt et:TypeId}(hte:Qi Y.T t=some te)(htd:te.d=.map kt et)(htk:Qi Y.T kt=some tk)(htz:Qi Y.T et=some tz)
  {id:Nat} {kv za:AV} {kk v:Ty} {xs:List (kk.De×v.De)} {key:kk.De} {z:v.De} (hm:S.ev [] m=some (.m id)) (hkv:S.ev [] ky=some kv) (hmo:Qg S.mem id=some (.map kk v xs)) (hkey:asD [] kv kk=some key) (hza:Oj v tz.z=some za) (hz:asD [] za v=some z)
  (hwd:okW n S d=true) (hb:okB S d=true) (hdk:Y2 Y.T kk tk.d=true) (hka:(kk.agg==kv.isAgg)=true) (hva:(v.agg==Qjw tz.z)=true)
  (hk:k ((XS.mk (Y3 d S.env) S.fix (Rk S.mem id (.mapE kk v (Jc key ((Qj key xs).getD z) xs) key d)) S.fixM S.prot).put d [] (.tp (.cons (.d v ((Qj key xs).getD z)) (.cons (.b d) .nil))))=some r) (H:KOk P ops Q rest X S β ρ k r):wpList P ops Q (o::rest) a w:=by
 obtain⟨h1,h2⟩:=Vc hwd hX hr
 obtain⟨f1,f2,f3⟩:=Eo hb
 obtain⟨c1,g1,g2⟩:=h.ev (Qf a) hm
 have g2':c1=[.map (some (β id))]:=g2
 subst g2'
 have g1':a.eval m=.map (some (β id)):=g1
 obtain⟨c3,h3,h4⟩:=h.ev (Qf a) hkv
 have hkr:isV (rt kk) (okR X β ρ S.flat.mem w) w key (a.eval ky):=by
  refine⟨c3,Xa (M:=[]) (β:=β) (ρ:=ρ) (by simp[Qg]) hkey h4,?_⟩
  rw[h3]; simp only[AV.val,RT.val,Dg,bEq hka]; cases kv.isAgg<;>rfl
 have hke:=Hh (Jz hdk) hkr
 have hm':Qg S.flat.mem id=some (.map kk v xs):=Qx hmo
 obtain⟨⟨es,clock,hg,hp,hnd,hst1,hst2⟩,hmine⟩:=h.ob hm'
 have hzv:isV (rt v) (okR X β ρ S.flat.mem w) w z tz.z:=⟨Qr tz.z,Xa (M:=[]) (β:=β) (ρ:=ρ) (by simp[Qg]) hz (Dj hza),(Qnm (bEq hva)).symm⟩
 obtain⟨es1,clock1,u,b,hrun,hp1,hst',⟨e0,he0,he1,he2⟩,hu⟩:=Q0a hT hte htd htk htz hdk hg hp ⟨hst1,hst2⟩ key hzv
 have hrun':(execOp a.eval o).run P w=.ok (.value (.tuple #[u,.int .i64 ((b:Nat):Int)])) { w with heap:=w.heap.setIfInBounds (β id) (.map es1 clock1) }:=by
  unfold execOp
  rw[hop]
  simp only[g1',hke]
  simp[hrun]
 refine Jm hw (Ym hrun' ?_)
 rw[hd]
 have hne:id≠d:=by
  obtain⟨l1,l2,e1,_⟩:=Jk hm'
  have hin:(id,Ob.map kk v xs)∈S.mem++S.fixM:=by
   rw[show S.mem++S.fixM=S.flat.mem from rfl,e1]; simp
  exact(H7 f1 _ hin).1
 have hid:upd β d b id=β id:=Aq _ _ hne
 have ha:=Qht d β ρ b (ρ d)
 have hoff:=h.off ha f1 (env':=Yu (Y3 d S.env) d++S.fix) fun e he=>let⟨q1,q2,_⟩:=Iq f2 h2 e he; ⟨q1,q2⟩
 have sim:=Wp.ok (R9 ha f1) (w:=w) (ok0:=X.ok) (B:=X.w.heap.size) (β:=fun _=>0) (H:=[])
 have hmm:Qg (S.mem++S.fixM) id=some (.map kk v xs):=hm'
 have hev:=Q4h (X:=X) (β:=upd β d b) (ρ:=upd ρ d (ρ d)) (w:=w) (o:=.map es1 clock1) hmm (fun _=>rfl)
 have hok:=Jcf (X:=X) (β:=upd β d b) (ρ:=upd ρ d (ρ d)) (w:=w) (o:=.map es1 clock1) (ob':=.mapE kk v (Jc key ((Qj key xs).getD z) xs) key d) hmm (fun _ _ h=>h)
 have hT1:=hoff.turnM (ob':=.mapE kk v (Jc key ((Qj key xs).getD z) xs) key d) (o:=.map es1 clock1) hmm (fun b o h=>h) (fun g h=>h) rfl ?_
 ·have hu1:=((hu.weak sim).evo hev).weak hok
  obtain⟨cu,hu2,hu3⟩:=hu1
  have hP:=hT1.put0 h1 (x:=.tp (.cons (.d v ((Qj key xs).getD z)) (.cons (.b d) .nil))) (c:=[.tuple #[u,.int .i64 ((b:Nat):Int)]]) ⟨[u,.int .i64 ((b:Nat):Int)],rfl,cu,[.int .i64 ((b:Nat):Int)],?_,hu2,[.int .i64 ((b:Nat):Int)],[],rfl,?_,rfl⟩
  ·rw[hid]at hP
   refine H (upd β d b) (upd ρ d (ρ d)) _ _ _ hk ⟨rfl,rfl,rfl,Gr f3 ha⟩ ?_
   have hE:(XS.put (XS.mk (Y3 d S.env) S.fix (Rk S.mem id (.mapE kk v (Jc key ((Qj key xs).getD z) xs) key d)) S.fixM S.prot) d [] (.tp (.cons (.d v ((Qj key xs).getD z)) (.cons (.b d) .nil)))).flat=⟨⟨d,[],.tp (.cons (.d v ((Qj key xs).getD z)) (.cons (.b d) .nil))⟩::(Yu (Y3 d S.env) d++S.fix),Rk (S.mem++S.fixM) id (.mapE kk v (Jc key ((Qj key xs).getD z) xs) key d)⟩:=by
    grind [XS.flat,XS.put,Wg]
   rw[hE]
   refine hP.less fun e hm=>?_
   rcases QX.1 hm with rfl | hm
   ·exact .head _
   ·refine .tail _ ?_
    have:Yu (Yu (Y3 d S.env) d++S.fix) d=Yu (Y3 d S.env) d++S.fix:=by
     rw[Ar h2,Qs6]
    show e∈Yu (Yu (Y3 d S.env) d++S.fix) d
    rw[this]; exact hm
  ·rw[hu3]; grind [AV.val,RT.val,Dg,AV.isAgg]
  ·show [Value.int .i64 ((b:Nat):Int)]=[.int .i64 ((upd β d b d:Nat):Int)]
   rw[Jf]
 ·have hgl:β id<w.heap.size:=Vg hg
  refine⟨es1,clock1,?_,Zm (Bg (Zm hp1 sim) hev) hok,(N6 (Jz hdk) key _ hnd).1,hst'.1,hst'.2,e0,he0,he1▸Qzr (Jz hdk) key,by rw[he2,Jf]⟩
  rw[hid]; grind
theorem Q0b(hT:Qy P Y.T)(h:Rel X β ρ S.flat a w){o:Oper}(hw:Region.wanted o (yielded ops a.tmps)=true){t:TypeId}{m st x:Operand}(hop:o.op=.entryStore t m st x)(hd:o.dst=none){tk:TE}{kt:TypeId}(htk:Qi Y.T kt=some tk)
  {id j:Nat} {xv:AV} {kk v:Ty} {xs:List (kk.De×v.De)} {key:kk.De} {y:v.De} (hm:S.ev [] m=some (.m id)) (hst:S.ev [] st=some (.b j)) (hx:S.ev [] x=some xv) (hmo:Qg S.mem id=some (.mapE kk v xs key j)) (hy:asD S.flat.mem xv v=some y)
  (hdk:Y2 Y.T kk tk.d=true) (hva:(v.agg==xv.isAgg)=true)
  (hk:k (S.set id (.map kk v (Jc key y xs)))=some r) (H:KOk P ops Q rest X S β ρ k r):wpList P ops Q (o::rest) a w:=by
 obtain⟨c1,g1,g2⟩:=h.ev (Qf a) hm
 have g2':c1=[.map (some (β id))]:=g2
 subst g2'
 have g1':a.eval m=.map (some (β id)):=g1
 obtain⟨c2,g3,g4⟩:=h.ev (Qf a) hst
 have g4':c2=[.int .i64 ((β j:Nat):Int)]:=g4
 subst g4'
 have g3':a.eval st=.int .i64 ((β j:Nat):Int):=g3
 have hxv:isV (rt v) (okR X β ρ S.flat.mem w) w y (a.eval x):=h.asD (Qf a) hx hy (bEq hva)
 have hm':Qg S.flat.mem id=some (.mapE kk v xs key j):=Qx hmo
 obtain⟨⟨es,clock,hg,hp,hnd,hst1,hst2,e0,he0,he1,he2⟩,hmine⟩:=h.ob hm'
 obtain⟨es',hrun,hp',hst'⟩:=Qtb (t:=t) hT htk hdk hg hp ⟨hst1,hst2⟩ hnd key hxv he0 (Hh (Jz hdk) he1)
 rw[he2]at hrun
 have hrun':(execOp a.eval o).run P w=.ok .skip { w with heap:=w.heap.setIfInBounds (β id) (.map es' clock) }:=by
  unfold execOp
  rw[hop]
  simp only[g1',g3']
  simp[hrun]
 refine Jm hw ?_
 unfold Oper.wp
 rw[hrun']
 show wpList P ops Q rest (a.put o.dst undef) _
 rw[hd]
 have hE:(S.set id (.map kk v (Jc key y xs))).flat=⟨S.flat.env,Rk S.flat.mem id (.map kk v (Jc key y xs))⟩:=by
  grind [XS.flat,XS.set,Wg]
 refine H β ρ _ _ _ hk ⟨rfl,rfl,rfl,agP.refl _ _ _⟩ ?_
 rw[hE]
 have hev:=Q4h (X:=X) (β:=β) (ρ:=ρ) (w:=w) (o:=.map es' clock) hm' (fun _=>rfl)
 have hok:=Jcf (X:=X) (β:=β) (ρ:=ρ) (w:=w) (o:=.map es' clock) (ob':=.map kk v (Jc key y xs)) hm' (fun _ _ h=>h)
 exact Rel.turnM (env:=S.flat.env) h (ob':=.map kk v (Jc key y xs)) (o:=.map es' clock) hm' (fun b o h=>h) (fun g h=>h) rfl
  ⟨es',clock,(MapKept.heap_set hg).1,Zm (Bg hp' hev) hok,(N6 (Jz hdk) key y hnd).1,hst'.1,hst'.2⟩
end
end Gx

/- Literals as rows; maps whose values are objects of their own. -/
namespace Gx
open Go Go.RowKit Gd
set_option linter.unusedVariables false
set_option linter.unusedSimpArgs false
theorem Q4i{v:Value}(h:Qso v=true):v=.map none:=by
 grind [Qso]
theorem Q9s{v:Value}(h:Qz0 v=true):v=.slice none 0 0:=by
 grind [Qz0]
def Jwv:CK→Value
 | .sl _ _=>.slice none 0 0
 | .mp _ _=>.map none
theorem Qxj{c:CK}{v:Value}(h:Q9h c v=true):v=Jwv c:=by
 cases c with
 | sl e u=>exact Q9s h
 | mp k w=>exact Q4i h
theorem Jj8{c:CK}:(Jwv c).oneCell'=true:=by cases c<;>rfl
theorem Jj9{β:Nat→Nat}{ρ:Nat→Value}{ok:Ok}{w:World}{M:List (Nat×Ob)}(hM:∀id o,Qg M id=some o→(Qv β ρ id o).p ok w){R:Type}{kk:Ty}(hk:Qci kk=true){c:CK}{xs:List (kk.De×c.ty.De)}{hole:Option (kk.De×Nat)}{key:kk.De}{vs:List Value}{ys:List (kk.De×Value)}
  (hrel:Dh c (Q3k hole) (Od β ρ c hole) ok w xs ys vs) (habs:∀k,Q3k hole=some k→k∉xs.map Prod.fst→Od β ρ c hole=.slice none 0 0) {z:Value} (hz:Q9h c z=true) {av:AV}
  (hav:(∃q,hole=some q∧H5 (Qpd c (Qg M q.2))=true∧eqK kk key q.1=true∧av=avC c q.2)∨(hole=none∧(∃k v,c=.mp k v)∧Qj key xs=none∧av=.nm)) :
  ∃cs,(Qj key ys).getD z=av.val cs∧cr β ρ ok w false av cs:=by
 have hz:=Qxj hz
 rcases hav with⟨q,rfl,hq,he,rfl⟩ | ⟨rfl,⟨k2,v2,rfl⟩,hn,rfl⟩
 ·have hkq:=(Za hk).1 he
  have hzal:zal ((Qj key ys).getD z) (Od β ρ c (some q)):=by
   rcases Qnq key hrel with⟨q1,q2⟩ | ⟨x,y,q1,q2,k1,q3,q4,q5⟩
   ·have hab:=habs q.1 rfl (by rw[←hkq]; exact Qwy hk q1)
    rw[q2,hab]
    cases c with
    | sl e u=>exact .inl hz
    | mp k v=>cases hab
   ·rw[q2]
    exact q5 (by rw[←(Za hk).1 q3,hkq]; rfl)
  cases hx:Qpd c (Qg M q.2)with
  | none=>rw[hx]at hq; cases hq
  | some x0 =>
   have hob:=hM _ _ (Qs4 hx)
   cases c with
   | sl e u =>
    obtain⟨_,cs,hown,_⟩:=hob
    refine⟨[(Qj key ys).getD z],rfl,⟨_,rfl,hzal⟩,?_⟩
    rcases hown.2 with⟨hv,_⟩ | ⟨g,cap,cur,fz,hv,_⟩<;>exact⟨_,_,_,hv⟩
   | mp k v =>
    rcases hzal with h1 | ⟨h1,_⟩
    ·exact⟨[.map (some (β q.2))],h1,rfl⟩
    ·cases h1
 ·have:Qj key ys=none:=by
   grind [Qnq]
  rw[this]
  exact⟨[.map none],hz,rfl⟩
section
variable {P:Program} {Y:TX} {X:Cx} {S:XS} {β β':Nat→Nat} {ρ ρ':Nat→Value} {a a':Act} {w w':World} {n:Nat}
variable {ops:Array Oper} {Q:Exit→Act→World→Prop} {rest:List Oper} {R:Type} {k:XS→Option R} {r:R}
theorem Q9t(hX:X.n=n)(hr:X.res=[])(h:Rel X β ρ S.flat a w){o:Oper}(hw:Region.wanted o (yielded ops a.tmps)=true){d:Nat}(hd:o.dst=some d)(hwd:okW n S d=true)(hb:okB S d=true){t:TypeId}(hop:o.op=.makeMap t none){kk:Ty}{c:CK}
  (hk:k ((S.born d (.mapC kk c [] none)).put d [] (.m d))=some r) (H:KOk P ops Q rest X S β ρ k r):wpList P ops Q (o::rest) a w:=by
 obtain⟨h1,h2⟩:=Vc hwd hX hr
 obtain⟨f1,f2,f3⟩:=Eo hb
 have hrun:(execOp a.eval o).run P w=.ok (.value (.map (some w.heap.size))) (w.alloc (.map #[] 0)):=by
  simp_all [execOp,Instr.makeMap]
 refine Jm hw (Ym hrun ?_)
 rw[hd]
 have ha:=Qht d β ρ w.heap.size (.tuple #[])
 have hbel:Below w.heap.size w (w.alloc (.map #[] 0)):=(Below.refl _ _).alloc (QU _) _
 refine H (upd β d w.heap.size) (upd ρ d (.tuple #[])) _ _ _ hk (Zy f3 ha _ _ _) ?_
 have hA:Rel X (upd β d w.heap.size) (upd ρ d (.tuple #[])) ⟨Yu (Y3 d S.env) d++S.fix,(d,.mapC kk c [] none)::(S.mem++S.fixM)⟩ a (w.alloc (.map #[] 0)):=by
  refine Rel.alloc h ha f1 (fun e he=>let⟨q1,q2,_⟩:=Iq f2 h2 e he; ⟨q1,q2⟩) hbel (fun g hg=>?_) ?_
  ·have hg':g=upd β d w.heap.size d∨∃v∈Qcg (upd ρ d (.tuple #[]) d),Xm v=some g:=hg
   rw[Jf,Jf]at hg'
   rcases hg' with hg' | ⟨v,hv,_⟩
   ·omega
   ·cases hv
  ·refine⟨[],⟨#[],0,?_,rfl,by simp,by simp⟩,?_,by simp,?_,?_,fun _ e=>by cases e⟩
   ·rw[Jf]; exact heap_alloc_new w _
   ·rw[Jf]; trivial
   ·rw[Jf]; exact .nil
   grind [Jf,Qcg]
 have hP:=hA.put0 h1 (x:=.m d) (c:=[.map (some (upd β d w.heap.size d))]) rfl
 have hv:(AV.m d).val [.map (some (upd β d w.heap.size d))]=.map (some w.heap.size):=by rw[Jf]; rfl
 rw[hv]at hP
 have he:((S.born d (.mapC kk c [] none)).put d [] (.m d)).flat=⟨⟨d,[],.m d⟩::(Yu (Y3 d S.env) d++S.fix),(d,.mapC kk c [] none)::(S.mem++S.fixM)⟩:=rfl
 rw[he]
 refine hP.less fun e hm=>?_
 rcases QX.1 hm with rfl | hm
 ·exact .head _
 ·refine .tail _ ?_
  have:Yu (Yu (Y3 d S.env) d++S.fix) d=Yu (Y3 d S.env) d++S.fix:=by
   rw[Ar h2]
   congr 1
   have idem:∀l:List En,Yu (Yu l d) d=Yu l d:=by
    intro l
    induction l with
    | nil=>rfl
    | cons x l ih =>
     simp only[Yu]
     cases hb:(Nat.beq x.t d||Qd4 d x.cs)with
     | true=>simpa using ih
     | false=>simp_all [cond_false,Yu]
   exact idem _
  show e∈Yu (Yu (Y3 d S.env) d++S.fix) d
  rw[this]; exact hm
theorem Jka{β:Nat→Nat}{ρ:Nat→Value}{ok:Ok}{a:Act}{w:World}{S:St}(h:Dk β ρ ok S a w){cur:Vr}(hc:Jy a cur){ky:Operand}{kv:AV}(hkv:Gx.ev S cur ky=some kv){kk:Ty}{key:kk.De}(hkey:asD [] kv kk=some key){d:TypeDesc}{T:Tab}(hdk:Y2 T kk d=true)(hka:(kk.agg==kv.isAgg)=true):a.eval ky=Yh kk key:=by
 obtain⟨c3,h3,h4⟩:=h.ev hc hkv
 refine Hh (ok:=ok) (w:=w) (Jz hdk) ⟨c3,Xa (M:=[]) (β:=β) (ρ:=ρ) (by simp[Qg]) hkey h4,?_⟩
 rw[h3]; simp_all [AV.val,RT.val,Dg,bEq]
theorem Q4j(hT:Qy P Y.T)(hX:X.n=n)(hr:X.res=[])(h:Rel X β ρ S.flat a w){o:Oper}(hw:Region.wanted o (yielded ops a.tmps)=true)(hs:Qi4 Y n o S k=some r)(H:KOk P ops Q rest X S β ρ k r):wpList P ops Q (o::rest) a w:=by
 unfold Qi4 at hs
 split at hs
 ·rename_i t m ps d hop hd
  split at hs
  ·rename_i te hte
   split at hs
   ·rename_i e htd0
    split at hs
    ·rename_i ee u vs he hu hvs
     split at hs
     ·rename_i xs hxs
      obtain⟨hb,hk⟩:=bvT hs
      simp only[QQ]at hb
      obtain⟨⟨⟨⟨⟨⟨hwd,hbb⟩,hsz⟩,hl⟩,hsm⟩,hpos⟩,hzl⟩:=hb
      have htd:=Yt htd0
      obtain⟨f1,f2,f3⟩:=Eo hbb
      obtain⟨h1,h2⟩:=Vc hwd hX hr
      have hg:=Oo h hw
      obtain⟨us,q1,q2,q3,q4⟩:=Qz7 h hvs hxs
      have hes:=Nat.eq_of_beq_eq_true hsz
      have hxl:=Nat.eq_of_beq_eq_true hl
      have hcl:∀v∈us,(Qr v).length=ee.size:=fun v hv=>by rw[Qnn q2 v hv,Jj,hes]
      have hz0:(Zu (Qr ee.z) ((m+1)*ee.size)).length=(m+1)*ee.size:=by simp[Zu]
      have hfill:=Q3w us 0 (Zu (Qr ee.z) ((m+1)*ee.size)) hcl (by rw[hz0,QW,q3,hxl]; grind)
      rw[←q1]at hfill
      have hfill':Ry (Qe6 ee.size) (Zu (Qr ee.z) ((m+1)*ee.size)) (ps.map (fun p=>(p.1,a.eval p.2)))=some (us.flatMap Qr):=by
       rw[hfill]
       grind
      rw[Dn o,hd,hop]at hg ⊢
      refine Q4e hT h.toG (r:=rt u) hg h1 q4 hte htd he (by rw[Jj]; exact hes) hxl hsm hpos (XJ (QO _)) hzl hfill' q2 fun b a' w' hS=>?_
      refine H β (upd ρ d (.slice (some ⟨b,0,none⟩) xs.length (m+1))) _ _ _ hk (Zy f3 (Ya d β ρ _) _ _ _) ?_
      have:=Kz (o:=.row e u xs) hX hr h.sz hwd f1 f2 f3 hS (by grind [Qv,Jf,Gl.refl]) ⟨_,_,_,rfl⟩
      exact this
     ·cases hs
    ·cases hs
   ·cases hs
  ·cases hs
 ·
  rename_i t rs d hop hd
  split at hs
  ·rename_i te hte
   split at hs
   ·rename_i kt et htd
    split at hs
    ·rename_i kk c hkk hc
     obtain⟨hb,hk⟩:=bvT hs
     simp only[QQ]at hb
     have hrs:=Qhw hb.2
     grind [Q9t]
    ·cases hs
   ·cases hs
  ·cases hs
 ·
  rename_i t m ky x hop hd
  split at hs
  ·rename_i te id kv xv hte hm hkv hx
   split at hs
   ·rename_i kt et kk c xs hole htd hmo
    split at hs
    ·rename_i tk key htk hkey
     obtain⟨hb,hs⟩:=bvT hs
     simp only[QQ]at hb
     grind [Juj]
    ·cases hs
   ·cases hs
  ·cases hs
 ·
  rename_i t m ky d hop hd
  split at hs
  ·rename_i te id kv hte hm hkv
   split at hs
   ·rename_i kt et kk v xs htd hmo
    split at hs
    ·rename_i tk tz key htk htz hkey
     split at hs
     ·rename_i za hza
      split at hs
      ·rename_i z hz
       obtain⟨hb,hk⟩:=bvT hs
       simp only[QQ]at hb
       exact Q9r hT hX hr h hw hop hd hte htd htk htz hm hkv hmo hkey hza hz hb.1.1.1.1 hb.1.1.1.2 hb.1.1.2 hb.1.2 hb.2 hk H
      ·cases hs
     ·cases hs
    ·cases hs
   ·cases hs
  ·cases hs
 ·
  rename_i t m st x hop hd
  split at hs
  ·rename_i id j xv hm hst hx
   split at hs
   ·rename_i kk v xs key j' hmo
    split at hs
    ·rename_i te hte
     split at hs
     ·rename_i kt et htd
      split at hs
      ·rename_i tk y htk hy
       obtain⟨hb,hk⟩:=bvT hs
       simp only[QQ]at hb
       have hj:=Nat.eq_of_beq_eq_true hb.1.1
       grind [Q0b]
      ·cases hs
     ·cases hs
    ·cases hs
   ·cases hs
  ·cases hs
 ·
  rename_i t m ky d hop hd
  split at hs
  ·rename_i te kv hte hkv
   split at hs
   ·rename_i kt et htd
    split at hs
    ·rename_i tk tz id htk htz hm
     split at hs
     ·rename_i kk c xs hole hmo
      split at hs
      ·rename_i key hkey
       replace hs:=bvT hs
       obtain⟨hb,hs⟩:=hs
       simp only[QQ]at hb
       obtain⟨⟨⟨hwd,hdk⟩,hka⟩,hz⟩:=hb
       have gen:∀av,((∃q,hole=some q∧H5 (Qpd c (Qg S.flat.mem q.2))=true∧eqK kk key q.1=true∧av=avC c q.2)∨(hole=none∧(∃k v,c=.mp k v)∧Qj key xs=none∧av=.nm))→k (S.put d [] av)=some r→wpList P ops Q (o::rest) a w:=by
        intro av hav hk
        refine Jjv hX hr h hw hd hwd (x:=av) (fun {β ρ ok a w} h hc=>?_) hk H
        obtain⟨c1,h1,h2⟩:=h.ev hc hm
        have h2':c1=[.map (some (β id))]:=h2
        subst h2'
        have h1':a.eval m=.map (some (β id)):=h1
        have hke:=Jka h hc hkv hkey hdk hka
        obtain⟨ys,⟨es,clock,hg,hp,_⟩,hrel,_,_,_,habs⟩:=h.mm _ _ hmo
        obtain⟨v,hrun,hv,_⟩:=Qsg hT hte htd htk htz hdk hg hp key (z:=tz.z) ⟨[tz.z],⟨rfl,by rw[Qxj hz]; exact Jj8⟩,rfl⟩ false
        obtain⟨cs0,⟨e0,_⟩,hv⟩:=hv
        have hv:v=(Qj key ys).getD tz.z:=by rw[hv,e0]; rfl
        obtain⟨cs,q1,q2⟩:=Jj9 (R:=R) h.mm (Jz hdk) hrel habs hz hav
        refine⟨cs,?_,q2⟩
        unfold execOp
        rw[hop]
        simp only[h1',hke]
        simp only[JZ,if_false]at hrun
        simp[hrun,hv,q1]
       unfold Q9i at hs
       split at hs
       ·rename_i q
        replace hs:=bvT hs
        obtain⟨hq,hs⟩:=hs
        obtain⟨_,hch,hk⟩:=Ys hs
        unfold chk at hch
        grind
       ·rename_i k2 v2 xs
        obtain⟨_,hch,hk⟩:=Ys hs
        unfold chk at hch
        exact gen _ (.inr ⟨rfl,⟨_,_,rfl⟩,Qhw (bvT hch).1,rfl⟩) hk
       ·cases hs
      ·cases hs
     grind [Qxh]
    ·rename_i tk tz htk htz hm
     split at hs
     ·rename_i kk v hkk hvv
      split at hs
      ·rename_i key za hkey hza
       split at hs
       ·rename_i z hz
        obtain⟨hb,hk⟩:=bvT hs
        simp only[QQ]at hb
        obtain⟨⟨⟨hwd,hdk⟩,hka⟩,hva⟩:=hb
        refine Jjv hX hr h hw hd hwd (x:=.d v z) (fun {β ρ ok a w} h hc=>?_) hk H
        obtain⟨c1,h1,h2⟩:=h.ev hc hm
        have h2':c1=[.map none]:=h2
        subst h2'
        have h1':a.eval m=.map none:=h1
        have hke:=Jka h hc hkv hkey hdk hka
        have hrun:=Qvz (w:=w) hT hte htd htk htz hdk key false
        refine⟨Qr tz.z,?_,Xa (M:=[]) (β:=β) (ρ:=ρ) (by simp[Qg]) hz (Dj hza)⟩
        have hvz:(AV.d v z).val (Qr tz.z)=tz.z:=by
         have:=Qnm (bEq hva)
         grind [AV.val,AV.isAgg,RT.val,Dg]
        unfold execOp
        rw[hop]
        simp only[h1',hke,hvz]
        simp only[JZ,if_false]at hrun
        simp[hrun]
       ·cases hs
      ·cases hs
     ·cases hs
    ·cases hs
   ·cases hs
  ·cases hs
 ·cases hs
end
end Gx

/- Calls. -/
namespace Gx
open Go Go.RowKit Gd
set_option linter.unusedVariables false
set_option linter.unusedSimpArgs false
def Q4k(c:Con)(β:Nat→Nat)(ρ:Nat→Value)(ok:Ok)(L:List Nat)(w:World)(x:c.Γ.De)(y:Qaz c.Δ)(v:Value)(w':World):Prop :=
 ∃(β':Nat→Nat) (ρ':Nat→Value),agP (c.Γ.mem.map Prod.fst) β β' ρ ρ' ∧
  (∃cs,v=(Qa0 (Qh7 c.Δ y).env).val cs∧cr β' ρ' (Jn (okL L ok) w.heap.size (fun _=>0) [] (Qk β' ρ' ((Qh7 c.Δ y).mem++roM c x)) w') w' false (Qa0 (Qh7 c.Δ y).env) cs) ∧
  (∀t∈Qk β' ρ' ((Qh7 c.Δ y).mem++roM c x),t.p (Jn (okL L ok) w.heap.size (fun _=>0) [] (Qk β' ρ' ((Qh7 c.Δ y).mem++roM c x)) w') w'∧∀g,t.blks g→w.heap.size≤g∨g∈L) ∧
  (Qk β' ρ' ((Qh7 c.Δ y).mem++roM c x)).Pairwise fun s t=>∀g,s.blks g→¬ t.blks g
def Ur(gl:List (Nat×Σ t:Ty,t.De))(ok:Ok)(w:World):Prop :=
 ∀q∈gl,Qry (rt q.2.1) ok w q.2.2 (.pointer (some ⟨q.1,0,none⟩))∧ok q.1 0∧∃cs t fz,w.heap[q.1]?=some (.cells cs t fz)∧cs.size=q.2.1.size
theorem Ur.keep{gl:List (Nat×Σ t:Ty,t.De)}{ok:Ok}{w w':World}(h:Ur gl ok w)(hs:w.heap.size≤w'.heap.size)(hb:∀b o,ok b o→w'.heap[b]?=w.heap[b]?):Ur gl ok w' :=
 fun q hq=>let⟨h1,h2,h3⟩:=h q hq; ⟨h1.evo (Evo.of_blocks hs hb),h2,by rw[hb _ _ h2]; exact h3⟩
theorem Ur.weak{gl:List (Nat×Σ t:Ty,t.De)}{ok ok':Ok}{w:World}(h:Ur gl ok w)(hk:∀b o,ok b o→ok' b o):Ur gl ok' w:=fun q hq=>let⟨h1,h2,h3⟩:=h q hq; ⟨h1.weak hk,hk _ _ h2,h3⟩
def okN(X:Cx):Ok:=fun b o=>X.ok b o∧b∉X.lent∧b<X.w.heap.size
theorem Qa2{gl:List (Nat×Σ t:Ty,t.De)}{X:Cx}{β:Nat→Nat}{G:GL}{D:List DF}{O:List TL}{a:Act}{w:World}(h:Sb β X G D [] O a w)(hG:Ur gl (okN X) X.w):Ur gl (Jn X.ok X.w.heap.size β [] O w) w:=by
 refine(hG.keep h.bel.size fun b o hk=>h.bel.block b hk.2.2 hk.2.1).weak fun b o hk=>⟨.inl hk.1,QC hk.2.2 h.bel.size,by simp,fun t ht hc=>?_⟩
 rcases(h.own t ht).2 b (t.cb hc)with h1 | h1
 ·have:=hk.2.2; omega
 ·exact hk.2.1 h1
def Qa3(P:Program)(gl:List (Nat×Σ t:Ty,t.De))(c:Con):Prop :=
 ∀(ok:Ok) (w:World) (L:List Nat) (β:Nat→Nat) (ρ:Nat→Value) (x:c.Γ.De) (y:Qaz c.Δ) (vs:List Value),(∀b o,ok b o→b<w.heap.size)→Ur gl ok w→vs.length=c.Γ.env.length→Qle (Qk β ρ (enc c.Γ x).mem) L ok w →
  (∀e∈(enc c.Γ x).env,∃cs,vs[e.t]?=some (e.av.val cs)∧cr β ρ ok w false e.av cs)→c.fn x=some y→Calls P c.f ⟨vs⟩ w (Qzl L w (Q4k c β ρ ok L w x y))
section
variable {β β':Nat→Nat} {ρ ρ':Nat→Value} {ok:Ok} {w:World}
theorem Qco{g:Nat→Nat}:∀{m:Bool} {x:AV} {cs:List Value},(∀i∈Jd x,β' (g i)=β i∧ρ' (g i)=ρ i)→cr β ρ ok w m x cs→cr β' ρ' ok w m (Wf g x) cs
 | m,.d t x,cs,_,h=>by cases m<;>exact h
 | m,.p id path,cs,hn,h=>by
  have:=(hn id (.head _)).1
  cases m<;>(grind [cr,Wf])
 | m,.e id path,cs,hn,h=>by
  have:=(hn id (.head _)).2
  cases m<;>(grind [cr,Wf])
 | m,.s id,cs,hn,h=>by
  have:=(hn id (.head _)).2
  cases m<;>(grind [cr,Wf])
 | m,.m id,cs,hn,h=>by
  have:=(hn id (.head _)).1
  cases m<;>(grind [cr,Wf])
 | m,.b id,cs,hn,h=>by
  have:=(hn id (.head _)).1
  cases m<;>(grind [cr,Wf])
 | m,.w id _ _,cs,hn,h=>by
  have:=(hn id (.head _)).1
  cases m<;>(grind [cr,Wf])
 | m,.a t x,cs,_,h=>by cases m<;>exact h
 | m,.z,cs,_,h=>by cases m<;>exact h
 | m,.ns,cs,_,h=>by cases m<;>exact h
 | m,.np,cs,_,h=>by cases m<;>exact h
 | m,.nm,cs,_,h=>by cases m<;>exact h
 | m,.nf,cs,_,h=>by cases m<;>exact h
 | m,.f fn caps,cs,hn,h=>by cases m<;>exact let⟨vs,h1,h2⟩:=h; ⟨vs,h1,Qco (fun i hi=>hn i (by grind [Jd])) h2⟩
 | m,.ag l,cs,hn,h=>by cases m<;>exact Qco (m:=false) (x:=l) (fun i hi=>hn i (by grind [Jd])) h
 | m,.tp l,cs,hn,h=>by cases m<;>exact let⟨vs,h1,h2⟩:=h; ⟨vs,h1,Qco (fun i hi=>hn i (by grind [Jd])) h2⟩
 | m,.nil,cs,_,h=>by cases m<;>exact h
 | true,.cons x r,cs,hn,h=>by
  obtain⟨c1,vs,h1,h2,h3⟩:=h
  refine⟨c1,vs,?_,Qco (fun i hi=>hn i (by simp[Jd,hi])) h2,Qco (fun i hi=>hn i (by simp[Jd,hi])) h3⟩
  rw[h1]; cases x<;>rfl
 | false,.cons x r,cs,hn,h=>by
  exact let⟨c1,vs,h1,h2,h3⟩:=h; ⟨c1,vs,h1,Qco (fun i hi=>hn i (by simp[Jd,hi])) h2,Qco (fun i hi=>hn i (by simp[Jd,hi])) h3⟩
theorem Jpk(g:Nat→Nat)(x:AV)(cs:List Value):(Wf g x).val cs=x.val cs:=by cases x<;>rfl
theorem Q0c{g:Nat→Nat}:∀{l:List (Nat×Ob)},(∀i∈Je l,β' (g i)=β i∧ρ' (g i)=ρ i)→Wp (Qk β ρ l) (Qk β' ρ' (Wn g l))
 | [],_=>.nil
 | (id,o)::l,h=>by
  have h1:=h id (by
   cases o with
   | mapC k v xs hole=>cases hole<;>simp[Je]
   | _=>simp[Je])
  refine .cons ?_ (Q0c fun i hi=>h i (by
   cases o with
   | mapC k v xs hole=>cases hole<;>simp[Je,hi]
   | _=>simp[Je,hi]))
  cases o with
  | var t c =>
   refine⟨fun b=>by grind [Qv,Qe9,Qlr],fun b o=>by grind [Qv,Qe9,Qlr],fun ok w hp=>?_⟩
   obtain⟨cs,hh,hc⟩:=hp
   exact⟨cs,by rw[h1.1]; exact hh,Qco (fun i hi=>h i (by simp[Je,hi])) hc⟩
  | row e t xs=>grind [Qv,Qlr,Gl.refl]
  | tail e t xs=>grind [Qv,Qlr,Gl.refl]
  | map k v xs=>grind [Qv,Qlr,Gl.refl]
  | mapC k v xs hole =>
   cases hole with
   | none=>simp_all [Qv,Qlr,Od,Gl.refl]
   | some q =>
    have h2:=h q.2 (by simp[Je])
    cases v<;>(grind [Qv,Qlr,Od,Q3k,Gl.refl])
  | mapE k v xs key j=>grind [Qv,Qlr,Je,Gl.refl]
theorem Qxk{l:List (Nat×Ob)}(h:∀i∈Je l,β' i=β i∧ρ' i=ρ i):Wp (Qk β ρ l) (Qk β' ρ' l):=by
 have:=Q0c (g:=id) (β':=β') (ρ':=ρ') h
 have e:Wn id l=l:=by
  have hav:∀x:AV,Wf id x=x:=by intro x; induction x<;>simp_all [Wf]
  have:∀q:Nat×Ob,(id q.1,Qlr id q.2)=q:=by intro q; obtain⟨i,o⟩:=q; cases o with
   | mapC k v xs hole=>cases hole<;>simp[Qlr]
   | _=>simp[Qlr,hav]
  simp_all [Wn,List.map_congr_left]
 rw[e]at this
 exact this
end
theorem Qa4{c t:Nat}(hne:t≠c):∀M:List (Nat×Ob),Qg (J0 M t) c=Qg M c
 | []=>rfl
 | q::l=>by
  simp only[J0,Qg]
  cases hb:Nat.beq q.1 t with
  | true =>
   have h1:=Nat.eq_of_beq_eq_true hb
   grind [Nat.beq,absurd,Nat.eq_of_beq_eq_true]
  | false =>
   simp only[cond_false,Qg,Qa4 hne l]
theorem K1:∀(ids:List Nat) (M:List (Nat×Ob)),((Jt M ids).2++(Jt M ids).1).Perm M
 | [],M=>by simp[Jt]
 | t::ts,M=>by
  simp only[Jt]
  split
  ·rename_i o ho
   obtain⟨l1,l2,h1,_,h3⟩:=Jk ho
   have:=K1 ts (J0 M t)
   simp only[QF]
   refine(List.Perm.cons _ this).trans ?_
   rw[h3,h1]
   exact List.perm_middle.symm
  ·exact K1 ts M
theorem Qcp:∀{ids:List Nat} {M:List (Nat×Ob)} {c:Nat} {o:Ob},ids.Nodup→c∈ids→Qg M c=some o→(c,o)∈(Jt M ids).2
 | t::ts,M,c,o,hn,hc,ho=>by
  have hn':=QT.1 hn
  simp only[Jt]
  rcases QX.1 hc with rfl | hc
  ·rw[ho]; exact .head _
  ·have hne:t≠c:=fun e=>hn'.1 (e▸hc)
   split
   ·exact .tail _ (Qcp hn'.2 hc (by rw[Qa4 hne]; exact ho))
   ·exact Qcp hn'.2 hc ho
theorem Qcq:∀{ids:List Nat} {M:List (Nat×Ob)},ids.Nodup→∀q∈(Jt M ids).2,q.1∈ids∧Qg M q.1=some q.2
 | [],M,_,q,hq=>by simp[Jt]at hq
 | t::ts,M,hn,q,hq=>by
  have hn':=QT.1 hn
  simp only[Jt]at hq
  split at hq
  ·rename_i o ho
   rcases QX.1 hq with rfl | hq
   ·grind
   ·obtain⟨h1,h2⟩:=Qcq hn'.2 q hq
    grind [Qa4]
  ·obtain⟨h1,h2⟩:=Qcq hn'.2 q hq
   grind
theorem Qn0:∀{Γe:List (Nat×Sk)} {l:List DV},∀e∈(L0 Γe l).1,e.cs=[]
 | [],l,e,he=>by simp[L0]at he
 | (t,s)::g,l,e,he=>by
  simp only[L0]at he
  rcases QX.1 he with rfl | he
  ·rfl
  ·exact Qn0 e he
theorem Sa{ri:List (Nat×Nat)}:∀{Γm:List (Nat×SkO)} {id c:Nat},id∈Γm.map Prod.fst→Jv ri id=some c→c∈Yb ri Γm
 | (k,s)::l,id,c,h,hc=>by
  simp only[Yb]
  rcases QX.1 h with e | h
  ·grind
  ·split
   ·exact .tail _ (Sa h hc)
   ·exact Sa h hc
theorem As{ri:List (Nat×Nat)}:∀{Γm:List (Nat×SkO)} {c:Nat},c∈Yb ri Γm→∃id∈Γm.map Prod.fst,Jv ri id=some c
 | (k,s)::l,c,h=>by
  simp only[Yb]at h
  split at h
  ·rename_i x hx
   rcases QX.1 h with rfl | h
   ·grind
   ·obtain⟨id,h1,h2⟩:=As h; grind
  ·obtain⟨id,h1,h2⟩:=As h; grind
theorem If{ri:List (Nat×Nat)}:∀{Γm:List (Nat×SkO)} {cs:List Nat},Bj ri Γm cs=true→(Yb ri Γm).Nodup∧∀c∈Yb ri Γm,c∉cs
 | [],_,_=>⟨.nil,by simp[Yb]⟩
 | (id,s)::l,cs,h=>by
  simp only[Bj]at h
  simp only[Yb]
  split at h
  ·rename_i c hc
   simp only[QQ]at h
   obtain⟨h1,h2⟩:=If h.2
   refine⟨QT.2 ⟨fun hm=>h2 c hm (.head _),h1⟩,fun x hx=>?_⟩
   rcases QX.1 hx with rfl | hx
   ·grind [Xn]
   grind
  ·exact If h
theorem Ty.cast_self(t:Ty)(x:t.De):Ty.cast t t x=some x:=by
 simp[Ty.cast,dif_pos,Ty.beq_refl]
theorem Qa5{M:List (Nat×Ob)}{ri:List (Nat×Nat)}{pr:List Nat}{g:Nat→Nat}(hg:∀i c,Jv ri i=some c→g i=c):∀{sk:Sk} {x:AV} {l:List DV} (rest:List DV),Uq M ri pr sk x=some l→∃y,Ol sk (l++rest)=(y,rest)∧(Qjy sk x=true→Wf g y=x)
 | .d t,x,l,rest,h=>by
  simp only[Uq]at h
  split at h
  ·rename_i z0 hz
   obtain⟨_,h⟩:=bvT h
   simp only[Option.some.injEq]at h
   subst h
   refine⟨.d t z0,rfl,fun hs=>?_⟩
   cases x<;>first | (cases hs; done) | skip
   rename_i t' x'
   simp only[asD]at hz
   obtain⟨e,h2⟩:=Ty.cast_ok hz
   subst e; subst h2
   rfl
  ·cases h
 | .p id path,x,l,rest,h=>by
  cases x<;>simp only[Uq]at h<;>first | (cases h; done) | skip
  rename_i c path'
  obtain⟨hb,h⟩:=bvT h
  simp only[QQ]at hb
  simp only[Option.some.injEq]at h
  subst h
  exact⟨.p id path,rfl,fun _=>by simp only[Wf]; rw[hg _ _ (Qhv hb.1),Qnv hb.2]⟩
 | .s id,x,l,rest,h=>by
  cases x<;>simp only[Uq]at h<;>first | (cases h; done) | skip
  ·rename_i c
   obtain⟨hb,h⟩:=bvT h
   simp only[QQ]at hb
   simp only[Option.some.injEq]at h
   subst h
   exact⟨.s id,rfl,fun _=>by simp only[Wf]; rw[hg _ _ (Qhv hb.1)]⟩
  ·obtain⟨hb,h⟩:=bvT h
   simp only[Option.some.injEq]at h
   subst h
   exact⟨.s id,rfl,fun hs=>by cases hs⟩
 | .m id,x,l,rest,h=>by
  cases x<;>simp only[Uq]at h<;>first | (cases h; done) | skip
  rename_i c
  obtain⟨hb,h⟩:=bvT h
  simp only[Option.some.injEq]at h
  subst h
  exact⟨.m id,rfl,fun _=>by simp only[Wf]; rw[hg _ _ (Qhv hb)]⟩
 | .ns,x,l,rest,h=>by
  cases x<;>simp only[Uq]at h<;>first | (cases h; done) | skip
  simp only[Option.some.injEq]at h; subst h; exact⟨_,rfl,fun _=>rfl⟩
 | .np,x,l,rest,h=>by
  cases x<;>simp only[Uq]at h<;>first | (cases h; done) | skip
  simp only[Option.some.injEq]at h; subst h; exact⟨_,rfl,fun _=>rfl⟩
 | .nm,x,l,rest,h=>by
  cases x<;>simp only[Uq]at h<;>first | (cases h; done) | skip
  simp only[Option.some.injEq]at h; subst h; exact⟨_,rfl,fun _=>rfl⟩
 | .nf,x,l,rest,h=>by
  cases x<;>simp only[Uq]at h<;>first | (cases h; done) | skip
  simp only[Option.some.injEq]at h; subst h; exact⟨_,rfl,fun _=>rfl⟩
 | .z,x,l,rest,h=>by
  cases x<;>simp only[Uq]at h<;>first | (cases h; done) | skip
  simp only[Option.some.injEq]at h; subst h; exact⟨_,rfl,fun _=>rfl⟩
 | .nil,x,l,rest,h=>by
  cases x<;>simp only[Uq]at h<;>first | (cases h; done) | skip
  simp only[Option.some.injEq]at h; subst h; exact⟨_,rfl,fun _=>rfl⟩
 | .f fn c,x,l,rest,h=>by
  cases x<;>simp only[Uq]at h<;>first | (cases h; done) | skip
  rename_i fn' x'
  obtain⟨hb,h⟩:=bvT h
  simp only[QQ]at hb
  obtain⟨y,h1,h2⟩:=Qa5 hg rest h
  refine⟨.f fn y,by grind [Ol],fun hs=>?_⟩
  simp only[Wf]
  rw[h2 hs,Nat.eq_of_beq_eq_true hb.1]
 | .ag l',x,l,rest,h=>by
  simp only[Uq]at h
  split at h
  ·rename_i y hy
   obtain⟨z0,h1,h2⟩:=Qa5 hg rest h
   refine⟨.ag z0,by grind [Ol],fun hs=>?_⟩
   cases x<;>first | (cases hs; done) | skip
   simp only[Qck,Option.some.injEq]at hy
   subst hy
   simp only[Wf]
   rw[h2 hs]
  ·cases h
 | .cons a b,x,l,rest,h=>by
  cases x<;>simp only[Uq]at h<;>first | (cases h; done) | skip
  split at h
  ·rename_i u v hu hv
   simp only[Option.some.injEq]at h
   subst h
   obtain⟨y1,p1,p2⟩:=Qa5 hg (v++rest) hu
   obtain⟨y2,q1,q2⟩:=Qa5 hg rest hv
   simp_all [Ol,List.append_assoc,Qjy,QQ,Wf]
  ·cases h
theorem Jkb{M:List (Nat×Ob)}{ri:List (Nat×Nat)}{pr:List Nat}{g:Nat→Nat}(hg:∀i c,Jv ri i=some c→g i=c){s:SkO}{o:Option Ob}{l:List DV}(rest:List DV)(h:Qay M ri pr s o=some l):∃ob',Qfg s (l++rest)=some (ob',rest)∧∀ob,o=some ob→Jrb s ob=true→Qlr g ob'=ob:=by
 have cs:∀{t:Ty} {x:t.De},Ty.cast t t x=some x:=fun {t x}=>Ty.cast_self t x
 cases s with
 | var tid c =>
  cases o with
  | none=>cases h
  | some ob =>
   cases ob<;>simp only[Qay]at h<;>first | (cases h; done) | skip
   obtain⟨hb,h'⟩:=bvT h
   obtain⟨y,h1,h2⟩:=Qa5 hg rest h'
   refine⟨.var tid y,by grind [Qfg],fun ob he hs=>?_⟩
   injection he with he; subst he
   simp only[Qlr]
   rw[h2 hs,Nat.eq_of_beq_eq_true hb]
 | row e t =>
  cases o with
  | none =>
   simp only[Qay,Option.some.injEq]at h
   subst h
   simp_all [Qfg,QF,QE]
  | some ob =>
   cases ob<;>simp only[Qay]at h<;>first | (cases h; done) | skip
   rename_i e' t' xs
   obtain⟨hb,h'⟩:=bvT h
   simp only[QQ]at hb
   have e1:=Nat.eq_of_beq_eq_true hb.1
   have e2:=Ty.beq_eq hb.2
   clear h hb
   subst e1; subst e2
   injection h' with h'
   subst h'
   refine⟨.row e t xs,by grind [Qfg],fun ob he hs=>?_⟩
   injection he
 | tail e t =>
  cases o with
  | none =>
   simp only[Qay,Option.some.injEq]at h
   subst h
   simp_all [Qfg,QF,QE]
  | some ob =>
   cases ob<;>simp only[Qay]at h<;>first | (cases h; done) | skip
   rename_i e' t' xs
   obtain⟨hb,h'⟩:=bvT h
   simp only[QQ]at hb
   have e1:=Nat.eq_of_beq_eq_true hb.1
   have e2:=Ty.beq_eq hb.2
   clear h hb
   subst e1; subst e2
   injection h' with h'
   subst h'
   refine⟨.tail e t xs,by grind [Qfg],fun ob he hs=>?_⟩
   injection he
 | map k u =>
  cases o with
  | none=>cases h
  | some ob =>
   cases ob<;>simp only[Qay]at h<;>first | (cases h; done) | skip
   rename_i k' u' xs
   obtain⟨hb,h'⟩:=bvT h
   simp only[QQ]at hb
   have e1:=Ty.beq_eq hb.1
   have e2:=Ty.beq_eq hb.2
   clear h hb
   subst e1; subst e2
   injection h' with h'
   subst h'
   refine⟨.map k u xs,by grind [Qfg],fun ob he hs=>?_⟩
   injection he
 | mapC k u =>
  cases o with
  | none=>cases h
  | some ob =>
   cases ob<;>simp only[Qay]at h<;>first | (cases h; done) | skip
   rename_i k' u' xs hole
   obtain⟨hb,h'⟩:=bvT h
   simp only[QQ]at hb
   have e1:=Ty.beq_eq hb.1.1
   have e2:=CK.beq_eq hb.1.2
   clear h
   subst e1; subst e2
   injection h' with h'
   subst h'
   exact⟨.mapC k u xs none,by grind [Qfg],fun ob he hs=>by cases ob<;>cases hs⟩
theorem Q4l{ro:List Nat}{id:Nat}{s:SkO}{G:List (Nat×SkO)}:rdG ro ((id,s)::G)=bif Yi ro id then(id,s)::rdG ro G else rdG ro G:=by
 grind [rdG,Yi,id]
theorem Jkc{ro:List Nat}{id:Nat}{s:Ob}{G:List (Nat×Ob)}:rdM ro ((id,s)::G)=bif Yi ro id then(id,s)::rdM ro G else rdM ro G:=by
 grind [rdM,Yi,id]
theorem Qxl{id:Nat}{ob:Ob}:Kx id (some ob)=some (id,ob):=rfl
theorem Q0d{M:List (Nat×Ob)}{ri:List (Nat×Nat)}{pr ro:List Nat}{g:Nat→Nat}(hg:∀i c,Jv ri i=some c→g i=c):∀{Γm:List (Nat×SkO)} {l:List DV},Te M [] ri pr Γm=some l→Qw3 ri M (rdG ro Γm)=true →
  Wn g (rdM ro (Xb Γm l))=(Yb ri (rdG ro Γm)).filterMap fun t=>Kx t (Qg M t)
 | [],l,h,hs=>by simp only[Te,Option.some.injEq]at h; subst h; rfl
 | (id,s)::G,l,h,hs=>by
  simp only[Te]at h
  split at h
  ·rename_i o ho
   split at h
   ·rename_i u v hu hv
    simp only[Option.some.injEq]at h
    subst h
    obtain⟨ob',h1,h2⟩:=Jkb hg v hu
    simp only[Xb,h1]
    rw[Jkc,Q4l]
    rw[Q4l]at hs
    cases hm:Yi ro id with
    | false =>
     rw[hm]at hs
     exact Q0d hg hv hs
    | true =>
     rw[hm]at hs
     simp only[cond_true,Qw3,QQ]at hs ⊢
     obtain⟨hs1,hs2⟩:=hs
     split at hs1
     ·rename_i c hc
      split at hs1
      ·rename_i ob hob
       have ho':o=some ob:=by
        grind [Jb3,Option.some.injEq]
       have ih:=Q0d hg hv hs2
       grind [Wn,Yb,Qxl]
      ·cases hs1
     ·cases hs1
   ·cases h
  ·cases h
theorem Qcr{c:Nat}:∀{ts:List Nat} {M:List (Nat×Ob)},c∉ts→Qg (Jt M ts).1 c=Qg M c
 | [],M,_=>rfl
 | t::ts,M,h=>by
  have h1:t≠c:=fun e=>h (e▸.head _)
  have h2:c∉ts:=fun hm=>h (.tail _ hm)
  simp only[Jt]
  split
  ·rw[Qcr h2,Qa4 h1]
  ·exact Qcr h2
theorem Juo{α β:Type}{f g:α→Option β}:∀{l:List α},(∀x∈l,f x=g x)→l.filterMap f=l.filterMap g
 | [],_=>rfl
 | x::l,h=>by
  simp only[JA]
  rw[h x (.head _),Juo fun y hy=>h y (.tail _ hy)]
theorem Tj:∀{ids:List Nat} {M:List (Nat×Ob)},ids.Nodup→(Jt M ids).2=ids.filterMap fun t=>Kx t (Qg M t)
 | [],M,_=>rfl
 | t::ts,M,hn=>by
  have hn':=QT.1 hn
  simp only[Jt]
  split
  ·rename_i o ho
   simp only[JA,ho,Qxl]
   rw[Tj hn'.2]
   refine congrArg _ (Juo fun x hx=>?_)
   rw[Qa4 (c:=x) (t:=t) fun e=>hn'.1 (by rw[e]; exact hx)]
  ·rename_i ho
   simp only[JA,ho,Kx]
   exact Tj hn'.2
theorem Qfl{ri:List (Nat×Nat)}:∀{l:List (Nat×SkO)} {cs cs':List Nat},(∀x∈cs',x∈cs)→Bj ri l cs=true→Bj ri l cs'=true
 | [],cs,cs',_,_=>rfl
 | (id,s)::l,cs,cs',hc,h=>by
  simp only[Bj]at h ⊢
  split at h
  ·rename_i c hcc
   simp only[QQ]at h ⊢
   refine⟨?_,Qfl (fun x hx=>?_) h.2⟩
   ·grind [Yi,Xn]
   grind
  ·exact Qfl hc h
theorem Gj{ri:List (Nat×Nat)}{p:Nat×SkO→Bool}:∀{l:List (Nat×SkO)} {cs:List Nat},Bj ri l cs=true→Bj ri (l.filter p) cs=true
 | [],cs,_=>rfl
 | (id,s)::l,cs,h=>by
  simp only[Bj]at h
  cases hp:p (id,s)with
  | true =>
   rw[XM,if_pos hp]
   simp only[Bj]
   split at h
   ·rename_i c hcc
    simp only[QQ]at h ⊢
    exact⟨h.1,Gj h.2⟩
   ·exact Gj h
  | false =>
   rw[XM,if_neg (by rw[hp]; simp)]
   split at h
   ·simp only[QQ]at h
    exact Gj (Qfl (fun x hx=>.tail _ hx) h.2)
   ·exact Gj h
theorem Qtc:∀{l:List (Nat×Ob)} {i:Nat},i∈Je l↔∃q∈l,i∈Je [q]
 | [],i=>by simp[Je]
 | q::l,i=>by
  have ih:=Qtc (l:=l) (i:=i)
  have h:Je (q::l)=Je [q]++Je l:=by
   obtain⟨k,o⟩:=q
   cases o with
   | mapC k1 v xs hole=>cases hole<;>simp[Je]
   | _=>simp[Je]
  rw[h,QZ,ih]
  grind
theorem Jf9{l m:List (Nat×Ob)}(h:∀q∈l,q∈m){i:Nat}(hi:i∈Je l):i∈Je m:=let⟨q,h1,h2⟩:=Qtc.1 hi; Qtc.2 ⟨q,h q h1,h2⟩
theorem Jga{l m:List Nat}(h:Hi l m=true){i:Nat}(hi:i∈m):i∈l:=by
 induction m with
 | nil=>cases hi
 | cons x m ih =>
  simp only[Hi,QQ]at h
  rcases QX.1 hi with rfl | hi
  ·exact Xn.1 h.1
  ·exact ih h.2 hi
theorem Jww{M:List (Nat×Ob)}{c:Nat}(h:c∈Vs M):∃ob,Qg M c=some ob:=by
 induction M with
 | nil=>cases h
 | cons q l ih =>
  simp only[Qg]
  cases hb:Nat.beq q.1 c with
  | true=>exact⟨_,rfl⟩
  | false =>
   simp only[cond_false]
   refine ih ?_
   rcases QX.1 h with e | h
   ·rw[e,Nat.beq_refl]at hb; cases hb
   ·exact h
theorem Qtd{l m:List (Nat×Ob)}{c:Nat}(h:Qg l c=none):Qg (l++m) c=Qg m c:=by
 induction l with
 | nil=>rfl
 | cons q l ih =>
  grind [Qg,Nat.beq]
theorem Ql0{ks:List Nat}:∀{M:List (Nat×Ob)},Vs (Vh ks M)=Vs M
 | []=>rfl
 | (id,o)::l=>by
  cases o<;>simp only[Vh,Vs,QR]<;>rw[show(Vh ks l).map Prod.fst=l.map Prod.fst from Ql0]
  cases(Yi ks id&&Nat.ble 1 _)<;>rfl
theorem Qxm{ri:List (Nat×Nat)}{M:List (Nat×Ob)}:∀{l:List (Nat×SkO)},Qw3 ri M l=true→∀id∈l.map Prod.fst,∃cc,Jv ri id=some cc
 | (i,s)::l,h,id,hid=>by
  simp only[Qw3,QQ]at h
  rcases QX.1 hid with e | hid
  ·grind
  ·exact Qxm h.2 id hid
def Q0e(β:Nat→Nat)(ρ:Nat→Value):Nat×Ob→List Nat
 | (id,.var _ _)=>[β id]
 | (id,.map _ _ _)=>[β id]
 | (id,.mapC _ _ _ _)=>β id::(Qcg (ρ id)).flatMap fun v=>(Xm v).toList
 | (id,.mapE _ _ _ _ _)=>[β id]
 | (id,_)=>Jt7 (ρ id)
theorem Jkd{β:Nat→Nat}{ρ:Nat→Value}{q:Nat×Ob}{g:Nat}:g∈Q0e β ρ q↔(Qv β ρ q.1 q.2).blks g:=by
 obtain⟨id,o⟩:=q
 cases o with
 | var t c=>simp[Q0e,Qv,Qe9]
 | row e t xs=>simp[Q0e,Q3f,Qv,ml]
 | tail e t xs=>simp[Q0e,Q3f,Qv,Qfa]
 | map k v xs=>simp[Q0e,Qv,R4]
 | mapC k v xs hole=>simp only[Q0e,Qv,Ji6,QX,List.mem_flatMap,Option.mem_toList,Option.mem_def]
 | mapE k9 v9 xs9 key j=>simp[Q0e,Qv,Ji7]
def Qre:Ob→Bool
 | .tail _ _ _=>true
 | _=>false
theorem Q4m{β:Nat→Nat}{ρ:Nat→Value}{id:Nat}{o:Ob}(h:Qre o=false){b:Nat}(f:Nat)(hb:(Qv β ρ id o).blks b):(Qv β ρ id o).cov b f:=by
 cases o with
 | tail e t xs=>cases h
 | var t c=>exact hb
 | row e t xs=>exact hb
 | map k v xs=>exact hb
 | mapC k v xs hole=>exact hb
 | mapE k9 v9 xs9 key j=>exact hb
theorem Qpi{M F:List (Nat×Ob)}{ri:List (Nat×Nat)}{pr:List Nat}:∀{Γm:List (Nat×SkO)} {l:List DV},Qnu Γm=true→Te M F ri pr Γm=some l→∀q∈Γm,∀c ob,Jv ri q.1=some c→Qg M c=some ob→Qre ob=false
 | (id,s)::g,l,hn,h,q,hq,c,ob,hc,hob=>by
  simp only[Te]at h
  split at h
  ·rename_i o ho
   split at h
   ·rename_i u v hu hv
    have hn':Qnu g=true:=by cases s<;>simp_all [Qnu]
    rcases QX.1 hq with rfl | hq
    ·simp only[Jb3,hc,hob]at ho
     simp at ho; subst ho
     cases s<;>cases ob<;>simp_all [Qay,Qnu,Qre]
    ·exact Qpi hn' hv q hq c ob hc hob
   ·cases h
  ·cases h
section
variable {P:Program} {Y:TX} {X:Cx} {S:XS} {β β':Nat→Nat} {ρ ρ':Nat→Value} {a a':Act} {w w':World} {n:Nat}
variable {ops:Array Oper} {Q:Exit→Act→World→Prop} {rest:List Oper} {R:Type} {k:XS→Option R} {r:R}
theorem Jcg(h:Rel X β ρ S.flat a w):∀{xs:List Operand} {i:Nat} {es:List En} (pre:List Value),pre.length=i→Q31 S xs i=some es →
  es.length=xs.length∧∀e∈es,(enD β ρ ⟨(pre++xs.map a.eval).toArray,[]⟩ e).p (okR X β ρ S.flat.mem w) w
 | [],i,es,pre,_,he=>by simp[Q31]at he; subst he; exact⟨rfl,by simp⟩
 | x::xs,i,es,pre,hi,he=>by
  simp only[Q31]at he
  split at he
  ·rename_i v r hv hr
   obtain⟨hbi,he⟩:=bvT he
   simp at he; subst he
   obtain⟨cs,h1,h2⟩:=h.ev (Qf a) hv
   obtain⟨h3,h4⟩:=Jcg h (xs:=xs) (i:=i+1) (pre++[a.eval x]) (by simp[hi]) hr
   refine⟨by simp[h3],fun e hm=>?_⟩
   have hl:pre++[a.eval x]++xs.map a.eval=pre++(x::xs).map a.eval:=by simp
   rw[hl]at h4
   rcases QX.1 hm with rfl | hm
   ·refine⟨fun _=>⟨cs,?_,h2⟩,.inl (Qf _)⟩
    rw[R5 hbi]
    grind
   ·exact h4 e hm
  ·cases he
theorem Jch{S:XS}:∀{xs:List Operand} {i:Nat} {es:List En},Q31 S xs i=some es→∀e∈es,e.cs=[]
 | [],i,es,he=>by grind [Q31]
 | x::xs,i,es,he=>by
  simp only[Q31]at he
  split at he
  ·rename_i v r hv hr
   obtain⟨_,he⟩:=bvT he
   simp at he; subst he
   intro e hm
   rcases QX.1 hm with rfl | hm
   ·rfl
   ·exact Jch hr e hm
  ·cases he
theorem Jci{ok:Ok}{w:World}:∀{x:AV} {i:Nat} {cs:List En} {vs:List Value} (pre:List Value),pre.length=i→Jjm x i=some cs→cr β ρ ok w true x vs →
  cs.length=vs.length∧(∀e∈cs,e.cs=[])∧∀e∈cs,(enD β ρ ⟨(pre++vs).toArray,[]⟩ e).p ok w
 | .nil,i,cs,vs,pre,_,he,h=>by
  simp[Jjm]at he; subst he
  have:vs=[]:=h
  grind
 | .cons y r,i,cs,vs,pre,hi,he,h=>by
  simp only[Jjm]at he
  split at he
  ·rename_i l hl
   obtain⟨hbi,he⟩:=bvT he
   simp at he; subst he
   obtain⟨c1,vs',rfl,h1,h2⟩:=h
   obtain⟨h3,h4,h5⟩:=Jci (pre++[y.val c1]) (by simp[hi]) hl h2
   refine⟨by simp[h3],fun e hm=>?_,fun e hm=>?_⟩
   ·grind
   ·rcases QX.1 hm with rfl | hm
    ·refine⟨fun _=>⟨c1,?_,h1⟩,.inl (Qf _)⟩
     rw[R5 hbi]
     grind
    grind
  ·cases he
theorem Jup{ok:Ok}{w:World}{l post:List Value}{e:En}(hc:e.cs=[])(h:(enD β ρ ⟨l.toArray,[]⟩ e).p ok w):(enD β ρ ⟨(l++post).toArray,[]⟩ e).p ok w:=by
 obtain⟨cs,h1,h2⟩:=h.1 (by rw[hc]; exact Qf _)
 refine⟨fun _=>⟨cs,?_,h2⟩,.inl (by rw[hc]; exact Qf _)⟩
 unfold rd at h1 ⊢
 grind
theorem Q4n{ri:List (Nat×Nat)}{d:Nat}{Γk:List Nat}{S:XS}{M:List (Nat×Ob)}:∀{l:List Nat},Jb6 ri d Γk S M l=true→∀j∈l,(∃c,Jv ri j=some c∧Jo ri d j=c∧j∈Γk) ∨
  (Jv ri j=none∧J9 (Jo ri d j) M=true∧J9 (Jo ri d j) S.fixM=true∧Qls (Jo ri d j) S.fix=true∧Qls (Jo ri d j) S.env=true∧Yi S.prot (Jo ri d j)=false∧j∉Γk)
 | i::l,h,j,hj=>by
  simp only[Jb6,QQ]at h
  rcases QX.1 hj with rfl | hj
  ·have h1:=h.1
   cases hl:Jv ri j with
   | some c =>
    rw[hl]at h1
    simp only[H5,cond_true]at h1
    exact .inl ⟨c,rfl,by simp only[Jo,hl],Xn.1 h1⟩
   | none =>
    rw[hl]at h1
    simp only[H5,cond_false,QQ]at h1
    obtain⟨⟨⟨⟨⟨a1,a2⟩,a3⟩,a4⟩,a5⟩,a6⟩:=h1
    refine .inr ⟨rfl,a1,a2,a3,a4,by simpa using a5,fun hm=>?_⟩
    rw[Xn.2 hm]at a6; cases a6
  ·exact Q4n h.2 j hj
theorem At{ks:List Nat}:∀{l:List Nat},Hi ks l=true→∀i∈l,i∈ks
 | x::l,h,i,hi=>by
  simp only[Hi,QQ]at h
  rcases QX.1 hi with rfl | hi
  ·exact Xn.1 h.1
  ·exact At h.2 i hi
theorem Qa6:∀{l:List Nat},Om l=true→l.Nodup
 | [],_=>.nil
 | x::l,h=>by
  simp only[Om,QQ]at h
  refine QT.2 ⟨fun hm=>?_,Qa6 h.2⟩
  have:=h.1
  rw[Xn.2 hm]at this; cases this
def backB(g:Nat→Nat)(ks:List Nat)(β2 β:Nat→Nat):Nat→Nat:=fun i=>match ks.find? fun j=>g j==i with
 | some j=>β2 j
 | none=>β i
def Ot(g:Nat→Nat)(ks:List Nat)(ρ2 ρ:Nat→Value):Nat→Value:=fun i=>match ks.find? fun j=>g j==i with
 | some j=>ρ2 j
 | none=>ρ i
theorem Q4o{g:Nat→Nat}:∀{ks:List Nat},(ks.map g).Nodup→∀j∈ks,(ks.find? fun i=>g i==g j)=some j
 | x::l,hn,j,hj=>by
  have hn':=QT.1 (by simpa using hn:(g x::l.map g).Nodup)
  rcases QX.1 hj with rfl | hj
  ·simp
  ·have hne:g x≠g j:=fun e=>hn'.1 (by rw[e]; grind)
   have:(g x==g j)=false:=by simpa using hne
   simp only[List.find?_cons,this]
   exact Q4o hn'.2 j hj
theorem Q4p{l:List En}{e:En}(he:e∈l){i:Nat}(hi:i∈Jd e.av):i∈Tf l:=by
 induction l with
 | nil=>cases he
 | cons x l ih =>
  simp only[Tf,QZ]
  grind
theorem Ou{d:Nat}:∀{x:AV},Zx d x=true→d∉Jd x
 | .p id _,h=>by grind [id,Jd,Zx,Nat.beq_refl]
 | .e id _,h=>by grind [id,Jd,Zx,Nat.beq_refl]
 | .s id,h=>by grind [id,Jd,Zx,Nat.beq_refl]
 | .m id,h=>by grind [id,Jd,Zx,Nat.beq_refl]
 | .b id,h=>by grind [id,Jd,Zx,Nat.beq_refl]
 | .w id _ _,h=>by grind [id,Jd,Zx,Nat.beq_refl]
 | .f _ c,h=>by simp only[Zx]at h; simpa[Jd]using Ou h
 | .ag l,h=>by simp only[Zx]at h; simpa[Jd]using Ou h
 | .tp l,h=>by simp only[Zx]at h; simpa[Jd]using Ou h
 | .cons x r,h=>by
  simp only[Zx,QQ]at h
  simp only[Jd,QZ,not_or]
  exact⟨Ou h.1,Ou h.2⟩
 | .d _ _,_=>by simp[Jd]
 | .a _ _,_=>by simp[Jd]
 | .z,_=>by simp[Jd]
 | .ns,_=>by simp[Jd]
 | .np,_=>by simp[Jd]
 | .nm,_=>by simp[Jd]
 | .nf,_=>by simp[Jd]
 | .nil,_=>by simp[Jd]
theorem Qte{d:Nat}:∀{M:List (Nat×Ob)},J9 d M=true→d∉Je M
 | [],_=>by simp[Je]
 | (k,o)::l,h=>by
  have hq:=H7 h (k,o) (.head _)
  have hl:J9 d l=true:=by
   cases o with
   | mapC k1 v xs hole=>cases hole<;>simp only[J9,QQ]at h<;>exact h.2
   | _=>simp_all [J9,QQ]
  have ih:=Qte hl
  cases o with
  | var t c =>
   have:=Ou hq.2
   simp only[Je,QX,QZ,not_or]
   grind
  | mapC k1 v xs hole =>
   cases hole with
   | none =>
    simp only[Je,QX,not_or]
    grind
   | some q =>
    simp only[Je,QX,not_or]
    exact⟨fun e=>hq.1 e.symm,fun e=>hq.2 e.symm,ih⟩
  | mapE k1 v xs key j =>
   simp only[Je,QX,not_or]
   exact⟨fun e=>hq.1 e.symm,fun e=>hq.2 e.symm,ih⟩
  | _ =>
   simp only[Je,QX,not_or]
   grind
theorem Q4q{β:Nat→Nat}{ρ:Nat→Value}{ok:Ok}{w:World}:∀{es:List En} {vs:List Value} {i:Nat},(∀(j:Nat) e,es[j]?=some e→∃cs,vs[j]?=some (e.av.val cs)∧cr β ρ ok w false e.av cs)→vs.length=es.length→cr β ρ ok w true (Qw4 es) vs
 | [],vs,i,_,hl=>QH (by simpa using hl)
 | e::es,[],i,_,hl=>by simp at hl
 | e::es,v::vs,i,h,hl=>by
  obtain⟨cs,h1,h2⟩:=h 0 e rfl
  have h1':v=e.av.val cs:=by simpa using h1
  exact⟨cs,vs,by rw[h1'],h2,Q4q (i:=i) (fun j e' he=>by simpa using h (j+1) e' (by simpa using he)) (by simpa using hl)⟩
theorem Qtf:∀(es:List En),Jd (Qw4 es)=Tf es
 | []=>rfl
 | e::es=>by simp only[Qw4,Jd,Tf,Qtf es]
theorem Jgb(es:List En):∀i∈Jd (Qa0 es),i∈Tf es:=by
 intro i hi
 unfold Qa0 at hi
 grind [Tf,Jd,Qtf]
theorem Qpj(hX:X.n=n)(hr:X.res=[])(h:Rel X β ρ S.flat a w){o:Oper}(hw:Region.wanted o (yielded ops a.tmps)=true){c:Con}(hc:Qa3 P Y.gl c)(hG:Ur Y.gl (okN X) X.w)(hrun:Runs P c.f)(hs:Kw n c o S k=some r)(H:KOk P ops Q rest X S β ρ k r) :
  wpList P ops Q (o::rest) a w:=by
 unfold Kw at hs
 split at hs
 ·rename_i x0 xs ts d hop hd
  split at hs
  ·rename_i f caps hx0
   have hb:=(bvT hs).1
   replace hs:=(bvT hs).2
   simp only[QQ]at hb
   have hf:=Nat.eq_of_beq_eq_true hb.1
   obtain⟨hd1,hd2⟩:=Vc hb.2 hX hr
   split at hs
   ·rename_i es0 cs0 hes0 hcs0
    obtain⟨cf,hf1,vc,hf2,hf3⟩:=h.ev (Qf a) hx0
    subst hf2
    replace hf1:a.eval x0=.func (.func f) #[] vc.toArray:=hf1
    obtain⟨el0,hE00⟩:=Jcg h [] rfl hes0
    simp only[QE]at hE00
    obtain⟨el1,_,hE01⟩:=Jci (xs.map a.eval) (by simp) hcs0 hf3
    have el:(es0++cs0).length=(xs.map a.eval++vc).length:=by simp[el0,el1]
    have hE0:∀e∈es0++cs0,(enD β ρ ⟨(xs.map a.eval++vc).toArray,[]⟩ e).p (okR X β ρ S.flat.mem w) w:=by
     grind [Jup,Jch]
    generalize es0++cs0=es at *
    generalize hri:Jra c.Γ ⟨es,S.mem++S.fixM⟩=ri at hs
    unfold Kw.callE at hs
    split at hs
    ·rename_i x hx
     have hb2:=(bvT hs).1
     replace hs:=(bvT hs).2
     simp only[QQ]at hb2
     obtain⟨⟨⟨hb2n,hb2l⟩,hb2m⟩,hb2s⟩:=hb2
     have hlen:=Nat.eq_of_beq_eq_true hb2l
     obtain⟨y,hy,hs⟩:=Ys hs
     rw[Qrd]at hs
     unfold Kw.callR at hs
     have hb3:=(bvT hs).1
     replace hs:=(bvT hs).2
     simp only[QQ]at hb3
     obtain⟨⟨⟨n1,n2⟩,n3⟩,n4⟩:=hb3
     have h1:Rel X β ρ ⟨S.env++S.fix,frz c.Γ ri es S.mem++S.fixM⟩ a w:=by
      have:=Rel.freeze S.mem (l0:=[]) (F:=S.fixM) (ks:=Jjj es c.Γ.env++Qzz S.mem ri c.Γ.mem) h
      simp only[QE]at this
      exact this
     have hM:∀id o,Qg ((frz c.Γ ri es S.mem++S.fixM)++[]) id=some o→(Qv β ρ id o).p (okR X β ρ (frz c.Γ ri es S.mem++S.fixM) w) w:=fun id o ho=>h1.mm id o (by rw[QG]at ho; exact ho)
     unfold Jo8 at hx
     obtain⟨hbx,hx⟩:=bvT hx
     simp only[QQ]at hbx
     obtain⟨⟨⟨b1,b2⟩,b3⟩,b4⟩:=hbx
     split at hx
     ·rename_i u v hu hv
      have hxl:=Qz5 hx
      have hokk:∀b f,okR X β ρ S.flat.mem w b f→okR X β ρ (frz c.Γ ri es S.mem++S.fixM) w b f:=by
       rintro b f ⟨o1,o2,o3,o4⟩
       refine⟨o1,o2,o3,fun t' ht' hcv=>?_⟩
       obtain⟨q,hq,rfl⟩:=QK.1 ht'
       have key:∀{l:List (Nat×Ob)} {ks:List Nat} {q:Nat×Ob},q∈Vh ks l→∃o',(q.1,o')∈l∧∀b f,(Qv β ρ q.1 q.2).cov b f→(Qv β ρ q.1 o').cov b f:=by
        intro l
        induction l with
        | nil=>intro ks q hq; cases hq
        | cons p l ih =>
         intro ks q hq
         obtain⟨id,ob⟩:=p
         have other:q∈Vh ks l→∃o',(q.1,o')∈(id,ob)::l∧∀b f,(Qv β ρ q.1 q.2).cov b f→(Qv β ρ q.1 o').cov b f:=fun hq=>let⟨o',p1,p2⟩:=ih hq; ⟨o',.tail _ p1,p2⟩
         cases ob with
         | row e t xs =>
          simp only[Vh]at hq
          rcases QX.1 hq with e' | hq
          ·cases hbb:(Yi ks id&&Nat.ble 1 t.size)with
           | true =>
            rw[hbb]at e'; subst e'
            exact⟨.row e t xs,.head _,fun b f hcv=>hcv.1⟩
           | false =>
            rw[hbb]at e'; grind
          ·exact other hq
         | var t' c' =>
          grind [Vh]
         | tail e t xs =>
          grind [Vh]
         | map k' v' xs =>
          grind [Vh]
         | mapE k' v' xs key j =>
          grind [Vh]
         | mapC k' v' xs hole =>
          grind [Vh]
       rcases QZ.1 hq with hq | hq
       ·obtain⟨o',p1,p2⟩:=key hq
        exact o4 _ (QK.2 ⟨(q.1,o'),List.mem_append_left _ p1,rfl⟩) (p2 b f hcv)
       ·exact o4 _ (QK.2 ⟨q,List.mem_append_right _ hq,rfl⟩) hcv
      obtain⟨es',e1,e2⟩:=Qnw hM (fun e he=>(enD β ρ _ e).weak (hE0 e he) hokk) v hu
      obtain⟨m1,m2⟩:=Qnx hM b3 hv
      have henc:enc c.Γ x=⟨es',Xb c.Γ.mem v⟩:=by grind [enc]
      have hkind:=Qpi hb2n hv
      obtain⟨ln1,_⟩:=If (Gj (p:=fun q=>!Yi c.ro q.1) b1)
      obtain⟨ln2,_⟩:=If (Gj (p:=fun q=>Yi c.ro q.1) b1)
      have hroS:=Q0d (g:=Jo ri d) (ro:=c.ro) (fun i cc hcc=>by grind [Jo]) hv hb2s
      have hkM:∀cc∈Vs S.mem,∃ob,Qg (frz c.Γ ri es S.mem) cc=some ob:=fun cc hcc=>Jww (by grind [frz,Ql0])
      generalize hM0:frz c.Γ ri es S.mem=M0 at *
      have hwk:∀(p:Nat×SkO→Bool) id,id∈(c.Γ.mem.filter p).map Prod.fst→id∈c.Γ.mem.map Prod.fst:=fun p id hid=>by
       grind
      have hdisj:∀cc∈Yb ri (rdG c.ro c.Γ.mem),cc∉Yb ri (wrG c.ro c.Γ.mem):=fun cc h1 h2=>by
       obtain⟨i1,p1,p2⟩:=As h1
       obtain⟨i2,r1,r2⟩:=As h2
       obtain⟨q1,s1,rfl⟩:=QK.1 p1
       obtain⟨q2,s2,rfl⟩:=QK.1 r1
       have t1:=(QN.1 s1).2
       have t2:=(QN.1 s2).2
       have k1:q1.1∈(Xb c.Γ.mem v).map Prod.fst:=by rw[m1]; exact QK.2 ⟨_,(QN.1 s1).1,rfl⟩
       have k2:q2.1∈(Xb c.Γ.mem v).map Prod.fst:=by rw[m1]; exact QK.2 ⟨_,(QN.1 s2).1,rfl⟩
       obtain⟨e1,f1,g1⟩:=QK.1 k1
       obtain⟨e2,f2,g2⟩:=QK.1 k2
       obtain⟨pw,_⟩:=Qa1 b1 m1
       have hne:q1.1≠q2.1:=fun e=>by rw[e]at t1; rw[t1]at t2; cases t2
       have key:∀{l:List (Nat×Ob)},(l.Pairwise fun q q'=>∀c c',Jv ri q.1=some c→Jv ri q'.1=some c'→c≠c')→e1∈l→e2∈l→False:=by
        intro l hl
        induction l with
        | nil=>intro h; cases h
        | cons z l ih =>
         have hl':=List.pairwise_cons.1 hl
         grind
       grind
      have hp1:=K1 (Yb ri (wrG c.ro c.Γ.mem)) M0
      have hp2:=K1 (Yb ri (rdG c.ro c.Γ.mem)) ((Jt M0 (Yb ri (wrG c.ro c.Γ.mem))).1++S.fixM)
      have hlkR:∀cc∈Yb ri (rdG c.ro c.Γ.mem),Qg ((Jt M0 (Yb ri (wrG c.ro c.Γ.mem))).1++S.fixM) cc=Qg (M0++S.fixM) cc:=fun cc hcc=>by
       have e:=Qcr (M:=M0) (hdisj cc hcc)
       cases hl:Qg M0 cc with
       | none=>rw[Qtd hl,Qtd (e.trans hl)]
       | some ob=>rw[Qx hl,Qx (e.trans hl)]
      have hlkN:∀cc∈Yb ri (wrG c.ro c.Γ.mem),∀ob,Qg (M0++S.fixM) cc=some ob→Qg M0 cc=some ob:=fun cc hcc ob hob=>by
       obtain⟨ob',hob'⟩:=hkM cc (Jga hb2m hcc)
       rw[Qx hob']at hob
       rw[hob',hob]
      have hsR:=Tj (M:=(Jt M0 (Yb ri (wrG c.ro c.Γ.mem))).1++S.fixM) ln2
      have hroE:Wn (Jo ri d) (rdM c.ro (Xb c.Γ.mem v))=(Jt ((Jt M0 (Yb ri (wrG c.ro c.Γ.mem))).1++S.fixM) (Yb ri (rdG c.ro c.Γ.mem))).2:=by
       refine hroS.trans ?_
       refine(Juo fun x hx=>?_).trans hsR.symm
       rw[hlkR x hx]
      obtain⟨Ml,hMl0⟩:∃Ml,Ml=(Jt M0 (Yb ri (wrG c.ro c.Γ.mem))).2++(Jt ((Jt M0 (Yb ri (wrG c.ro c.Γ.mem))).1++S.fixM) (Yb ri (rdG c.ro c.Γ.mem))).2:=⟨_,rfl⟩
      have hF1:∀q∈Ml,∃id∈c.Γ.mem.map Prod.fst,Jv ri id=some q.1∧Qg (M0++S.fixM) q.1=some q.2:=fun q hq=>by
       rw[hMl0]at hq
       rcases QZ.1 hq with hq | hq
       ·obtain⟨p1,p2⟩:=Qcq ln1 q hq
        grind [id,As,Qx]
       ·obtain⟨p1,p2⟩:=Qcq ln2 q hq
        obtain⟨id,p3,p4⟩:=As p1
        exact⟨id,hwk _ id p3,p4,by rw[←hlkR _ p1]; exact p2⟩
      have hMl:∀id∈c.Γ.mem.map Prod.fst,∀cc ob,Jv ri id=some cc→Qg (M0++S.fixM) cc=some ob→(cc,ob)∈Ml:=by
       intro id hid cc ob e3 e4
       rw[hMl0]
       obtain⟨q,hq,rfl⟩:=QK.1 hid
       cases hm:Yi c.ro q.1 with
       | true =>
        have hin:cc∈Yb ri (rdG c.ro c.Γ.mem):=Sa (QK.2 ⟨q,QN.2 ⟨hq,hm⟩,rfl⟩) e3
        exact List.mem_append_right _ (Qcp ln2 hin (by rw[hlkR _ hin]; exact e4))
       | false =>
        have hin:cc∈Yb ri (wrG c.ro c.Γ.mem):=Sa (QK.2 ⟨q,QN.2 ⟨hq,by rw[hm]; rfl⟩,rfl⟩) e3
        exact List.mem_append_left _ (Qcp ln1 hin (hlkN _ hin _ e4))
      generalize hMn0:(Jt M0 (Yb ri (wrG c.ro c.Γ.mem))).2=Mn at *
      generalize hMr0:(Jt M0 (Yb ri (wrG c.ro c.Γ.mem))).1=Mr0 at *
      generalize hMo0:(Jt (Mr0++S.fixM) (Yb ri (rdG c.ro c.Γ.mem))).2=Mo at *
      generalize hMr1:(Jt (Mr0++S.fixM) (Yb ri (rdG c.ro c.Γ.mem))).1=Mr at *
      have hperm:(Ml++Mr).Perm (M0++S.fixM):=by
       rw[hMl0,List.append_assoc]
       refine(List.Perm.append_left Mn hp2).trans ?_
       rw[←List.append_assoc]
       exact hp1.append_right _
      have h2:Sb (fun _=>0) X [] ((S.env++S.fix).map (enD β ρ a)) [] (Qk β ρ Ml++Qk β ρ Mr) a w:=by
       refine Sb.perm h1 ?_
       rw[←QD]
       exact List.Perm.map _ hperm.symm
      have hok2:∀b f,okR X β ρ (M0++S.fixM) w b f→Jn X.ok X.w.heap.size (fun _=>0) [] (Qk β ρ Ml++Qk β ρ Mr) w b f:=by
       rintro b f ⟨o1,o2,o3,o4⟩
       refine⟨o1,o2,o3,fun t' ht'=>?_⟩
       grind
      have hmk:∀q∈Xb c.Γ.mem v,q.1∈c.Γ.mem.map Prod.fst:=by
       grind
      have hval:∀q∈Xb c.Γ.mem v,(∃cc ob,Jv ri q.1=some cc∧(cc,ob)∈Ml∧Qre ob=false∧(∀g,(Qv (E2 ri β) (Em ri [] ρ) q.1 q.2).blks g→(Qv β ρ cc ob).blks g))∨(∀g,¬ (Qv (E2 ri β) (Em ri [] ρ) q.1 q.2).blks g):=by
       intro q hq
       rcases m2 q hq with⟨cc,ob,e3,e4,e5,_⟩ | ⟨_,e5,_⟩
       ·have hid:=hmk q hq
        grind
       ·exact .inr e5
      have hLm:∀g,g∈(Xb c.Γ.mem v).flatMap (Q0e (E2 ri β) (Em ri [] ρ))↔∃q∈Xb c.Γ.mem v,(Qv (E2 ri β) (Em ri [] ρ) q.1 q.2).blks g:=by
       grind [Jkd]
      generalize hL:(Xb c.Γ.mem v).flatMap (Q0e (E2 ri β) (Em ri [] ρ))=L at hLm
      have hLends:Qle (Qk (E2 ri β) (Em ri [] ρ) (enc c.Γ x).mem) L (Jn X.ok X.w.heap.size (fun _=>0) [] (Qk β ρ Ml++Qk β ρ Mr) w) w:=by
       rw[henc]
       refine⟨fun t ht=>?_,?_,fun g hg=>?_⟩
       ·obtain⟨q,hq,rfl⟩:=QK.1 ht
        refine⟨?_,fun g hg=>(hLm g).2 ⟨q,hq,hg⟩,fun g f hg hok=>?_⟩
        ·rcases m2 q hq with⟨_,_,_,_,_,_,e6⟩ | ⟨_,_,e6⟩
         ·exact(Qv _ _ q.1 q.2).weak e6 hok2
         ·exact e6 _ _
        ·rcases hval q hq with⟨cc,ob,_,e4,e5,e6⟩ | e6
         ·exact hok.2.2.2 _ (List.mem_append_left _ (QK.2 ⟨_,e4,rfl⟩)) (Q4m e5 f (e6 g hg))
         ·exact e6 g hg
       ·obtain⟨p1,_⟩:=Qa1 b1 m1
        show((Xb c.Γ.mem v).map _).Pairwise _
        rw[JO]
        refine List.Pairwise.imp_of_mem ?_ p1
        intro q q' hq hq' hne g hg hg'
        rcases m2 q hq with⟨cc,ob,e3,e4,e5,_⟩ | ⟨_,e5,_⟩
        ·rcases m2 q' hq' with⟨cc',ob',e3',e4',e5',_⟩ | ⟨_,e5',_⟩
         ·exact h1.disj e4 e4' (hne cc cc' e3 e3') g (e5 g hg) (e5' g hg')
         ·exact e5' g hg'
        ·exact e5 g hg
       grind
      have hargs:∀e∈(enc c.Γ x).env,∃cs,(xs.map a.eval++vc)[e.t]?=some (e.av.val cs)∧cr (E2 ri β) (Em ri [] ρ) (Jn X.ok X.w.heap.size (fun _=>0) [] (Qk β ρ Ml++Qk β ρ Mr) w) w false e.av cs:=by
       intro e he
       rw[henc]at he
       have hcs:e.cs=[]:=by
        have:=Qn0 (Γe:=c.Γ.env) (l:=u++v) e (by rw[e1]; exact he)
        exact this
       obtain⟨cs,p1,p2⟩:=(e2 e he).1.1 (by rw[hcs]; exact Qf _)
       rw[R5 (e2 e he).2]at p1
       grind [Gp]
      have hcall:=hc _ w L _ _ x y (xs.map a.eval++vc) (fun b f hk=>hk.2.1) (Qa2 h2 hG) (by rw[←el,hlen]) hLends hargs hy
      subst hf
      refine Jm hw ?_
      have hrun':(execOp a.eval o).run P w=.ok (.enter c.f ⟨xs.map a.eval++vc⟩) w:=by
       grind [execOp,resolve,Deferred.ofValue,invoke,Qk9]
      unfold Oper.wp
      rw[hrun']
      refine hcall.mono ?_
      rintro e' w' ⟨v0,rfl,⟨β2,ρ2,hag,⟨cs,hv0,hcr⟩,hT2,hpw2⟩,hbel⟩
      show wpList P ops Q rest (a.put o.dst v0) w'
      rw[hd]
      have hLl:∀g∈L,∃t∈Qk β ρ Ml,t.blks g:=by
       intro g hg
       obtain⟨q,hq,hg⟩:=(hLm g).1 hg
       grind
      have hcov:∀t∈Qk β ρ Ml,∀b f,t.blks b→t.cov b f:=by
       intro t ht b f hb
       obtain⟨q,hq,rfl⟩:=QK.1 ht
       grind [id,Q4m]
      have h3:=Sb.callO h2 hbel hLl hcov hT2 hpw2
      have hROk:∀j∈(roM c x).map Prod.fst,∃cc,Jv ri j=some cc∧j∈c.Γ.mem.map Prod.fst:=fun j hj=>by
       obtain⟨q,hq,rfl⟩:=QK.1 hj
       unfold roM at hq
       rw[henc]at hq
       obtain⟨hq1,hq2⟩:=QN.1 hq
       have hk:=hmk q hq1
       obtain⟨q',hq',he'⟩:=QK.1 hk
       obtain⟨cc,hcc⟩:=Qxm hb2s q.1 (QK.2 ⟨q',QN.2 ⟨hq',by rw[he']; exact hq2⟩,he'⟩)
       grind
      have hroE2:Wn (Jo ri d) (roM c x)=Mo:=by grind [roM]
      generalize hRO:roM c x=RO at *
      generalize hS1:Qh7 c.Δ y=S1 at *
      generalize hks:(S1.mem++RO).map Prod.fst=ks at *
      have hA:∀j∈ks,backB (Jo ri d) ks β2 β (Jo ri d j)=β2 j∧Ot (Jo ri d) ks ρ2 ρ (Jo ri d j)=ρ2 j:=by
       intro j hj
       have:=Q4o (g:=Jo ri d) (ks:=ks) (by rw[←hks,ZQ]; exact Qa6 n2) j hj
       grind [backB,Ot]
      have hcase:∀j∈ks,(∃cc,Jv ri j=some cc∧Jo ri d j=cc∧j∈c.Γ.mem.map Prod.fst) ∨
        (Jv ri j=none∧J9 (Jo ri d j) Mr0=true∧J9 (Jo ri d j) S.fixM=true∧Qls (Jo ri d j) S.fix=true∧Qls (Jo ri d j) S.env=true∧Yi S.prot (Jo ri d j)=false∧j∉c.Γ.mem.map Prod.fst):=by
       intro j hj
       rw[←hks,QD]at hj
       rcases QZ.1 hj with hj | hj
       ·exact Q4n n1 j hj
       grind [Jo]
      have hB:∀i,(∀j∈ks,Jv ri j=none→Jo ri d j≠i)→backB (Jo ri d) ks β2 β i=β i∧Ot (Jo ri d) ks ρ2 ρ i=ρ i:=by
       intro i hi
       cases hfd:ks.find? (fun j=>Jo ri d j==i)with
       | none=>grind [backB,Ot]
       | some j =>
        have hj:=List.mem_of_find?_eq_some hfd
        have hji:Jo ri d j=i:=by grind
        rcases hcase j hj with⟨cc,p1,p2,p3⟩ | ⟨p1,_⟩
        ·obtain⟨q1,q2⟩:=hag j p3
         grind [backB,E2,Ot,Em]
        grind
      have hfr:=fun j hj (hn:Jv ri j=none)=>(hcase j hj).resolve_left fun⟨cc,p1,_⟩=>by rw[hn]at p1; cases p1
      have hEnv:∀e∈S.env++S.fix,∀i∈Jd e.av,backB (Jo ri d) ks β2 β i=β i∧Ot (Jo ri d) ks ρ2 ρ i=ρ i:=by
       grind [Zx,Jo,Qsy,Ou]
      have hMem:∀i∈Je Mr,backB (Jo ri d) ks β2 β i=β i∧Ot (Jo ri d) ks ρ2 ρ i=ρ i:=by
       intro i hi
       refine hB i fun j hj hn hji=>?_
       obtain⟨_,p2,p3,_⟩:=hfr j hj hn
       replace hi:=Jf9 (fun q hq=>hp2.mem_iff.1 (List.mem_append_right _ hq)) hi
       have happ:∀(l m:List (Nat×Ob)),Je (l++m)=Je l++Je m:=by
        intro l m
        induction l with
        | nil=>rfl
        | cons q l ih =>
         obtain⟨k0,o0⟩:=q
         cases o0 with
         | mapC k1 v xs hole=>cases hole<;>simp[Je,ih]
         | _=>simp[Je,ih]
       rw[happ,QZ]at hi
       grind [Qte]
      have hsim:Wp (Qk β2 ρ2 (S1.mem++RO)++Qk β ρ Mr) (Qk (backB (Jo ri d) ks β2 β) (Ot (Jo ri d) ks ρ2 ρ) (Wn (Jo ri d) (S1.mem++RO))++Qk (backB (Jo ri d) ks β2 β) (Ot (Jo ri d) ks ρ2 ρ) Mr) :=
       (Q0c fun i hi=>hA i (At n4 i hi)).append (Qxk hMem)
      have h4:=Sb.simO h3 hsim
      have hmemO:Qk (backB (Jo ri d) ks β2 β) (Ot (Jo ri d) ks ρ2 ρ) (Wn (Jo ri d) (S1.mem++RO))++Qk (backB (Jo ri d) ks β2 β) (Ot (Jo ri d) ks ρ2 ρ) Mr =
        Qk (backB (Jo ri d) ks β2 β) (Ot (Jo ri d) ks ρ2 ρ) ((Wn (Jo ri d) S1.mem++Mo)++Mr):=by
       rw[show Wn (Jo ri d) (S1.mem++RO)=Wn (Jo ri d) S1.mem++Wn (Jo ri d) RO from QD,hroE2]
       grind
      have h5:Rel X (backB (Jo ri d) ks β2 β) (Ot (Jo ri d) ks ρ2 ρ) ⟨S.env++S.fix,(Wn (Jo ri d) S1.mem++Mo)++Mr⟩ a w':=by
       refine Rel.ofSb h4 hmemO fun e he=>?_
       have hp:=Yf.1 h4.dat _ (QK.2 ⟨e,he,rfl⟩)
       rw[hmemO]at hp
       exact⟨fun hcc=>let⟨cs,q1,q2⟩:=hp.1 hcc; ⟨cs,q1,Hj (hEnv e he) q2⟩,hp.2⟩
      have hres:cr (backB (Jo ri d) ks β2 β) (Ot (Jo ri d) ks ρ2 ρ) (okR X (backB (Jo ri d) ks β2 β) (Ot (Jo ri d) ks ρ2 ρ) ((Wn (Jo ri d) S1.mem++Mo)++Mr) w') w' false (Wf (Jo ri d) (Qa0 S1.env)) cs:=by
       have q1:=Qco (g:=Jo ri d) (fun i hi=>hA i (At n3 i (Jgb _ i hi))) hcr
       refine Gp q1 fun b f hk=>?_
       have q2:=hsim.ok b f (Qhs h2 hbel.size hLl b f hk)
       rw[hmemO]at q2
       exact q2
      have h6:=h5.put0 hd1 hres
      have hvv:(Wf (Jo ri d) (Qa0 S1.env)).val cs=v0:=by rw[hv0]; exact Jpk _ _ _
      rw[hvv]at h6
      have hfin:((Wn (Jo ri d) S1.mem++Mo)++Mr).Perm ((Wn (Jo ri d) S1.mem++Mr0)++S.fixM):=by
       rw[List.append_assoc,List.append_assoc]
       exact List.Perm.append_left _ hp2
      refine H _ _ _ _ _ hs ⟨rfl,rfl,rfl,fun i hi=>hB i fun j hj hn hji=>?_⟩ ?_
      ·grind [Xn]
      ·rw[Ky (S:=⟨S.env,S.fix,Wn (Jo ri d) S1.mem++Mr0,S.fixM,S.prot⟩) hd2]
       exact Sb.perm h6 (hfin.map _)
     ·cases hx
    ·cases hs
   ·cases hs
  ·cases hs
 ·cases hs
end
end Gx

/- Small things for regions of open order. -/
namespace Gx
open Go Go.RowKit Gd
set_option linter.unusedVariables false
set_option linter.unusedSimpArgs false
theorem Jcj{l:List Oper}{p k i:Nat}(h:Jui l p=true)(hk:p≤k)(hkl:k<l.length)(hi:i<k):Bd l l.length k i=true:=by
 have h1:=QP.1 h k (JH.2 hkl)
 simp only[JB]at h1
 rcases h1 with h1 | h1
 ·have:=QV h1; omega
 grind
theorem Ql1:∀{l:List Nat} {t:Nat},Yi l t=true→t∈l
 | [],t,h=>by cases h
 | k::l,t,h=>by
  simp only[Yi]at h
  cases hb:Nat.beq k t with
  | true=>rw[Nat.eq_of_beq_eq_true hb]; exact .head _
  | false=>rw[hb]at h; exact .tail _ (Ql1 (by simpa using h))
theorem Ql2:∀{env:List En} {e:En},e∈Q9k env→e.cs=[]∧e∈env∧Nat.blt e.t 100000=false
 | [],e,h=>by simp[Q9k]at h
 | x::l,e,h=>by
  simp only[Q9k]at h
  cases hb:Nat.blt x.t 100000 with
  | true =>
   rw[hb]at h
   obtain⟨h1,h2,h3⟩:=Ql2 (env:=l) h
   grind
  | false =>
   rw[hb]at h
   simp only[cond_false]at h
   split at h
   ·rename_i hc
    rcases QX.1 h with rfl | h
    ·grind
    ·obtain⟨h1,h2,h3⟩:=Ql2 (env:=l) h
     grind
   ·obtain⟨h1,h2,h3⟩:=Ql2 (env:=l) h
    grind
theorem Jgc{l:List Nat}{i d:Nat}(hi:i<l.length)(h:l.getD i 0=d):l[i]?=some d:=by
 rw[List.getD_eq_getElem?_getD,List.getElem?_eq_getElem hi]at h
 rw[List.getElem?_eq_getElem hi]; grind
abbrev Qh8(E:Nat→Bool)(i:Nat):Nat→Bool:=fun j=>j==i||E j
theorem Ql3{l:List Nat}{t:Nat}(h:t∈l):Yi l t=true:=by
 induction l with
 | nil=>cases h
 | cons k l ih =>
  simp only[Yi,JB]
  rcases QX.1 h with rfl | h
  ·simp_all
  grind
theorem Qfm:∀{M:List (Nat×Ob)} {id:Nat},H5 (Qg M id)=true→id∈Vs M
 | [],id,h=>by simp[Qg,H5]at h
 | (k,ob)::l,id,h=>by
  simp only[Qg]at h
  cases hb:Nat.beq k id with
  | true=>rw[Nat.eq_of_beq_eq_true hb]; exact .head _
  | false=>rw[hb]at h; exact .tail _ (Qfm h)
theorem Jwx{a b:Nat}(h:a≠b):Nat.beq a b=false:=by
 grind [Nat.beq,absurd,Nat.eq_of_beq_eq_true]
theorem Qj4:∀{M:List (Nat×Ob)},(Vs M).Nodup→∀q∈M,Qg M q.1=some q.2
 | [],_,q,h=>by cases h
 | (k,x)::l,hn,q,h=>by
  have hn':=QT.1 (show(k::Vs l).Nodup from hn)
  simp only[Qg]
  rcases QX.1 h with rfl | h
  ·simp_all
  ·have hne:k≠q.1:=fun e=>hn'.1 (e▸QK.2 ⟨q,h,rfl⟩)
   rw[Jwx hne]
   exact Qj4 hn'.2 q h
theorem Qxn:∀{ds:List Nat} {env:List En} {e:En},e∈Qpe env ds→e∈env∧∀d∈ds,Zx d e.av=true∧e.t≠d∧∀c∈e.cs,c.1≠d
 | [],env,e,h=>⟨h,by simp⟩
 | d::ds,env,e,h=>by
  obtain⟨h1,h2⟩:=Qxn (ds:=ds) h
  obtain⟨h3,h4,h5⟩:=Oe h1
  obtain⟨h6,h7⟩:=Qj3 h3
  grind
theorem Qtg{α:Type}{f g:α→Bool}:∀{l:List α} {x:α},(∀y,f y=true→g y=true)→x∈l→f x=false→g x=true→(l.filter f).length<(l.filter g).length
 | y::ys,x,hfg,hx,h1,h2=>by
  have hle:∀zs:List α,(zs.filter f).length≤(zs.filter g).length:=by
   intro zs
   induction zs with
   | nil=>simp
   | cons z zs ih =>
    grind
  rcases QX.1 hx with rfl | hx
  ·grind
  ·have:=Qtg hfg hx h1 h2
   grind
end Gx

/- A map's entry that is made first and written then. -/
import Derived.Test.YtpdhjildhjpjdaaGreatXM
namespace Gx
open Go Go.RowKit Gd
set_option linter.unusedVariables false
set_option linter.unusedSimpArgs false
section
variable {P:Program} {T:Tab}
theorem Je8{es:Array MapEntry}(hst:(es.toList.map MapEntry.born).Nodup){j:Nat}{e:MapEntry}(hj:es.toList[j]?=some e):es.findIdx? (fun x=>(x.born:Int)==(e.born:Int))=some j:=by
 obtain⟨hl,hj⟩:=List.getElem?_eq_some_iff.1 hj
 have hl':j<es.size:=by simpa using hl
 rw[Array.findIdx?_eq_some_iff_getElem]
 refine⟨hl',by grind,fun i hi=>?_⟩
 have hij:i≠j:=ZS hi
 have h1:i<(es.toList.map MapEntry.born).length:=by simp; omega
 have h2:j<(es.toList.map MapEntry.born).length:=by simpa using hl
 have hne:(es.toList.map MapEntry.born)[i]≠(es.toList.map MapEntry.born)[j]:=fun h=>hij ((List.getElem_inj hst).1 h)
 grind
theorem Qo4{es:Array MapEntry}{j:Nat}{f:MapEntry→MapEntry}(hf:∀e,(f e).born=e.born):((es.modify j f).toList.map MapEntry.born)=es.toList.map MapEntry.born:=by
 apply JD
 grind
theorem Qww{es:Array MapEntry}{clock:Nat}(hst:Bj es clock){j:Nat}{f:MapEntry→MapEntry}(hf:∀e,(f e).born=e.born):Bj (es.modify j f) clock:=by
 refine⟨by rw[Qo4 hf]; exact hst.1,fun e he=>?_⟩
 have hb:e.born∈(es.modify j f).toList.map MapEntry.born:=QZ.2 ⟨e,he,rfl⟩
 rw[Qo4 hf]at hb
 obtain⟨e',he',hbe⟩:=QZ.1 hb
 rw[←hbe]; exact hst.2 e' he'
theorem Qnr{k:Ty}(hk:Ir k=true){ν:Type}{s:RT ν}{ok:Ok}{w:World}:∀{xs:List (k.De×ν)} {es:List MapEntry},W8 (rt k) s ok w xs es→es.map MapEntry.key=xs.map fun q=>Ym k q.1
 | [],es,h=>by cases(show es=[]from h); rfl
 | x::xs,es,h=>by
  obtain⟨e,es',rfl,h1,_,h3⟩:=h
  simp[Hg hk h1,Qnr hk h3]
theorem Q3v(hT:Q0 P T){kt:TypeId}{te:TE}(ht:Qk T kt=some te){k:Ty}(hd:Y6 T k te.d=true){x y:k.De}(w:World)(h:Ym k x=Ym k y):x=y:=by
 have h1:=Oo hT ht hd x y w
 have h2:=Oo hT ht hd x x w
 rw[←h]at h1
 rw[h1]at h2
 injection h2 with h2
 exact(Vo (Jf hd)).1 (h2.trans ((Vo (Jf hd)).2 rfl))
theorem Qzt(hT:Q0 P T){t kt et:TypeId}{te tk tz:TE}(ht:Qk T t=some te)(htd:te.d=.map kt et)(hk:Qk T kt=some tk)(hz:Qk T et=some tz)
  {k:Ty} {ν:Type} {s:RT ν} (hd:Y6 T k tk.d=true) {ok:Ok} {w:World} {g:Nat} {es:Array MapEntry} {clock:Nat} (hg:w.heap[g]?=some (.map es clock)) {xs:List (k.De×ν)} (hp:W8 (rt k) s ok w xs es.toList) (hst:Bj es clock)
  (key:k.De) {z:ν} (hzv:isV s ok w z tz.z) :
  ∃es1 clock1 u b,(Instr.mapEntry t (.map (some g)) (Ym k key)).run P w=.ok (.tuple #[u,.int .i64 ((b:Nat):Int)]) { w with heap:=w.heap.setIfInBounds g (.map es1 clock1) } ∧
   W8 (rt k) s ok w (Yu key ((Qg key xs).getD z) xs) es1.toList∧Bj es1 clock1∧(∃e∈es1.toList,e.key=Ym k key∧e.born=b)∧isV s ok w ((Qg key xs).getD z) u:=by
 have hu:=(Jo hT ht).2
 rw[htd]at hu
 have hzr:(zeroValue et).run P w=.ok tz.z w:=V1 hT w hz
 rcases Qa2 hT hk hd key w hp with⟨r1,r2⟩ | ⟨j,e,y,r1,r2,r3,r4,r5⟩
 ·rw[r1]
  rcases Qlb hT hk hd key hzv hp with⟨q1,q2⟩ | ⟨j,e,q2,q3,q4,q5⟩
  ·refine⟨es.push ⟨Ym k key,tz.z,clock⟩,clock+1,tz.z,clock,?_,by grind,Qr1 hst _ _,⟨⟨Ym k key,tz.z,clock⟩,by simp,rfl,rfl⟩,hzv⟩
   simp[Instr.mapEntry,run_underlying hu,MapKept.run_getObj_map hg,Wl hT hk hd,r2,hzr,MapKept.run_setObj_map _ hg,Result.andThen,goInt]
  ·have h2:=q2 0
   rw[QV]at h2
   rw[Ot hT hk hd key w hp h2]at r2
   cases r2
 ·rw[r1]
  rcases Qlb hT hk hd key r5 hp with⟨q1,q2⟩ | ⟨j',e',q2,q3,q4,q5⟩
  ·rw[q1]at r1; cases r1
  ·have h2:=q2 0
   rw[QV]at h2
   have h3:=Ot hT hk hd key w hp h2
   rw[h3]at r2
   injection r2 with r2
   injection r2 with r2
   injection r2 with r2 r2'
   subst r2
   rw[q3]at r3
   injection r3 with r3
   subst r3
   have q3':es[j']?=some e':=by simpa using q3
   refine⟨es.modify j' fun e=>{ e with key:=Ym k key },clock,e'.val,e'.born,?_,?_,Qww hst (fun _=>rfl),⟨{ e' with key:=Ym k key },?_,rfl,rfl⟩,r5⟩
   ·simp[Instr.mapEntry,run_underlying hu,MapKept.run_getObj_map hg,Wl hT hk hd,h3,q3',q4,Qwb (Jf hd),MapKept.run_setObj_map _ hg,Result.andThen,goInt]
   ·have e1:(es.modify j' fun e=>{ e with key:=Ym k key }).toList=es.toList.modify j' fun e=>{ e with key:=Ym k key,val:=e'.val }:=by
     apply JD
     grind
    grind
   ·refine List.mem_of_getElem? (i:=j') ?_
    grind
theorem Qsv(hT:Q0 P T){t kt:TypeId}{tk:TE}(hk:Qk T kt=some tk)
  {k:Ty} {ν:Type} {s:RT ν} (hd:Y6 T k tk.d=true) {ok:Ok} {w:World} {g:Nat} {es:Array MapEntry} {clock:Nat} (hg:w.heap[g]?=some (.map es clock)) {xs:List (k.De×ν)} (hp:W8 (rt k) s ok w xs es.toList) (hst:Bj es clock) (hnd:(xs.map Prod.fst).Nodup)
  (key:k.De) {y:ν} {v:Value} (hv:isV s ok w y v) {e:MapEntry} (he:e∈es.toList) (hek:e.key=Ym k key) :
  ∃es',(Instr.entryStore t (.map (some g)) (.int .i64 ((e.born:Nat):Int)) v).run P w=.ok () { w with heap:=w.heap.setIfInBounds g (.map es' clock) }∧W8 (rt k) s ok w (Yu key y xs) es'.toList∧Bj es' clock:=by
 obtain⟨j,hj⟩:=List.getElem?_of_mem he
 have hf:=Je8 hst.1 hj
 have hkn:(es.toList.map MapEntry.key).Nodup:=by
  rw[Qnr (Jf hd) hp,show(xs.map fun q=>Ym k q.1)=(xs.map Prod.fst).map (Ym k)from by simp]
  exact hnd.map _ fun a b hab h=>hab (Q3v hT hk hd w h)
 have hrun:(Instr.entryStore t (.map (some g)) (.int .i64 ((e.born:Nat):Int)) v).run P w=.ok () { w with heap:=w.heap.setIfInBounds g (.map (es.modify j fun e=>{ e with val:=v }) clock) }:=by
  simp[Instr.entryStore,MapKept.run_getObj_map hg,asInt,asIntOf,hf,MapKept.run_setObj_map _ hg,Result.andThen]
 refine⟨_,hrun,?_,Qww hst fun _=>rfl⟩
 rcases Qlb hT hk hd key hv hp with⟨q1,q2⟩ | ⟨j',e',q2,q3,q4,q5⟩
 ·rcases Qa2 hT hk hd key w hp with⟨r1,r2⟩ | ⟨j2,e2,y2,r1,_⟩
  ·exfalso
   have hm:Ym k key∈es.toList.map MapEntry.key:=QZ.2 ⟨e,he,hek⟩
   rw[Qnr (Jf hd) hp]at hm
   obtain⟨q,hq,hqk⟩:=QZ.1 hm
   have:=Q3v hT hk hd w hqk
   subst this
   clear q2 r2 r1 hnd hkn hp hm
   induction xs with
   | nil=>cases hq
   | cons x xs ih =>
    simp only[Qg]at q1
    cases hb:eqK k q.1 x.1 with
    | true=>rw[hb]at q1; cases q1
    | false =>
     rw[hb]at q1
     rcases QJ.1 hq with rfl | hq
     ·rw[(Vo (Jf hd)).2 rfl]at hb; cases hb
     ·exact ih hq q1
  grind
 ·have hjj:j=j':=by
   have h1:=(List.getElem?_eq_some_iff.1 hj)
   have h2:=(List.getElem?_eq_some_iff.1 q3)
   have g1:(es.toList.map MapEntry.key)[j]'(by grind)=(es.toList.map MapEntry.key)[j']'(by grind):=by
    rw[ZX,ZX,h1.2,h2.2,hek,q4]
   grind [List.getElem_inj]
  subst hjj
  have e1:(es.modify j fun e=>{ e with val:=v }).toList=es.toList.modify j fun e=>{ e with key:=Ym k key,val:=v }:=by
   have hj':es[j]?=some e:=by simpa using hj
   apply JD
   grind
  rw[e1]; exact q5
end
section
variable {P:Program} {Y:TX} {X:Cx} {S:XS} {β β':Nat→Nat} {ρ ρ':Nat→Value} {a a':Act} {w w':World} {n:Nat}
variable {ops:Array Oper} {Q:Exit→Act→World→Prop} {rest:List Oper} {R:Type} {k:XS→Option R} {r:R}
theorem Q3w{M:List (Nat×Ob)}{id:Nat}{ob:Ob}(hm:Qh M id=some ob)(hbb:∀o,(Qv β ρ id ob).cov (β id) o){o:Obj}:Evo (okR X β ρ M w) w { w with heap:=w.heap.setIfInBounds (β id) o }:=by
 obtain⟨l1,l2,e1,_,_⟩:=Jn hm
 refine Evo.of_blocks (by simp) fun b f hk=>?_
 have hne:β id≠b:=fun e=>hk.2.2.2 (Qv β ρ id ob) (by rw[e1]; simp[Qj]) (e▸hbb f)
 grind
theorem Jbr{M:List (Nat×Ob)}{id:Nat}{ob ob':Ob}(hm:Qh M id=some ob)(hc:∀b f,(Qv β ρ id ob').cov b f→(Qv β ρ id ob).cov b f){o:Obj}:∀b f,okR X β ρ M w b f→okR X β ρ (Rq M id ob') { w with heap:=w.heap.setIfInBounds (β id) o } b f:=by
 obtain⟨l1,l2,e1,e2,_⟩:=Jn hm
 rintro b f ⟨h1,h2,h3,h4⟩
 refine⟨h1,by simpa using h2,h3,fun t ht=>?_⟩
 rw[e2]at ht
 grind
theorem Rel.turnM{env:List En}{M:List (Nat×Ob)}(h:Rel X β ρ ⟨env,M⟩ a w){id:Nat}{ob ob':Ob}(hm:Qh M id=some ob)(hb1:∀b o,(Qv β ρ id ob).blks b→(Qv β ρ id ob).cov b o)(hb2:∀g,(Qv β ρ id ob').blks g→(Qv β ρ id ob).blks g){o:Obj}
  (hbb:(Qv β ρ id ob).blks (β id)) (hq:(Qv β ρ id ob').p (okR X β ρ (Rq M id ob') { w with heap:=w.heap.setIfInBounds (β id) o }) { w with heap:=w.heap.setIfInBounds (β id) o }) :
  Rel X β ρ ⟨env,Rq M id ob'⟩ a { w with heap:=w.heap.setIfInBounds (β id) o }:=by
 obtain⟨l1,l2,e1,e2,e3⟩:=Jn hm
 have hO:Qj β ρ M=Qj β ρ l1++Qv β ρ id ob::Qj β ρ l2:=by rw[e1]; simp[Qj]
 have hmem:Qj β ρ (l1++(id,ob')::l2)=Qj β ρ l1++Qv β ρ id ob'::Qj β ρ l2:=by simp[Qj]
 have hS:=Sb.upd h hO (t':=Qv β ρ id ob') (w':={ w with heap:=w.heap.setIfInBounds (β id) o }) rfl rfl rfl (by simp) (fun b hb hn=>by
   have hne:β id≠b:=fun e=>hn (e▸hbb)
   grind) hb1 (fun g hg=>.inl (hb2 g hg)) (fun hevo hok=>by rw[←hmem,←e2]; exact hq)
 rw[e2]
 exact Rel.ofSb hS hmem.symm fun e he=>by
  have:=Jh.1 hS.dat _ (QZ.2 ⟨e,he,rfl⟩)
  rw[←hmem]at this
  exact this
theorem Q80(hT:Q0 P Y.T)(hX:X.n=n)(hr:X.res=[])(h:Rel X β ρ S.flat a w){o:Oper}(hw:Region.wanted o (yielded ops a.tmps)=true){t:TypeId}{m ky:Operand}{d:Nat}(hop:o.op=.mapEntry t m ky)(hd:o.dst=some d){te tk tz:TE}{kt et:TypeId}(hte:Qk Y.T t=some te)(htd:te.d=.map kt et)(htk:Qk Y.T kt=some tk)(htz:Qk Y.T et=some tz)
  {id:Nat} {kv za:AV} {kk v:Ty} {xs:List (kk.De×v.De)} {key:kk.De} {z:v.De} (hm:S.ev [] m=some (.m id)) (hkv:S.ev [] ky=some kv) (hmo:Qh S.mem id=some (.map kk v xs)) (hkey:asD [] kv kk=some key) (hza:Ou v tz.z=some za) (hz:asD [] za v=some z)
  (hwd:okW n S d=true) (hb:okB S d=true) (hdk:Y6 Y.T kk tk.d=true) (hka:(kk.agg==kv.isAgg)=true) (hva:(v.agg==Qjr tz.z)=true)
  (hk:k ((XS.mk (Y7 d S.env) S.fix (Rq S.mem id (.mapE kk v (Jj key ((Qg key xs).getD z) xs) key d)) S.fixM S.prot).put d [] (.tp (.cons (.d v ((Qg key xs).getD z)) (.cons (.b d) .nil))))=some r) (H:KOk P ops Q rest X S β ρ k r):wpList P ops Q (o::rest) a w:=by
 obtain⟨h1,h2⟩:=Y2 hwd hX hr
 obtain⟨f1,f2,f3⟩:=Hj hb
 obtain⟨c1,g1,g2⟩:=h.ev (Qf a) hm
 have g2':c1=[.map (some (β id))]:=g2
 subst g2'
 have g1':a.eval m=.map (some (β id)):=g1
 obtain⟨c3,h3,h4⟩:=h.ev (Qf a) hkv
 have hkr:isV (rt kk) (okR X β ρ S.flat.mem w) w key (a.eval ky):=by
  refine⟨c3,K8 (M:=[]) (β:=β) (ρ:=ρ) (by simp[Qh]) hkey h4,?_⟩
  rw[h3]; simp only[AV.val,RT.val,Dj,bEq hka]; cases kv.isAgg<;>rfl
 have hke:=Hg (Jf hdk) hkr
 have hm':Qh S.flat.mem id=some (.map kk v xs):=Qy hmo
 obtain⟨⟨es,clock,ys,hg,hq,hp,hnd,hst1,hst2⟩,hmine⟩:=h.ob hm'
 have hzv:isV (rt v) (okR X β ρ S.flat.mem w) w z tz.z:=⟨Qu tz.z,K8 (M:=[]) (β:=β) (ρ:=ρ) (by simp[Qh]) hz (Dm hza),(Qne (bEq hva)).symm⟩
 obtain⟨es1,clock1,u,b,hrun,hp1,hst',⟨e0,he0,he1,he2⟩,hu⟩:=Qzt hT hte htd htk htz hdk hg hp ⟨hst1,hst2⟩ key hzv
 rw[Qcm (Jf hdk) hq hnd]at hu
 have hrun':(execOp a.eval o).run P w=.ok (.value (.tuple #[u,.int .i64 ((b:Nat):Int)])) { w with heap:=w.heap.setIfInBounds (β id) (.map es1 clock1) }:=by
  unfold execOp
  rw[hop]
  simp only[g1',hke]
  simp[hrun]
 refine Jk hw (Yl hrun' ?_)
 rw[hd]
 have hne:id≠d:=by
  obtain⟨l1,l2,e1,_⟩:=Jn hm'
  have hin:(id,Ob.map kk v xs)∈S.mem++S.fixM:=by
   rw[show S.mem++S.fixM=S.flat.mem from rfl,e1]; simp
  exact(Gk f1 _ hin).1
 have hid:upd β d b id=β id:=Xr _ _ hne
 have ha:=Qho d β ρ b (ρ d)
 have hoff:=h.off ha f1 (env':=Jx (Y7 d S.env) d++S.fix) fun e he=>let⟨q1,q2,_⟩:=Iw f2 h2 e he; ⟨q1,q2⟩
 have sim:=Wn.ok (Sj ha f1) (w:=w) (ok0:=X.ok) (B:=X.w.heap.size) (β:=fun _=>0) (H:=[])
 have hmm:Qh (S.mem++S.fixM) id=some (.map kk v xs):=hm'
 have hev:=Q3w (X:=X) (β:=upd β d b) (ρ:=upd ρ d (ρ d)) (w:=w) (o:=.map es1 clock1) hmm (fun _=>rfl)
 have hok:=Jbr (X:=X) (β:=upd β d b) (ρ:=upd ρ d (ρ d)) (w:=w) (o:=.map es1 clock1) (ob':=.mapE kk v (Jj key ((Qg key xs).getD z) xs) key d) hmm (fun _ _ h=>h)
 have hT1:=hoff.turnM (ob':=.mapE kk v (Jj key ((Qg key xs).getD z) xs) key d) (o:=.map es1 clock1) hmm (fun b o h=>h) (fun g h=>h) rfl ?_
 ·have hu1:=((hu.weak sim).evo hev).weak hok
  obtain⟨cu,hu2,hu3⟩:=hu1
  have hP:=hT1.put0 h1 (x:=.tp (.cons (.d v ((Qg key xs).getD z)) (.cons (.b d) .nil))) (c:=[.tuple #[u,.int .i64 ((b:Nat):Int)]]) ⟨[u,.int .i64 ((b:Nat):Int)],rfl,cu,[.int .i64 ((b:Nat):Int)],?_,hu2,[.int .i64 ((b:Nat):Int)],[],rfl,?_,rfl⟩
  ·rw[hid]at hP
   refine H (upd β d b) (upd ρ d (ρ d)) _ _ _ hk ⟨rfl,rfl,rfl,Gu f3 ha⟩ ?_
   have hE:(XS.put (XS.mk (Y7 d S.env) S.fix (Rq S.mem id (.mapE kk v (Jj key ((Qg key xs).getD z) xs) key d)) S.fixM S.prot) d [] (.tp (.cons (.d v ((Qg key xs).getD z)) (.cons (.b d) .nil)))).flat=⟨⟨d,[],.tp (.cons (.d v ((Qg key xs).getD z)) (.cons (.b d) .nil))⟩::(Jx (Y7 d S.env) d++S.fix),Rq (S.mem++S.fixM) id (.mapE kk v (Jj key ((Qg key xs).getD z) xs) key d)⟩:=by
    grind [XS.flat,XS.put,Wf]
   rw[hE]
   refine hP.less fun e hm=>?_
   rcases QJ.1 hm with rfl | hm
   ·exact .head _
   ·refine .tail _ ?_
    have:Jx (Jx (Y7 d S.env) d++S.fix) d=Jx (Y7 d S.env) d++S.fix:=by
     rw[We h2,Qsq]
    show e∈Jx (Jx (Y7 d S.env) d++S.fix) d
    rw[this]; exact hm
  ·rw[hu3]; grind [AV.val,RT.val,Dj,AV.isAgg]
  ·show [Value.int .i64 ((b:Nat):Int)]=[.int .i64 ((upd β d b d:Nat):Int)]
   rw[Jd]
 ·have hgl:β id<w.heap.size:=Vb hg
  refine⟨es1,clock1,Yu key ((Qg key ys).getD z) ys,?_,by rw[Qcm (Jf hdk) hq hnd]; exact Qhm (Jf hdk) hq hnd key _,Ub (Hf (Ub hp1 sim) hev) hok,Qna (Jf hdk) key _ hnd,hst'.1,hst'.2,e0,he0,he1▸Qy9 (Jf hdk) key,by rw[he2,Jd]⟩
  rw[hid]; grind
theorem Qzu(hT:Q0 P Y.T)(h:Rel X β ρ S.flat a w){o:Oper}(hw:Region.wanted o (yielded ops a.tmps)=true){t:TypeId}{m st x:Operand}(hop:o.op=.entryStore t m st x)(hd:o.dst=none){tk:TE}{kt:TypeId}(htk:Qk Y.T kt=some tk)
  {id j:Nat} {xv:AV} {kk v:Ty} {xs:List (kk.De×v.De)} {key:kk.De} {y:v.De} (hm:S.ev [] m=some (.m id)) (hst:S.ev [] st=some (.b j)) (hx:S.ev [] x=some xv) (hmo:Qh S.mem id=some (.mapE kk v xs key j)) (hy:asD S.flat.mem xv v=some y)
  (hdk:Y6 Y.T kk tk.d=true) (hva:(v.agg==xv.isAgg)=true)
  (hk:k (S.set id (.map kk v (Jj key y xs)))=some r) (H:KOk P ops Q rest X S β ρ k r):wpList P ops Q (o::rest) a w:=by
 obtain⟨c1,g1,g2⟩:=h.ev (Qf a) hm
 have g2':c1=[.map (some (β id))]:=g2
 subst g2'
 have g1':a.eval m=.map (some (β id)):=g1
 obtain⟨c2,g3,g4⟩:=h.ev (Qf a) hst
 have g4':c2=[.int .i64 ((β j:Nat):Int)]:=g4
 subst g4'
 have g3':a.eval st=.int .i64 ((β j:Nat):Int):=g3
 have hxv:isV (rt v) (okR X β ρ S.flat.mem w) w y (a.eval x):=h.asD (Qf a) hx hy (bEq hva)
 have hm':Qh S.flat.mem id=some (.mapE kk v xs key j):=Qy hmo
 obtain⟨⟨es,clock,ys,hg,hq,hp,hnd,hst1,hst2,e0,he0,he1,he2⟩,hmine⟩:=h.ob hm'
 obtain⟨es',hrun,hp',hst'⟩:=Qsv (t:=t) hT htk hdk hg hp ⟨hst1,hst2⟩ ((hq.map _).nodup_iff.2 hnd) key hxv he0 (Hg (Jf hdk) he1)
 rw[he2]at hrun
 have hrun':(execOp a.eval o).run P w=.ok .skip { w with heap:=w.heap.setIfInBounds (β id) (.map es' clock) }:=by
  unfold execOp
  rw[hop]
  simp only[g1',g3']
  simp[hrun]
 refine Jk hw ?_
 unfold Oper.wp
 rw[hrun']
 show wpList P ops Q rest (a.put o.dst undef) _
 rw[hd]
 have hE:(S.set id (.map kk v (Jj key y xs))).flat=⟨S.flat.env,Rq S.flat.mem id (.map kk v (Jj key y xs))⟩:=by
  grind [XS.flat,XS.set,Wf]
 refine H β ρ _ _ _ hk ⟨rfl,rfl,rfl,agP.refl _ _ _⟩ ?_
 rw[hE]
 have hev:=Q3w (X:=X) (β:=β) (ρ:=ρ) (w:=w) (o:=.map es' clock) hm' (fun _=>rfl)
 have hok:=Jbr (X:=X) (β:=β) (ρ:=ρ) (w:=w) (o:=.map es' clock) (ob':=.map kk v (Jj key y xs)) hm' (fun _ _ h=>h)
 exact Rel.turnM (env:=S.flat.env) h (ob':=.map kk v (Jj key y xs)) (o:=.map es' clock) hm' (fun b o h=>h) (fun g h=>h) rfl
  ⟨es',clock,Yu key y ys,(MapKept.heap_set hg).1,Qhm (Jf hdk) hq hnd key y,Ub (Hf hp' hev) hok,Qna (Jf hdk) key y hnd,hst'.1,hst'.2⟩
end
end Gx

/- Literals as rows; maps whose values are objects of their own. -/
namespace Gx
open Go Go.RowKit Gd
set_option linter.unusedVariables false
set_option linter.unusedSimpArgs false
theorem Q3x{v:Value}(h:Qr9 v=true):v=.map none:=by
 grind [Qr9]
theorem Q81{v:Value}(h:Qzi v=true):v=.slice none 0 0:=by
 grind [Qzi]
def Ju5:CK→Value
 | .sl _ _=>.slice none 0 0
 | .mp _ _=>.map none
theorem Qwx{c:CK}{v:Value}(h:Q8p c v=true):v=Ju5 c:=by
 cases c with
 | sl e u=>exact Q81 h
 | mp k w=>exact Q3x h
theorem Jja{c:CK}:(Ju5 c).oneCell'=true:=by cases c<;>rfl
theorem Jjb{β:Nat→Nat}{ρ:Nat→Value}{ok:Ok}{w:World}{M:List (Nat×Ob)}(hM:∀id o,Qh M id=some o→(Qv β ρ id o).p ok w){R:Type}{kk:Ty}(hk:Ir kk=true){c:CK}{xs:List (kk.De×c.ty.De)}{hole:Option (kk.De×Nat)}{key:kk.De}{vs:List Value}{ys:List (kk.De×Value)}
  (hrel:Dk c (Q2x hole) (Ol β ρ c hole) ok w xs ys vs) (habs:∀k,Q2x hole=some k→k∉xs.map Prod.fst→Ol β ρ c hole=.slice none 0 0) {z:Value} (hz:Q8p c z=true) {av:AV}
  (hav:(∃q,hole=some q∧Eb (Qo0 c (Qh M q.2))=true∧eqK kk key q.1=true∧av=avC c q.2)∨(hole=none∧(∃k v,c=.mp k v)∧Qg key xs=none∧av=.nm)) :
  ∃cs,(Qg key ys).getD z=av.val cs∧cr β ρ ok w false av cs:=by
 have hz:=Qwx hz
 rcases hav with⟨q,rfl,hq,he,rfl⟩ | ⟨rfl,⟨k2,v2,rfl⟩,hn,rfl⟩
 ·have hkq:=(Vo hk).1 he
  have hzal:zal ((Qg key ys).getD z) (Ol β ρ c (some q)):=by
   rcases Qni key hrel with⟨q1,q2⟩ | ⟨x,y,q1,q2,k1,q3,q4,q5⟩
   ·have hab:=habs q.1 rfl (by rw[←hkq]; exact Qwc hk q1)
    rw[q2,hab]
    cases c with
    | sl e u=>exact .inl hz
    | mp k v=>cases hab
   ·rw[q2]
    exact q5 (by rw[←(Vo hk).1 q3,hkq]; rfl)
  cases hx:Qo0 c (Qh M q.2)with
  | none=>rw[hx]at hq; cases hq
  | some x0 =>
   have hob:=hM _ _ (Qso hx)
   cases c with
   | sl e u =>
    obtain⟨_,cs,hown,_⟩:=hob
    refine⟨[(Qg key ys).getD z],rfl,⟨_,rfl,hzal⟩,?_⟩
    rcases hown.2 with⟨hv,_⟩ | ⟨g,cap,cur,fz,hv,_⟩<;>exact⟨_,_,_,hv⟩
   | mp k v =>
    rcases hzal with h1 | ⟨h1,_⟩
    ·exact⟨[.map (some (β q.2))],h1,rfl⟩
    ·cases h1
 ·have:Qg key ys=none:=by
   grind [Qni]
  rw[this]
  exact⟨[.map none],hz,rfl⟩
section
variable {P:Program} {Y:TX} {X:Cx} {S:XS} {β β':Nat→Nat} {ρ ρ':Nat→Value} {a a':Act} {w w':World} {n:Nat}
variable {ops:Array Oper} {Q:Exit→Act→World→Prop} {rest:List Oper} {R:Type} {k:XS→Option R} {r:R}
theorem Q82(hX:X.n=n)(hr:X.res=[])(h:Rel X β ρ S.flat a w){o:Oper}(hw:Region.wanted o (yielded ops a.tmps)=true){d:Nat}(hd:o.dst=some d)(hwd:okW n S d=true)(hb:okB S d=true){t:TypeId}(hop:o.op=.makeMap t none){kk:Ty}{c:CK}
  (hk:k ((S.born d (.mapC kk c [] none)).put d [] (.m d))=some r) (H:KOk P ops Q rest X S β ρ k r):wpList P ops Q (o::rest) a w:=by
 obtain⟨h1,h2⟩:=Y2 hwd hX hr
 obtain⟨f1,f2,f3⟩:=Hj hb
 have hrun:(execOp a.eval o).run P w=.ok (.value (.map (some w.heap.size))) (w.alloc (.map #[] 0)):=by
  simp_all [execOp,Instr.makeMap]
 refine Jk hw (Yl hrun ?_)
 rw[hd]
 have ha:=Qho d β ρ w.heap.size (.tuple #[])
 have hbel:Below w.heap.size w (w.alloc (.map #[] 0)):=(Below.refl _ _).alloc (QY _) _
 refine H (upd β d w.heap.size) (upd ρ d (.tuple #[])) _ _ _ hk (Zw f3 ha _ _ _) ?_
 have hA:Rel X (upd β d w.heap.size) (upd ρ d (.tuple #[])) ⟨Jx (Y7 d S.env) d++S.fix,(d,.mapC kk c [] none)::(S.mem++S.fixM)⟩ a (w.alloc (.map #[] 0)):=by
  refine Rel.alloc h ha f1 (fun e he=>let⟨q1,q2,_⟩:=Iw f2 h2 e he; ⟨q1,q2⟩) hbel (fun g hg=>?_) ?_
  ·have hg':g=upd β d w.heap.size d∨∃v∈Qcj (upd ρ d (.tuple #[]) d),Xi v=some g:=hg
   rw[Jd,Jd]at hg'
   rcases hg' with hg' | ⟨v,hv,_⟩
   ·omega
   ·cases hv
  ·refine⟨[],⟨#[],0,?_,rfl,by simp,by simp⟩,?_,by simp,?_,?_,fun _ e=>by cases e⟩
   ·rw[Jd]; exact heap_alloc_new w _
   ·rw[Jd]; trivial
   ·rw[Jd]; exact .nil
   grind [Jd,Qcj]
 have hP:=hA.put0 h1 (x:=.m d) (c:=[.map (some (upd β d w.heap.size d))]) rfl
 have hv:(AV.m d).val [.map (some (upd β d w.heap.size d))]=.map (some w.heap.size):=by rw[Jd]; rfl
 rw[hv]at hP
 have he:((S.born d (.mapC kk c [] none)).put d [] (.m d)).flat=⟨⟨d,[],.m d⟩::(Jx (Y7 d S.env) d++S.fix),(d,.mapC kk c [] none)::(S.mem++S.fixM)⟩:=rfl
 rw[he]
 refine hP.less fun e hm=>?_
 rcases QJ.1 hm with rfl | hm
 ·exact .head _
 ·refine .tail _ ?_
  have:Jx (Jx (Y7 d S.env) d++S.fix) d=Jx (Y7 d S.env) d++S.fix:=by
   rw[We h2]
   congr 1
   have idem:∀l:List En,Jx (Jx l d) d=Jx l d:=by
    intro l
    induction l with
    | nil=>rfl
    | cons x l ih =>
     simp only[Jx]
     cases hb:(Nat.beq x.t d||Qa1 d x.cs)with
     | true=>simpa using ih
     | false=>simp_all [cond_false,Jx]
   exact idem _
  show e∈Jx (Jx (Y7 d S.env) d++S.fix) d
  rw[this]; exact hm
theorem Jjc{β:Nat→Nat}{ρ:Nat→Value}{ok:Ok}{a:Act}{w:World}{S:St}(h:Dn β ρ ok S a w){cur:Vz}(hc:J3 a cur){ky:Operand}{kv:AV}(hkv:Gx.ev S cur ky=some kv){kk:Ty}{key:kk.De}(hkey:asD [] kv kk=some key){d:TypeDesc}{T:Tab}(hdk:Y6 T kk d=true)(hka:(kk.agg==kv.isAgg)=true):a.eval ky=Ym kk key:=by
 obtain⟨c3,h3,h4⟩:=h.ev hc hkv
 refine Hg (ok:=ok) (w:=w) (Jf hdk) ⟨c3,K8 (M:=[]) (β:=β) (ρ:=ρ) (by simp[Qh]) hkey h4,?_⟩
 rw[h3]; simp_all [AV.val,RT.val,Dj,bEq]
theorem Q3y(hT:Q0 P Y.T)(hX:X.n=n)(hr:X.res=[])(h:Rel X β ρ S.flat a w){o:Oper}(hw:Region.wanted o (yielded ops a.tmps)=true)(hs:Qiz Y n o S k=some r)(H:KOk P ops Q rest X S β ρ k r):wpList P ops Q (o::rest) a w:=by
 unfold Qiz at hs
 split at hs
 ·rename_i t m ps d hop hd
  split at hs
  ·rename_i te hte
   split at hs
   ·rename_i e htd0
    split at hs
    ·rename_i ee u vs he hu hvs
     split at hs
     ·rename_i xs hxs
      obtain⟨hb,hk⟩:=bvT hs
      simp only[QQ]at hb
      obtain⟨⟨⟨⟨⟨⟨hwd,hbb⟩,hsz⟩,hl⟩,hsm⟩,hpos⟩,hzl⟩:=hb
      have htd:=Yx htd0
      obtain⟨f1,f2,f3⟩:=Hj hbb
      obtain⟨h1,h2⟩:=Y2 hwd hX hr
      have hg:=Oy h hw
      obtain⟨us,q1,q2,q3,q4⟩:=Qzq h hvs hxs
      have hes:=Nat.eq_of_beq_eq_true hsz
      have hxl:=Nat.eq_of_beq_eq_true hl
      have hcl:∀v∈us,(Qu v).length=ee.size:=fun v hv=>by rw[Qnf q2 v hv,Jm,hes]
      have hz0:(Zq (Qu ee.z) ((m+1)*ee.size)).length=(m+1)*ee.size:=by simp[Zq]
      have hfill:=Q3a us 0 (Zq (Qu ee.z) ((m+1)*ee.size)) hcl (by rw[hz0,QV,q3,hxl]; grind)
      rw[←q1]at hfill
      have hfill':Sa (Qe9 ee.size) (Zq (Qu ee.z) ((m+1)*ee.size)) (ps.map (fun p=>(p.1,a.eval p.2)))=some (us.flatMap Qu):=by
       rw[hfill]
       grind
      rw[Dq o,hd,hop]at hg ⊢
      refine Q3t hT h.toG (r:=rt u) hg h1 q4 hte htd he (by rw[Jm]; exact hes) hxl hsm hpos (XJ (QR _)) hzl hfill' q2 fun b a' w' hS=>?_
      refine H β (upd ρ d (.slice (some ⟨b,0,none⟩) xs.length (m+1))) _ _ _ hk (Zw f3 (Yd d β ρ _) _ _ _) ?_
      have:=Ky (o:=.row e u xs) hX hr h.sz hwd f1 f2 f3 hS (by grind [Qv,Jd,Gp.refl]) ⟨_,_,_,rfl⟩
      exact this
     ·cases hs
    ·cases hs
   ·cases hs
  ·cases hs
 ·
  rename_i t rs d hop hd
  split at hs
  ·rename_i te hte
   split at hs
   ·rename_i kt et htd
    split at hs
    ·rename_i kk c hkk hc
     obtain⟨hb,hk⟩:=bvT hs
     simp only[QQ]at hb
     have hrs:=Qhq hb.2
     grind [Q82]
    ·cases hs
   ·cases hs
  ·cases hs
 ·
  rename_i t m ky x hop hd
  split at hs
  ·rename_i te id kv xv hte hm hkv hx
   split at hs
   ·rename_i kt et kk c xs hole htd hmo
    split at hs
    ·rename_i tk key htk hkey
     obtain⟨hb,hs⟩:=bvT hs
     simp only[QQ]at hb
     grind [Jsx]
    ·cases hs
   ·cases hs
  ·cases hs
 ·
  rename_i t m ky d hop hd
  split at hs
  ·rename_i te id kv hte hm hkv
   split at hs
   ·rename_i kt et kk v xs htd hmo
    split at hs
    ·rename_i tk tz key htk htz hkey
     split at hs
     ·rename_i za hza
      split at hs
      ·rename_i z hz
       obtain⟨hb,hk⟩:=bvT hs
       simp only[QQ]at hb
       exact Q80 hT hX hr h hw hop hd hte htd htk htz hm hkv hmo hkey hza hz hb.1.1.1.1 hb.1.1.1.2 hb.1.1.2 hb.1.2 hb.2 hk H
      ·cases hs
     ·cases hs
    ·cases hs
   ·cases hs
  ·cases hs
 ·
  rename_i t m st x hop hd
  split at hs
  ·rename_i id j xv hm hst hx
   split at hs
   ·rename_i kk v xs key j' hmo
    split at hs
    ·rename_i te hte
     split at hs
     ·rename_i kt et htd
      split at hs
      ·rename_i tk y htk hy
       obtain⟨hb,hk⟩:=bvT hs
       simp only[QQ]at hb
       have hj:=Nat.eq_of_beq_eq_true hb.1.1
       grind [Qzu]
      ·cases hs
     ·cases hs
    ·cases hs
   ·cases hs
  ·cases hs
 ·
  rename_i t m ky d hop hd
  split at hs
  ·rename_i te kv hte hkv
   split at hs
   ·rename_i kt et htd
    split at hs
    ·rename_i tk tz id htk htz hm
     split at hs
     ·rename_i kk c xs hole hmo
      split at hs
      ·rename_i key hkey
       replace hs:=bvT hs
       obtain⟨hb,hs⟩:=hs
       simp only[QQ]at hb
       obtain⟨⟨⟨hwd,hdk⟩,hka⟩,hz⟩:=hb
       have gen:∀av,((∃q,hole=some q∧Eb (Qo0 c (Qh S.flat.mem q.2))=true∧eqK kk key q.1=true∧av=avC c q.2)∨(hole=none∧(∃k v,c=.mp k v)∧Qg key xs=none∧av=.nm))→k (S.put d [] av)=some r→wpList P ops Q (o::rest) a w:=by
        intro av hav hk
        refine Jix hX hr h hw hd hwd (x:=av) (fun {β ρ ok a w} h hc=>?_) hk H
        obtain⟨c1,h1,h2⟩:=h.ev hc hm
        have h2':c1=[.map (some (β id))]:=h2
        subst h2'
        have h1':a.eval m=.map (some (β id)):=h1
        have hke:=Jjc h hc hkv hkey hdk hka
        obtain⟨ys,⟨es,clock,hg,hp,_⟩,hrel,_,_,_,habs⟩:=h.mm _ _ hmo
        obtain⟨v,hrun,hv,_⟩:=Qr0 hT hte htd htk htz hdk hg hp key (z:=tz.z) ⟨[tz.z],⟨rfl,by rw[Qwx hz]; exact Jja⟩,rfl⟩ false
        obtain⟨cs0,⟨e0,_⟩,hv⟩:=hv
        have hv:v=(Qg key ys).getD tz.z:=by rw[hv,e0]; rfl
        obtain⟨cs,q1,q2⟩:=Jjb (R:=R) h.mm (Jf hdk) hrel habs hz hav
        refine⟨cs,?_,q2⟩
        unfold execOp
        rw[hop]
        simp only[h1',hke]
        simp only[JG,if_false]at hrun
        simp[hrun,hv,q1]
       unfold Q8q at hs
       split at hs
       ·rename_i q
        replace hs:=bvT hs
        obtain⟨hq,hs⟩:=hs
        obtain⟨_,hch,hk⟩:=Yq hs
        unfold chk at hch
        grind
       ·rename_i k2 v2 xs
        obtain⟨_,hch,hk⟩:=Yq hs
        unfold chk at hch
        exact gen _ (.inr ⟨rfl,⟨_,_,rfl⟩,Qhq (bvT hch).1,rfl⟩) hk
       ·cases hs
      ·cases hs
     grind [Qwv]
    ·rename_i tk tz htk htz hm
     split at hs
     ·rename_i kk v hkk hvv
      split at hs
      ·rename_i key za hkey hza
       split at hs
       ·rename_i z hz
        obtain⟨hb,hk⟩:=bvT hs
        simp only[QQ]at hb
        obtain⟨⟨⟨hwd,hdk⟩,hka⟩,hva⟩:=hb
        refine Jix hX hr h hw hd hwd (x:=.d v z) (fun {β ρ ok a w} h hc=>?_) hk H
        obtain⟨c1,h1,h2⟩:=h.ev hc hm
        have h2':c1=[.map none]:=h2
        subst h2'
        have h1':a.eval m=.map none:=h1
        have hke:=Jjc h hc hkv hkey hdk hka
        have hrun:=Qvf (w:=w) hT hte htd htk htz hdk key false
        refine⟨Qu tz.z,?_,K8 (M:=[]) (β:=β) (ρ:=ρ) (by simp[Qh]) hz (Dm hza)⟩
        have hvz:(AV.d v z).val (Qu tz.z)=tz.z:=by
         have:=Qne (bEq hva)
         grind [AV.val,AV.isAgg,RT.val,Dj]
        unfold execOp
        rw[hop]
        simp only[h1',hke,hvz]
        simp only[JG,if_false]at hrun
        simp[hrun]
       ·cases hs
      ·cases hs
     ·cases hs
    ·cases hs
   ·cases hs
  ·cases hs
 ·cases hs
end
end Gx

/- Calls. -/
namespace Gx
open Go Go.RowKit Gd
set_option linter.unusedVariables false
set_option linter.unusedSimpArgs false
def Q3z(c:Con)(β:Nat→Nat)(ρ:Nat→Value)(ok:Ok)(L:List Nat)(w:World)(x:c.Γ.De)(y:Qa6 c.Δ)(v:Value)(w':World):Prop :=
 ∃(β':Nat→Nat) (ρ':Nat→Value),agP (c.Γ.mem.map Prod.fst) β β' ρ ρ' ∧
  (∃cs,v=(Qa7 (Qh1 c.Δ y).env).val cs∧cr β' ρ' (Je (okL L ok) w.heap.size (fun _=>0) [] (Qj β' ρ' ((Qh1 c.Δ y).mem++roM c x)) w') w' false (Qa7 (Qh1 c.Δ y).env) cs) ∧
  (∀t∈Qj β' ρ' ((Qh1 c.Δ y).mem++roM c x),t.p (Je (okL L ok) w.heap.size (fun _=>0) [] (Qj β' ρ' ((Qh1 c.Δ y).mem++roM c x)) w') w'∧∀g,t.blks g→w.heap.size≤g∨g∈L) ∧
  (Qj β' ρ' ((Qh1 c.Δ y).mem++roM c x)).Pairwise fun s t=>∀g,s.blks g→¬ t.blks g
def Ud(gl:List (Nat×Σ t:Ty,t.De))(ok:Ok)(w:World):Prop :=
 ∀q∈gl,Qrj (rt q.2.1) ok w q.2.2 (.pointer (some ⟨q.1,0,none⟩))∧ok q.1 0∧∃cs t fz,w.heap[q.1]?=some (.cells cs t fz)∧cs.size=q.2.1.size
theorem Ud.keep{gl:List (Nat×Σ t:Ty,t.De)}{ok:Ok}{w w':World}(h:Ud gl ok w)(hs:w.heap.size≤w'.heap.size)(hb:∀b o,ok b o→w'.heap[b]?=w.heap[b]?):Ud gl ok w' :=
 fun q hq=>let⟨h1,h2,h3⟩:=h q hq; ⟨h1.evo (Evo.of_blocks hs hb),h2,by rw[hb _ _ h2]; exact h3⟩
theorem Ud.weak{gl:List (Nat×Σ t:Ty,t.De)}{ok ok':Ok}{w:World}(h:Ud gl ok w)(hk:∀b o,ok b o→ok' b o):Ud gl ok' w:=fun q hq=>let⟨h1,h2,h3⟩:=h q hq; ⟨h1.weak hk,hk _ _ h2,h3⟩
def okN(X:Cx):Ok:=fun b o=>X.ok b o∧b∉X.lent∧b<X.w.heap.size
theorem Oe{gl:List (Nat×Σ t:Ty,t.De)}{X:Cx}{β:Nat→Nat}{G:GL}{D:List DF}{O:List TL}{a:Act}{w:World}(h:Sb β X G D [] O a w)(hG:Ud gl (okN X) X.w):Ud gl (Je X.ok X.w.heap.size β [] O w) w:=by
 refine(hG.keep h.bel.size fun b o hk=>h.bel.block b hk.2.2 hk.2.1).weak fun b o hk=>⟨.inl hk.1,QB hk.2.2 h.bel.size,by simp,fun t ht hc=>?_⟩
 rcases(h.own t ht).2 b (t.cb hc)with h1 | h1
 ·have:=hk.2.2; omega
 ·exact hk.2.1 h1
def Qbb(P:Program)(gl:List (Nat×Σ t:Ty,t.De))(c:Con):Prop :=
 ∀(ok:Ok) (w:World) (L:List Nat) (β:Nat→Nat) (ρ:Nat→Value) (x:c.Γ.De) (y:Qa6 c.Δ) (vs:List Value),(∀b o,ok b o→b<w.heap.size)→Ud gl ok w→vs.length=c.Γ.env.length→Qk5 (Qj β ρ (enc c.Γ x).mem) L ok w →
  (∀e∈(enc c.Γ x).env,∃cs,vs[e.t]?=some (e.av.val cs)∧cr β ρ ok w false e.av cs)→c.fn x=some y→Calls P c.f ⟨vs⟩ w (Qy3 L w (Q3z c β ρ ok L w x y))
section
variable {β β':Nat→Nat} {ρ ρ':Nat→Value} {ok:Ok} {w:World}
theorem Qcr{g:Nat→Nat}:∀{m:Bool} {x:AV} {cs:List Value},(∀i∈Jb x,β' (g i)=β i∧ρ' (g i)=ρ i)→cr β ρ ok w m x cs→cr β' ρ' ok w m (Wd g x) cs
 | m,.d t x,cs,_,h=>by cases m<;>exact h
 | m,.p id path,cs,hn,h=>by
  have:=(hn id (.head _)).1
  cases m<;>(grind [cr,Wd])
 | m,.e id path,cs,hn,h=>by
  have:=(hn id (.head _)).2
  cases m<;>(grind [cr,Wd])
 | m,.s id,cs,hn,h=>by
  have:=(hn id (.head _)).2
  cases m<;>(grind [cr,Wd])
 | m,.m id,cs,hn,h=>by
  have:=(hn id (.head _)).1
  cases m<;>(grind [cr,Wd])
 | m,.b id,cs,hn,h=>by
  have:=(hn id (.head _)).1
  cases m<;>(grind [cr,Wd])
 | m,.w id _ _,cs,hn,h=>by
  have:=(hn id (.head _)).1
  cases m<;>(grind [cr,Wd])
 | m,.a t x,cs,_,h=>by cases m<;>exact h
 | m,.z,cs,_,h=>by cases m<;>exact h
 | m,.ns,cs,_,h=>by cases m<;>exact h
 | m,.np,cs,_,h=>by cases m<;>exact h
 | m,.nm,cs,_,h=>by cases m<;>exact h
 | m,.nf,cs,_,h=>by cases m<;>exact h
 | m,.f fn caps,cs,hn,h=>by cases m<;>exact let⟨vs,h1,h2⟩:=h; ⟨vs,h1,Qcr (fun i hi=>hn i (by grind [Jb])) h2⟩
 | m,.ag l,cs,hn,h=>by cases m<;>exact Qcr (m:=false) (x:=l) (fun i hi=>hn i (by grind [Jb])) h
 | m,.tp l,cs,hn,h=>by cases m<;>exact let⟨vs,h1,h2⟩:=h; ⟨vs,h1,Qcr (fun i hi=>hn i (by grind [Jb])) h2⟩
 | m,.nil,cs,_,h=>by cases m<;>exact h
 | true,.cons x r,cs,hn,h=>by
  obtain⟨c1,vs,h1,h2,h3⟩:=h
  refine⟨c1,vs,?_,Qcr (fun i hi=>hn i (by simp[Jb,hi])) h2,Qcr (fun i hi=>hn i (by simp[Jb,hi])) h3⟩
  rw[h1]; cases x<;>rfl
 | false,.cons x r,cs,hn,h=>by
  exact let⟨c1,vs,h1,h2,h3⟩:=h; ⟨c1,vs,h1,Qcr (fun i hi=>hn i (by simp[Jb,hi])) h2,Qcr (fun i hi=>hn i (by simp[Jb,hi])) h3⟩
theorem Jof(g:Nat→Nat)(x:AV)(cs:List Value):(Wd g x).val cs=x.val cs:=by cases x<;>rfl
theorem Qzv{g:Nat→Nat}:∀{l:List (Nat×Ob)},(∀i∈Jc l,β' (g i)=β i∧ρ' (g i)=ρ i)→Wn (Qj β ρ l) (Qj β' ρ' (Wm g l))
 | [],_=>.nil
 | (id,o)::l,h=>by
  have h1:=h id (by
   cases o with
   | mapC k v xs hole=>cases hole<;>simp[Jc]
   | _=>simp[Jc])
  refine .cons ?_ (Qzv fun i hi=>h i (by
   cases o with
   | mapC k v xs hole=>cases hole<;>simp[Jc,hi]
   | _=>simp[Jc,hi]))
  cases o with
  | var t c =>
   refine⟨fun b=>by grind [Qv,Qfc,Qli],fun b o=>by grind [Qv,Qfc,Qli],fun ok w hp=>?_⟩
   obtain⟨cs,hh,hc⟩:=hp
   exact⟨cs,by rw[h1.1]; exact hh,Qcr (fun i hi=>h i (by simp[Jc,hi])) hc⟩
  | row e t xs=>grind [Qv,Qli,Gp.refl]
  | tail e t xs=>grind [Qv,Qli,Gp.refl]
  | map k v xs=>grind [Qv,Qli,Gp.refl]
  | mapC k v xs hole =>
   cases hole with
   | none=>simp_all [Qv,Qli,Ol,Gp.refl]
   | some q =>
    have h2:=h q.2 (by simp[Jc])
    cases v<;>(grind [Qv,Qli,Ol,Q2x,Gp.refl])
  | mapE k v xs key j=>grind [Qv,Qli,Jc,Gp.refl]
theorem Qwy{l:List (Nat×Ob)}(h:∀i∈Jc l,β' i=β i∧ρ' i=ρ i):Wn (Qj β ρ l) (Qj β' ρ' l):=by
 have:=Qzv (g:=id) (β':=β') (ρ':=ρ') h
 have e:Wm id l=l:=by
  have hav:∀x:AV,Wd id x=x:=by intro x; induction x<;>simp_all [Wd]
  have:∀q:Nat×Ob,(id q.1,Qli id q.2)=q:=by intro q; obtain⟨i,o⟩:=q; cases o with
   | mapC k v xs hole=>cases hole<;>simp[Qli]
   | _=>simp[Qli,hav]
  simp_all [Wm,List.map_congr_left]
 rw[e]at this
 exact this
end
theorem Qbc{c t:Nat}(hne:t≠c):∀M:List (Nat×Ob),Qh (J4 M t) c=Qh M c
 | []=>rfl
 | q::l=>by
  simp only[J4,Qh]
  cases hb:Nat.beq q.1 t with
  | true =>
   have h1:=Nat.eq_of_beq_eq_true hb
   grind [Nat.beq,absurd,Nat.eq_of_beq_eq_true]
  | false =>
   simp only[cond_false,Qh,Qbc hne l]
theorem Kz:∀(ids:List Nat) (M:List (Nat×Ob)),((Jp M ids).2++(Jp M ids).1).Perm M
 | [],M=>by simp[Jp]
 | t::ts,M=>by
  simp only[Jp]
  split
  ·rename_i o ho
   obtain⟨l1,l2,h1,_,h3⟩:=Jn ho
   have:=Kz ts (J4 M t)
   simp only[QA]
   refine(List.Perm.cons _ this).trans ?_
   rw[h3,h1]
   exact List.perm_middle.symm
  ·exact Kz ts M
theorem Qcs:∀{ids:List Nat} {M:List (Nat×Ob)} {c:Nat} {o:Ob},ids.Nodup→c∈ids→Qh M c=some o→(c,o)∈(Jp M ids).2
 | t::ts,M,c,o,hn,hc,ho=>by
  have hn':=QN.1 hn
  simp only[Jp]
  rcases QJ.1 hc with rfl | hc
  ·rw[ho]; exact .head _
  ·have hne:t≠c:=fun e=>hn'.1 (e▸hc)
   split
   ·exact .tail _ (Qcs hn'.2 hc (by rw[Qbc hne]; exact ho))
   ·exact Qcs hn'.2 hc ho
theorem Qct:∀{ids:List Nat} {M:List (Nat×Ob)},ids.Nodup→∀q∈(Jp M ids).2,q.1∈ids∧Qh M q.1=some q.2
 | [],M,_,q,hq=>by simp[Jp]at hq
 | t::ts,M,hn,q,hq=>by
  have hn':=QN.1 hn
  simp only[Jp]at hq
  split at hq
  ·rename_i o ho
   rcases QJ.1 hq with rfl | hq
   ·grind
   ·obtain⟨h1,h2⟩:=Qct hn'.2 q hq
    grind [Qbc]
  ·obtain⟨h1,h2⟩:=Qct hn'.2 q hq
   grind
theorem Qns:∀{Γe:List (Nat×Sk)} {l:List DV},∀e∈(L8 Γe l).1,e.cs=[]
 | [],l,e,he=>by simp[L8]at he
 | (t,s)::g,l,e,he=>by
  simp only[L8]at he
  rcases QJ.1 he with rfl | he
  ·rfl
  ·exact Qns e he
theorem Sl{ri:List (Nat×Nat)}:∀{Γm:List (Nat×SkO)} {id c:Nat},id∈Γm.map Prod.fst→Jv ri id=some c→c∈Ye ri Γm
 | (k,s)::l,id,c,h,hc=>by
  simp only[Ye]
  rcases QJ.1 h with e | h
  ·grind
  ·split
   ·exact .tail _ (Sl h hc)
   ·exact Sl h hc
theorem Ax{ri:List (Nat×Nat)}:∀{Γm:List (Nat×SkO)} {c:Nat},c∈Ye ri Γm→∃id∈Γm.map Prod.fst,Jv ri id=some c
 | (k,s)::l,c,h=>by
  simp only[Ye]at h
  split at h
  ·rename_i x hx
   rcases QJ.1 h with rfl | h
   ·grind
   ·obtain⟨id,h1,h2⟩:=Ax h; grind
  ·obtain⟨id,h1,h2⟩:=Ax h; grind
theorem Ii{ri:List (Nat×Nat)}:∀{Γm:List (Nat×SkO)} {cs:List Nat},Bl ri Γm cs=true→(Ye ri Γm).Nodup∧∀c∈Ye ri Γm,c∉cs
 | [],_,_=>⟨.nil,by simp[Ye]⟩
 | (id,s)::l,cs,h=>by
  simp only[Bl]at h
  simp only[Ye]
  split at h
  ·rename_i c hc
   simp only[QQ]at h
   obtain⟨h1,h2⟩:=Ii h.2
   refine⟨QN.2 ⟨fun hm=>h2 c hm (.head _),h1⟩,fun x hx=>?_⟩
   rcases QJ.1 hx with rfl | hx
   ·grind [Kw]
   grind
  ·exact Ii h
theorem Ty.cast_self(t:Ty)(x:t.De):Ty.cast t t x=some x:=by
 simp[Ty.cast,dif_pos,Ty.beq_refl]
theorem Qbd{M:List (Nat×Ob)}{ri:List (Nat×Nat)}{pr:List Nat}{g:Nat→Nat}(hg:∀i c,Jv ri i=some c→g i=c):∀{sk:Sk} {x:AV} {l:List DV} (rest:List DV),Uv M ri pr sk x=some l→∃y,Ov sk (l++rest)=(y,rest)∧(Qjt sk x=true→Wd g y=x)
 | .d t,x,l,rest,h=>by
  simp only[Uv]at h
  split at h
  ·rename_i z0 hz
   obtain⟨_,h⟩:=bvT h
   simp only[Option.some.injEq]at h
   subst h
   refine⟨.d t z0,rfl,fun hs=>?_⟩
   cases x<;>first | (cases hs; done) | skip
   rename_i t' x'
   simp only[asD]at hz
   obtain⟨e,h2⟩:=Ty.cast_ok hz
   subst e; subst h2
   rfl
  ·cases h
 | .p id path,x,l,rest,h=>by
  cases x<;>simp only[Uv]at h<;>first | (cases h; done) | skip
  rename_i c path'
  obtain⟨hb,h⟩:=bvT h
  simp only[QQ]at hb
  simp only[Option.some.injEq]at h
  subst h
  exact⟨.p id path,rfl,fun _=>by simp only[Wd]; rw[hg _ _ (Qhp hb.1),Qnn hb.2]⟩
 | .s id,x,l,rest,h=>by
  cases x<;>simp only[Uv]at h<;>first | (cases h; done) | skip
  ·rename_i c
   obtain⟨hb,h⟩:=bvT h
   simp only[QQ]at hb
   simp only[Option.some.injEq]at h
   subst h
   exact⟨.s id,rfl,fun _=>by simp only[Wd]; rw[hg _ _ (Qhp hb.1)]⟩
  ·obtain⟨hb,h⟩:=bvT h
   simp only[Option.some.injEq]at h
   subst h
   exact⟨.s id,rfl,fun hs=>by cases hs⟩
 | .m id,x,l,rest,h=>by
  cases x<;>simp only[Uv]at h<;>first | (cases h; done) | skip
  rename_i c
  obtain⟨hb,h⟩:=bvT h
  simp only[Option.some.injEq]at h
  subst h
  exact⟨.m id,rfl,fun _=>by simp only[Wd]; rw[hg _ _ (Qhp hb)]⟩
 | .ns,x,l,rest,h=>by
  cases x<;>simp only[Uv]at h<;>first | (cases h; done) | skip
  simp only[Option.some.injEq]at h; subst h; exact⟨_,rfl,fun _=>rfl⟩
 | .np,x,l,rest,h=>by
  cases x<;>simp only[Uv]at h<;>first | (cases h; done) | skip
  simp only[Option.some.injEq]at h; subst h; exact⟨_,rfl,fun _=>rfl⟩
 | .nm,x,l,rest,h=>by
  cases x<;>simp only[Uv]at h<;>first | (cases h; done) | skip
  simp only[Option.some.injEq]at h; subst h; exact⟨_,rfl,fun _=>rfl⟩
 | .nf,x,l,rest,h=>by
  cases x<;>simp only[Uv]at h<;>first | (cases h; done) | skip
  simp only[Option.some.injEq]at h; subst h; exact⟨_,rfl,fun _=>rfl⟩
 | .z,x,l,rest,h=>by
  cases x<;>simp only[Uv]at h<;>first | (cases h; done) | skip
  simp only[Option.some.injEq]at h; subst h; exact⟨_,rfl,fun _=>rfl⟩
 | .nil,x,l,rest,h=>by
  cases x<;>simp only[Uv]at h<;>first | (cases h; done) | skip
  simp only[Option.some.injEq]at h; subst h; exact⟨_,rfl,fun _=>rfl⟩
 | .f fn c,x,l,rest,h=>by
  cases x<;>simp only[Uv]at h<;>first | (cases h; done) | skip
  rename_i fn' x'
  obtain⟨hb,h⟩:=bvT h
  simp only[QQ]at hb
  obtain⟨y,h1,h2⟩:=Qbd hg rest h
  refine⟨.f fn y,by grind [Ov],fun hs=>?_⟩
  simp only[Wd]
  rw[h2 hs,Nat.eq_of_beq_eq_true hb.1]
 | .ag l',x,l,rest,h=>by
  simp only[Uv]at h
  split at h
  ·rename_i y hy
   obtain⟨z0,h1,h2⟩:=Qbd hg rest h
   refine⟨.ag z0,by grind [Ov],fun hs=>?_⟩
   cases x<;>first | (cases hs; done) | skip
   simp only[Qcn,Option.some.injEq]at hy
   subst hy
   simp only[Wd]
   rw[h2 hs]
  ·cases h
 | .cons a b,x,l,rest,h=>by
  cases x<;>simp only[Uv]at h<;>first | (cases h; done) | skip
  split at h
  ·rename_i u v hu hv
   simp only[Option.some.injEq]at h
   subst h
   obtain⟨y1,p1,p2⟩:=Qbd hg (v++rest) hu
   obtain⟨y2,q1,q2⟩:=Qbd hg rest hv
   simp_all [Ov,List.append_assoc,Qjt,QQ,Wd]
  ·cases h
theorem Jjd{M:List (Nat×Ob)}{ri:List (Nat×Nat)}{pr:List Nat}{g:Nat→Nat}(hg:∀i c,Jv ri i=some c→g i=c){s:SkO}{o:Option Ob}{l:List DV}(rest:List DV)(h:Qa5 M ri pr s o=some l):∃ob',L7 s (l++rest)=some (ob',rest)∧∀ob,o=some ob→Jps s ob=true→Qli g ob'=ob:=by
 have cs:∀{t:Ty} {x:t.De},Ty.cast t t x=some x:=fun {t x}=>Ty.cast_self t x
 cases s with
 | var tid c =>
  cases o with
  | none=>cases h
  | some ob =>
   cases ob<;>simp only[Qa5]at h<;>first | (cases h; done) | skip
   obtain⟨hb,h'⟩:=bvT h
   obtain⟨y,h1,h2⟩:=Qbd hg rest h'
   refine⟨.var tid y,by grind [L7],fun ob he hs=>?_⟩
   injection he with he; subst he
   simp only[Qli]
   rw[h2 hs,Nat.eq_of_beq_eq_true hb]
 | row e t =>
  cases o with
  | none =>
   simp only[Qa5,Option.some.injEq]at h
   subst h
   simp_all [L7,QA,QF]
  | some ob =>
   cases ob<;>simp only[Qa5]at h<;>first | (cases h; done) | skip
   rename_i e' t' xs
   obtain⟨hb,h'⟩:=bvT h
   simp only[QQ]at hb
   have e1:=Nat.eq_of_beq_eq_true hb.1
   have e2:=Ty.beq_eq hb.2
   clear h hb
   subst e1; subst e2
   injection h' with h'
   subst h'
   refine⟨.row e t xs,by grind [L7],fun ob he hs=>?_⟩
   injection he
 | tail e t =>
  cases o with
  | none =>
   simp only[Qa5,Option.some.injEq]at h
   subst h
   simp_all [L7,QA,QF]
  | some ob =>
   cases ob<;>simp only[Qa5]at h<;>first | (cases h; done) | skip
   rename_i e' t' xs
   obtain⟨hb,h'⟩:=bvT h
   simp only[QQ]at hb
   have e1:=Nat.eq_of_beq_eq_true hb.1
   have e2:=Ty.beq_eq hb.2
   clear h hb
   subst e1; subst e2
   injection h' with h'
   subst h'
   refine⟨.tail e t xs,by grind [L7],fun ob he hs=>?_⟩
   injection he
 | map k u =>
  cases o with
  | none=>cases h
  | some ob =>
   cases ob<;>simp only[Qa5]at h<;>first | (cases h; done) | skip
   rename_i k' u' xs
   obtain⟨hb,h'⟩:=bvT h
   simp only[QQ]at hb
   have e1:=Ty.beq_eq hb.1
   have e2:=Ty.beq_eq hb.2
   clear h hb
   subst e1; subst e2
   injection h' with h'
   subst h'
   refine⟨.map k u xs,by grind [L7],fun ob he hs=>?_⟩
   injection he
 | mapC k u =>
  cases o with
  | none=>cases h
  | some ob =>
   cases ob<;>simp only[Qa5]at h<;>first | (cases h; done) | skip
   rename_i k' u' xs hole
   obtain⟨hb,h'⟩:=bvT h
   simp only[QQ]at hb
   have e1:=Ty.beq_eq hb.1.1
   have e2:=CK.beq_eq hb.1.2
   clear h
   subst e1; subst e2
   injection h' with h'
   subst h'
   exact⟨.mapC k u xs none,by grind [L7],fun ob he hs=>by cases ob<;>cases hs⟩
theorem Q30{ro:List Nat}{id:Nat}{s:SkO}{G:List (Nat×SkO)}:rdG ro ((id,s)::G)=bif Yj ro id then(id,s)::rdG ro G else rdG ro G:=by
 grind [rdG,Yj,id]
theorem Jje{ro:List Nat}{id:Nat}{s:Ob}{G:List (Nat×Ob)}:rdM ro ((id,s)::G)=bif Yj ro id then(id,s)::rdM ro G else rdM ro G:=by
 grind [rdM,Yj,id]
theorem Qwz{id:Nat}{ob:Ob}:Kv id (some ob)=some (id,ob):=rfl
theorem Qzw{M:List (Nat×Ob)}{ri:List (Nat×Nat)}{pr ro:List Nat}{g:Nat→Nat}(hg:∀i c,Jv ri i=some c→g i=c):∀{Γm:List (Nat×SkO)} {l:List DV},Tm M [] ri pr Γm=some l→Qwh ri M (rdG ro Γm)=true →
  Wm g (rdM ro (Zu Γm l))=(Ye ri (rdG ro Γm)).filterMap fun t=>Kv t (Qh M t)
 | [],l,h,hs=>by simp only[Tm,Option.some.injEq]at h; subst h; rfl
 | (id,s)::G,l,h,hs=>by
  simp only[Tm]at h
  split at h
  ·rename_i o ho
   split at h
   ·rename_i u v hu hv
    simp only[Option.some.injEq]at h
    subst h
    obtain⟨ob',h1,h2⟩:=Jjd hg v hu
    simp only[Zu,h1]
    rw[Jje,Q30]
    rw[Q30]at hs
    cases hm:Yj ro id with
    | false =>
     rw[hm]at hs
     exact Qzw hg hv hs
    | true =>
     rw[hm]at hs
     simp only[cond_true,Qwh,QQ]at hs ⊢
     obtain⟨hs1,hs2⟩:=hs
     split at hs1
     ·rename_i c hc
      split at hs1
      ·rename_i ob hob
       have ho':o=some ob:=by
        grind [Jbg,Option.some.injEq]
       have ih:=Qzw hg hv hs2
       grind [Wm,Ye,Qwz]
      ·cases hs1
     ·cases hs1
   ·cases h
  ·cases h
theorem Qcu{c:Nat}:∀{ts:List Nat} {M:List (Nat×Ob)},c∉ts→Qh (Jp M ts).1 c=Qh M c
 | [],M,_=>rfl
 | t::ts,M,h=>by
  have h1:t≠c:=fun e=>h (e▸.head _)
  have h2:c∉ts:=fun hm=>h (.tail _ hm)
  simp only[Jp]
  split
  ·rw[Qcu h2,Qbc h1]
  ·exact Qcu h2
theorem Js2{α β:Type}{f g:α→Option β}:∀{l:List α},(∀x∈l,f x=g x)→l.filterMap f=l.filterMap g
 | [],_=>rfl
 | x::l,h=>by
  simp only[JA]
  rw[h x (.head _),Js2 fun y hy=>h y (.tail _ hy)]
theorem Tr:∀{ids:List Nat} {M:List (Nat×Ob)},ids.Nodup→(Jp M ids).2=ids.filterMap fun t=>Kv t (Qh M t)
 | [],M,_=>rfl
 | t::ts,M,hn=>by
  have hn':=QN.1 hn
  simp only[Jp]
  split
  ·rename_i o ho
   simp only[JA,ho,Qwz]
   rw[Tr hn'.2]
   refine congrArg _ (Js2 fun x hx=>?_)
   rw[Qbc (c:=x) (t:=t) fun e=>hn'.1 (by rw[e]; exact hx)]
  ·rename_i ho
   simp only[JA,ho,Kv]
   exact Tr hn'.2
theorem Qfo{ri:List (Nat×Nat)}:∀{l:List (Nat×SkO)} {cs cs':List Nat},(∀x∈cs',x∈cs)→Bl ri l cs=true→Bl ri l cs'=true
 | [],cs,cs',_,_=>rfl
 | (id,s)::l,cs,cs',hc,h=>by
  simp only[Bl]at h ⊢
  split at h
  ·rename_i c hcc
   simp only[QQ]at h ⊢
   refine⟨?_,Qfo (fun x hx=>?_) h.2⟩
   ·grind [Yj,Kw]
   grind
  ·exact Qfo hc h
theorem Gl{ri:List (Nat×Nat)}{p:Nat×SkO→Bool}:∀{l:List (Nat×SkO)} {cs:List Nat},Bl ri l cs=true→Bl ri (l.filter p) cs=true
 | [],cs,_=>rfl
 | (id,s)::l,cs,h=>by
  simp only[Bl]at h
  cases hp:p (id,s)with
  | true =>
   rw[XA,if_pos hp]
   simp only[Bl]
   split at h
   ·rename_i c hcc
    simp only[QQ]at h ⊢
    exact⟨h.1,Gl h.2⟩
   ·exact Gl h
  | false =>
   rw[XA,if_neg (by rw[hp]; simp)]
   split at h
   ·simp only[QQ]at h
    exact Gl (Qfo (fun x hx=>.tail _ hx) h.2)
   ·exact Gl h
theorem Qsw:∀{l:List (Nat×Ob)} {i:Nat},i∈Jc l↔∃q∈l,i∈Jc [q]
 | [],i=>by simp[Jc]
 | q::l,i=>by
  have ih:=Qsw (l:=l) (i:=i)
  have h:Jc (q::l)=Jc [q]++Jc l:=by
   obtain⟨k,o⟩:=q
   cases o with
   | mapC k1 v xs hole=>cases hole<;>simp[Jc]
   | _=>simp[Jc]
  rw[h,QX,ih]
  grind
theorem Je9{l m:List (Nat×Ob)}(h:∀q∈l,q∈m){i:Nat}(hi:i∈Jc l):i∈Jc m:=let⟨q,h1,h2⟩:=Qsw.1 hi; Qsw.2 ⟨q,h q h1,h2⟩
theorem Jfa{l m:List Nat}(h:Hh l m=true){i:Nat}(hi:i∈m):i∈l:=by
 induction m with
 | nil=>cases hi
 | cons x m ih =>
  simp only[Hh,QQ]at h
  rcases QJ.1 hi with rfl | hi
  ·exact Kw.1 h.1
  ·exact ih h.2 hi
theorem Ju6{M:List (Nat×Ob)}{c:Nat}(h:c∈V0 M):∃ob,Qh M c=some ob:=by
 induction M with
 | nil=>cases h
 | cons q l ih =>
  simp only[Qh]
  cases hb:Nat.beq q.1 c with
  | true=>exact⟨_,rfl⟩
  | false =>
   simp only[cond_false]
   refine ih ?_
   rcases QJ.1 h with e | h
   ·rw[e,Nat.beq_refl]at hb; cases hb
   ·exact h
theorem Qsx{l m:List (Nat×Ob)}{c:Nat}(h:Qh l c=none):Qh (l++m) c=Qh m c:=by
 induction l with
 | nil=>rfl
 | cons q l ih =>
  grind [Qh,Nat.beq]
theorem Qlr{ks:List Nat}:∀{M:List (Nat×Ob)},V0 (Vp ks M)=V0 M
 | []=>rfl
 | (id,o)::l=>by
  cases o<;>simp only[Vp,V0,QT]<;>rw[show(Vp ks l).map Prod.fst=l.map Prod.fst from Qlr]
  cases(Yj ks id&&Nat.ble 1 _)<;>rfl
theorem Qw0{ri:List (Nat×Nat)}{M:List (Nat×Ob)}:∀{l:List (Nat×SkO)},Qwh ri M l=true→∀id∈l.map Prod.fst,∃cc,Jv ri id=some cc
 | (i,s)::l,h,id,hid=>by
  simp only[Qwh,QQ]at h
  rcases QJ.1 hid with e | hid
  ·grind
  ·exact Qw0 h.2 id hid
def Qzx(β:Nat→Nat)(ρ:Nat→Value):Nat×Ob→List Nat
 | (id,.var _ _)=>[β id]
 | (id,.map _ _ _)=>[β id]
 | (id,.mapC _ _ _ _)=>β id::(Qcj (ρ id)).flatMap fun v=>(Xi v).toList
 | (id,.mapE _ _ _ _ _)=>[β id]
 | (id,_)=>Jsj (ρ id)
theorem Jjf{β:Nat→Nat}{ρ:Nat→Value}{q:Nat×Ob}{g:Nat}:g∈Qzx β ρ q↔(Qv β ρ q.1 q.2).blks g:=by
 obtain⟨id,o⟩:=q
 cases o with
 | var t c=>simp[Qzx,Qv,Qfc]
 | row e t xs=>simp[Qzx,Q2s,Qv,ml]
 | tail e t xs=>simp[Qzx,Q2s,Qv,Qfd]
 | map k v xs=>simp[Qzx,Qv,Co]
 | mapC k v xs hole=>simp only[Qzx,Qv,Jh7,QJ,List.mem_flatMap,Option.mem_toList,Option.mem_def]
 | mapE k9 v9 xs9 key j=>simp[Qzx,Qv,Jh8]
def Qq3:Ob→Bool
 | .tail _ _ _=>true
 | _=>false
theorem Q31{β:Nat→Nat}{ρ:Nat→Value}{id:Nat}{o:Ob}(h:Qq3 o=false){b:Nat}(f:Nat)(hb:(Qv β ρ id o).blks b):(Qv β ρ id o).cov b f:=by
 cases o with
 | tail e t xs=>cases h
 | var t c=>exact hb
 | row e t xs=>exact hb
 | map k v xs=>exact hb
 | mapC k v xs hole=>exact hb
 | mapE k9 v9 xs9 key j=>exact hb
theorem Qo5{M F:List (Nat×Ob)}{ri:List (Nat×Nat)}{pr:List Nat}:∀{Γm:List (Nat×SkO)} {l:List DV},Qnm Γm=true→Tm M F ri pr Γm=some l→∀q∈Γm,∀c ob,Jv ri q.1=some c→Qh M c=some ob→Qq3 ob=false
 | (id,s)::g,l,hn,h,q,hq,c,ob,hc,hob=>by
  simp only[Tm]at h
  split at h
  ·rename_i o ho
   split at h
   ·rename_i u v hu hv
    have hn':Qnm g=true:=by cases s<;>simp_all [Qnm]
    rcases QJ.1 hq with rfl | hq
    ·simp only[Jbg,hc,hob]at ho
     simp at ho; subst ho
     cases s<;>cases ob<;>simp_all [Qa5,Qnm,Qq3]
    ·exact Qo5 hn' hv q hq c ob hc hob
   ·cases h
  ·cases h
section
variable {P:Program} {Y:TX} {X:Cx} {S:XS} {β β':Nat→Nat} {ρ ρ':Nat→Value} {a a':Act} {w w':World} {n:Nat}
variable {ops:Array Oper} {Q:Exit→Act→World→Prop} {rest:List Oper} {R:Type} {k:XS→Option R} {r:R}
theorem Jbs(h:Rel X β ρ S.flat a w):∀{xs:List Operand} {i:Nat} {es:List En} (pre:List Value),pre.length=i→Q3g S xs i=some es →
  es.length=xs.length∧∀e∈es,(enD β ρ ⟨(pre++xs.map a.eval).toArray,[]⟩ e).p (okR X β ρ S.flat.mem w) w
 | [],i,es,pre,_,he=>by simp[Q3g]at he; subst he; exact⟨rfl,by simp⟩
 | x::xs,i,es,pre,hi,he=>by
  simp only[Q3g]at he
  split at he
  ·rename_i v r hv hr
   obtain⟨hbi,he⟩:=bvT he
   simp at he; subst he
   obtain⟨cs,h1,h2⟩:=h.ev (Qf a) hv
   obtain⟨h3,h4⟩:=Jbs h (xs:=xs) (i:=i+1) (pre++[a.eval x]) (by simp[hi]) hr
   refine⟨by simp[h3],fun e hm=>?_⟩
   have hl:pre++[a.eval x]++xs.map a.eval=pre++(x::xs).map a.eval:=by simp
   rw[hl]at h4
   rcases QJ.1 hm with rfl | hm
   ·refine⟨fun _=>⟨cs,?_,h2⟩,.inl (Qf _)⟩
    rw[Om hbi]
    grind
   ·exact h4 e hm
  ·cases he
theorem Jbt{S:XS}:∀{xs:List Operand} {i:Nat} {es:List En},Q3g S xs i=some es→∀e∈es,e.cs=[]
 | [],i,es,he=>by grind [Q3g]
 | x::xs,i,es,he=>by
  simp only[Q3g]at he
  split at he
  ·rename_i v r hv hr
   obtain⟨_,he⟩:=bvT he
   simp at he; subst he
   intro e hm
   rcases QJ.1 hm with rfl | hm
   ·rfl
   ·exact Jbt hr e hm
  ·cases he
theorem Jbu{ok:Ok}{w:World}:∀{x:AV} {i:Nat} {cs:List En} {vs:List Value} (pre:List Value),pre.length=i→Jin x i=some cs→cr β ρ ok w true x vs →
  cs.length=vs.length∧(∀e∈cs,e.cs=[])∧∀e∈cs,(enD β ρ ⟨(pre++vs).toArray,[]⟩ e).p ok w
 | .nil,i,cs,vs,pre,_,he,h=>by
  simp[Jin]at he; subst he
  have:vs=[]:=h
  grind
 | .cons y r,i,cs,vs,pre,hi,he,h=>by
  simp only[Jin]at he
  split at he
  ·rename_i l hl
   obtain⟨hbi,he⟩:=bvT he
   simp at he; subst he
   obtain⟨c1,vs',rfl,h1,h2⟩:=h
   obtain⟨h3,h4,h5⟩:=Jbu (pre++[y.val c1]) (by simp[hi]) hl h2
   refine⟨by simp[h3],fun e hm=>?_,fun e hm=>?_⟩
   ·grind
   ·rcases QJ.1 hm with rfl | hm
    ·refine⟨fun _=>⟨c1,?_,h1⟩,.inl (Qf _)⟩
     rw[Om hbi]
     grind
    grind
  ·cases he
theorem Js3{ok:Ok}{w:World}{l post:List Value}{e:En}(hc:e.cs=[])(h:(enD β ρ ⟨l.toArray,[]⟩ e).p ok w):(enD β ρ ⟨(l++post).toArray,[]⟩ e).p ok w:=by
 obtain⟨cs,h1,h2⟩:=h.1 (by rw[hc]; exact Qf _)
 refine⟨fun _=>⟨cs,?_,h2⟩,.inl (by rw[hc]; exact Qf _)⟩
 unfold rd at h1 ⊢
 grind
theorem Q32{ri:List (Nat×Nat)}{d:Nat}{Γk:List Nat}{S:XS}{M:List (Nat×Ob)}:∀{l:List Nat},Jbi ri d Γk S M l=true→∀j∈l,(∃c,Jv ri j=some c∧Jq ri d j=c∧j∈Γk) ∨
  (Jv ri j=none∧Jy (Jq ri d j) M=true∧Jy (Jq ri d j) S.fixM=true∧Qfk (Jq ri d j) S.fix=true∧Qfk (Jq ri d j) S.env=true∧Yj S.prot (Jq ri d j)=false∧j∉Γk)
 | i::l,h,j,hj=>by
  simp only[Jbi,QQ]at h
  rcases QJ.1 hj with rfl | hj
  ·have h1:=h.1
   cases hl:Jv ri j with
   | some c =>
    rw[hl]at h1
    simp only[Eb,cond_true]at h1
    exact .inl ⟨c,rfl,by simp only[Jq,hl],Kw.1 h1⟩
   | none =>
    rw[hl]at h1
    simp only[Eb,cond_false,QQ]at h1
    obtain⟨⟨⟨⟨⟨a1,a2⟩,a3⟩,a4⟩,a5⟩,a6⟩:=h1
    refine .inr ⟨rfl,a1,a2,a3,a4,by simpa using a5,fun hm=>?_⟩
    rw[Kw.2 hm]at a6; cases a6
  ·exact Q32 h.2 j hj
theorem Ay{ks:List Nat}:∀{l:List Nat},Hh ks l=true→∀i∈l,i∈ks
 | x::l,h,i,hi=>by
  simp only[Hh,QQ]at h
  rcases QJ.1 hi with rfl | hi
  ·exact Kw.1 h.1
  ·exact Ay h.2 i hi
theorem Qbe:∀{l:List Nat},Ow l=true→l.Nodup
 | [],_=>.nil
 | x::l,h=>by
  simp only[Ow,QQ]at h
  refine QN.2 ⟨fun hm=>?_,Qbe h.2⟩
  have:=h.1
  rw[Kw.2 hm]at this; cases this
def backB(g:Nat→Nat)(ks:List Nat)(β2 β:Nat→Nat):Nat→Nat:=fun i=>match ks.find? fun j=>g j==i with
 | some j=>β2 j
 | none=>β i
def Oz(g:Nat→Nat)(ks:List Nat)(ρ2 ρ:Nat→Value):Nat→Value:=fun i=>match ks.find? fun j=>g j==i with
 | some j=>ρ2 j
 | none=>ρ i
theorem Q33{g:Nat→Nat}:∀{ks:List Nat},(ks.map g).Nodup→∀j∈ks,(ks.find? fun i=>g i==g j)=some j
 | x::l,hn,j,hj=>by
  have hn':=QN.1 (by simpa using hn:(g x::l.map g).Nodup)
  rcases QJ.1 hj with rfl | hj
  ·simp
  ·have hne:g x≠g j:=fun e=>hn'.1 (by rw[e]; grind)
   have:(g x==g j)=false:=by simpa using hne
   simp only[List.find?_cons,this]
   exact Q33 hn'.2 j hj
theorem Q34{l:List En}{e:En}(he:e∈l){i:Nat}(hi:i∈Jb e.av):i∈Tn l:=by
 induction l with
 | nil=>cases he
 | cons x l ih =>
  simp only[Tn,QX]
  grind
theorem O4{d:Nat}:∀{x:AV},Zv d x=true→d∉Jb x
 | .p id _,h=>by grind [id,Jb,Zv,Nat.beq_refl]
 | .e id _,h=>by grind [id,Jb,Zv,Nat.beq_refl]
 | .s id,h=>by grind [id,Jb,Zv,Nat.beq_refl]
 | .m id,h=>by grind [id,Jb,Zv,Nat.beq_refl]
 | .b id,h=>by grind [id,Jb,Zv,Nat.beq_refl]
 | .w id _ _,h=>by grind [id,Jb,Zv,Nat.beq_refl]
 | .f _ c,h=>by simp only[Zv]at h; simpa[Jb]using O4 h
 | .ag l,h=>by simp only[Zv]at h; simpa[Jb]using O4 h
 | .tp l,h=>by simp only[Zv]at h; simpa[Jb]using O4 h
 | .cons x r,h=>by
  simp only[Zv,QQ]at h
  simp only[Jb,QX,not_or]
  exact⟨O4 h.1,O4 h.2⟩
 | .d _ _,_=>by simp[Jb]
 | .a _ _,_=>by simp[Jb]
 | .z,_=>by simp[Jb]
 | .ns,_=>by simp[Jb]
 | .np,_=>by simp[Jb]
 | .nm,_=>by simp[Jb]
 | .nf,_=>by simp[Jb]
 | .nil,_=>by simp[Jb]
theorem Qsy{d:Nat}:∀{M:List (Nat×Ob)},Jy d M=true→d∉Jc M
 | [],_=>by simp[Jc]
 | (k,o)::l,h=>by
  have hq:=Gk h (k,o) (.head _)
  have hl:Jy d l=true:=by
   cases o with
   | mapC k1 v xs hole=>cases hole<;>simp only[Jy,QQ]at h<;>exact h.2
   | _=>simp_all [Jy,QQ]
  have ih:=Qsy hl
  cases o with
  | var t c =>
   have:=O4 hq.2
   simp only[Jc,QJ,QX,not_or]
   grind
  | mapC k1 v xs hole =>
   cases hole with
   | none =>
    simp only[Jc,QJ,not_or]
    grind
   | some q =>
    simp only[Jc,QJ,not_or]
    exact⟨fun e=>hq.1 e.symm,fun e=>hq.2 e.symm,ih⟩
  | mapE k1 v xs key j =>
   simp only[Jc,QJ,not_or]
   exact⟨fun e=>hq.1 e.symm,fun e=>hq.2 e.symm,ih⟩
  | _ =>
   simp only[Jc,QJ,not_or]
   grind
theorem Q35{β:Nat→Nat}{ρ:Nat→Value}{ok:Ok}{w:World}:∀{es:List En} {vs:List Value} {i:Nat},(∀(j:Nat) e,es[j]?=some e→∃cs,vs[j]?=some (e.av.val cs)∧cr β ρ ok w false e.av cs)→vs.length=es.length→cr β ρ ok w true (Qwi es) vs
 | [],vs,i,_,hl=>QE (by simpa using hl)
 | e::es,[],i,_,hl=>by simp at hl
 | e::es,v::vs,i,h,hl=>by
  obtain⟨cs,h1,h2⟩:=h 0 e rfl
  have h1':v=e.av.val cs:=by simpa using h1
  exact⟨cs,vs,by rw[h1'],h2,Q35 (i:=i) (fun j e' he=>by simpa using h (j+1) e' (by simpa using he)) (by simpa using hl)⟩
theorem Qsz:∀(es:List En),Jb (Qwi es)=Tn es
 | []=>rfl
 | e::es=>by simp only[Qwi,Jb,Tn,Qsz es]
theorem Jfb(es:List En):∀i∈Jb (Qa7 es),i∈Tn es:=by
 intro i hi
 unfold Qa7 at hi
 grind [Tn,Jb,Qsz]
theorem Qo6(hX:X.n=n)(hr:X.res=[])(h:Rel X β ρ S.flat a w){o:Oper}(hw:Region.wanted o (yielded ops a.tmps)=true){c:Con}(hc:Qbb P Y.gl c)(hG:Ud Y.gl (okN X) X.w)(hrun:Runs P c.f)(hs:Ku n c o S k=some r)(H:KOk P ops Q rest X S β ρ k r) :
  wpList P ops Q (o::rest) a w:=by
 unfold Ku at hs
 split at hs
 ·rename_i x0 xs ts d hop hd
  split at hs
  ·rename_i f caps hx0
   have hb:=(bvT hs).1
   replace hs:=(bvT hs).2
   simp only[QQ]at hb
   have hf:=Nat.eq_of_beq_eq_true hb.1
   obtain⟨hd1,hd2⟩:=Y2 hb.2 hX hr
   split at hs
   ·rename_i es0 cs0 hes0 hcs0
    obtain⟨cf,hf1,vc,hf2,hf3⟩:=h.ev (Qf a) hx0
    subst hf2
    replace hf1:a.eval x0=.func (.func f) #[] vc.toArray:=hf1
    obtain⟨el0,hE00⟩:=Jbs h [] rfl hes0
    simp only[QF]at hE00
    obtain⟨el1,_,hE01⟩:=Jbu (xs.map a.eval) (by simp) hcs0 hf3
    have el:(es0++cs0).length=(xs.map a.eval++vc).length:=by simp[el0,el1]
    have hE0:∀e∈es0++cs0,(enD β ρ ⟨(xs.map a.eval++vc).toArray,[]⟩ e).p (okR X β ρ S.flat.mem w) w:=by
     grind [Js3,Jbt]
    generalize es0++cs0=es at *
    generalize hri:Jpr c.Γ ⟨es,S.mem++S.fixM⟩=ri at hs
    unfold Ku.callE at hs
    split at hs
    ·rename_i x hx
     have hb2:=(bvT hs).1
     replace hs:=(bvT hs).2
     simp only[QQ]at hb2
     obtain⟨⟨⟨hb2n,hb2l⟩,hb2m⟩,hb2s⟩:=hb2
     have hlen:=Nat.eq_of_beq_eq_true hb2l
     obtain⟨y,hy,hs⟩:=Yq hs
     rw[Qq0]at hs
     unfold Ku.callR at hs
     have hb3:=(bvT hs).1
     replace hs:=(bvT hs).2
     simp only[QQ]at hb3
     obtain⟨⟨⟨n1,n2⟩,n3⟩,n4⟩:=hb3
     have h1:Rel X β ρ ⟨S.env++S.fix,frz c.Γ ri es S.mem++S.fixM⟩ a w:=by
      have:=Rel.freeze S.mem (l0:=[]) (F:=S.fixM) (ks:=Jik es c.Γ.env++Qzh S.mem ri c.Γ.mem) h
      simp only[QF]at this
      exact this
     have hM:∀id o,Qh ((frz c.Γ ri es S.mem++S.fixM)++[]) id=some o→(Qv β ρ id o).p (okR X β ρ (frz c.Γ ri es S.mem++S.fixM) w) w:=fun id o ho=>h1.mm id o (by rw[QH]at ho; exact ho)
     unfold Jn3 at hx
     obtain⟨hbx,hx⟩:=bvT hx
     simp only[QQ]at hbx
     obtain⟨⟨⟨b1,b2⟩,b3⟩,b4⟩:=hbx
     split at hx
     ·rename_i u v hu hv
      have hxl:=Qzo hx
      have hokk:∀b f,okR X β ρ S.flat.mem w b f→okR X β ρ (frz c.Γ ri es S.mem++S.fixM) w b f:=by
       rintro b f ⟨o1,o2,o3,o4⟩
       refine⟨o1,o2,o3,fun t' ht' hcv=>?_⟩
       obtain⟨q,hq,rfl⟩:=QZ.1 ht'
       have key:∀{l:List (Nat×Ob)} {ks:List Nat} {q:Nat×Ob},q∈Vp ks l→∃o',(q.1,o')∈l∧∀b f,(Qv β ρ q.1 q.2).cov b f→(Qv β ρ q.1 o').cov b f:=by
        intro l
        induction l with
        | nil=>intro ks q hq; cases hq
        | cons p l ih =>
         intro ks q hq
         obtain⟨id,ob⟩:=p
         have other:q∈Vp ks l→∃o',(q.1,o')∈(id,ob)::l∧∀b f,(Qv β ρ q.1 q.2).cov b f→(Qv β ρ q.1 o').cov b f:=fun hq=>let⟨o',p1,p2⟩:=ih hq; ⟨o',.tail _ p1,p2⟩
         cases ob with
         | row e t xs =>
          simp only[Vp]at hq
          rcases QJ.1 hq with e' | hq
          ·cases hbb:(Yj ks id&&Nat.ble 1 t.size)with
           | true =>
            rw[hbb]at e'; subst e'
            exact⟨.row e t xs,.head _,fun b f hcv=>hcv.1⟩
           | false =>
            rw[hbb]at e'; grind
          ·exact other hq
         | var t' c' =>
          grind [Vp]
         | tail e t xs =>
          grind [Vp]
         | map k' v' xs =>
          grind [Vp]
         | mapE k' v' xs key j =>
          grind [Vp]
         | mapC k' v' xs hole =>
          grind [Vp]
       rcases QX.1 hq with hq | hq
       ·obtain⟨o',p1,p2⟩:=key hq
        exact o4 _ (QZ.2 ⟨(q.1,o'),List.mem_append_left _ p1,rfl⟩) (p2 b f hcv)
       ·exact o4 _ (QZ.2 ⟨q,List.mem_append_right _ hq,rfl⟩) hcv
      obtain⟨es',e1,e2⟩:=Qno hM (fun e he=>(enD β ρ _ e).weak (hE0 e he) hokk) v hu
      obtain⟨m1,m2⟩:=Qnp hM b3 hv
      have henc:enc c.Γ x=⟨es',Zu c.Γ.mem v⟩:=by grind [enc]
      have hkind:=Qo5 hb2n hv
      obtain⟨ln1,_⟩:=Ii (Gl (p:=fun q=>!Yj c.ro q.1) b1)
      obtain⟨ln2,_⟩:=Ii (Gl (p:=fun q=>Yj c.ro q.1) b1)
      have hroS:=Qzw (g:=Jq ri d) (ro:=c.ro) (fun i cc hcc=>by grind [Jq]) hv hb2s
      have hkM:∀cc∈V0 S.mem,∃ob,Qh (frz c.Γ ri es S.mem) cc=some ob:=fun cc hcc=>Ju6 (by grind [frz,Qlr])
      generalize hM0:frz c.Γ ri es S.mem=M0 at *
      have hwk:∀(p:Nat×SkO→Bool) id,id∈(c.Γ.mem.filter p).map Prod.fst→id∈c.Γ.mem.map Prod.fst:=fun p id hid=>by
       grind
      have hdisj:∀cc∈Ye ri (rdG c.ro c.Γ.mem),cc∉Ye ri (wrG c.ro c.Γ.mem):=fun cc h1 h2=>by
       obtain⟨i1,p1,p2⟩:=Ax h1
       obtain⟨i2,r1,r2⟩:=Ax h2
       obtain⟨q1,s1,rfl⟩:=QZ.1 p1
       obtain⟨q2,s2,rfl⟩:=QZ.1 r1
       have t1:=(QD.1 s1).2
       have t2:=(QD.1 s2).2
       have k1:q1.1∈(Zu c.Γ.mem v).map Prod.fst:=by rw[m1]; exact QZ.2 ⟨_,(QD.1 s1).1,rfl⟩
       have k2:q2.1∈(Zu c.Γ.mem v).map Prod.fst:=by rw[m1]; exact QZ.2 ⟨_,(QD.1 s2).1,rfl⟩
       obtain⟨e1,f1,g1⟩:=QZ.1 k1
       obtain⟨e2,f2,g2⟩:=QZ.1 k2
       obtain⟨pw,_⟩:=Qba b1 m1
       have hne:q1.1≠q2.1:=fun e=>by rw[e]at t1; rw[t1]at t2; cases t2
       have key:∀{l:List (Nat×Ob)},(l.Pairwise fun q q'=>∀c c',Jv ri q.1=some c→Jv ri q'.1=some c'→c≠c')→e1∈l→e2∈l→False:=by
        intro l hl
        induction l with
        | nil=>intro h; cases h
        | cons z l ih =>
         have hl':=List.pairwise_cons.1 hl
         grind
       grind
      have hp1:=Kz (Ye ri (wrG c.ro c.Γ.mem)) M0
      have hp2:=Kz (Ye ri (rdG c.ro c.Γ.mem)) ((Jp M0 (Ye ri (wrG c.ro c.Γ.mem))).1++S.fixM)
      have hlkR:∀cc∈Ye ri (rdG c.ro c.Γ.mem),Qh ((Jp M0 (Ye ri (wrG c.ro c.Γ.mem))).1++S.fixM) cc=Qh (M0++S.fixM) cc:=fun cc hcc=>by
       have e:=Qcu (M:=M0) (hdisj cc hcc)
       cases hl:Qh M0 cc with
       | none=>rw[Qsx hl,Qsx (e.trans hl)]
       | some ob=>rw[Qy hl,Qy (e.trans hl)]
      have hlkN:∀cc∈Ye ri (wrG c.ro c.Γ.mem),∀ob,Qh (M0++S.fixM) cc=some ob→Qh M0 cc=some ob:=fun cc hcc ob hob=>by
       obtain⟨ob',hob'⟩:=hkM cc (Jfa hb2m hcc)
       rw[Qy hob']at hob
       rw[hob',hob]
      have hsR:=Tr (M:=(Jp M0 (Ye ri (wrG c.ro c.Γ.mem))).1++S.fixM) ln2
      have hroE:Wm (Jq ri d) (rdM c.ro (Zu c.Γ.mem v))=(Jp ((Jp M0 (Ye ri (wrG c.ro c.Γ.mem))).1++S.fixM) (Ye ri (rdG c.ro c.Γ.mem))).2:=by
       refine hroS.trans ?_
       refine(Js2 fun x hx=>?_).trans hsR.symm
       rw[hlkR x hx]
      obtain⟨Ml,hMl0⟩:∃Ml,Ml=(Jp M0 (Ye ri (wrG c.ro c.Γ.mem))).2++(Jp ((Jp M0 (Ye ri (wrG c.ro c.Γ.mem))).1++S.fixM) (Ye ri (rdG c.ro c.Γ.mem))).2:=⟨_,rfl⟩
      have hF1:∀q∈Ml,∃id∈c.Γ.mem.map Prod.fst,Jv ri id=some q.1∧Qh (M0++S.fixM) q.1=some q.2:=fun q hq=>by
       rw[hMl0]at hq
       rcases QX.1 hq with hq | hq
       ·obtain⟨p1,p2⟩:=Qct ln1 q hq
        grind [id,Ax,Qy]
       ·obtain⟨p1,p2⟩:=Qct ln2 q hq
        obtain⟨id,p3,p4⟩:=Ax p1
        exact⟨id,hwk _ id p3,p4,by rw[←hlkR _ p1]; exact p2⟩
      have hMl:∀id∈c.Γ.mem.map Prod.fst,∀cc ob,Jv ri id=some cc→Qh (M0++S.fixM) cc=some ob→(cc,ob)∈Ml:=by
       intro id hid cc ob e3 e4
       rw[hMl0]
       obtain⟨q,hq,rfl⟩:=QZ.1 hid
       cases hm:Yj c.ro q.1 with
       | true =>
        have hin:cc∈Ye ri (rdG c.ro c.Γ.mem):=Sl (QZ.2 ⟨q,QD.2 ⟨hq,hm⟩,rfl⟩) e3
        exact List.mem_append_right _ (Qcs ln2 hin (by rw[hlkR _ hin]; exact e4))
       | false =>
        have hin:cc∈Ye ri (wrG c.ro c.Γ.mem):=Sl (QZ.2 ⟨q,QD.2 ⟨hq,by rw[hm]; rfl⟩,rfl⟩) e3
        exact List.mem_append_left _ (Qcs ln1 hin (hlkN _ hin _ e4))
      generalize hMn0:(Jp M0 (Ye ri (wrG c.ro c.Γ.mem))).2=Mn at *
      generalize hMr0:(Jp M0 (Ye ri (wrG c.ro c.Γ.mem))).1=Mr0 at *
      generalize hMo0:(Jp (Mr0++S.fixM) (Ye ri (rdG c.ro c.Γ.mem))).2=Mo at *
      generalize hMr1:(Jp (Mr0++S.fixM) (Ye ri (rdG c.ro c.Γ.mem))).1=Mr at *
      have hperm:(Ml++Mr).Perm (M0++S.fixM):=by
       rw[hMl0,List.append_assoc]
       refine(List.Perm.append_left Mn hp2).trans ?_
       rw[←List.append_assoc]
       exact hp1.append_right _
      have h2:Sb (fun _=>0) X [] ((S.env++S.fix).map (enD β ρ a)) [] (Qj β ρ Ml++Qj β ρ Mr) a w:=by
       refine Sb.perm h1 ?_
       rw[←QC]
       exact List.Perm.map _ hperm.symm
      have hok2:∀b f,okR X β ρ (M0++S.fixM) w b f→Je X.ok X.w.heap.size (fun _=>0) [] (Qj β ρ Ml++Qj β ρ Mr) w b f:=by
       rintro b f ⟨o1,o2,o3,o4⟩
       refine⟨o1,o2,o3,fun t' ht'=>?_⟩
       grind
      have hmk:∀q∈Zu c.Γ.mem v,q.1∈c.Γ.mem.map Prod.fst:=by
       grind
      have hval:∀q∈Zu c.Γ.mem v,(∃cc ob,Jv ri q.1=some cc∧(cc,ob)∈Ml∧Qq3 ob=false∧(∀g,(Qv (E9 ri β) (Ev ri [] ρ) q.1 q.2).blks g→(Qv β ρ cc ob).blks g))∨(∀g,¬ (Qv (E9 ri β) (Ev ri [] ρ) q.1 q.2).blks g):=by
       intro q hq
       rcases m2 q hq with⟨cc,ob,e3,e4,e5,_⟩ | ⟨_,e5,_⟩
       ·have hid:=hmk q hq
        grind
       ·exact .inr e5
      have hLm:∀g,g∈(Zu c.Γ.mem v).flatMap (Qzx (E9 ri β) (Ev ri [] ρ))↔∃q∈Zu c.Γ.mem v,(Qv (E9 ri β) (Ev ri [] ρ) q.1 q.2).blks g:=by
       grind [Jjf]
      generalize hL:(Zu c.Γ.mem v).flatMap (Qzx (E9 ri β) (Ev ri [] ρ))=L at hLm
      have hLends:Qk5 (Qj (E9 ri β) (Ev ri [] ρ) (enc c.Γ x).mem) L (Je X.ok X.w.heap.size (fun _=>0) [] (Qj β ρ Ml++Qj β ρ Mr) w) w:=by
       rw[henc]
       refine⟨fun t ht=>?_,?_,fun g hg=>?_⟩
       ·obtain⟨q,hq,rfl⟩:=QZ.1 ht
        refine⟨?_,fun g hg=>(hLm g).2 ⟨q,hq,hg⟩,fun g f hg hok=>?_⟩
        ·rcases m2 q hq with⟨_,_,_,_,_,_,e6⟩ | ⟨_,_,e6⟩
         ·exact(Qv _ _ q.1 q.2).weak e6 hok2
         ·exact e6 _ _
        ·rcases hval q hq with⟨cc,ob,_,e4,e5,e6⟩ | e6
         ·exact hok.2.2.2 _ (List.mem_append_left _ (QZ.2 ⟨_,e4,rfl⟩)) (Q31 e5 f (e6 g hg))
         ·exact e6 g hg
       ·obtain⟨p1,_⟩:=Qba b1 m1
        show((Zu c.Γ.mem v).map _).Pairwise _
        rw[JY]
        refine List.Pairwise.imp_of_mem ?_ p1
        intro q q' hq hq' hne g hg hg'
        rcases m2 q hq with⟨cc,ob,e3,e4,e5,_⟩ | ⟨_,e5,_⟩
        ·rcases m2 q' hq' with⟨cc',ob',e3',e4',e5',_⟩ | ⟨_,e5',_⟩
         ·exact h1.disj e4 e4' (hne cc cc' e3 e3') g (e5 g hg) (e5' g hg')
         ·exact e5' g hg'
        ·exact e5 g hg
       grind
      have hargs:∀e∈(enc c.Γ x).env,∃cs,(xs.map a.eval++vc)[e.t]?=some (e.av.val cs)∧cr (E9 ri β) (Ev ri [] ρ) (Je X.ok X.w.heap.size (fun _=>0) [] (Qj β ρ Ml++Qj β ρ Mr) w) w false e.av cs:=by
       intro e he
       rw[henc]at he
       have hcs:e.cs=[]:=by
        have:=Qns (Γe:=c.Γ.env) (l:=u++v) e (by rw[e1]; exact he)
        exact this
       obtain⟨cs,p1,p2⟩:=(e2 e he).1.1 (by rw[hcs]; exact Qf _)
       rw[Om (e2 e he).2]at p1
       grind [Gs]
      have hcall:=hc _ w L _ _ x y (xs.map a.eval++vc) (fun b f hk=>hk.2.1) (Oe h2 hG) (by rw[←el,hlen]) hLends hargs hy
      subst hf
      refine Jk hw ?_
      have hrun':(execOp a.eval o).run P w=.ok (.enter c.f ⟨xs.map a.eval++vc⟩) w:=by
       grind [execOp,resolve,Deferred.ofValue,invoke,Qk1]
      unfold Oper.wp
      rw[hrun']
      refine hcall.mono ?_
      rintro e' w' ⟨v0,rfl,⟨β2,ρ2,hag,⟨cs,hv0,hcr⟩,hT2,hpw2⟩,hbel⟩
      show wpList P ops Q rest (a.put o.dst v0) w'
      rw[hd]
      have hLl:∀g∈L,∃t∈Qj β ρ Ml,t.blks g:=by
       intro g hg
       obtain⟨q,hq,hg⟩:=(hLm g).1 hg
       grind
      have hcov:∀t∈Qj β ρ Ml,∀b f,t.blks b→t.cov b f:=by
       intro t ht b f hb
       obtain⟨q,hq,rfl⟩:=QZ.1 ht
       grind [id,Q31]
      have h3:=Sb.callO h2 hbel hLl hcov hT2 hpw2
      have hROk:∀j∈(roM c x).map Prod.fst,∃cc,Jv ri j=some cc∧j∈c.Γ.mem.map Prod.fst:=fun j hj=>by
       obtain⟨q,hq,rfl⟩:=QZ.1 hj
       unfold roM at hq
       rw[henc]at hq
       obtain⟨hq1,hq2⟩:=QD.1 hq
       have hk:=hmk q hq1
       obtain⟨q',hq',he'⟩:=QZ.1 hk
       obtain⟨cc,hcc⟩:=Qw0 hb2s q.1 (QZ.2 ⟨q',QD.2 ⟨hq',by rw[he']; exact hq2⟩,he'⟩)
       grind
      have hroE2:Wm (Jq ri d) (roM c x)=Mo:=by grind [roM]
      generalize hRO:roM c x=RO at *
      generalize hS1:Qh1 c.Δ y=S1 at *
      generalize hks:(S1.mem++RO).map Prod.fst=ks at *
      have hA:∀j∈ks,backB (Jq ri d) ks β2 β (Jq ri d j)=β2 j∧Oz (Jq ri d) ks ρ2 ρ (Jq ri d j)=ρ2 j:=by
       intro j hj
       have:=Q33 (g:=Jq ri d) (ks:=ks) (by rw[←hks,ZY]; exact Qbe n2) j hj
       grind [backB,Oz]
      have hcase:∀j∈ks,(∃cc,Jv ri j=some cc∧Jq ri d j=cc∧j∈c.Γ.mem.map Prod.fst) ∨
        (Jv ri j=none∧Jy (Jq ri d j) Mr0=true∧Jy (Jq ri d j) S.fixM=true∧Qfk (Jq ri d j) S.fix=true∧Qfk (Jq ri d j) S.env=true∧Yj S.prot (Jq ri d j)=false∧j∉c.Γ.mem.map Prod.fst):=by
       intro j hj
       rw[←hks,QC]at hj
       rcases QX.1 hj with hj | hj
       ·exact Q32 n1 j hj
       grind [Jq]
      have hB:∀i,(∀j∈ks,Jv ri j=none→Jq ri d j≠i)→backB (Jq ri d) ks β2 β i=β i∧Oz (Jq ri d) ks ρ2 ρ i=ρ i:=by
       intro i hi
       cases hfd:ks.find? (fun j=>Jq ri d j==i)with
       | none=>grind [backB,Oz]
       | some j =>
        have hj:=List.mem_of_find?_eq_some hfd
        have hji:Jq ri d j=i:=by grind
        rcases hcase j hj with⟨cc,p1,p2,p3⟩ | ⟨p1,_⟩
        ·obtain⟨q1,q2⟩:=hag j p3
         grind [backB,E9,Oz,Ev]
        grind
      have hfr:=fun j hj (hn:Jv ri j=none)=>(hcase j hj).resolve_left fun⟨cc,p1,_⟩=>by rw[hn]at p1; cases p1
      have hEnv:∀e∈S.env++S.fix,∀i∈Jb e.av,backB (Jq ri d) ks β2 β i=β i∧Oz (Jq ri d) ks ρ2 ρ i=ρ i:=by
       grind [Zv,Jq,Qlp,O4]
      have hMem:∀i∈Jc Mr,backB (Jq ri d) ks β2 β i=β i∧Oz (Jq ri d) ks ρ2 ρ i=ρ i:=by
       intro i hi
       refine hB i fun j hj hn hji=>?_
       obtain⟨_,p2,p3,_⟩:=hfr j hj hn
       replace hi:=Je9 (fun q hq=>hp2.mem_iff.1 (List.mem_append_right _ hq)) hi
       have happ:∀(l m:List (Nat×Ob)),Jc (l++m)=Jc l++Jc m:=by
        intro l m
        induction l with
        | nil=>rfl
        | cons q l ih =>
         obtain⟨k0,o0⟩:=q
         cases o0 with
         | mapC k1 v xs hole=>cases hole<;>simp[Jc,ih]
         | _=>simp[Jc,ih]
       rw[happ,QX]at hi
       grind [Qsy]
      have hsim:Wn (Qj β2 ρ2 (S1.mem++RO)++Qj β ρ Mr) (Qj (backB (Jq ri d) ks β2 β) (Oz (Jq ri d) ks ρ2 ρ) (Wm (Jq ri d) (S1.mem++RO))++Qj (backB (Jq ri d) ks β2 β) (Oz (Jq ri d) ks ρ2 ρ) Mr) :=
       (Qzv fun i hi=>hA i (Ay n4 i hi)).append (Qwy hMem)
      have h4:=Sb.simO h3 hsim
      have hmemO:Qj (backB (Jq ri d) ks β2 β) (Oz (Jq ri d) ks ρ2 ρ) (Wm (Jq ri d) (S1.mem++RO))++Qj (backB (Jq ri d) ks β2 β) (Oz (Jq ri d) ks ρ2 ρ) Mr =
        Qj (backB (Jq ri d) ks β2 β) (Oz (Jq ri d) ks ρ2 ρ) ((Wm (Jq ri d) S1.mem++Mo)++Mr):=by
       rw[show Wm (Jq ri d) (S1.mem++RO)=Wm (Jq ri d) S1.mem++Wm (Jq ri d) RO from QC,hroE2]
       grind
      have h5:Rel X (backB (Jq ri d) ks β2 β) (Oz (Jq ri d) ks ρ2 ρ) ⟨S.env++S.fix,(Wm (Jq ri d) S1.mem++Mo)++Mr⟩ a w':=by
       refine Rel.ofSb h4 hmemO fun e he=>?_
       have hp:=Jh.1 h4.dat _ (QZ.2 ⟨e,he,rfl⟩)
       rw[hmemO]at hp
       exact⟨fun hcc=>let⟨cs,q1,q2⟩:=hp.1 hcc; ⟨cs,q1,Hi (hEnv e he) q2⟩,hp.2⟩
      have hres:cr (backB (Jq ri d) ks β2 β) (Oz (Jq ri d) ks ρ2 ρ) (okR X (backB (Jq ri d) ks β2 β) (Oz (Jq ri d) ks ρ2 ρ) ((Wm (Jq ri d) S1.mem++Mo)++Mr) w') w' false (Wd (Jq ri d) (Qa7 S1.env)) cs:=by
       have q1:=Qcr (g:=Jq ri d) (fun i hi=>hA i (Ay n3 i (Jfb _ i hi))) hcr
       refine Gs q1 fun b f hk=>?_
       have q2:=hsim.ok b f (Qa8 h2 hbel.size hLl b f hk)
       rw[hmemO]at q2
       exact q2
      have h6:=h5.put0 hd1 hres
      have hvv:(Wd (Jq ri d) (Qa7 S1.env)).val cs=v0:=by rw[hv0]; exact Jof _ _ _
      rw[hvv]at h6
      have hfin:((Wm (Jq ri d) S1.mem++Mo)++Mr).Perm ((Wm (Jq ri d) S1.mem++Mr0)++S.fixM):=by
       rw[List.append_assoc,List.append_assoc]
       exact List.Perm.append_left _ hp2
      refine H _ _ _ _ _ hs ⟨rfl,rfl,rfl,fun i hi=>hB i fun j hj hn hji=>?_⟩ ?_
      ·grind [Kw]
      ·rw[Kx (S:=⟨S.env,S.fix,Wm (Jq ri d) S1.mem++Mr0,S.fixM,S.prot⟩) hd2]
       exact Sb.perm h6 (hfin.map _)
     ·cases hx
    ·cases hs
   ·cases hs
  ·cases hs
 ·cases hs
end
end Gx

/- Small things for regions of open order. -/
namespace Gx
open Go Go.RowKit Gd
set_option linter.unusedVariables false
set_option linter.unusedSimpArgs false
theorem Jbv{l:List Oper}{p k i:Nat}(h:Jsu l p=true)(hk:p≤k)(hkl:k<l.length)(hi:i<k):Bg l l.length k i=true:=by
 have h1:=QP.1 h k (JX.2 hkl)
 simp only[JL]at h1
 rcases h1 with h1 | h1
 ·have:=QK h1; omega
 grind
theorem Qls:∀{l:List Nat} {t:Nat},Yj l t=true→t∈l
 | [],t,h=>by cases h
 | k::l,t,h=>by
  simp only[Yj]at h
  cases hb:Nat.beq k t with
  | true=>rw[Nat.eq_of_beq_eq_true hb]; exact .head _
  | false=>rw[hb]at h; exact .tail _ (Qls (by simpa using h))
theorem Qlt:∀{env:List En} {e:En},e∈Q8s env→e.cs=[]∧e∈env∧Nat.blt e.t 100000=false
 | [],e,h=>by simp[Q8s]at h
 | x::l,e,h=>by
  simp only[Q8s]at h
  cases hb:Nat.blt x.t 100000 with
  | true =>
   rw[hb]at h
   obtain⟨h1,h2,h3⟩:=Qlt (env:=l) h
   grind
  | false =>
   rw[hb]at h
   simp only[cond_false]at h
   split at h
   ·rename_i hc
    rcases QJ.1 h with rfl | h
    ·grind
    ·obtain⟨h1,h2,h3⟩:=Qlt (env:=l) h
     grind
   ·obtain⟨h1,h2,h3⟩:=Qlt (env:=l) h
    grind
theorem Jfc{l:List Nat}{i d:Nat}(hi:i<l.length)(h:l.getD i 0=d):l[i]?=some d:=by
 rw[List.getD_eq_getElem?_getD,List.getElem?_eq_getElem hi]at h
 rw[List.getElem?_eq_getElem hi]; grind
abbrev Qh2(E:Nat→Bool)(i:Nat):Nat→Bool:=fun j=>j==i||E j
theorem Qlu{l:List Nat}{t:Nat}(h:t∈l):Yj l t=true:=by
 induction l with
 | nil=>cases h
 | cons k l ih =>
  simp only[Yj,JL]
  rcases QJ.1 h with rfl | h
  ·simp_all
  grind
theorem Qfp:∀{M:List (Nat×Ob)} {id:Nat},Eb (Qh M id)=true→id∈V0 M
 | [],id,h=>by simp[Qh,Eb]at h
 | (k,ob)::l,id,h=>by
  simp only[Qh]at h
  cases hb:Nat.beq k id with
  | true=>rw[Nat.eq_of_beq_eq_true hb]; exact .head _
  | false=>rw[hb]at h; exact .tail _ (Qfp h)
theorem Ju7{a b:Nat}(h:a≠b):Nat.beq a b=false:=by
 grind [Nat.beq,absurd,Nat.eq_of_beq_eq_true]
theorem Qjz:∀{M:List (Nat×Ob)},(V0 M).Nodup→∀q∈M,Qh M q.1=some q.2
 | [],_,q,h=>by cases h
 | (k,x)::l,hn,q,h=>by
  have hn':=QN.1 (show(k::V0 l).Nodup from hn)
  simp only[Qh]
  rcases QJ.1 h with rfl | h
  ·simp_all
  ·have hne:k≠q.1:=fun e=>hn'.1 (e▸QZ.2 ⟨q,h,rfl⟩)
   rw[Ju7 hne]
   exact Qjz hn'.2 q h
theorem Qw1:∀{ds:List Nat} {env:List En} {e:En},e∈Qo1 env ds→e∈env∧∀d∈ds,Zv d e.av=true∧e.t≠d∧∀c∈e.cs,c.1≠d
 | [],env,e,h=>⟨h,by simp⟩
 | d::ds,env,e,h=>by
  obtain⟨h1,h2⟩:=Qw1 (ds:=ds) h
  obtain⟨h3,h4,h5⟩:=Iq h1
  obtain⟨h6,h7⟩:=Qjy h3
  grind
theorem Qs0{α:Type}{f g:α→Bool}:∀{l:List α} {x:α},(∀y,f y=true→g y=true)→x∈l→f x=false→g x=true→(l.filter f).length<(l.filter g).length
 | y::ys,x,hfg,hx,h1,h2=>by
  have hle:∀zs:List α,(zs.filter f).length≤(zs.filter g).length:=by
   intro zs
   induction zs with
   | nil=>simp
   | cons z zs ih =>
    grind
  rcases QJ.1 hx with rfl | hx
  ·grind
  ·have:=Qs0 hfg hx h1 h2
   grind
end Gx

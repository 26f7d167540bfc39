/- A key is taken out of a map; the beginning of a row of one's own. -/
import Derived.Test.YtbhpbpilmejnlaaGreatXMb
namespace Gx
open Go Go.RowKit Gd
set_option linter.unusedVariables false
set_option linter.unusedSimpArgs false
section
variable {P:Program} {T:Tab}
theorem Qd5 (hT:Jb P T) {kt:TypeId} {te:TE} (ht:Qi T kt=some te) {k:Ty} (h:Vk T k te.d=true) (key:k.De) {ν:Type} {s:RT ν} {ok:Ok} {w:World}:∀{xs:List (k.De×ν)} {es:List MapEntry},Wf (rt k) s ok w xs es →
  (Q0 key xs=none∧Na key xs=xs) ∨
  (∃(j:Nat) (e:MapEntry),(∀i,(Instr.findAsking kt (Vi k key) es i).run P w=.ok (some (i+j,e.val)) w)∧es[j]?=some e∧Wf (rt k) s ok w (Na key xs) (es.eraseIdx j))
 | [],es,hp=>.inl ⟨rfl,rfl⟩
 | x::xs,es,hp=>by
  obtain ⟨e,es',rfl,h1,h2,h3⟩:=hp
  have hk:=Zx (Yc h) h1
  have heq:=Eh hT ht h key x.1 w
  simp only [Na,Q0,Instr.findAsking,Sem.run_bind,hk,heq,Result.andThen_ok]
  cases he:eqK k key x.1 with
  | true=>exact .inr ⟨0,e,by simp,rfl,h3⟩
  | false =>
   rcases Qd5 hT ht h key h3 with ⟨q1,q2⟩ | ⟨j,e',q2,q3,q5⟩
   ·exact .inl ⟨q1,by simp only [cond_false,q2]⟩
   ·exact .inr ⟨j+1,e',fun i=>by rw [show i+(j+1)=i+1+j by omega]; simpa using q2 (i+1),q3,⟨e,_,rfl,h1,h2,q5⟩⟩
theorem Qgg {k:Ty} {ν:Type} (key:k.De):∀{xs:List (k.De×ν)},(Na key xs).Sublist xs
 | []=>List.Sublist.refl _
 | x::xs=>by
  simp only [Na]
  cases eqK k key x.1 with
  | true=>exact (List.Sublist.refl _).cons _
  | false=>exact (Qgg key).cons_cons _
theorem Qkm (hT:Jb P T) {t kt et:TypeId} {te tk:TE} (ht:Qi T t=some te) (htd:te.d=.map kt et) (hk:Qi T kt=some tk)
  {k:Ty} {ν:Type} {s:RT ν} (hd:Vk T k tk.d=true) {ok:Ok} {w:World} {g:Nat} {es:Array MapEntry} {clock:Nat} (hg:w.heap[g]?=some (.map es clock)) {xs:List (k.De×ν)} (hp:Wf (rt k) s ok w xs es.toList) (hst:Bg es clock) (key:k.De) (kt' ty:TypeId) :
  ∃es',(Builtin.delete_ #[t,kt'] ty #[.map (some g),Vi k key]).run P w=.ok (.tuple #[]) { w with heap:=w.heap.setIfInBounds g (.map es' clock) }∧Wf (rt k) s ok w (Na key xs) es'.toList∧Bg es' clock:=by
 have hu:=(Yb hT ht).2
 rw [htd] at hu
 rcases Ab hT hk hd key w hp with ⟨q1,q2⟩ | ⟨j,e,y,q1,q2,q3,q4,q5⟩
 ·refine ⟨es,?_,?_,hst⟩
  ·simp [Builtin.delete_,run_underlying hu,MapKept.run_getObj_map hg,Xs hT hk hd,q2,MapKept.run_setObj_map _ hg,Result.andThen]
  ·rcases Qd5 hT hk hd key hp with ⟨_,r2⟩ | ⟨j,e,r1,r2,r3⟩
   ·rw [r2]; exact hp
   ·have r4:=r1 0
    have:=Lw hT hk hd key w hp r4
    rw [q2] at this
    injection this with this; cases this
 ·rcases Qd5 hT hk hd key hp with ⟨r1,_⟩ | ⟨j',e',r1,r2,r3⟩
  ·rw [q1] at r1; cases r1
  ·have r4:=r1 0
   have:=Lw hT hk hd key w hp r4
   rw [q2] at this
   injection this with this
   simp only [Option.some.injEq,Prod.mk.injEq] at this
   have hj:j=j':=by omega
   subst hj
   have hlt:j<es.size:=by have:=(List.getElem?_eq_some_iff.1 q3).1; simpa using this
   have hl:(es.eraseIdxIfInBounds j).toList=es.toList.eraseIdx j:=by
    unfold Array.eraseIdxIfInBounds
    rw [dif_pos hlt,Array.toList_eraseIdx]
   refine ⟨es.eraseIdxIfInBounds j,?_,by rw [hl]; exact r3,?_,fun e he=>?_⟩
   ·simp [Builtin.delete_,run_underlying hu,MapKept.run_getObj_map hg,Xs hT hk hd,q2,MapKept.run_setObj_map _ hg,Result.andThen]
   ·rw [hl]
    exact hst.1.sublist ((List.eraseIdx_sublist _ _).map _)
   ·rw [hl] at he
    exact hst.2 e ((List.eraseIdx_sublist _ _).subset he)
end
section
variable {P:Program} {Y:TX} {X:Cx} {S:XS} {β β':Nat→Nat} {ρ ρ':Nat→Value} {a a':Act} {w w':World} {n:Nat}
variable {ops:Array Oper} {Q:Exit→Act→World→Prop} {rest:List Oper} {R:Type} {k:XS→Option R} {r:R}
theorem Qty (hT:Jb P Y.T) (h:Rel X β ρ S.flat a w) {o:Oper} (hw:Region.wanted o (yielded ops a.tmps)=true) {t t':TypeId} {m ky:Operand} (hop:o.op=.call ⟨.builtin .delete,⟨[m,ky]⟩,⟨[t,t']⟩⟩) (hd:o.dst=none) {te tk:TE} {kt et:TypeId} (hte:Qi Y.T t=some te) (htd:te.d=.map kt et) (htk:Qi Y.T kt=some tk)
  {id:Nat} {kv:AV} {kk v:Ty} {xs:List (kk.De×v.De)} {key:kk.De} (hm:S.ev [] m=some (.m id)) (hkv:S.ev [] ky=some kv) (hmo:Qe S.mem id=some (.map kk v xs)) (hkey:asD [] kv kk=some key)
  (hdk:Vk Y.T kk tk.d=true) (hka:(kk.agg==kv.isAgg)=true)
  (hk:k (S.set id (.map kk v (Na key xs)))=some r) (H:KOk P ops Q rest X S β ρ k r):wpList P ops Q (o::rest) a w:=by
 obtain ⟨c1,h1,h2⟩:=h.ev (Qb a) hm
 have h2':c1=[.map (some (β id))]:=h2
 subst h2'
 have h1':a.eval m=.map (some (β id)):=h1
 obtain ⟨c3,h3,h4⟩:=h.ev (Qb a) hkv
 have hkr:isV (rt kk) (okR X β ρ S.flat.mem w) w key (a.eval ky):=by
  refine ⟨c3,Ut (M:=[]) (β:=β) (ρ:=ρ) (by simp [Qe]) hkey h4,?_⟩
  rw [h3]; simp only [AV.val,RT.val,W7,bEq hka]; cases kv.isAgg<;>rfl
 have hke:=Zx (Yc hdk) hkr
 have hm':Qe S.flat.mem id=some (.map kk v xs):=Jd hmo
 obtain ⟨⟨es,clock,hg,hp,hnd,hst1,hst2⟩,hmine⟩:=h.ob hm'
 obtain ⟨es',hrun,hp',hst'⟩:=Qkm hT hte htd htk hdk hg hp ⟨hst1,hst2⟩ key t' o.type
 have hrun':(execOp a.eval o).run P w=.ok (.value (.tuple #[])) { w with heap:=w.heap.setIfInBounds (β id) (.map es' clock) }:=by
  unfold execOp
  have hmm:(Array.mk [m,ky]).map a.eval=⟨[.map (some (β id)),Vi kk key]⟩:=by simp [h1',hke]
  simp only [hop,resolve,hmm,invoke,builtin]
  simp [hrun]
 refine Js hw (Ym hrun' ?_)
 rw [hd]
 have hO':=Yd hm'
 obtain ⟨l1,l2,e1,e2,e3⟩:=hO'
 have hO:Qf β ρ S.flat.mem=Qf β ρ l1++Q2 β ρ id (.map kk v xs)::Qf β ρ l2:=by rw [e1]; simp [Qf]
 have hS:=h.upd hO (t':=Q2 β ρ id (.map kk v (Na key xs))) (w':={ w with heap:=w.heap.setIfInBounds (β id) (.map es' clock) }) rfl rfl rfl (by simp) (fun b hb hn=>(MapKept.heap_set hg).2 b fun e=>hn e) (fun b o hb=>hb) (fun g hg=>.inl hg) (fun hevo hok=>by
  refine ⟨es',clock,(MapKept.heap_set hg).1,?_,hnd.sublist ((Qgg key).map _),hst'.1,hst'.2⟩
  exact Xf (Ef hp' hevo) hok)
 have hE:(S.set id (.map kk v (Na key xs))).flat=⟨S.flat.env,Lu S.flat.mem id (.map kk v (Na key xs))⟩:=by
  simp only [XS.flat,XS.set]
  rw [K9 hmo]
 refine H β ρ _ _ _ hk ⟨rfl,rfl,rfl,agP.refl _ _ _⟩ ?_
 rw [hE,e2]
 have hmem:Qf β ρ (l1++(id,Ob.map kk v (Na key xs))::l2)=Qf β ρ l1++Q2 β ρ id (.map kk v (Na key xs))::Qf β ρ l2:=by simp [Qf]
 exact Rel.ofSb hS hmem.symm fun e he=>by
  have:=Jw.1 hS.dat _ (List.mem_map.2 ⟨e,he,rfl⟩)
  rw [←hmem] at this
  exact this
theorem Qtz (hT:Jb P Y.T) (hX:X.n=n) (hr:X.res=[]) (h:Rel X β ρ S.flat a w) {o:Oper} (hw:Region.wanted o (yielded ops a.tmps)=true) {d:Nat} (hd:o.dst=some d) (hwd:okW n S d=true) {id:Nat}
  (hb:okB ⟨S.env,S.fix,Yi S.mem id,S.fixM,S.prot⟩ d=true) {t:TypeId} {x:Operand} {hi mx:Option Operand} (hop:o.op=.slice t x none hi mx) {te ee:TE} {e:TypeId} (hte:Qi Y.T t=some te) (htd:te.d=.slice e) (he:Qi Y.T e=some ee) {u:Ty} (hsz:Nat.beq ee.size u.size=true)
  {xs ys:List u.De} (hx:S.ev [] x=some (.s id)) (hm:Qe S.mem id=some (.row e u xs)) {q:Int} (hq:bnd S.flat [] xs.length hi=some q) (hys:slc xs 0 q=some ys)
  (hmx:mx=none∨∃hv mv k1 k2 m,hi=some hv∧mx=some mv∧a.eval hv=.int k1 q∧a.eval mv=.int k2 m∧q≤m∧m≤(xs.length:Int))
  (hk:k (({ S with mem:=Yi S.mem id }.born d (.row e u ys)).put d [] (.s d))=some r) (H:KOk P ops Q rest X S β ρ k r):wpList P ops Q (o::rest) a w:=by
 obtain ⟨f1,f2,f3⟩:=Kj hb
 obtain ⟨h1,h2⟩:=Yv hwd hX hr
 have hg:=Ep h hw
 obtain ⟨c1,hse,⟨v0,hs2,hz0⟩,A,m,c,hρ⟩:=h.ev (Qb a) hx
 subst hs2
 have hm':Qe S.flat.mem id=some (.row e u xs):=Jd hm
 have e4':Yi S.mem id++S.fixM=Yi S.flat.mem id:=(Kc hm).symm
 obtain ⟨h0,hq1,hq2,hys',hyl⟩:=slc_ok hys
 have hysT:ys=xs.take q.toNat:=by rw [hys']; simp
 have hun:(underlying t).run P w=.ok (.slice e) w:=by rw [Jz hT w hte,htd]
 obtain ⟨⟨hl0,cs0,hown0,hr0⟩,hmine⟩:=h.ob hm'
 have hsz':=Nat.eq_of_beq_eq_true hsz
 have hgo:∀(A':Option Addr) (c':Nat),a.eval x=.slice A' xs.length c'→xs.length≤c'→(c'≠0→∀ad,A'=some ad→ad.add 0=ad)→∃c2,ys.length≤c2∧c2≤c'∧(execOp a.eval o).run P w=.ok (.value (.slice A' ys.length c2)) w:=by
  intro A' c' hv hcc hadd
  obtain ⟨c2,hc2,hc3,hbn⟩:∃c2,ys.length≤c2∧c2≤c'∧(Instr.sliceBounds true xs.length c' none (hi.map a.eval) (mx.map a.eval)).run P w=.ok (0,q.toNat,c2) w:=by
   rcases hmx with rfl | ⟨hv',mv,k1,k2,m,rfl,rfl,e1,e2,e3,e5⟩
   ·exact ⟨c',by omega,Nat.le_refl _,Fi (P:=P) (w:=w) (isS:=true) (lo:=none) (len:=xs.length) (cap:=c') (.inl ⟨rfl,rfl⟩) (h.toW.bnd (Qb a) hq) (Int.le_refl 0) hq1 (by omega) hcc⟩
   ·exact ⟨m.toNat,by omega,by omega,Py (P:=P) (w:=w) (lo:=none) (len:=xs.length) (cap:=c') (.inl ⟨rfl,rfl⟩) e1 e2 (Int.le_refl 0) hq1 e3 (by omega)⟩
  refine ⟨c2,hc2,hc3,?_⟩
  have hA':(if c2=0 then A' else A'.map (·.add (0*u.size)))=A':=by
   split
   ·rfl
   ·rename_i hc0
    cases A' with
    | none=>rfl
    | some ad=>rw [Nat.zero_mul]; simp [hadd (by omega) ad rfl]
  have hlen:q.toNat - 0=ys.length:=by omega
  unfold execOp
  rw [hop]
  simp only [hv]
  simp [Instr.sliceAt,hun,Instr.slice,hbn,Yg hT w he,hsz',hlen]
  simpa using hA'
 rcases hz0 with hz0 | ⟨h00,A0,hz0⟩
 case inr =>
  have hse':a.eval x=.slice A0 0 0:=by rw [hse,←hz0]; rfl
  have hxs:xs=[]:=by
   rw [h00] at hl0
   exact List.length_eq_zero_iff.1 hl0.symm
  subst hxs
  have hy0:ys=[]:=by rw [hysT]; simp
  subst hy0
  obtain ⟨c2,_,hc3,hrun⟩:=hgo A0 0 hse' (Nat.le_refl _) (fun h=>absurd rfl h)
  have hc0:c2=0:=by omega
  subst hc0
  refine Js hw (Ym hrun ?_)
  rw [hd]
  have hS:=(h.dropM hm').toG.put h1 (.v (.slice A0 0 0))
  rw [←e4'] at hS
  exact H β (upd ρ d (.slice none 0 0)) _ _ _ hk ⟨rfl,rfl,rfl,Ki f3 (Yw d β ρ _)⟩ (T1 (S:={ S with mem:=Yi S.mem id }) hX hr h.sz hwd f1 f2 f3 hS)
 have hse':a.eval x=.slice A m c:=by rw [hse,←hρ,←hz0]; rfl
 have hmx:m=xs.length:=by rw [hρ] at hl0; exact hl0
 subst hmx
 have hlenV:Ur (ρ id)=xs.length:=by rw [hρ]; rfl
 rw [hlenV,hρ] at hown0
 have hcap:xs.length≤c∧(c≠0→∀ad,A=some ad→ad.add 0=ad):=by
  rcases hown0.2 with ⟨hv,h0⟩ | ⟨g,cap,cur,fz,hv,_,_,_,hle,_⟩
  ·injection hv with e1 e2 e3
   exact ⟨by omega,fun _ ad had=>by rw [e1] at had; cases had⟩
  ·injection hv with e1 e2 e3
   exact ⟨by omega,fun _ ad had=>by rw [e1] at had; injection had with had; subst had; exact Xp g 0 0⟩
 obtain ⟨c2,hc2,hc3,hrun⟩:=hgo A c hse' hcap.1 hcap.2
 refine Js hw (Ym hrun ?_)
 rw [hd]
 obtain ⟨l1,l2,e1,_,e3⟩:=Yd hm'
 have hO:Qf β ρ S.flat.mem=Qf β ρ l1++ml (.slice A xs.length c) e (rt u) xs::Qf β ρ l2:=by rw [e1]; simp [Qf,Q2,hρ]
 have hyx:ys.length≤xs.length:=by omega
 have hmul:ys.length*(rt u).size≤xs.length*(rt u).size:=Nat.mul_le_mul_right _ hyx
 have hcsl:cs0.length=xs.length*(rt u).size:=hown0.1
 have hrep:Z9 (rt u) (okR X β ρ S.flat.mem w) w ys (cs0.take (ys.length*(rt u).size)):=by
  refine Mz ys _ (by rw [List.length_take]; omega) fun i y hy=>?_
  have hiy:=(List.getElem?_eq_some_iff.1 hy).1
  rw [hysT,List.getElem?_take] at hy
  split at hy
  ·refine ⟨_,Wd hr0 hy,fun j v hj=>?_⟩
   rw [List.getElem?_take] at hj
   split at hj
   ·rename_i hjs
    rw [List.getElem?_drop] at hj
    rw [List.getElem?_take,if_pos ?_]
    ·exact hj
    ·have:(i+1)*(rt u).size≤ys.length*(rt u).size:=Nat.mul_le_mul_right _ hiy
     rw [Nat.add_mul,Nat.one_mul] at this
     omega
   ·cases hj
  ·cases hy
 have hown:w.ownsRowS 0 e (rt u).size (.slice A ys.length c2) ys.length (cs0.take (ys.length*(rt u).size)):=by
  refine ⟨by rw [List.length_take]; omega,?_⟩
  rcases hown0.2 with ⟨hv,h0⟩ | ⟨g,cap,cur,fz,hv,hb0,hh,hfz,hle,hcm,hcs,hcur⟩
  ·injection hv with q1 q2 q3
   have hy0:ys.length=0:=by omega
   have hc0:c2=0:=by omega
   exact .inl ⟨by rw [q1,hc0,hy0],hy0⟩
  ·injection hv with q1 q2 q3
   refine .inr ⟨g,c2,cur,fz,by rw [q1],hb0,hh,hfz,by omega,by omega,Nat.le_trans (Nat.mul_le_mul_right _ (by omega)) hcs,?_⟩
   rw [←hcur,List.take_take,Nat.min_eq_left hmul]
 have hS0:=h.toG.upd hO (t':=ml (.slice A ys.length c2) e (rt u) ys) (w':=w) rfl rfl rfl (Nat.le_refl _) (fun _ _ _=>rfl) (fun b o hb=>hb) (fun g hg=>.inl (by
  have hg':(Value.slice A ys.length c2).ownBlock=some g:=hg
  rw [Wb A ys.length xs.length c2 c] at hg'; exact hg')) (fun hevo hok=>⟨rfl,_,hown,Kt hrep hok⟩)
 have hS:=hS0.put h1 (.v (.slice A ys.length c2))
 refine H β (upd ρ d (.slice A ys.length c2)) _ _ _ hk ⟨rfl,rfl,rfl,Ki f3 (Yw d β ρ _)⟩ ?_
 have e4:Yi S.mem id++S.fixM=l1++l2:=by rw [←Kc hm]; exact e3
 have hS':=hS.perm (O':=ml (.slice A ys.length c2) e (rt u) ys::Qf β ρ (Yi S.mem id++S.fixM)) (by rw [e4]; simp only [Qf,List.map_append]; exact List.perm_middle)
 exact Zk (S:={ S with mem:=Yi S.mem id }) (o:=.row e u ys) hX hr h.sz hwd f1 f2 f3 hS' (by simp only [Q2,J7]; exact Zi.refl _) ⟨_,_,_,rfl⟩
theorem Qm4 (h:Rel X β ρ S.flat a w):∀{ps:List (Nat×Operand)} {vs:List (Nat×AV)} {c:AV} {j:Nat},Vb S.flat [] ps=some vs→Qqb vs j=some c →
  ∃us:List Value,ps.map (fun p=>(p.1,a.eval p.2))=(List.range' j us.length).zip us∧us.length=vs.length∧(∀v∈us,Qm v=[v])∧cr β ρ (okR X β ρ S.flat.mem w) w false c us
 | [],vs,c,j,he,hx=>by
  simp [Vb] at he; subst he
  simp [Qqb] at hx; subst hx
  exact ⟨[],rfl,rfl,by simp,rfl⟩
 | (i,x)::ps,vs,c,j,he,hx=>by
  simp only [Vb] at he
  split at he
  ·rename_i v l hv hl
   simp at he; subst he
   simp only [Qqb] at hx
   obtain ⟨hb,hx⟩:=bvT hx
   simp only [Bool.and_eq_true] at hb
   have:=Nat.eq_of_beq_eq_true hb.1
   subst this
   split at hx
   ·rename_i r hr
    simp at hx; subst hx
    obtain ⟨us,q1,q2,q3,q4⟩:=Qm4 h (ps:=ps) hl hr
    obtain ⟨cs,p1,p2⟩:=h.ev (Qb a) hv
    have hone:∃q,a.eval x=.pointer q∧cr β ρ (okR X β ρ S.flat.mem w) w false v [.pointer q]:=by
     cases v with
     | np =>
      have p2':cs=_:=p2
      subst p2'
      exact ⟨_,p1,rfl⟩
     | p id path =>
      have p2':cs=_:=p2
      subst p2'
      exact ⟨_,p1,rfl⟩
     | _=>cases hb.2
    obtain ⟨q,e1,e2⟩:=hone
    refine ⟨a.eval x::us,?_,by simp [q2],fun u hu=>?_,?_⟩
    ·simp only [List.map_cons,List.length_cons,List.range'_succ,List.zip_cons_cons,q1]
    ·rcases List.mem_cons.1 hu with rfl | hu
     ·rw [e1]; rfl
     ·exact q3 u hu
    ·exact ⟨[.pointer q],us,by rw [e1]; rfl,e2,q4⟩
   ·cases hx
  ·cases he
theorem T3:∀{us:List Value},(∀v∈us,Qm v=[v])→us.flatMap Qm=us
 | [],_=>rfl
 | v::us,h=>by
  rw [List.flatMap_cons,h v (.head _),T3 fun u hu=>h u (.tail _ hu)]; rfl
theorem Qt0 (hT:Jb P Y.T) (hX:X.n=n) (hr:X.res=[]) (h:Rel X β ρ S.flat a w) {o:Oper} (hw:Region.wanted o (yielded ops a.tmps)=true) {d:Nat} (hd:o.dst=some d) (hwd:okW n S d=true) (hb:okB S d=true)
  {t:TypeId} {m:Nat} {ps:List (Nat×Operand)} (hop:o.op=.buildSlice t (m+1) ⟨ps⟩) {te ee:TE} {e:TypeId} (hte:Qi Y.T t=some te) (htd:te.d=.slice e) (he:Qi Y.T e=some ee)
  {vs:List (Nat×AV)} {c:AV} (hvs:Vb S.flat [] ps=some vs) (hpl:Qqb vs 0=some c) (hnd:Uj d c=true) (hl:Nat.beq vs.length (m+1)=true) (hsz:Nat.beq ee.size 1=true) (hzl:Nat.beq (Qm ee.z).length 1=true) (hsm:Nat.ble (m+1) 16777216=true)
  (hk:k ((S.born d (.var e (.ag c))).put d [] (.w d 0 ((m+1:Nat):Int)))=some r) (H:KOk P ops Q rest X S β ρ k r):wpList P ops Q (o::rest) a w:=by
 obtain ⟨us,q1,q2,q3,q4⟩:=Qm4 h hvs hpl
 have hes:=Nat.eq_of_beq_eq_true hsz
 have hul:us.length=m+1:=q2.trans (Nat.eq_of_beq_eq_true hl)
 have hzl':=Nat.eq_of_beq_eq_true hzl
 have hz0:(Uc (Qm ee.z) ((m+1)*ee.size)).length=(m+1)*ee.size:=by simp [Uc]
 have hfill:=Qb6 us 0 (Uc (Qm ee.z) ((m+1)*ee.size)) (s:=ee.size) (fun v hv=>by rw [q3 v hv,hes]; rfl) (by rw [hz0,Nat.zero_add,hul]; exact Nat.le_refl _)
 rw [←q1] at hfill
 have hfill':Hk (A8 ee.size) (Uc (Qm ee.z) ((m+1)*ee.size)) (ps.map (fun p=>(p.1,a.eval p.2)))=some us:=by
  rw [hfill]
  simp only [Nat.zero_mul,List.take_zero,List.nil_append,Nat.zero_add]
  rw [List.drop_of_length_le (by rw [hz0,hul]; exact Nat.le_refl _),List.append_nil,T3 q3]
 have hrun:(execOp a.eval o).run P w=.ok (.value (.slice (some ⟨w.heap.size,0,none⟩) (m+1) (m+1))) (w.alloc (.cells us.toArray e)):=by
  have hm:(Array.mk ps).map (fun (x:Nat×Operand)=>(x.1,a.eval x.2))=⟨ps.map (fun p=>(p.1,a.eval p.2))⟩:=by simp
  have hun:(underlying t).run P w=.ok (.slice e) w:=by rw [Jz hT w hte,htd]
  have h16:¬ (m+1)*ee.size>16777216:=by have:=Nat.le_of_ble_eq_true hsm; rw [hes]; omega
  have hf:Instr.fill (fun i=>some (i*ee.size,ee.size)) (Uc (Qm ee.z) ((m+1)*ee.size)).toArray (ps.map (fun p=>(p.1,a.eval p.2)))=some us.toArray:=Ed _ hfill'
  have hzz:(Array.range ((m+1)*ee.size)).map (fun x=>ee.z.cells[x % ee.z.cells.size]!)=(Uc (Qm ee.z) ((m+1)*ee.size)).toArray:=by
   rw [Y8]
   unfold Uc
   apply Array.ext
   ·simp
   ·intro i h1 h2
    have hzs:ee.z.cells.size=1:=by rw [←hzl',Y8]; simp
    have hmod:i % ee.z.cells.size<ee.z.cells.size:=Nat.mod_lt _ (by omega)
    simp [getElem!_pos,hmod]
  unfold execOp
  rw [hop]
  simp only [Instr.buildSlice,Sem.run_bind,hun,Yg hT w he,Result.andThen_ok,hm]
  have h00:m+1≠0:=by omega
  have h01:ee.size≠0:=by omega
  have h02:¬ (m+1)*ee.size=0:=by rw [hes]; omega
  generalize hM:m+1=M at *
  simp [h16,h00,h01,Vp hT w he,hzz,hf,newRow]
  exact fun e=>absurd e h02
 exact Qtv (x:=.w d 0 ((m+1:Nat):Int)) (cv:=fun g=>[.slice (some ⟨g,0,none⟩) (m+1) (m+1)]) hX hr h hw hd hwd hb hrun (c:=.ag c) q4 hnd (fun β ρ ok w=>⟨_,_,rfl,fun _=>rfl⟩) hk H
theorem Qgh (hT:Jb P Y.T) {β:Nat→Nat} {G:GL} {D:List DF} {O:List TL} (h:Sb β X G D [] O a w) {t:TypeId} {len:Nat} {parts:List (Nat×Operand)} {d:Nat} {ps:String} {af:Array Edge} {ty:TypeId} {gd:Option (Nat×Bool)}
  (hg:Kg ops G ⟨some d,.buildSlice t len ⟨parts⟩,ty,ps,af,gd⟩=some true) (hlt:okD X d=true)
  {τ:Type} {r:RT τ} {xs:List τ} {vs:List Value} {pvs:List (Nat×Value)} (hpv:evParts G parts=some pvs)
  {e:TypeId} {te ee:TE} (ht:Qi Y.T t=some te) (htd:te.d=.slice e) (he:Qi Y.T e=some ee) (hs:ee.size=r.size) (hxl:xs.length=len)
  (hsm:Nat.ble (len*ee.size) 16777216=true) (hps:Nat.ble 1 ee.size=true) (hl1:1≤len) (hz:Nat.beq (Qm ee.z).length ee.size=true)
  (hfill:Hk (A8 ee.size) (Uc (Qm ee.z) (len*ee.size)) pvs=some (vs.flatMap Qm))
  (hv:Rj r (Jh X.ok X.w.heap.size β [] O w) w xs vs)
  (hk:∀b a' w',Sb β X (Zr G d (.v (.slice (some ⟨b,0,none⟩) xs.length len))) D [] (ml (.slice (some ⟨b,0,none⟩) xs.length len) e r xs::O) a' w'→wpList P ops Q rest a' w') :
  wpList P ops Q (⟨some d,.buildSlice t len ⟨parts⟩,ty,ps,af,gd⟩::rest) a w:=by
 have hps1:=Nat.le_of_ble_eq_true hps
 have hsm1:=Nat.le_of_ble_eq_true hsm
 have hrun:(execOp a.eval ⟨some d,.buildSlice t len ⟨parts⟩,ty,ps,af,gd⟩).run P w=.ok (.value (.slice (some ⟨w.heap.size,0,none⟩) xs.length len)) (w.alloc (.cells (vs.flatMap Qm).toArray e)):=by
  have hev:=A5 h hpv
  have hm:(Array.mk parts).map (fun (x:Nat×Operand)=>(x.1,a.eval x.2))=⟨pvs⟩:=by rw [←hev]; simp
  have hun:(underlying t).run P w=.ok (.slice e) w:=by rw [Jz hT w ht,htd]
  have h16:¬ len*ee.size>16777216:=by omega
  have hzl:=Nat.eq_of_beq_eq_true hz
  have hf:Instr.fill (fun i=>some (i*ee.size,ee.size)) (Uc (Qm ee.z) (len*ee.size)).toArray pvs=some (vs.flatMap Qm).toArray:=Ed _ hfill
  have hzz:(Array.range (len*ee.size)).map (fun x=>ee.z.cells[x % ee.z.cells.size]!)=(Uc (Qm ee.z) (len*ee.size)).toArray:=by
   rw [Y8]
   unfold Uc
   apply Array.ext
   ·simp
   ·intro i h1 h2
    have hzs:ee.z.cells.size=ee.size:=by rw [←hzl,Y8]; simp
    have hmod:i % ee.z.cells.size<ee.z.cells.size:=Nat.mod_lt _ (by omega)
    simp [getElem!_pos,hmod]
  unfold execOp
  simp only [Instr.buildSlice,Sem.run_bind,hun,Yg hT w he,Result.andThen_ok,hm]
  have h00:len≠0:=by omega
  have h01:ee.size≠0:=by omega
  have h0:¬ len*ee.size=0:=fun e=>by
   rcases Nat.mul_eq_zero.1 e with e | e<;>omega
  simp [h16,h00,h01,Vp hT w he,hzz,hf,newRow,hxl]
  exact fun e=>absurd e h0
 refine Js (Uk h hg) (Ym hrun ?_)
 have hb:Below w.heap.size w (w.alloc (.cells (vs.flatMap Qm).toArray e)):=(Below.refl _ _).alloc (Nat.le_refl _) _
 have hevo:Evo (Jh X.ok X.w.heap.size β [] O w) w (w.alloc (.cells (vs.flatMap Qm).toArray e)):=(Evo.of_below hb).mono fun b o hk=>hk.2.1
 obtain ⟨hl2,hl3⟩:=Qfq hv
 have hlen:len≤len*ee.size:=Nat.le_mul_of_pos_right len hps1
 refine hk _ _ _ ((h.allocTL hb (t:=ml (.slice (some ⟨w.heap.size,0,none⟩) xs.length len) e r xs) (fun g hg=>?_) ⟨rfl,vs.flatMap Qm,⟨?_,.inr ⟨w.heap.size,len,_,(0,0),rfl,Nat.zero_le _,heap_alloc_new w _,.inl rfl,?_,?_,?_,?_⟩⟩,?_⟩).put hlt (.v _))
 ·have hg:some w.heap.size=some g:=hg
  injection hg with hg; omega
 ·simp only [Ur]; exact hl2
 ·simp only [Ur]; omega
 ·rw [Vh]; omega
 ·show len*r.size≤(vs.flatMap Qm).toArray.size
  rw [List.size_toArray,hl2,hxl]
  exact Nat.le_refl _
 ·simp only [Ur]
  rw [←hl2]
  exact List.take_length
 ·refine Kt (Wc (Tb hv) hevo) fun b o hk=>?_
  obtain ⟨h1,h2,h3,h4⟩:=hk
  refine ⟨h1,Nat.lt_of_lt_of_le h2 hb.size,h3,fun u hu hc=>?_⟩
  rcases List.mem_cons.1 hu with rfl | hu
  ·have hc':some w.heap.size=some b:=hc
   injection hc' with hc'; omega
  ·exact h4 u hu hc
theorem Yr {d:TypeDesc} {e:TypeId} (h:Y7 d=some e):d=.slice e:=by
 cases d<;>simp [Y7] at h
 subst h; rfl
end
end Gx

/- A region, operation by operation. -/
namespace Gx
open Go Go.RowKit Gd
set_option linter.unusedVariables false
set_option linter.unusedSimpArgs false
section
variable {P:Program} {Y:TX} {X:Cx} {S:XS} {β β':Nat→Nat} {ρ ρ':Nat→Value} {a a':Act} {w w':World} {n:Nat}
variable {ops:Array Oper} {Q:Exit→Act→World→Prop} {rest:List Oper} {R:Type} {k:XS→Option R} {r:R}
theorem Qqu (hT:Jb P Y.T) (hX:X.n=n) (hr:X.res=[]) (h:Rel X β ρ S.flat a w) {o:Oper} (hw:Region.wanted o (yielded ops a.tmps)=true) (hs:Ov Y n o S k=some r) (H:KOk P ops Q rest X S β ρ k r) :
  wpList P ops Q (o::rest) a w:=by
 unfold Ov at hs
 split at hs
 ·
  rename_i t d hop hd
  split at hs
  ·rename_i e ty he hty
   split at hs
   ·rename_i c hc
    obtain ⟨hb,hk⟩:=bvT hs
    simp only [Bool.and_eq_true] at hb
    refine Jby (cs:=Qm e.z) hX hr h hw hd hb.1.1.1 hb.1.1.2 ?_ (X5 hc) hb.2 hk H
    unfold execOp
    simp only [hop]
    simp [Instr.alloc,Vp hT w he,newVar,newRow,Y8]
   ·cases hs
  ·cases hs
 ·
  rename_i t x d hop hd
  split at hs
  ·rename_i c hc
   obtain ⟨hb,hk⟩:=bvT hs
   simp only [Bool.and_eq_true] at hb
   obtain ⟨cs,h1,h2⟩:=h.ev (Qb a) hc
   refine Jby (cs:=cs) hX hr h hw hd hb.1.1.1.1 hb.1.1.1.2 ?_ h2 hb.2 hk H
   have hcl:=Kb h2 hb.1.1.2 hb.1.2
   have hcc:(c.val cs).cells=cs.toArray:=by
    apply Array.ext'
    rw [←Y8,hcl]
   unfold execOp
   simp only [hop,h1]
   simp [Instr.box,newVar,newRow,hcc]
  ·cases hs
 ·
  rename_i t p x hop hd
  split at hs
  ·rename_i e id path v he hp hx
   split at hs
   ·rename_i tid c hm
    split at hs
    ·rename_i c' hc'
     obtain ⟨hb,hk⟩:=bvT hs
     simp only [Bool.and_eq_true] at hb
     exact Qm3 hT h hw hop hd he hp hx hm (fun _ h1 h2=>Wh h1 hc' h2) hb.1.1 hb.1.2 hb.2 hk H
    ·cases hs
   ·cases hs
  ·rename_i e id j sz ps v he hp hx
   split at hs
   ·rename_i et u xs hm
    obtain ⟨y,hy,hs⟩:=Yy hs
    split at hs
    ·rename_i c hc
     split at hs
     ·rename_i z0 hz
      obtain ⟨hb,hk⟩:=bvT hs
      simp only [Bool.and_eq_true] at hb
      exact Qqn hT h hw hop hd he hp hx hm hy hc hz hb.1.1.1.1 hb.1.1.1.2 hb.1.1.2 hb.1.2 hb.2 hk H
     ·cases hs
    ·cases hs
   ·cases hs
  ·cases hs
 ·
  rename_i t rs d hop hd
  split at hs
  ·rename_i te hte
   split at hs
   ·rename_i kt et htd
    split at hs
    ·rename_i kk v hkk hv
     obtain ⟨hb,hk⟩:=bvT hs
     simp only [Bool.and_eq_true] at hb
     have hrs:rs=none:=by
      cases rs with
      | none=>rfl
      | some x=>simp [isNone] at hb
     subst hrs
     exact Qqm hX hr h hw hd hb.1.1 hb.1.2 hop hk H
    ·cases hs
   ·cases hs
  ·cases hs
 ·
  rename_i t m ky x hop hd
  split at hs
  ·rename_i te id kv xv hte hm hkv hx
   split at hs
   ·rename_i kt et kk v xs htd hmo
    split at hs
    ·rename_i tk key y htk hkey hy
     obtain ⟨hb,hk⟩:=bvT hs
     simp only [Bool.and_eq_true] at hb
     exact Qgd hT h hw hop hd hte htd htk hm hkv hx hmo hkey hy hb.1.1 hb.1.2 hb.2 hk H
    ·cases hs
   ·rename_i kt et kk v path e u xs kh h0 htd hmo
    split at hs
    ·rename_i tk key y h1 htk hkey hy hnav
     split at hs
     ·rename_i e1 u1 ys hmh
      obtain ⟨hb,hs⟩:=bvT hs
      simp only [Bool.and_eq_true] at hb
      obtain ⟨⟨⟨⟨⟨b1,b2⟩,b3⟩,b4⟩,b5⟩,b6⟩:=hb
      obtain ⟨_,hch,hk⟩:=Yy hs
      have e1:=Nat.eq_of_beq_eq_true b4
      have e2:=Ty.beq_eq b5
      subst e1; subst e2
      unfold chk at hch
      exact Qzd hT h hw hop hd hte htd htk hm hkv hx hmo hkey (bvT hch).1 hnav hmh hy b1 b2 b3 b6 hk H
     ·cases hs
    ·cases hs
   ·cases hs
  ·cases hs
 ·
  rename_i t l c d hop hd
  split at hs
  ·rename_i te lv cv hte hl hc
   split at hs
   ·rename_i e k1 nl k2 nc hse hli hci
    split at hs
    ·rename_i ee u he hu
     split at hs
     ·rename_i za hza
      split at hs
      ·rename_i z0 hz
       obtain ⟨hb,hs⟩:=bvT hs
       simp only [Bool.and_eq_true] at hb
       obtain ⟨zs,hzs,hk⟩:=Yy hs
       exact Jcu hT hX hr h hw hd hb.1.1.1.1 hb.1.1.1.2 hop hte (Yr hse) he hl hc hli hci hza hz hb.1.1.2 hb.1.2 hb.2 hzs hk H
      ·cases hs
     ·cases hs
    ·cases hs
   ·cases hs
  ·cases hs
 ·
  rename_i t len parts d hop hd
  split at hs
  ·rename_i te hte
   split at hs
   ·rename_i e hse
    split at hs
    ·rename_i ee u he hu
     obtain ⟨hb,hs⟩:=bvT hs
     simp only [Bool.and_eq_true] at hb
     split at hs
     ·obtain ⟨hb2,hk⟩:=bvT hs
      exact Jcv hT hX hr h hw hd hb.1 hb2 hop hte (Yr hse) he hb.2 hk H
     ·cases hs
     ·rename_i m
      split at hs
      ·rename_i vs hvs
       split at hs
       ·rename_i xs hxs
        obtain ⟨hb2,hk⟩:=bvT hs
        simp only [Bool.and_eq_true] at hb2
        exact Jku hT hX hr h hw hd hb.1 hop hte (Yr hse) he hb.2 hvs hxs hb2.1.1.1 hb2.1.1.2 hb2.1.2 hb2.2 hk H
       ·cases hs
      ·cases hs
    ·cases hs
   ·cases hs
  ·cases hs
 ·
  rename_i s x t t' d hop hd
  split at hs
  ·rename_i te sv xv hte hsv hxv
   split at hs
   ·rename_i e hse
    split at hs
    ·rename_i ee he
     have hb:=(bvT hs).1
     replace hs:=(bvT hs).2
     simp only [Bool.and_eq_true] at hb
     obtain ⟨⟨⟨⟨b1,b2⟩,b3⟩,b4⟩,b5⟩:=hb
     have ett:=Nat.eq_of_beq_eq_true b2
     subst ett
     split at hs
     ·split at hs
      ·rename_i u hu
       split at hs
       ·rename_i ys hys
        have hb2:=(bvT hs).1
        replace hs:=(bvT hs).2
        simp only [Bool.and_eq_true] at hb2
        obtain ⟨zs,hzs,hk⟩:=Yy hs
        exact Qtw hT hX hr h hw hd b1 hb2.1 hop hte (Yr hse) he hb2.2 b3 b4 b5 hsv hxv hys hzs hk H
       ·cases hs
      ·cases hs
     ·split at hs
      ·rename_i u hu
       split at hs
       ·rename_i ys hys
        have hb2:=(bvT hs).1
        replace hs:=(bvT hs).2
        simp only [Bool.and_eq_true] at hb2
        obtain ⟨zs,hzs,hk⟩:=Yy hs
        exact Jcw hT hX hr h hw hd b1 hb2.1 hop hte (Yr hse) he hb2.2 b3 b4 b5 hsv hxv hys hzs hk H
       ·cases hs
      ·cases hs
     ·rename_i id
      split at hs
      ·rename_i e' u xs hm
       split at hs
       ·rename_i ys hys
        have hb2:=(bvT hs).1
        replace hs:=(bvT hs).2
        simp only [Bool.and_eq_true] at hb2
        have ee':=Nat.eq_of_beq_eq_true hb2.2
        subst ee'
        obtain ⟨zs,hzs,hk⟩:=Yy hs
        exact Qtx hT hX hr h hw hd b1 hb2.1.1 hop hte (Yr hse) he hb2.1.2 b3 b4 b5 hsv hxv hm hys hzs hk H
       ·cases hs
      ·rename_i e' u xs hm
       split at hs
       ·rename_i ys hys
        have hb2:=(bvT hs).1
        replace hs:=(bvT hs).2
        simp only [Bool.and_eq_true] at hb2
        have ee':=Nat.eq_of_beq_eq_true hb2.2
        subst ee'
        obtain ⟨zs,hzs,hk⟩:=Yy hs
        exact Qqo hT hX hr h hw hd b1 hb2.1.1 hop hte (Yr hse) he hb2.1.2 b3 b4 b5 hsv hxv hm hys hzs hk H
       ·cases hs
      ·cases hs
     ·cases hs
    ·cases hs
   ·cases hs
  ·cases hs
 ·
  obtain ⟨hb,hs⟩:=bvT hs
  obtain ⟨av,hk,hsem⟩:=Dj (P:=P) hT rfl hs
  exact Qtu hX hr h hw (by assumption) hb hsem hk H
 ·cases hs
theorem Qt1 (hT:Jb P Y.T) (hX:X.n=n) (hr:X.res=[]) (h:Rel X β ρ S.flat a w) {o:Oper} (hw:Region.wanted o (yielded ops a.tmps)=true) (hs:Qci Y n o S k=some r) (H:KOk P ops Q rest X S β ρ k r) :
  wpList P ops Q (o::rest) a w:=by
 unfold Qci at hs
 split at hs
 ·
  rename_i s x t t' d hop hd
  split at hs
  ·rename_i te te' sv l hte hte' hsv hxv
   split at hs
   ·rename_i e hse
    split at hs
    ·rename_i ee he
     obtain ⟨hb,hs⟩:=bvT hs
     simp only [Bool.and_eq_true] at hb
     obtain ⟨⟨⟨⟨b1,b2⟩,b3⟩,b4⟩,b5⟩:=hb
     have b2:=Qqp b2
     have b3:=Qze b3
     have b4:=Nat.eq_of_beq_eq_true b4
     have b5:=Nat.eq_of_beq_eq_true b5
     split at hs
     ·obtain ⟨hb2,hs⟩:=bvT hs
      obtain ⟨zs,hzs,hk⟩:=Yy hs
      exact Qqr hT hX hr h hw hd b1 hb2 hop hte (Yr hse) hte' b2 he b3 b4 b5 hsv hxv hzs hk H
     ·rename_i id
      split at hs
      ·rename_i e' xs hm
       obtain ⟨hb2,hs2⟩:=bvT hs
       simp only [Bool.and_eq_true] at hb2
       have ee':=Nat.eq_of_beq_eq_true hb2.2
       subst ee'
       obtain ⟨zs,hzs,hk⟩:=Yy hs2
       exact Qqq hT hX hr h hw hd b1 hb2.1 hop hte (Yr hse) hte' b2 he b3 b4 b5 hsv hxv hm hzs hk H
      ·cases hs
     ·cases hs
    ·cases hs
   ·cases hs
  ·cases hs
 ·
  rename_i s t x d hop hd
  split at hs
  ·rename_i se te l hse hte hx
   split at hs
   ·rename_i e hsd
    split at hs
    ·rename_i ee he
     obtain ⟨hb,hs⟩:=bvT hs
     simp only [Bool.and_eq_true] at hb
     obtain ⟨zs,hzs,hk⟩:=Yy hs
     exact Qkl hT hX hr h hw hd hb.1.1 hb.1.2 hop hse hte (Yr hsd) he (Qzf hb.2) hx hzs hk H
    ·cases hs
   ·cases hs
  ·cases hs
 ·
  rename_i t p x hop hd
  split at hs
  ·rename_i e id path v he hp hx
   split at hs
   ·rename_i tid c hm
    obtain ⟨c',hc',hset⟩:=Qdr hs
    obtain ⟨hb,hk⟩:=bvT hc'
    simp only [Bool.and_eq_true] at hb
    exact Qm3 hT h hw hop hd he hp hx hm (fun hM h1 h2=>hset hM h1 h2) hb.1.1 hb.1.2 hb.2 hk H
   ·cases hs
  ·cases hs
 ·
  rename_i dst src t t' d hop hd
  split at hs
  ·rename_i te id xv hte hdv hsv
   split at hs
   ·rename_i e hse
    split at hs
    ·rename_i ee et u xs he hm
     split at hs
     ·rename_i ys hys
      obtain ⟨hb,hk⟩:=bvT hs
      simp only [Bool.and_eq_true] at hb
      exact Jcx hT hX hr h hw hd hb.1.1 hop hte (Yr hse) he hdv hsv hm hys hb.1.2 hb.2 hk H
     ·cases hs
    ·cases hs
   ·cases hs
  ·cases hs
 ·
  rename_i m ky t t' hop hd
  split at hs
  ·rename_i te id kv hte hm hkv
   split at hs
   ·rename_i kt et kk v xs htd hmo
    split at hs
    ·rename_i tk key htk hkey
     obtain ⟨hb,hk⟩:=bvT hs
     simp only [Bool.and_eq_true] at hb
     exact Qty hT h hw hop hd hte htd htk hm hkv hmo hkey hb.1 hb.2 hk H
    ·cases hs
   ·cases hs
  ·cases hs
 ·
  rename_i t m ps d hop hd
  split at hs
  ·rename_i te hte
   split at hs
   ·rename_i e hse
    split at hs
    ·rename_i ee vs he hvs
     split at hs
     ·rename_i c hpl
      obtain ⟨hb,hk⟩:=bvT hs
      simp only [Bool.and_eq_true] at hb
      obtain ⟨⟨⟨⟨⟨⟨b1,b2⟩,b3⟩,b4⟩,b5⟩,b6⟩,b7⟩:=hb
      exact Qt0 hT hX hr h hw hd b1 b2 hop hte (Yr hse) he hvs hpl b3 b4 b5 b6 b7 hk H
     ·cases hs
    ·cases hs
   ·cases hs
  ·cases hs
 ·
  rename_i t x hi d hop hd
  split at hs
  ·rename_i te id hte hx
   split at hs
   ·rename_i e e' u xs hse hm
    split at hs
    ·rename_i ee q he hq
     obtain ⟨hb,hs2⟩:=bvT hs
     simp only [Bool.and_eq_true] at hb
     have ee':=Nat.eq_of_beq_eq_true hb.2
     subst ee'
     obtain ⟨ys,hys,hk⟩:=Yy hs2
     exact Qtz hT hX hr h hw hd hb.1.1.1 hb.1.1.2 hop hte (Yr hse) he hb.1.2 hx hm hq hys (.inl rfl) hk H
    ·cases hs
   ·cases hs
  ·cases hs
 ·
  rename_i t x hi mx d hop hd
  split at hs
  ·rename_i te id hv mv hte hx hhi hmx
   split at hs
   ·rename_i e e' u xs k1 q k2 m hse hm hib him
    split at hs
    ·rename_i ee he
     obtain ⟨hb,hs2⟩:=bvT hs
     simp only [Bool.and_eq_true] at hb
     have ee':=Nat.eq_of_beq_eq_true hb.2
     subst ee'
     obtain ⟨_,hck,hs3⟩:=Yy hs2
     obtain ⟨hck,_⟩:=bvT hck
     simp only [Bool.and_eq_true,decide_eq_true_eq] at hck
     obtain ⟨ys,hys,hk⟩:=Yy hs3
     have hq:bnd S.flat [] xs.length (some hi)=some q:=by
      have hhi':ev S.flat [] hi=some hv:=hhi
      simp only [bnd,hhi',hib]
     exact Qtz hT hX hr h hw hd hb.1.1.1 hb.1.1.2 hop hte (Yr hse) he hb.1.2 hx hm hq hys (.inr ⟨hi,mx,k1,k2,m,rfl,rfl,h.toW.int (Qb a) hhi hib,h.toW.int (Qb a) hmx him,hck.1,hck.2⟩) hk H
    ·cases hs
   ·cases hs
  ·cases hs
 ·cases hs
theorem T4 (hT:Jb P Y.T) (hX:X.n=n) (hr:X.res=[]) (h:Rel X β ρ S.flat a w) {o:Oper} (hw:Region.wanted o (yielded ops a.tmps)=true) (hs:P1 Y n o S k=some r) (H:KOk P ops Q rest X S β ρ k r) :
  wpList P ops Q (o::rest) a w:=by
 unfold P1 at hs
 split at hs
 ·exact Qqu hT hX hr h hw hs H
 ·exact Qt1 hT hX hr h hw hs H
theorem Zl {o:Oper} (hg:o.guard=none) (y:Nat→Option Bool):Region.wanted o y=true:=by unfold Region.wanted; rw [hg]
theorem V3 {l:List Oper} {o:Oper} {t:Nat} {b:Bool} (hg:La l o=some (some (t,b))):Region.wanted o (yielded ⟨l⟩ a.tmps)=true↔a.tmps[t]?=some (.bool b):=by
 unfold La at hg
 split at hg
 ·cases hg
 ·rename_i j want hgd
  split at hg
  ·rename_i p hp
   split at hg
   ·rename_i t' ht
    simp at hg
    obtain ⟨rfl,rfl⟩:=hg
    have hp':(Array.mk l)[j]?=some p:=by simpa using hp
    unfold Region.wanted
    rw [hgd]
    simp only [yielded,hp',Option.bind_some,ht,beq_iff_eq]
    split
    ·rename_i b' hb'
     rw [hb']
     constructor
     ·intro e; injection e with e; subst e; rfl
     ·intro e; injection e with e; injection e with e; subst e; rfl
    ·rename_i hn
     constructor
     ·intro e; cases e
     ·intro e; exact absurd e (hn want)
   ·cases hg
  ·cases hg
theorem Gh {l:List Oper} {o:Oper} (hg:La l o=some none):o.guard=none:=by
 unfold La at hg
 split at hg
 ·assumption
 ·split at hg
  ·split at hg<;>cases hg
  ·cases hg
theorem P3 {o:Oper} (hw:Region.wanted o (yielded ops a.tmps)=false) (h:wpList P ops Q rest (a.put o.dst undef) w):wpList P ops Q (o::rest) a w:=by
 unfold wpList
 rw [if_neg (by rw [hw]; simp)]
 exact h
theorem Qgi (hX:X.n=n) (hr:X.res=[]) (h:Rel X β ρ S.flat a w) {o:Oper} (hw:Region.wanted o (yielded ops a.tmps)=false) (hs:Dl n o S k=some r) (H:KOk P ops Q rest X S β ρ k r) :
  wpList P ops Q (o::rest) a w:=by
 refine P3 hw ?_
 unfold Dl at hs
 split at hs
 ·rename_i d hd
  obtain ⟨hb,hk⟩:=bvT hs
  obtain ⟨h1,h2⟩:=Yv hb hX hr
  rw [hd]
  refine H β ρ _ _ _ hk (Xj S d [] _) ?_
  rw [Kp h2]
  exact h.put0 h1 (x:=.tp .nil) (c:=[.tuple #[]]) ⟨[],rfl,rfl⟩
 ·rename_i hd
  rw [hd]
  exact H β ρ _ _ _ hs (Vu.refl _ _ _) h
theorem Qt2 (hT:Jb P Y.T) (hX:X.n=n) (hr:X.res=[]) (h:Rel X β ρ S.flat a w) {l:List Oper} {o:Oper} {t:Nat} {want:Bool} (hg:La l o=some (some (t,want))) (hs:Nb Y n t want o S k=some r) (H:KOk P ⟨l⟩ Q rest X S β ρ k r) :
  wpList P ⟨l⟩ Q (o::rest) a w:=by
 unfold Nb at hs
 split at hs
 ·rename_i t' cs b d he hd
  obtain ⟨hb,hs⟩:=bvT hs
  simp only [Bool.and_eq_true] at hb
  obtain ⟨h1,h2⟩:=Yv hb.1.1 hX hr
  have htd:=neB hb.1.2
  have hud:∀c∈cs,c.1≠d:=Df (by simpa using hb.2)
  split at hs
  ·rename_i v hv
   obtain ⟨hm,ht'⟩:=Uh he
   simp only at ht'
   subst ht'
   have hkeep:∀u:Value,Ye (a.put (some d) u) ((t',want)::cs)↔Ye a ((t',want)::cs):=by
    intro u
    have hne:∀c∈(t',want)::cs,c.1≠d:=by
     intro c hc
     rcases List.mem_cons.1 hc with rfl | hc
     ·exact htd
     ·exact hud c hc
    exact ⟨fun hc c hm=>by rw [←Vd (hne c hm) u]; exact hc c hm,fun hc c hm=>by rw [Vd (hne c hm) u]; exact hc c hm⟩
   by_cases hw:Region.wanted o (yielded ⟨l⟩ a.tmps)=true
   ·have htb:=(V3 hg).1 hw
    have hcs:Ye a cs:=by
     rcases (h.en hm).2 with h3 | h3
     ·exact h3
     ·simp only at h3; rw [Xq (Aa he),htb] at h3; simp [undef] at h3
    have hcur:Ye a ((t',want)::cs):=by
     intro c hc
     rcases List.mem_cons.1 hc with rfl | hc
     ·exact htb
     ·exact hcs c hc
    obtain ⟨c,h3,h4⟩:=M9 hT h.toW hcur hv
    refine Js hw (Ym h3 ?_)
    rw [hd]
    refine H β ρ _ _ _ hs (Xj S d _ _) ?_
    rw [Kp h2]
    exact h.put h1 (fun _=>⟨c,rfl,h4⟩) (.inl ((hkeep _).2 hcur))
   ·have hw':Region.wanted o (yielded ⟨l⟩ a.tmps)=false:=by simpa using hw
    refine P3 hw' ?_
    rw [hd]
    refine H β ρ _ _ _ hs (Xj S d _ _) ?_
    rw [Kp h2]
    refine h.put h1 (fun hc=>?_) (.inr rfl)
    have:=(hkeep _).1 hc
    exact absurd ((V3 hg).2 (this _ (.head _))) hw
  ·cases hs
 ·cases hs
theorem Qt3 (hT:Jb P Y.T) (hX:X.n=n) (hr:X.res=[]) {l:List Oper} (h:Rel X β ρ S.flat a w) {o:Oper} (hs:Nc Y n l o S k=some r) (H:KOk P ⟨l⟩ Q rest X S β ρ k r):wpList P ⟨l⟩ Q (o::rest) a w:=by
 unfold Nc at hs
 split at hs
 ·rename_i hg
  exact T4 hT hX hr h (Zl (Gh hg) _) hs H
 ·rename_i t want hg
  exact Qt2 hT hX hr h hg hs H
 ·cases hs
theorem Qfn (hT:Jb P Y.T) (hX:X.n=n) (hr:X.res=[]) {l:List Oper} (h:Rel X β ρ S.flat a w) {o:Oper} (hs:Gx.stepL Y n l o S k=some r) (H:KOk P ⟨l⟩ Q rest X S β ρ k r):wpList P ⟨l⟩ Q (o::rest) a w:=by
 unfold Gx.stepL at hs
 split at hs
 ·rename_i hg
  exact T4 hT hX hr h (Zl (Gh hg) _) hs H
 ·rename_i t want hg
  split at hs
  ·rename_i t' b he
   obtain ⟨cs,h1,h2⟩:=h.get he (Qb a)
   have h2':cs=_:=h2
   subst h2'
   have h1':a.tmps[t]?=some (.bool b):=h1
   split at hs
   ·rename_i hb
    have:b=want:=by simpa using hb
    subst this
    exact T4 hT hX hr h ((V3 hg).2 h1') hs H
   ·rename_i hb
    refine Qgi hX hr h ?_ hs H
    have hne:b≠want:=by simpa using hb
    cases hw:Region.wanted o (yielded ⟨l⟩ a.tmps) with
    | false=>rfl
    | true =>
     have:=(V3 hg).1 hw
     rw [h1'] at this
     injection this with this
     injection this with this
     exact absurd this hne
  ·rename_i t' he
   obtain ⟨cs,h1,vs,h2,h3⟩:=h.get he (Qb a)
   subst h2
   refine Qgi hX hr h ?_ hs H
   cases hw:Region.wanted o (yielded ⟨l⟩ a.tmps) with
   | false=>rfl
   | true =>
    have:=(V3 hg).1 hw
    rw [h1] at this
    injection this with this
    cases this
  ·cases hs
 ·cases hs
theorem Qd6 {l:List Oper} (st:Oper→XS→(XS→Option R)→Option R)
  (hst:∀{o:Oper} {rest:List Oper} {S:XS} {β:Nat→Nat} {ρ:Nat→Value} {a:Act} {w:World} {k:XS→Option R},Rel X β ρ S.flat a w→st o S k=some r→KOk P ⟨l⟩ Q rest X S β ρ k r→wpList P ⟨l⟩ Q (o::rest) a w) :
  ∀{l1 rest:List Oper} {S:XS} {β:Nat→Nat} {ρ:Nat→Value} {a:Act} {w:World} {k:XS→Option R},Rel X β ρ S.flat a w→Ro st l1 S k=some r→KOk P ⟨l⟩ Q rest X S β ρ k r→wpList P ⟨l⟩ Q (l1++rest) a w
 | [],rest,S,β,ρ,a,w,k,h,hs,H=>H β ρ S a w hs (Vu.refl _ _ _) h
 | o::l1,rest,S,β,ρ,a,w,k,h,hs,H=>by
  simp only [Ro] at hs
  refine hst (rest:=l1++rest) h hs fun β' ρ' S' a' w' hk hkeep h'=>?_
  exact Qd6 st hst h' hk (H.after hkeep)
end
end Gx

/- Literals as rows; maps of maps. -/
namespace Gx
open Go Go.RowKit Gd
set_option linter.unusedVariables false
set_option linter.unusedSimpArgs false
theorem Qgj {v:Value} (h:Tj v=true):v=.map none:=by
 unfold Tj at h
 split at h
 ·rfl
 ·cases h
section
variable {k:Ty} {ν:Type}
theorem T5 (key:k.De):∀{xs:List (k.De×ν)},Q0 key (xs.map fun q=>(q.1,()))=(Q0 key xs).map fun _=>()
 | []=>rfl
 | x::l=>by
  simp only [List.map_cons,Q0]
  cases eqK k key x.1 with
  | true=>rfl
  | false=>exact T5 key
theorem Qco (key:k.De) (y:ν):∀{xs:List (k.De×ν)},(Vq key y xs).map (fun q=>(q.1,()))=Vq key () (xs.map fun q=>(q.1,()))
 | []=>rfl
 | x::l=>by
  simp only [List.map_cons,Vq]
  cases eqK k key x.1 with
  | true=>rfl
  | false=>simp only [cond_false,List.map_cons]; rw [Qco key y]
theorem Qgk (key:k.De) (y:ν):∀{xs:List (k.De×ν)},(key,y)∈Vq key y xs
 | []=>by simp [Vq]
 | x::l=>by
  simp only [Vq]
  cases eqK k key x.1 with
  | true=>exact .head _
  | false=>exact .tail _ (Qgk key y)
theorem Qcp (hk:Ck k=true) {key:k.De} {y:ν}:∀{xs:List (k.De×ν)},(xs.map Prod.fst).Nodup→(key,y)∈xs→Q0 key xs=some y
 | x::l,hn,h=>by
  have hn':=List.nodup_cons.1 (by simpa using hn:(x.1::l.map Prod.fst).Nodup)
  simp only [Q0]
  rcases List.mem_cons.1 h with rfl | h
  ·rw [(U6 hk).2 rfl]; rfl
  ·cases hb:eqK k key x.1 with
   | true =>
    have:=(U6 hk).1 hb
    exact absurd (List.mem_map.2 ⟨(key,y),h,this⟩) hn'.1
   | false=>exact Qcp hk hn'.2 h
end
section
variable {P:Program} {Y:TX} {X:Cx} {S:XS} {β β':Nat→Nat} {ρ ρ':Nat→Value} {a a':Act} {w w':World} {n:Nat}
variable {ops:Array Oper} {Q:Exit→Act→World→Prop} {rest:List Oper} {R:Type} {k:XS→Option R} {r:R}
theorem Qkn (hX:X.n=n) (hr:X.res=[]) (h:Rel X β ρ S.flat a w) {o:Oper} (hw:Region.wanted o (yielded ops a.tmps)=true) {d:Nat} (hd:o.dst=some d) (hwd:okW n S d=true) (hb:okB S d=true) {t:TypeId} (hop:o.op=.makeMap t none) {kk:Ty}
  (hk:k ((S.born d (.mapO kk [] none)).put d [] (.m d))=some r) (H:KOk P ops Q rest X S β ρ k r):wpList P ops Q (o::rest) a w:=by
 obtain ⟨h1,h2⟩:=Yv hwd hX hr
 obtain ⟨f1,f2,f3⟩:=Kj hb
 have hrun:(execOp a.eval o).run P w=.ok (.value (.map (some w.heap.size))) (w.alloc (.map #[] 0)):=by
  unfold execOp
  rw [hop]
  simp [Instr.makeMap]
 refine Js hw (Ym hrun ?_)
 rw [hd]
 have ha:=Xh d β ρ w.heap.size (ρ d)
 have hbel:Below w.heap.size w (w.alloc (.map #[] 0)):=(Below.refl _ _).alloc (Nat.le_refl _) _
 refine H (upd β d w.heap.size) (upd ρ d (ρ d)) _ _ _ hk (U2 f3 ha _ _ _) ?_
 have hA:Rel X (upd β d w.heap.size) (upd ρ d (ρ d)) ⟨Yu (Ud d S.env) d++S.fix,(d,.mapO kk [] none)::(S.mem++S.fixM)⟩ a (w.alloc (.map #[] 0)):=by
  refine Rel.alloc h ha f1 (fun e he=>let ⟨q1,q2,_⟩:=Er f2 h2 e he; ⟨q1,q2⟩) hbel (fun g hg=>?_) ?_
  ·have hg':g=upd β d w.heap.size d:=hg
   rw [J7] at hg'; omega
  ·refine ⟨[],⟨#[],0,?_,rfl,by simp,by simp,by simp⟩,rfl,fun q hq=>by cases hq⟩
   rw [J7]; exact heap_alloc_new w _
 have hP:=hA.put0 h1 (x:=.m d) (c:=[.map (some (upd β d w.heap.size d))]) rfl
 have hv:(AV.m d).val [.map (some (upd β d w.heap.size d))]=.map (some w.heap.size):=by rw [J7]; rfl
 rw [hv] at hP
 have he:((S.born d (.mapO kk [] none)).put d [] (.m d)).flat=⟨⟨d,[],.m d⟩::(Yu (Ud d S.env) d++S.fix),(d,.mapO kk [] none)::(S.mem++S.fixM)⟩:=rfl
 rw [he]
 refine hP.less fun e hm=>?_
 rcases List.mem_cons.1 hm with rfl | hm
 ·exact .head _
 ·refine .tail _ ?_
  have:Yu (Yu (Ud d S.env) d++S.fix) d=Yu (Ud d S.env) d++S.fix:=by
   rw [K8 h2]
   congr 1
   have idem:∀l:List En,Yu (Yu l d) d=Yu l d:=by
    intro l
    induction l with
    | nil=>rfl
    | cons x l ih =>
     simp only [Yu]
     cases hb:(Nat.beq x.t d||Cc d x.cs) with
     | true=>simpa using ih
     | false=>simp only [cond_false,Yu,hb,ih]
   exact idem _
  show e∈Yu (Yu (Ud d S.env) d++S.fix) d
  rw [this]; exact hm
theorem Jcy (hT:Jb P Y.T) (h:Rel X β ρ S.flat a w) {o:Oper} (hw:Region.wanted o (yielded ops a.tmps)=true) {t:TypeId} {m ky x:Operand} (hop:o.op=.mapUpdate t m ky x) (hd:o.dst=none) {te tk:TE} {kt et:TypeId} (hte:Qi Y.T t=some te) (htd:te.d=.map kt et) (htk:Qi Y.T kt=some tk)
  {id j:Nat} {kv:AV} {kk:Ty} {xs:List (kk.De×Unit)} {last:Option (kk.De×Nat)} {key:kk.De} (hm:S.ev [] m=some (.m id)) (hkv:S.ev [] ky=some kv) (hx:S.ev [] x=some (.m j)) (hmo:Qe S.mem id=some (.mapO kk xs last)) (hkey:asD [] kv kk=some key)
  (hdk:Vk Y.T kk tk.d=true) (hka:(kk.agg==kv.isAgg)=true)
  (hk:k (S.set id (.mapO kk (Vq key () xs) (some (key,j))))=some r) (H:KOk P ops Q rest X S β ρ k r):wpList P ops Q (o::rest) a w:=by
 obtain ⟨c1,h1,h2⟩:=h.ev (Qb a) hm
 have h2':c1=[.map (some (β id))]:=h2
 subst h2'
 have h1':a.eval m=.map (some (β id)):=h1
 obtain ⟨c2,g1,g2⟩:=h.ev (Qb a) hx
 have g2':c2=[.map (some (β j))]:=g2
 subst g2'
 have g1':a.eval x=.map (some (β j)):=g1
 have hxv:isV Qpz (okR X β ρ S.flat.mem w) w (some (β j)) (a.eval x):=⟨[.map (some (β j))],rfl,g1'⟩
 obtain ⟨c3,h3,h4⟩:=h.ev (Qb a) hkv
 have hkr:isV (rt kk) (okR X β ρ S.flat.mem w) w key (a.eval ky):=by
  refine ⟨c3,Ut (M:=[]) (β:=β) (ρ:=ρ) (by simp [Qe]) hkey h4,?_⟩
  rw [h3]; simp only [AV.val,RT.val,W7,bEq hka]; cases kv.isAgg<;>rfl
 have hke:=Zx (Yc hdk) hkr
 have hm':Qe S.flat.mem id=some (.mapO kk xs last):=Jd hmo
 obtain ⟨⟨xs',⟨es,clock,hg,hp,hnd,hst1,hst2⟩,hxs,hlast⟩,hmine⟩:=h.ob hm'
 obtain ⟨es',clock',hrun,hp',hst'⟩:=Lg hT hte htd htk hdk hg hp ⟨hst1,hst2⟩ key hxv
 have hrun':(execOp a.eval o).run P w=.ok .skip { w with heap:=w.heap.setIfInBounds (β id) (.map es' clock') }:=by
  unfold execOp
  rw [hop]
  simp only [h1',hke]
  simp [hrun]
 refine Js hw ?_
 unfold Oper.wp
 rw [hrun']
 show wpList P ops Q rest (a.put o.dst undef) _
 rw [hd]
 have hgl:=Vg hg
 obtain ⟨l1,l2,e1,e2,e3⟩:=Yd hm'
 have hO:Qf β ρ S.flat.mem=Qf β ρ l1++Q2 β ρ id (.mapO kk xs last)::Qf β ρ l2:=by rw [e1]; simp [Qf]
 have hS:=h.upd hO (t':=Q2 β ρ id (.mapO kk (Vq key () xs) (some (key,j)))) (w':={ w with heap:=w.heap.setIfInBounds (β id) (.map es' clock') }) rfl rfl rfl (by simp) (fun b hb hn=>(MapKept.heap_set hg).2 b fun e=>hn e) (fun b o hb=>hb) (fun g hg=>.inl hg) (fun hevo hok=>by
  refine ⟨Vq key (some (β j)) xs',⟨es',clock',(MapKept.heap_set hg).1,?_,(Io (Yc hdk) key (some (β j)) hnd).1,hst'.1,hst'.2⟩,?_,fun q hq=>?_⟩
  ·exact Xf (Ef hp' hevo) hok
  ·rw [Qco,hxs]
  ·simp only [Cb,Option.map_some,Option.some.injEq] at hq
   subst hq
   exact Qgk key _)
 have hE:(S.set id (.mapO kk (Vq key () xs) (some (key,j)))).flat=⟨S.flat.env,Lu S.flat.mem id (.mapO kk (Vq key () xs) (some (key,j)))⟩:=by
  simp only [XS.flat,XS.set]
  rw [K9 hmo]
 refine H β ρ _ _ _ hk ⟨rfl,rfl,rfl,agP.refl _ _ _⟩ ?_
 rw [hE,e2]
 have hmem:Qf β ρ (l1++(id,Ob.mapO kk (Vq key () xs) (some (key,j)))::l2)=Qf β ρ l1++Q2 β ρ id (.mapO kk (Vq key () xs) (some (key,j)))::Qf β ρ l2:=by simp [Qf]
 exact Rel.ofSb hS hmem.symm fun e he=>by
  have:=Jw.1 hS.dat _ (List.mem_map.2 ⟨e,he,rfl⟩)
  rw [←hmem] at this
  exact this
theorem Qt4 {β:Nat→Nat} {ρ:Nat→Value} {ok:Ok} {a:Act} {w:World} {S:St} (h:Xn β ρ ok S a w) {cur:Vy} (hc:Ye a cur) {ky:Operand} {kv:AV} (hkv:Gx.ev S cur ky=some kv) {kk:Ty} {key:kk.De} (hkey:asD [] kv kk=some key) {d:TypeDesc} {T:Tab} (hdk:Vk T kk d=true) (hka:(kk.agg==kv.isAgg)=true):a.eval ky=Vi kk key:=by
 obtain ⟨c3,h3,h4⟩:=h.ev hc hkv
 refine Zx (ok:=ok) (w:=w) (Yc hdk) ⟨c3,Ut (M:=[]) (β:=β) (ρ:=ρ) (by simp [Qe]) hkey h4,?_⟩
 rw [h3]; simp only [AV.val,RT.val,W7,bEq hka]; cases kv.isAgg<;>rfl
theorem Qgl (hT:Jb P Y.T) (hX:X.n=n) (hr:X.res=[]) (h:Rel X β ρ S.flat a w) {o:Oper} (hw:Region.wanted o (yielded ops a.tmps)=true) (hs:Li Y n o S k=some r) (H:KOk P ops Q rest X S β ρ k r):wpList P ops Q (o::rest) a w:=by
 unfold Li at hs
 split at hs
 ·rename_i t m ps d hop hd
  split at hs
  ·rename_i te hte
   split at hs
   ·rename_i e htd0
    split at hs
    ·rename_i ee u vs he hu hvs
     split at hs
     ·rename_i xs hxs
      obtain ⟨hb,hk⟩:=bvT hs
      simp only [Bool.and_eq_true] at hb
      obtain ⟨⟨⟨⟨⟨⟨hwd,hbb⟩,hsz⟩,hl⟩,hsm⟩,hpos⟩,hzl⟩:=hb
      have htd:=Yr htd0
      obtain ⟨f1,f2,f3⟩:=Kj hbb
      obtain ⟨h1,h2⟩:=Yv hwd hX hr
      have hg:=Ep h hw
      obtain ⟨us,q1,q2,q3,q4⟩:=Qd4 h hvs hxs
      have hes:=Nat.eq_of_beq_eq_true hsz
      have hxl:=Nat.eq_of_beq_eq_true hl
      have hcl:∀v∈us,(Qm v).length=ee.size:=fun v hv=>by rw [Oq q2 v hv,Jv,hes]
      have hz0:(Uc (Qm ee.z) ((m+1)*ee.size)).length=(m+1)*ee.size:=by simp [Uc]
      have hfill:=Qb6 us 0 (Uc (Qm ee.z) ((m+1)*ee.size)) hcl (by rw [hz0,Nat.zero_add,q3,hxl]; exact Nat.le_refl _)
      rw [←q1] at hfill
      have hfill':Hk (A8 ee.size) (Uc (Qm ee.z) ((m+1)*ee.size)) (ps.map (fun p=>(p.1,a.eval p.2)))=some (us.flatMap Qm):=by
       rw [hfill]
       simp only [Nat.zero_mul,List.take_zero,List.nil_append,Nat.zero_add]
       rw [List.drop_of_length_le (by rw [hz0,q3,hxl]; exact Nat.le_refl _),List.append_nil]
      rw [Xa o,hd,hop] at hg ⊢
      refine Qgh hT h.toG (r:=rt u) hg h1 q4 hte htd he (by rw [Jv]; exact hes) hxl hsm hpos (Nat.succ_le_succ (Nat.zero_le _)) hzl hfill' q2 fun b a' w' hS=>?_
      refine H β (upd ρ d (.slice (some ⟨b,0,none⟩) xs.length (m+1))) _ _ _ hk (U2 f3 (Yw d β ρ _) _ _ _) ?_
      have:=Zk (o:=.row e u xs) hX hr h.sz hwd f1 f2 f3 hS (by simp only [Q2,J7]; exact Zi.refl _) ⟨_,_,_,rfl⟩
      exact this
     ·cases hs
    ·cases hs
   ·cases hs
  ·cases hs
 ·
  rename_i t rs d hop hd
  split at hs
  ·rename_i te hte
   split at hs
   ·rename_i kt et htd
    split at hs
    ·rename_i kk hkk
     obtain ⟨hb,hk⟩:=bvT hs
     simp only [Bool.and_eq_true] at hb
     have hrs:=Iv hb.2
     subst hrs
     exact Qkn hX hr h hw hd hb.1.1 hb.1.2 hop hk H
    ·cases hs
   ·cases hs
  ·cases hs
 ·
  rename_i t m ky x hop hd
  split at hs
  ·rename_i te id kv j hte hm hkv hx
   split at hs
   ·rename_i kt et kk xs last htd hmo
    split at hs
    ·rename_i tk key htk hkey
     obtain ⟨hb,hk⟩:=bvT hs
     simp only [Bool.and_eq_true] at hb
     exact Jcy hT h hw hop hd hte htd htk hm hkv hx hmo hkey hb.1 hb.2 hk H
    ·cases hs
   ·cases hs
  ·cases hs
 ·
  rename_i t m ky d hop hd
  split at hs
  ·rename_i te kv hte hkv
   split at hs
   ·rename_i kt et htd
    split at hs
    ·rename_i tk tz id htk htz hm
     split at hs
     ·rename_i kk xs last hmo
      split at hs
      ·rename_i key hkey
       obtain ⟨hb,hs⟩:=bvT hs
       simp only [Bool.and_eq_true] at hb
       obtain ⟨⟨⟨hwd,hdk⟩,hka⟩,hz⟩:=hb
       have hz:=Qgj hz
       have gen:∀(xv:AV),(∀{β:Nat→Nat} {ρ:Nat→Value} {ok:Ok} {w:World} {xs':List (kk.De×Option Nat)} {v:Value},(xs'.map Prod.fst).Nodup→xs'.map (fun q=>(q.1,()))=xs→(∀q,Cb β last=some q→(q.1,some q.2)∈xs')→isV Qpz ok w ((Q0 key xs').getD none) v→∃cs,v=xv.val cs∧cr β ρ ok w false xv cs)→k (S.put d [] xv)=some r→wpList P ops Q (o::rest) a w:=by
        intro xv hxv hk
        refine Qtu hX hr h hw hd hwd (x:=xv) (fun {β ρ ok a w} h hc=>?_) hk H
        obtain ⟨c1,h1,h2⟩:=h.ev hc hm
        have h2':c1=[.map (some (β id))]:=h2
        subst h2'
        have h1':a.eval m=.map (some (β id)):=h1
        have hke:=Qt4 h hc hkv hkey hdk hka
        obtain ⟨xs',⟨es,clock,hg,hp,hnd,_⟩,hxs,hlast⟩:=h.mm _ _ hmo
        obtain ⟨v,hrun,hv,_⟩:=Lv hT hte htd htk htz hdk hg hp key (z:=none) ⟨[.map none],rfl,hz⟩ false
        obtain ⟨cs,q1,q2⟩:=hxv hnd hxs hlast hv
        refine ⟨cs,?_,q2⟩
        unfold execOp
        rw [hop]
        simp only [h1',hke]
        simp only [Bool.false_eq_true,if_false] at hrun
        simp [hrun,q1]
       cases last with
       | some q =>
        obtain ⟨_,hch,hk⟩:=Yy hs
        unfold chk at hch
        have hkk:=(U6 (Yc hdk)).1 (bvT hch).1
        refine gen _ (fun {β ρ ok w xs' v} hnd hxs hlast hv=>?_) hk
        have hf:=Qcp (Yc hdk) hnd (hlast (q.1,β q.2) rfl)
        rw [hkk,hf] at hv
        obtain ⟨cs,v1,v2⟩:=hv
        have v1':cs=[.map (some (β q.2))]:=v1
        subst v1'
        exact ⟨[.map (some (β q.2))],v2,rfl⟩
       | none =>
        obtain ⟨_,hch,hk⟩:=Yy hs
        unfold chk at hch
        have hnone:=Iv (bvT hch).1
        refine gen _ (fun {β ρ ok w xs' v} hnd hxs hlast hv=>?_) hk
        rw [←hxs,T5] at hnone
        have hf:Q0 key xs'=none:=by
         cases hf:Q0 key xs' with
         | none=>rfl
         | some y=>rw [hf] at hnone; cases hnone
        rw [hf] at hv
        obtain ⟨cs,v1,v2⟩:=hv
        have v1':cs=[.map none]:=v1
        subst v1'
        exact ⟨[.map none],v2,rfl⟩
      ·cases hs
     ·cases hs
    ·rename_i tk tz htk htz hm
     split at hs
     ·rename_i kk v hkk hvv
      split at hs
      ·rename_i key za hkey hza
       split at hs
       ·rename_i z hz
        obtain ⟨hb,hk⟩:=bvT hs
        simp only [Bool.and_eq_true] at hb
        obtain ⟨⟨⟨hwd,hdk⟩,hka⟩,hva⟩:=hb
        refine Qtu hX hr h hw hd hwd (x:=.d v z) (fun {β ρ ok a w} h hc=>?_) hk H
        obtain ⟨c1,h1,h2⟩:=h.ev hc hm
        have h2':c1=[.map none]:=h2
        subst h2'
        have h1':a.eval m=.map none:=h1
        have hke:=Qt4 h hc hkv hkey hdk hka
        have hrun:=Qbp (w:=w) hT hte htd htk htz hdk key false
        refine ⟨Qm tz.z,?_,Ut (M:=[]) (β:=β) (ρ:=ρ) (by simp [Qe]) hz (X5 hza)⟩
        have hvz:(AV.d v z).val (Qm tz.z)=tz.z:=by
         have:=Oo (bEq hva)
         simp only [AV.val,AV.isAgg]
         simp only [RT.val,W7] at this
         cases hv2:v.agg<;>rw [hv2] at this<;>exact this
        unfold execOp
        rw [hop]
        simp only [h1',hke,hvz]
        simp only [Bool.false_eq_true,if_false] at hrun
        simp [hrun]
       ·cases hs
      ·cases hs
     ·cases hs
    ·cases hs
   ·cases hs
  ·cases hs
 ·cases hs
end
end Gx

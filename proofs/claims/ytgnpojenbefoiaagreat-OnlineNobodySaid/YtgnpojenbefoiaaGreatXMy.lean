/- A key is taken out of a map; the beginning of a row of one's own. -/
import Derived.Test.YtgnpojenbefoiaaGreatXMb
namespace Gx
open Go Go.RowKit Gd
set_option linter.unusedVariables false
set_option linter.unusedSimpArgs false
section
variable {P:Program} {T:Tab}
theorem Qa2 (hT:Qy P T) {kt:TypeId} {te:TE} (ht:Qe T kt=some te) {k:Ty} (h:Ys T k te.d=true) (key:k.De) {ν:Type} {s:RT ν} {ok:Ok} {w:World}:∀{xs:List (k.De×ν)} {es:List MapEntry},Kn (rt k) s ok w xs es →
  (Qx key xs=none∧Ip key xs=xs) ∨
  (∃(j:Nat) (e:MapEntry),(∀i,(Instr.findAsking kt (Ye k key) es i).run P w=.ok (some (i+j,e.val)) w)∧es[j]?=some e∧Kn (rt k) s ok w (Ip key xs) (es.eraseIdx j))
 | [],es,hp=>.inl ⟨rfl,rfl⟩
 | x::xs,es,hp=>by
  obtain ⟨e,es',rfl,h1,h2,h3⟩:=hp
  have hk:=Up (Q9 h) h1
  have heq:=Xo hT ht h key x.1 w
  simp only [Ip,Qx,Instr.findAsking,Sem.run_bind,hk,heq,Result.andThen_ok]
  cases he:eqK k key x.1 with
  | true=>exact .inr ⟨0,e,by simp,rfl,h3⟩
  | false =>
   rcases Qa2 hT ht h key h3 with ⟨q1,q2⟩ | ⟨j,e',q2,q3,q5⟩
   ·exact .inl ⟨q1,by simp only [cond_false,q2]⟩
   ·exact .inr ⟨j+1,e',fun i=>by rw [show i+(j+1)=i+1+j by omega]; simpa using q2 (i+1),q3,⟨e,_,rfl,h1,h2,q5⟩⟩
theorem Qcs {k:Ty} {ν:Type} (key:k.De):∀{xs:List (k.De×ν)},(Ip key xs).Sublist xs
 | []=>List.Sublist.refl _
 | x::xs=>by
  simp only [Ip]
  cases eqK k key x.1 with
  | true=>exact (List.Sublist.refl _).cons _
  | false=>exact (Qcs key).cons_cons _
theorem Qgg (hT:Qy P T) {t kt et:TypeId} {te tk:TE} (ht:Qe T t=some te) (htd:te.d=.map kt et) (hk:Qe T kt=some tk)
  {k:Ty} {ν:Type} {s:RT ν} (hd:Ys T k tk.d=true) {ok:Ok} {w:World} {g:Nat} {es:Array MapEntry} {clock:Nat} (hg:w.heap[g]?=some (.map es clock)) {xs:List (k.De×ν)} (hp:Kn (rt k) s ok w xs es.toList) (hst:Xq es clock) (key:k.De) (kt' ty:TypeId) :
  ∃es',(Builtin.delete_ #[t,kt'] ty #[.map (some g),Ye k key]).run P w=.ok (.tuple #[]) { w with heap:=w.heap.setIfInBounds g (.map es' clock) }∧Kn (rt k) s ok w (Ip key xs) es'.toList∧Xq es' clock:=by
 have hu:=(Js hT ht).2
 rw [htd] at hu
 rcases Ge hT hk hd key w hp with ⟨q1,q2⟩ | ⟨j,e,y,q1,q2,q3,q4,q5⟩
 ·refine ⟨es,?_,?_,hst⟩
  ·simp [Builtin.delete_,run_underlying hu,MapKept.run_getObj_map hg,Kb hT hk hd,q2,MapKept.run_setObj_map _ hg,Result.andThen]
  ·rcases Qa2 hT hk hd key hp with ⟨_,r2⟩ | ⟨j,e,r1,r2,r3⟩
   ·rw [r2]; exact hp
   ·have r4:=r1 0
    have:=Hw hT hk hd key w hp r4
    rw [q2] at this
    injection this with this; cases this
 ·rcases Qa2 hT hk hd key hp with ⟨r1,_⟩ | ⟨j',e',r1,r2,r3⟩
  ·rw [q1] at r1; cases r1
  ·have r4:=r1 0
   have:=Hw hT hk hd key w hp r4
   rw [q2] at this
   injection this with this
   simp only [Option.some.injEq,Prod.mk.injEq] at this
   have hj:j=j':=by omega
   subst hj
   have hlt:j<es.size:=by have:=(List.getElem?_eq_some_iff.1 q3).1; simpa using this
   have hl:(es.eraseIdxIfInBounds j).toList=es.toList.eraseIdx j:=by
    unfold Array.eraseIdxIfInBounds
    rw [dif_pos hlt,Array.toList_eraseIdx]
   refine ⟨es.eraseIdxIfInBounds j,?_,by rw [hl]; exact r3,?_,fun e he=>?_⟩
   ·simp [Builtin.delete_,run_underlying hu,MapKept.run_getObj_map hg,Kb hT hk hd,q2,MapKept.run_setObj_map _ hg,Result.andThen]
   ·rw [hl]
    exact hst.1.sublist ((List.eraseIdx_sublist _ _).map _)
   ·rw [hl] at he
    exact hst.2 e ((List.eraseIdx_sublist _ _).subset he)
end
section
variable {P:Program} {Y:TX} {X:Cx} {S:XS} {β β':Nat→Nat} {ρ ρ':Nat→Value} {a a':Act} {w w':World} {n:Nat}
variable {ops:Array Oper} {Q:Exit→Act→World→Prop} {rest:List Oper} {R:Type} {k:XS→Option R} {r:R}
theorem Qpo (hT:Qy P Y.T) (h:Rel X β ρ S.flat a w) {o:Oper} (hw:Region.wanted o (yielded ops a.tmps)=true) {t t':TypeId} {m ky:Operand} (hop:o.op=.call ⟨.builtin .delete,⟨[m,ky]⟩,⟨[t,t']⟩⟩) (hd:o.dst=none) {te tk:TE} {kt et:TypeId} (hte:Qe Y.T t=some te) (htd:te.d=.map kt et) (htk:Qe Y.T kt=some tk)
  {id:Nat} {kv:AV} {kk v:Ty} {xs:List (kk.De×v.De)} {key:kk.De} (hm:S.ev [] m=some (.m id)) (hkv:S.ev [] ky=some kv) (hmo:Qb S.mem id=some (.map kk v xs)) (hkey:asD [] kv kk=some key)
  (hdk:Ys Y.T kk tk.d=true) (hka:(kk.agg==kv.isAgg)=true)
  (hk:k (S.set id (.map kk v (Ip key xs)))=some r) (H:KOk P ops Q rest X S β ρ k r):wpList P ops Q (o::rest) a w:=by
 obtain ⟨c1,h1,h2⟩:=h.ev (Qa a) hm
 have h2':c1=[.map (some (β id))]:=h2
 subst h2'
 have h1':a.eval m=.map (some (β id)):=h1
 obtain ⟨c3,h3,h4⟩:=h.ev (Qa a) hkv
 have hkr:isV (rt kk) (okR X β ρ S.flat.mem w) w key (a.eval ky):=by
  refine ⟨c3,V8 (M:=[]) (β:=β) (ρ:=ρ) (by simp [Qb]) hkey h4,?_⟩
  rw [h3]; simp only [AV.val,RT.val,Xn,bEq hka]; cases kv.isAgg<;>rfl
 have hke:=Up (Q9 hdk) hkr
 have hm':Qb S.flat.mem id=some (.map kk v xs):=Q0 hmo
 obtain ⟨⟨es,clock,hg,hp,hnd,hst1,hst2⟩,hmine⟩:=h.ob hm'
 obtain ⟨es',hrun,hp',hst'⟩:=Qgg hT hte htd htk hdk hg hp ⟨hst1,hst2⟩ key t' o.type
 have hrun':(execOp a.eval o).run P w=.ok (.value (.tuple #[])) { w with heap:=w.heap.setIfInBounds (β id) (.map es' clock) }:=by
  unfold execOp
  have hmm:(Array.mk [m,ky]).map a.eval=⟨[.map (some (β id)),Ye kk key]⟩:=by simp [h1',hke]
  simp only [hop,resolve,hmm,invoke,builtin]
  simp [hrun]
 refine Q8 hw (Jv hrun' ?_)
 rw [hd]
 have hO':=Jl hm'
 obtain ⟨l1,l2,e1,e2,e3⟩:=hO'
 have hO:Qc β ρ S.flat.mem=Qc β ρ l1++Qp β ρ id (.map kk v xs)::Qc β ρ l2:=by rw [e1]; simp [Qc]
 have hS:=h.upd hO (t':=Qp β ρ id (.map kk v (Ip key xs))) (w':={ w with heap:=w.heap.setIfInBounds (β id) (.map es' clock) }) rfl rfl rfl (by simp) (fun b hb hn=>(MapKept.heap_set hg).2 b fun e=>hn e) (fun b o hb=>hb) (fun g hg=>.inl hg) (fun hevo hok=>by
  refine ⟨es',clock,(MapKept.heap_set hg).1,?_,hnd.sublist ((Qcs key).map _),hst'.1,hst'.2⟩
  exact Uu (Xg hp' hevo) hok)
 have hE:(S.set id (.map kk v (Ip key xs))).flat=⟨S.flat.env,Ht S.flat.mem id (.map kk v (Ip key xs))⟩:=by
  simp only [XS.flat,XS.set]
  rw [Zf hmo]
 refine H β ρ _ _ _ hk ⟨rfl,rfl,rfl,agP.refl _ _ _⟩ ?_
 rw [hE,e2]
 have hmem:Qc β ρ (l1++(id,Ob.map kk v (Ip key xs))::l2)=Qc β ρ l1++Qp β ρ id (.map kk v (Ip key xs))::Qc β ρ l2:=by simp [Qc]
 exact Rel.ofSb hS hmem.symm fun e he=>by
  have:=Jf.1 hS.dat _ (List.mem_map.2 ⟨e,he,rfl⟩)
  rw [←hmem] at this
  exact this
theorem Qpp (hT:Qy P Y.T) (hX:X.n=n) (hr:X.res=[]) (h:Rel X β ρ S.flat a w) {o:Oper} (hw:Region.wanted o (yielded ops a.tmps)=true) {d:Nat} (hd:o.dst=some d) (hwd:okW n S d=true) {id:Nat}
  (hb:okB ⟨S.env,S.fix,J3 S.mem id,S.fixM,S.prot⟩ d=true) {t:TypeId} {x:Operand} {hi mx:Option Operand} (hop:o.op=.slice t x none hi mx) {te ee:TE} {e:TypeId} (hte:Qe Y.T t=some te) (htd:te.d=.slice e) (he:Qe Y.T e=some ee) {u:Ty} (hsz:Nat.beq ee.size u.size=true)
  {xs ys:List u.De} (hx:S.ev [] x=some (.s id)) (hm:Qb S.mem id=some (.row e u xs)) {q:Int} (hq:bnd S.flat [] xs.length hi=some q) (hys:slc xs 0 q=some ys)
  (hmx:mx=none∨∃hv mv k1 k2 m,hi=some hv∧mx=some mv∧a.eval hv=.int k1 q∧a.eval mv=.int k2 m∧q≤m∧m≤(xs.length:Int))
  (hk:k (({ S with mem:=J3 S.mem id }.born d (.row e u ys)).put d [] (.s d))=some r) (H:KOk P ops Q rest X S β ρ k r):wpList P ops Q (o::rest) a w:=by
 obtain ⟨f1,f2,f3⟩:=Zv hb
 obtain ⟨h1,h2⟩:=J7 hwd hX hr
 have hg:=H3 h hw
 obtain ⟨c1,hse,⟨v0,hs2,hz0⟩,A,m,c,hρ⟩:=h.ev (Qa a) hx
 subst hs2
 have hm':Qb S.flat.mem id=some (.row e u xs):=Q0 hm
 have e4':J3 S.mem id++S.fixM=J3 S.flat.mem id:=(Z7 hm).symm
 obtain ⟨h0,hq1,hq2,hys',hyl⟩:=slc_ok hys
 have hysT:ys=xs.take q.toNat:=by rw [hys']; simp
 have hun:(underlying t).run P w=.ok (.slice e) w:=by rw [Ji hT w hte,htd]
 obtain ⟨⟨hl0,cs0,hown0,hr0⟩,hmine⟩:=h.ob hm'
 have hsz':=Nat.eq_of_beq_eq_true hsz
 have hgo:∀(A':Option Addr) (c':Nat),a.eval x=.slice A' xs.length c'→xs.length≤c'→(c'≠0→∀ad,A'=some ad→ad.add 0=ad)→∃c2,ys.length≤c2∧c2≤c'∧(execOp a.eval o).run P w=.ok (.value (.slice A' ys.length c2)) w:=by
  intro A' c' hv hcc hadd
  obtain ⟨c2,hc2,hc3,hbn⟩:∃c2,ys.length≤c2∧c2≤c'∧(Instr.sliceBounds true xs.length c' none (hi.map a.eval) (mx.map a.eval)).run P w=.ok (0,q.toNat,c2) w:=by
   rcases hmx with rfl | ⟨hv',mv,k1,k2,m,rfl,rfl,e1,e2,e3,e5⟩
   ·exact ⟨c',by omega,Nat.le_refl _,Er (P:=P) (w:=w) (isS:=true) (lo:=none) (len:=xs.length) (cap:=c') (.inl ⟨rfl,rfl⟩) (h.toW.bnd (Qa a) hq) (Int.le_refl 0) hq1 (by omega) hcc⟩
   ·exact ⟨m.toNat,by omega,by omega,Mh (P:=P) (w:=w) (lo:=none) (len:=xs.length) (cap:=c') (.inl ⟨rfl,rfl⟩) e1 e2 (Int.le_refl 0) hq1 e3 (by omega)⟩
  refine ⟨c2,hc2,hc3,?_⟩
  have hA':(if c2=0 then A' else A'.map (·.add (0*u.size)))=A':=by
   split
   ·rfl
   ·rename_i hc0
    cases A' with
    | none=>rfl
    | some ad=>rw [Nat.zero_mul]; simp [hadd (by omega) ad rfl]
  have hlen:q.toNat - 0=ys.length:=by omega
  unfold execOp
  rw [hop]
  simp only [hv]
  simp [Instr.sliceAt,hun,Instr.slice,hbn,Jy hT w he,hsz',hlen]
  simpa using hA'
 rcases hz0 with hz0 | ⟨h00,A0,hz0⟩
 case inr =>
  have hse':a.eval x=.slice A0 0 0:=by rw [hse,←hz0]; rfl
  have hxs:xs=[]:=by
   rw [h00] at hl0
   exact List.length_eq_zero_iff.1 hl0.symm
  subst hxs
  have hy0:ys=[]:=by rw [hysT]; simp
  subst hy0
  obtain ⟨c2,_,hc3,hrun⟩:=hgo A0 0 hse' (Nat.le_refl _) (fun h=>absurd rfl h)
  have hc0:c2=0:=by omega
  subst hc0
  refine Q8 hw (Jv hrun ?_)
  rw [hd]
  have hS:=(h.dropM hm').toG.put h1 (.v (.slice A0 0 0))
  rw [←e4'] at hS
  exact H β (upd ρ d (.slice none 0 0)) _ _ _ hk ⟨rfl,rfl,rfl,Zm f3 (Yf d β ρ _)⟩ (Ph (S:={ S with mem:=J3 S.mem id }) hX hr h.sz hwd f1 f2 f3 hS)
 have hse':a.eval x=.slice A m c:=by rw [hse,←hρ,←hz0]; rfl
 have hmx:m=xs.length:=by rw [hρ] at hl0; exact hl0
 subst hmx
 have hlenV:Uq (ρ id)=xs.length:=by rw [hρ]; rfl
 rw [hlenV,hρ] at hown0
 have hcap:xs.length≤c∧(c≠0→∀ad,A=some ad→ad.add 0=ad):=by
  rcases hown0.2 with ⟨hv,h0⟩ | ⟨g,cap,cur,fz,hv,_,_,_,hle,_⟩
  ·injection hv with e1 e2 e3
   exact ⟨by omega,fun _ ad had=>by rw [e1] at had; cases had⟩
  ·injection hv with e1 e2 e3
   exact ⟨by omega,fun _ ad had=>by rw [e1] at had; injection had with had; subst had; exact Xe g 0 0⟩
 obtain ⟨c2,hc2,hc3,hrun⟩:=hgo A c hse' hcap.1 hcap.2
 refine Q8 hw (Jv hrun ?_)
 rw [hd]
 obtain ⟨l1,l2,e1,_,e3⟩:=Jl hm'
 have hO:Qc β ρ S.flat.mem=Qc β ρ l1++ml (.slice A xs.length c) e (rt u) xs::Qc β ρ l2:=by rw [e1]; simp [Qc,Qp,hρ]
 have hyx:ys.length≤xs.length:=by omega
 have hmul:ys.length*(rt u).size≤xs.length*(rt u).size:=Nat.mul_le_mul_right _ hyx
 have hcsl:cs0.length=xs.length*(rt u).size:=hown0.1
 have hrep:Zz (rt u) (okR X β ρ S.flat.mem w) w ys (cs0.take (ys.length*(rt u).size)):=by
  refine Ie ys _ (by rw [List.length_take]; omega) fun i y hy=>?_
  have hiy:=(List.getElem?_eq_some_iff.1 hy).1
  rw [hysT,List.getElem?_take] at hy
  split at hy
  ·refine ⟨_,X7 hr0 hy,fun j v hj=>?_⟩
   rw [List.getElem?_take] at hj
   split at hj
   ·rename_i hjs
    rw [List.getElem?_drop] at hj
    rw [List.getElem?_take,if_pos ?_]
    ·exact hj
    ·have:(i+1)*(rt u).size≤ys.length*(rt u).size:=Nat.mul_le_mul_right _ hiy
     rw [Nat.add_mul,Nat.one_mul] at this
     omega
   ·cases hj
  ·cases hy
 have hown:w.ownsRowS 0 e (rt u).size (.slice A ys.length c2) ys.length (cs0.take (ys.length*(rt u).size)):=by
  refine ⟨by rw [List.length_take]; omega,?_⟩
  rcases hown0.2 with ⟨hv,h0⟩ | ⟨g,cap,cur,fz,hv,hb0,hh,hfz,hle,hcm,hcs,hcur⟩
  ·injection hv with q1 q2 q3
   have hy0:ys.length=0:=by omega
   have hc0:c2=0:=by omega
   exact .inl ⟨by rw [q1,hc0,hy0],hy0⟩
  ·injection hv with q1 q2 q3
   refine .inr ⟨g,c2,cur,fz,by rw [q1],hb0,hh,hfz,by omega,by omega,Nat.le_trans (Nat.mul_le_mul_right _ (by omega)) hcs,?_⟩
   rw [←hcur,List.take_take,Nat.min_eq_left hmul]
 have hS0:=h.toG.upd hO (t':=ml (.slice A ys.length c2) e (rt u) ys) (w':=w) rfl rfl rfl (Nat.le_refl _) (fun _ _ _=>rfl) (fun b o hb=>hb) (fun g hg=>.inl (by
  have hg':(Value.slice A ys.length c2).ownBlock=some g:=hg
  rw [X5 A ys.length xs.length c2 c] at hg'; exact hg')) (fun hevo hok=>⟨rfl,_,hown,Ki hrep hok⟩)
 have hS:=hS0.put h1 (.v (.slice A ys.length c2))
 refine H β (upd ρ d (.slice A ys.length c2)) _ _ _ hk ⟨rfl,rfl,rfl,Zm f3 (Yf d β ρ _)⟩ ?_
 have e4:J3 S.mem id++S.fixM=l1++l2:=by rw [←Z7 hm]; exact e3
 have hS':=hS.perm (O':=ml (.slice A ys.length c2) e (rt u) ys::Qc β ρ (J3 S.mem id++S.fixM)) (by rw [e4]; simp only [Qc,List.map_append]; exact List.perm_middle)
 exact Zg (S:={ S with mem:=J3 S.mem id }) (o:=.row e u ys) hX hr h.sz hwd f1 f2 f3 hS' (by simp only [Qp,Jn]; exact U0.refl _) ⟨_,_,_,rfl⟩
theorem Qis (h:Rel X β ρ S.flat a w):∀{ps:List (Nat×Operand)} {vs:List (Nat×AV)} {c:AV} {j:Nat},Yy S.flat [] ps=some vs→Qky vs j=some c →
  ∃us:List Value,ps.map (fun p=>(p.1,a.eval p.2))=(List.range' j us.length).zip us∧us.length=vs.length∧(∀v∈us,Qh v=[v])∧cr β ρ (okR X β ρ S.flat.mem w) w false c us
 | [],vs,c,j,he,hx=>by
  simp [Yy] at he; subst he
  simp [Qky] at hx; subst hx
  exact ⟨[],rfl,rfl,by simp,rfl⟩
 | (i,x)::ps,vs,c,j,he,hx=>by
  simp only [Yy] at he
  split at he
  ·rename_i v l hv hl
   simp at he; subst he
   simp only [Qky] at hx
   obtain ⟨hb,hx⟩:=bvT hx
   simp only [Bool.and_eq_true] at hb
   have:=Nat.eq_of_beq_eq_true hb.1
   subst this
   split at hx
   ·rename_i r hr
    simp at hx; subst hx
    obtain ⟨us,q1,q2,q3,q4⟩:=Qis h (ps:=ps) hl hr
    obtain ⟨cs,p1,p2⟩:=h.ev (Qa a) hv
    have hone:∃q,a.eval x=.pointer q∧cr β ρ (okR X β ρ S.flat.mem w) w false v [.pointer q]:=by
     cases v with
     | np =>
      have p2':cs=_:=p2
      subst p2'
      exact ⟨_,p1,rfl⟩
     | p id path =>
      have p2':cs=_:=p2
      subst p2'
      exact ⟨_,p1,rfl⟩
     | _=>cases hb.2
    obtain ⟨q,e1,e2⟩:=hone
    refine ⟨a.eval x::us,?_,by simp [q2],fun u hu=>?_,?_⟩
    ·simp only [List.map_cons,List.length_cons,List.range'_succ,List.zip_cons_cons,q1]
    ·rcases List.mem_cons.1 hu with rfl | hu
     ·rw [e1]; rfl
     ·exact q3 u hu
    ·exact ⟨[.pointer q],us,by rw [e1]; rfl,e2,q4⟩
   ·cases hx
  ·cases he
theorem Pj:∀{us:List Value},(∀v∈us,Qh v=[v])→us.flatMap Qh=us
 | [],_=>rfl
 | v::us,h=>by
  rw [List.flatMap_cons,h v (.head _),Pj fun u hu=>h u (.tail _ hu)]; rfl
theorem Qpq (hT:Qy P Y.T) (hX:X.n=n) (hr:X.res=[]) (h:Rel X β ρ S.flat a w) {o:Oper} (hw:Region.wanted o (yielded ops a.tmps)=true) {d:Nat} (hd:o.dst=some d) (hwd:okW n S d=true) (hb:okB S d=true)
  {t:TypeId} {m:Nat} {ps:List (Nat×Operand)} (hop:o.op=.buildSlice t (m+1) ⟨ps⟩) {te ee:TE} {e:TypeId} (hte:Qe Y.T t=some te) (htd:te.d=.slice e) (he:Qe Y.T e=some ee)
  {vs:List (Nat×AV)} {c:AV} (hvs:Yy S.flat [] ps=some vs) (hpl:Qky vs 0=some c) (hnd:V1 d c=true) (hl:Nat.beq vs.length (m+1)=true) (hsz:Nat.beq ee.size 1=true) (hzl:Nat.beq (Qh ee.z).length 1=true) (hsm:Nat.ble (m+1) 16777216=true)
  (hk:k ((S.born d (.var e (.ag c))).put d [] (.w d 0 ((m+1:Nat):Int)))=some r) (H:KOk P ops Q rest X S β ρ k r):wpList P ops Q (o::rest) a w:=by
 obtain ⟨us,q1,q2,q3,q4⟩:=Qis h hvs hpl
 have hes:=Nat.eq_of_beq_eq_true hsz
 have hul:us.length=m+1:=q2.trans (Nat.eq_of_beq_eq_true hl)
 have hzl':=Nat.eq_of_beq_eq_true hzl
 have hz0:(V0 (Qh ee.z) ((m+1)*ee.size)).length=(m+1)*ee.size:=by simp [V0]
 have hfill:=Sr us 0 (V0 (Qh ee.z) ((m+1)*ee.size)) (s:=ee.size) (fun v hv=>by rw [q3 v hv,hes]; rfl) (by rw [hz0,Nat.zero_add,hul]; exact Nat.le_refl _)
 rw [←q1] at hfill
 have hfill':G1 (Ab ee.size) (V0 (Qh ee.z) ((m+1)*ee.size)) (ps.map (fun p=>(p.1,a.eval p.2)))=some us:=by
  rw [hfill]
  simp only [Nat.zero_mul,List.take_zero,List.nil_append,Nat.zero_add]
  rw [List.drop_of_length_le (by rw [hz0,hul]; exact Nat.le_refl _),List.append_nil,Pj q3]
 have hrun:(execOp a.eval o).run P w=.ok (.value (.slice (some ⟨w.heap.size,0,none⟩) (m+1) (m+1))) (w.alloc (.cells us.toArray e)):=by
  have hm:(Array.mk ps).map (fun (x:Nat×Operand)=>(x.1,a.eval x.2))=⟨ps.map (fun p=>(p.1,a.eval p.2))⟩:=by simp
  have hun:(underlying t).run P w=.ok (.slice e) w:=by rw [Ji hT w hte,htd]
  have h16:¬ (m+1)*ee.size>16777216:=by have:=Nat.le_of_ble_eq_true hsm; rw [hes]; omega
  have hf:Instr.fill (fun i=>some (i*ee.size,ee.size)) (V0 (Qh ee.z) ((m+1)*ee.size)).toArray (ps.map (fun p=>(p.1,a.eval p.2)))=some us.toArray:=Hq _ hfill'
  have hzz:(Array.range ((m+1)*ee.size)).map (fun x=>ee.z.cells[x % ee.z.cells.size]!)=(V0 (Qh ee.z) ((m+1)*ee.size)).toArray:=by
   rw [Yq]
   unfold V0
   apply Array.ext
   ·simp
   ·intro i h1 h2
    have hzs:ee.z.cells.size=1:=by rw [←hzl',Yq]; simp
    have hmod:i % ee.z.cells.size<ee.z.cells.size:=Nat.mod_lt _ (by omega)
    simp [getElem!_pos,hmod]
  unfold execOp
  rw [hop]
  simp only [Instr.buildSlice,Sem.run_bind,hun,Jy hT w he,Result.andThen_ok,hm]
  have h00:m+1≠0:=by omega
  have h01:ee.size≠0:=by omega
  have h02:¬ (m+1)*ee.size=0:=by rw [hes]; omega
  generalize hM:m+1=M at *
  simp [h16,h00,h01,Y9 hT w he,hzz,hf,newRow]
  exact fun e=>absurd e h02
 exact Qpl (x:=.w d 0 ((m+1:Nat):Int)) (cv:=fun g=>[.slice (some ⟨g,0,none⟩) (m+1) (m+1)]) hX hr h hw hd hwd hb hrun (c:=.ag c) q4 hnd (fun β ρ ok w=>⟨_,_,rfl,fun _=>rfl⟩) hk H
theorem Qct (hT:Qy P Y.T) {β:Nat→Nat} {G:GL} {D:List DF} {O:List TL} (h:Sb β X G D [] O a w) {t:TypeId} {len:Nat} {parts:List (Nat×Operand)} {d:Nat} {ps:String} {af:Array Edge} {ty:TypeId} {gd:Option (Nat×Bool)}
  (hg:Ka ops G ⟨some d,.buildSlice t len ⟨parts⟩,ty,ps,af,gd⟩=some true) (hlt:okD X d=true)
  {τ:Type} {r:RT τ} {xs:List τ} {vs:List Value} {pvs:List (Nat×Value)} (hpv:evParts G parts=some pvs)
  {e:TypeId} {te ee:TE} (ht:Qe Y.T t=some te) (htd:te.d=.slice e) (he:Qe Y.T e=some ee) (hs:ee.size=r.size) (hxl:xs.length=len)
  (hsm:Nat.ble (len*ee.size) 16777216=true) (hps:Nat.ble 1 ee.size=true) (hl1:1≤len) (hz:Nat.beq (Qh ee.z).length ee.size=true)
  (hfill:G1 (Ab ee.size) (V0 (Qh ee.z) (len*ee.size)) pvs=some (vs.flatMap Qh))
  (hv:M7 r (Q5 X.ok X.w.heap.size β [] O w) w xs vs)
  (hk:∀b a' w',Sb β X (Zi G d (.v (.slice (some ⟨b,0,none⟩) xs.length len))) D [] (ml (.slice (some ⟨b,0,none⟩) xs.length len) e r xs::O) a' w'→wpList P ops Q rest a' w') :
  wpList P ops Q (⟨some d,.buildSlice t len ⟨parts⟩,ty,ps,af,gd⟩::rest) a w:=by
 have hps1:=Nat.le_of_ble_eq_true hps
 have hsm1:=Nat.le_of_ble_eq_true hsm
 have hrun:(execOp a.eval ⟨some d,.buildSlice t len ⟨parts⟩,ty,ps,af,gd⟩).run P w=.ok (.value (.slice (some ⟨w.heap.size,0,none⟩) xs.length len)) (w.alloc (.cells (vs.flatMap Qh).toArray e)):=by
  have hev:=F8 h hpv
  have hm:(Array.mk parts).map (fun (x:Nat×Operand)=>(x.1,a.eval x.2))=⟨pvs⟩:=by rw [←hev]; simp
  have hun:(underlying t).run P w=.ok (.slice e) w:=by rw [Ji hT w ht,htd]
  have h16:¬ len*ee.size>16777216:=by omega
  have hzl:=Nat.eq_of_beq_eq_true hz
  have hf:Instr.fill (fun i=>some (i*ee.size,ee.size)) (V0 (Qh ee.z) (len*ee.size)).toArray pvs=some (vs.flatMap Qh).toArray:=Hq _ hfill
  have hzz:(Array.range (len*ee.size)).map (fun x=>ee.z.cells[x % ee.z.cells.size]!)=(V0 (Qh ee.z) (len*ee.size)).toArray:=by
   rw [Yq]
   unfold V0
   apply Array.ext
   ·simp
   ·intro i h1 h2
    have hzs:ee.z.cells.size=ee.size:=by rw [←hzl,Yq]; simp
    have hmod:i % ee.z.cells.size<ee.z.cells.size:=Nat.mod_lt _ (by omega)
    simp [getElem!_pos,hmod]
  unfold execOp
  simp only [Instr.buildSlice,Sem.run_bind,hun,Jy hT w he,Result.andThen_ok,hm]
  have h00:len≠0:=by omega
  have h01:ee.size≠0:=by omega
  have h0:¬ len*ee.size=0:=fun e=>by
   rcases Nat.mul_eq_zero.1 e with e | e<;>omega
  simp [h16,h00,h01,Y9 hT w he,hzz,hf,newRow,hxl]
  exact fun e=>absurd e h0
 refine Q8 (Ue h hg) (Jv hrun ?_)
 have hb:Below w.heap.size w (w.alloc (.cells (vs.flatMap Qh).toArray e)):=(Below.refl _ _).alloc (Nat.le_refl _) _
 have hevo:Evo (Q5 X.ok X.w.heap.size β [] O w) w (w.alloc (.cells (vs.flatMap Qh).toArray e)):=(Evo.of_below hb).mono fun b o hk=>hk.2.1
 obtain ⟨hl2,hl3⟩:=Qb2 hv
 have hlen:len≤len*ee.size:=Nat.le_mul_of_pos_right len hps1
 refine hk _ _ _ ((h.allocTL hb (t:=ml (.slice (some ⟨w.heap.size,0,none⟩) xs.length len) e r xs) (fun g hg=>?_) ⟨rfl,vs.flatMap Qh,⟨?_,.inr ⟨w.heap.size,len,_,(0,0),rfl,Nat.zero_le _,heap_alloc_new w _,.inl rfl,?_,?_,?_,?_⟩⟩,?_⟩).put hlt (.v _))
 ·have hg:some w.heap.size=some g:=hg
  injection hg with hg; omega
 ·simp only [Uq]; exact hl2
 ·simp only [Uq]; omega
 ·rw [Hr]; omega
 ·show len*r.size≤(vs.flatMap Qh).toArray.size
  rw [List.size_toArray,hl2,hxl]
  exact Nat.le_refl _
 ·simp only [Uq]
  rw [←hl2]
  exact List.take_length
 ·refine Ki (X6 (Om hv) hevo) fun b o hk=>?_
  obtain ⟨h1,h2,h3,h4⟩:=hk
  refine ⟨h1,Nat.lt_of_lt_of_le h2 hb.size,h3,fun u hu hc=>?_⟩
  rcases List.mem_cons.1 hu with rfl | hu
  ·have hc':some w.heap.size=some b:=hc
   injection hc' with hc'; omega
  ·exact h4 u hu hc
theorem J6 {d:TypeDesc} {e:TypeId} (h:Yi d=some e):d=.slice e:=by
 cases d<;>simp [Yi] at h
 subst h; rfl
end
end Gx

/- A region, operation by operation. -/
namespace Gx
open Go Go.RowKit Gd
set_option linter.unusedVariables false
set_option linter.unusedSimpArgs false
section
variable {P:Program} {Y:TX} {X:Cx} {S:XS} {β β':Nat→Nat} {ρ ρ':Nat→Value} {a a':Act} {w w':World} {n:Nat}
variable {ops:Array Oper} {Q:Exit→Act→World→Prop} {rest:List Oper} {R:Type} {k:XS→Option R} {r:R}
theorem Qlh (hT:Qy P Y.T) (hX:X.n=n) (hr:X.res=[]) (h:Rel X β ρ S.flat a w) {o:Oper} (hw:Region.wanted o (yielded ops a.tmps)=true) (hs:Lm Y n o S k=some r) (H:KOk P ops Q rest X S β ρ k r) :
  wpList P ops Q (o::rest) a w:=by
 unfold Lm at hs
 split at hs
 ·
  rename_i t d hop hd
  split at hs
  ·rename_i e ty he hty
   split at hs
   ·rename_i c hc
    obtain ⟨hb,hk⟩:=bvT hs
    simp only [Bool.and_eq_true] at hb
    refine Q4b (cs:=Qh e.z) hX hr h hw hd hb.1.1.1 hb.1.1.2 ?_ (K2 hc) hb.2 hk H
    unfold execOp
    simp only [hop]
    simp [Instr.alloc,Y9 hT w he,newVar,newRow,Yq]
   ·cases hs
  ·cases hs
 ·
  rename_i t x d hop hd
  split at hs
  ·rename_i c hc
   obtain ⟨hb,hk⟩:=bvT hs
   simp only [Bool.and_eq_true] at hb
   obtain ⟨cs,h1,h2⟩:=h.ev (Qa a) hc
   refine Q4b (cs:=cs) hX hr h hw hd hb.1.1.1.1 hb.1.1.1.2 ?_ h2 hb.2 hk H
   have hcl:=Z3 h2 hb.1.1.2 hb.1.2
   have hcc:(c.val cs).cells=cs.toArray:=by
    apply Array.ext'
    rw [←Yq,hcl]
   unfold execOp
   simp only [hop,h1]
   simp [Instr.box,newVar,newRow,hcc]
  ·cases hs
 ·
  rename_i t p x hop hd
  split at hs
  ·rename_i e id path v he hp hx
   split at hs
   ·rename_i tid c hm
    split at hs
    ·rename_i c' hc'
     obtain ⟨hb,hk⟩:=bvT hs
     simp only [Bool.and_eq_true] at hb
     exact Qir hT h hw hop hd he hp hx hm (fun _ h1 h2=>Wa h1 hc' h2) hb.1.1 hb.1.2 hb.2 hk H
    ·cases hs
   ·cases hs
  ·rename_i e id j sz ps v he hp hx
   split at hs
   ·rename_i et u xs hm
    obtain ⟨y,hy,hs⟩:=Yh hs
    split at hs
    ·rename_i c hc
     split at hs
     ·rename_i z0 hz
      obtain ⟨hb,hk⟩:=bvT hs
      simp only [Bool.and_eq_true] at hb
      exact Qla hT h hw hop hd he hp hx hm hy hc hz hb.1.1.1.1 hb.1.1.1.2 hb.1.1.2 hb.1.2 hb.2 hk H
     ·cases hs
    ·cases hs
   ·cases hs
  ·cases hs
 ·
  rename_i t rs d hop hd
  split at hs
  ·rename_i te hte
   split at hs
   ·rename_i kt et htd
    split at hs
    ·rename_i kk v hkk hv
     obtain ⟨hb,hk⟩:=bvT hs
     simp only [Bool.and_eq_true] at hb
     have hrs:rs=none:=by
      cases rs with
      | none=>rfl
      | some x=>simp [isNone] at hb
     subst hrs
     exact Qk9 hX hr h hw hd hb.1.1 hb.1.2 hop hk H
    ·cases hs
   ·cases hs
  ·cases hs
 ·
  rename_i t m ky x hop hd
  split at hs
  ·rename_i te id kv xv hte hm hkv hx
   split at hs
   ·rename_i kt et kk v xs htd hmo
    split at hs
    ·rename_i tk key y htk hkey hy
     obtain ⟨hb,hk⟩:=bvT hs
     simp only [Bool.and_eq_true] at hb
     exact Qcp hT h hw hop hd hte htd htk hm hkv hx hmo hkey hy hb.1.1 hb.1.2 hb.2 hk H
    ·cases hs
   ·rename_i kt et kk v path e u xs kh h0 htd hmo
    split at hs
    ·rename_i tk key y h1 htk hkey hy hnav
     split at hs
     ·rename_i e1 u1 ys hmh
      obtain ⟨hb,hs⟩:=bvT hs
      simp only [Bool.and_eq_true] at hb
      obtain ⟨⟨⟨⟨⟨b1,b2⟩,b3⟩,b4⟩,b5⟩,b6⟩:=hb
      obtain ⟨_,hch,hk⟩:=Yh hs
      have e1:=Nat.eq_of_beq_eq_true b4
      have e2:=Ty.beq_eq b5
      subst e1; subst e2
      unfold chk at hch
      exact Qt4 hT h hw hop hd hte htd htk hm hkv hx hmo hkey (bvT hch).1 hnav hmh hy b1 b2 b3 b6 hk H
     ·cases hs
    ·cases hs
   ·cases hs
  ·cases hs
 ·
  rename_i t l c d hop hd
  split at hs
  ·rename_i te lv cv hte hl hc
   split at hs
   ·rename_i e k1 nl k2 nc hse hli hci
    split at hs
    ·rename_i ee u he hu
     split at hs
     ·rename_i za hza
      split at hs
      ·rename_i z0 hz
       obtain ⟨hb,hs⟩:=bvT hs
       simp only [Bool.and_eq_true] at hb
       obtain ⟨zs,hzs,hk⟩:=Yh hs
       exact Q47 hT hX hr h hw hd hb.1.1.1.1 hb.1.1.1.2 hop hte (J6 hse) he hl hc hli hci hza hz hb.1.1.2 hb.1.2 hb.2 hzs hk H
      ·cases hs
     ·cases hs
    ·cases hs
   ·cases hs
  ·cases hs
 ·
  rename_i t len parts d hop hd
  split at hs
  ·rename_i te hte
   split at hs
   ·rename_i e hse
    split at hs
    ·rename_i ee u he hu
     obtain ⟨hb,hs⟩:=bvT hs
     simp only [Bool.and_eq_true] at hb
     split at hs
     ·obtain ⟨hb2,hk⟩:=bvT hs
      exact Q48 hT hX hr h hw hd hb.1 hb2 hop hte (J6 hse) he hb.2 hk H
     ·cases hs
     ·rename_i m
      split at hs
      ·rename_i vs hvs
       split at hs
       ·rename_i xs hxs
        obtain ⟨hb2,hk⟩:=bvT hs
        simp only [Bool.and_eq_true] at hb2
        exact Q9q hT hX hr h hw hd hb.1 hop hte (J6 hse) he hb.2 hvs hxs hb2.1.1.1 hb2.1.1.2 hb2.1.2 hb2.2 hk H
       ·cases hs
      ·cases hs
    ·cases hs
   ·cases hs
  ·cases hs
 ·
  rename_i s x t t' d hop hd
  split at hs
  ·rename_i te sv xv hte hsv hxv
   split at hs
   ·rename_i e hse
    split at hs
    ·rename_i ee he
     have hb:=(bvT hs).1
     replace hs:=(bvT hs).2
     simp only [Bool.and_eq_true] at hb
     obtain ⟨⟨⟨⟨b1,b2⟩,b3⟩,b4⟩,b5⟩:=hb
     have ett:=Nat.eq_of_beq_eq_true b2
     subst ett
     split at hs
     ·split at hs
      ·rename_i u hu
       split at hs
       ·rename_i ys hys
        have hb2:=(bvT hs).1
        replace hs:=(bvT hs).2
        simp only [Bool.and_eq_true] at hb2
        obtain ⟨zs,hzs,hk⟩:=Yh hs
        exact Qpm hT hX hr h hw hd b1 hb2.1 hop hte (J6 hse) he hb2.2 b3 b4 b5 hsv hxv hys hzs hk H
       ·cases hs
      ·cases hs
     ·split at hs
      ·rename_i u hu
       split at hs
       ·rename_i ys hys
        have hb2:=(bvT hs).1
        replace hs:=(bvT hs).2
        simp only [Bool.and_eq_true] at hb2
        obtain ⟨zs,hzs,hk⟩:=Yh hs
        exact Q49 hT hX hr h hw hd b1 hb2.1 hop hte (J6 hse) he hb2.2 b3 b4 b5 hsv hxv hys hzs hk H
       ·cases hs
      ·cases hs
     ·rename_i id
      split at hs
      ·rename_i e' u xs hm
       split at hs
       ·rename_i ys hys
        have hb2:=(bvT hs).1
        replace hs:=(bvT hs).2
        simp only [Bool.and_eq_true] at hb2
        have ee':=Nat.eq_of_beq_eq_true hb2.2
        subst ee'
        obtain ⟨zs,hzs,hk⟩:=Yh hs
        exact Qpn hT hX hr h hw hd b1 hb2.1.1 hop hte (J6 hse) he hb2.1.2 b3 b4 b5 hsv hxv hm hys hzs hk H
       ·cases hs
      ·rename_i e' u xs hm
       split at hs
       ·rename_i ys hys
        have hb2:=(bvT hs).1
        replace hs:=(bvT hs).2
        simp only [Bool.and_eq_true] at hb2
        have ee':=Nat.eq_of_beq_eq_true hb2.2
        subst ee'
        obtain ⟨zs,hzs,hk⟩:=Yh hs
        exact Qlb hT hX hr h hw hd b1 hb2.1.1 hop hte (J6 hse) he hb2.1.2 b3 b4 b5 hsv hxv hm hys hzs hk H
       ·cases hs
      ·cases hs
     ·cases hs
    ·cases hs
   ·cases hs
  ·cases hs
 ·
  obtain ⟨hb,hs⟩:=bvT hs
  obtain ⟨av,hk,hsem⟩:=Bz (P:=P) hT rfl hs
  exact Qpk hX hr h hw (by assumption) hb hsem hk H
 ·cases hs
theorem Qpr (hT:Qy P Y.T) (hX:X.n=n) (hr:X.res=[]) (h:Rel X β ρ S.flat a w) {o:Oper} (hw:Region.wanted o (yielded ops a.tmps)=true) (hs:Ta Y n o S k=some r) (H:KOk P ops Q rest X S β ρ k r) :
  wpList P ops Q (o::rest) a w:=by
 unfold Ta at hs
 split at hs
 ·
  rename_i s x t t' d hop hd
  split at hs
  ·rename_i te te' sv l hte hte' hsv hxv
   split at hs
   ·rename_i e hse
    split at hs
    ·rename_i ee he
     obtain ⟨hb,hs⟩:=bvT hs
     simp only [Bool.and_eq_true] at hb
     obtain ⟨⟨⟨⟨b1,b2⟩,b3⟩,b4⟩,b5⟩:=hb
     have b2:=Qlc b2
     have b3:=Qt5 b3
     have b4:=Nat.eq_of_beq_eq_true b4
     have b5:=Nat.eq_of_beq_eq_true b5
     split at hs
     ·obtain ⟨hb2,hs⟩:=bvT hs
      obtain ⟨zs,hzs,hk⟩:=Yh hs
      exact Qle hT hX hr h hw hd b1 hb2 hop hte (J6 hse) hte' b2 he b3 b4 b5 hsv hxv hzs hk H
     ·rename_i id
      split at hs
      ·rename_i e' xs hm
       obtain ⟨hb2,hs2⟩:=bvT hs
       simp only [Bool.and_eq_true] at hb2
       have ee':=Nat.eq_of_beq_eq_true hb2.2
       subst ee'
       obtain ⟨zs,hzs,hk⟩:=Yh hs2
       exact Qld hT hX hr h hw hd b1 hb2.1 hop hte (J6 hse) hte' b2 he b3 b4 b5 hsv hxv hm hzs hk H
      ·cases hs
     ·cases hs
    ·cases hs
   ·cases hs
  ·cases hs
 ·
  rename_i s t x d hop hd
  split at hs
  ·rename_i se te l hse hte hx
   split at hs
   ·rename_i e hsd
    split at hs
    ·rename_i ee he
     obtain ⟨hb,hs⟩:=bvT hs
     simp only [Bool.and_eq_true] at hb
     obtain ⟨zs,hzs,hk⟩:=Yh hs
     exact Qgf hT hX hr h hw hd hb.1.1 hb.1.2 hop hse hte (J6 hsd) he (Qt6 hb.2) hx hzs hk H
    ·cases hs
   ·cases hs
  ·cases hs
 ·
  rename_i t p x hop hd
  split at hs
  ·rename_i e id path v he hp hx
   split at hs
   ·rename_i tid c hm
    obtain ⟨c',hc',hset⟩:=Qap hs
    obtain ⟨hb,hk⟩:=bvT hc'
    simp only [Bool.and_eq_true] at hb
    exact Qir hT h hw hop hd he hp hx hm (fun hM h1 h2=>hset hM h1 h2) hb.1.1 hb.1.2 hb.2 hk H
   ·cases hs
  ·cases hs
 ·
  rename_i dst src t t' d hop hd
  split at hs
  ·rename_i te id xv hte hdv hsv
   split at hs
   ·rename_i e hse
    split at hs
    ·rename_i ee et u xs he hm
     split at hs
     ·rename_i ys hys
      obtain ⟨hb,hk⟩:=bvT hs
      simp only [Bool.and_eq_true] at hb
      exact Q5a hT hX hr h hw hd hb.1.1 hop hte (J6 hse) he hdv hsv hm hys hb.1.2 hb.2 hk H
     ·cases hs
    ·cases hs
   ·cases hs
  ·cases hs
 ·
  rename_i m ky t t' hop hd
  split at hs
  ·rename_i te id kv hte hm hkv
   split at hs
   ·rename_i kt et kk v xs htd hmo
    split at hs
    ·rename_i tk key htk hkey
     obtain ⟨hb,hk⟩:=bvT hs
     simp only [Bool.and_eq_true] at hb
     exact Qpo hT h hw hop hd hte htd htk hm hkv hmo hkey hb.1 hb.2 hk H
    ·cases hs
   ·cases hs
  ·cases hs
 ·
  rename_i t m ps d hop hd
  split at hs
  ·rename_i te hte
   split at hs
   ·rename_i e hse
    split at hs
    ·rename_i ee vs he hvs
     split at hs
     ·rename_i c hpl
      obtain ⟨hb,hk⟩:=bvT hs
      simp only [Bool.and_eq_true] at hb
      obtain ⟨⟨⟨⟨⟨⟨b1,b2⟩,b3⟩,b4⟩,b5⟩,b6⟩,b7⟩:=hb
      exact Qpq hT hX hr h hw hd b1 b2 hop hte (J6 hse) he hvs hpl b3 b4 b5 b6 b7 hk H
     ·cases hs
    ·cases hs
   ·cases hs
  ·cases hs
 ·
  rename_i t x hi d hop hd
  split at hs
  ·rename_i te id hte hx
   split at hs
   ·rename_i e e' u xs hse hm
    split at hs
    ·rename_i ee q he hq
     obtain ⟨hb,hs2⟩:=bvT hs
     simp only [Bool.and_eq_true] at hb
     have ee':=Nat.eq_of_beq_eq_true hb.2
     subst ee'
     obtain ⟨ys,hys,hk⟩:=Yh hs2
     exact Qpp hT hX hr h hw hd hb.1.1.1 hb.1.1.2 hop hte (J6 hse) he hb.1.2 hx hm hq hys (.inl rfl) hk H
    ·cases hs
   ·cases hs
  ·cases hs
 ·
  rename_i t x hi mx d hop hd
  split at hs
  ·rename_i te id hv mv hte hx hhi hmx
   split at hs
   ·rename_i e e' u xs k1 q k2 m hse hm hib him
    split at hs
    ·rename_i ee he
     obtain ⟨hb,hs2⟩:=bvT hs
     simp only [Bool.and_eq_true] at hb
     have ee':=Nat.eq_of_beq_eq_true hb.2
     subst ee'
     obtain ⟨_,hck,hs3⟩:=Yh hs2
     obtain ⟨hck,_⟩:=bvT hck
     simp only [Bool.and_eq_true,decide_eq_true_eq] at hck
     obtain ⟨ys,hys,hk⟩:=Yh hs3
     have hq:bnd S.flat [] xs.length (some hi)=some q:=by
      have hhi':ev S.flat [] hi=some hv:=hhi
      simp only [bnd,hhi',hib]
     exact Qpp hT hX hr h hw hd hb.1.1.1 hb.1.1.2 hop hte (J6 hse) he hb.1.2 hx hm hq hys (.inr ⟨hi,mx,k1,k2,m,rfl,rfl,h.toW.int (Qa a) hhi hib,h.toW.int (Qa a) hmx him,hck.1,hck.2⟩) hk H
    ·cases hs
   ·cases hs
  ·cases hs
 ·cases hs
theorem Pk (hT:Qy P Y.T) (hX:X.n=n) (hr:X.res=[]) (h:Rel X β ρ S.flat a w) {o:Oper} (hw:Region.wanted o (yielded ops a.tmps)=true) (hs:Mk Y n o S k=some r) (H:KOk P ops Q rest X S β ρ k r) :
  wpList P ops Q (o::rest) a w:=by
 unfold Mk at hs
 split at hs
 ·exact Qlh hT hX hr h hw hs H
 ·exact Qpr hT hX hr h hw hs H
theorem Ua {o:Oper} (hg:o.guard=none) (y:Nat→Option Bool):Region.wanted o y=true:=by unfold Region.wanted; rw [hg]
theorem Vv {l:List Oper} {o:Oper} {t:Nat} {b:Bool} (hg:C3 l o=some (some (t,b))):Region.wanted o (yielded ⟨l⟩ a.tmps)=true↔a.tmps[t]?=some (.bool b):=by
 unfold C3 at hg
 split at hg
 ·cases hg
 ·rename_i j want hgd
  split at hg
  ·rename_i p hp
   split at hg
   ·rename_i t' ht
    simp at hg
    obtain ⟨rfl,rfl⟩:=hg
    have hp':(Array.mk l)[j]?=some p:=by simpa using hp
    unfold Region.wanted
    rw [hgd]
    simp only [yielded,hp',Option.bind_some,ht,beq_iff_eq]
    split
    ·rename_i b' hb'
     rw [hb']
     constructor
     ·intro e; injection e with e; subst e; rfl
     ·intro e; injection e with e; injection e with e; subst e; rfl
    ·rename_i hn
     constructor
     ·intro e; cases e
     ·intro e; exact absurd e (hn want)
   ·cases hg
  ·cases hg
theorem Wt {l:List Oper} {o:Oper} (hg:C3 l o=some none):o.guard=none:=by
 unfold C3 at hg
 split at hg
 ·assumption
 ·split at hg
  ·split at hg<;>cases hg
  ·cases hg
theorem Mp {o:Oper} (hw:Region.wanted o (yielded ops a.tmps)=false) (h:wpList P ops Q rest (a.put o.dst undef) w):wpList P ops Q (o::rest) a w:=by
 unfold wpList
 rw [if_neg (by rw [hw]; simp)]
 exact h
theorem Qcu (hX:X.n=n) (hr:X.res=[]) (h:Rel X β ρ S.flat a w) {o:Oper} (hw:Region.wanted o (yielded ops a.tmps)=false) (hs:B2 n o S k=some r) (H:KOk P ops Q rest X S β ρ k r) :
  wpList P ops Q (o::rest) a w:=by
 refine Mp hw ?_
 unfold B2 at hs
 split at hs
 ·rename_i d hd
  obtain ⟨hb,hk⟩:=bvT hs
  obtain ⟨h1,h2⟩:=J7 hb hX hr
  rw [hd]
  refine H β ρ _ _ _ hk (K4 S d [] _) ?_
  rw [Ze h2]
  exact h.put0 h1 (x:=.tp .nil) (c:=[.tuple #[]]) ⟨[],rfl,rfl⟩
 ·rename_i hd
  rw [hd]
  exact H β ρ _ _ _ hs (Vo.refl _ _ _) h
theorem Qps (hT:Qy P Y.T) (hX:X.n=n) (hr:X.res=[]) (h:Rel X β ρ S.flat a w) {l:List Oper} {o:Oper} {t:Nat} {want:Bool} (hg:C3 l o=some (some (t,want))) (hs:Iq Y n t want o S k=some r) (H:KOk P ⟨l⟩ Q rest X S β ρ k r) :
  wpList P ⟨l⟩ Q (o::rest) a w:=by
 unfold Iq at hs
 split at hs
 ·rename_i t' cs b d he hd
  obtain ⟨hb,hs⟩:=bvT hs
  simp only [Bool.and_eq_true] at hb
  obtain ⟨h1,h2⟩:=J7 hb.1.1 hX hr
  have htd:=neB hb.1.2
  have hud:∀c∈cs,c.1≠d:=Bu (by simpa using hb.2)
  split at hs
  ·rename_i v hv
   obtain ⟨hm,ht'⟩:=V6 he
   simp only at ht'
   subst ht'
   have hkeep:∀u:Value,Jw (a.put (some d) u) ((t',want)::cs)↔Jw a ((t',want)::cs):=by
    intro u
    have hne:∀c∈(t',want)::cs,c.1≠d:=by
     intro c hc
     rcases List.mem_cons.1 hc with rfl | hc
     ·exact htd
     ·exact hud c hc
    exact ⟨fun hc c hm=>by rw [←Y2 (hne c hm) u]; exact hc c hm,fun hc c hm=>by rw [Y2 (hne c hm) u]; exact hc c hm⟩
   by_cases hw:Region.wanted o (yielded ⟨l⟩ a.tmps)=true
   ·have htb:=(Vv hg).1 hw
    have hcs:Jw a cs:=by
     rcases (h.en hm).2 with h3 | h3
     ·exact h3
     ·simp only at h3; rw [Xh (Fp he),htb] at h3; simp [undef] at h3
    have hcur:Jw a ((t',want)::cs):=by
     intro c hc
     rcases List.mem_cons.1 hc with rfl | hc
     ·exact htb
     ·exact hcs c hc
    obtain ⟨c,h3,h4⟩:=Io hT h.toW hcur hv
    refine Q8 hw (Jv h3 ?_)
    rw [hd]
    refine H β ρ _ _ _ hs (K4 S d _ _) ?_
    rw [Ze h2]
    exact h.put h1 (fun _=>⟨c,rfl,h4⟩) (.inl ((hkeep _).2 hcur))
   ·have hw':Region.wanted o (yielded ⟨l⟩ a.tmps)=false:=by simpa using hw
    refine Mp hw' ?_
    rw [hd]
    refine H β ρ _ _ _ hs (K4 S d _ _) ?_
    rw [Ze h2]
    refine h.put h1 (fun hc=>?_) (.inr rfl)
    have:=(hkeep _).1 hc
    exact absurd ((Vv hg).2 (this _ (.head _))) hw
  ·cases hs
 ·cases hs
theorem Qpt (hT:Qy P Y.T) (hX:X.n=n) (hr:X.res=[]) {l:List Oper} (h:Rel X β ρ S.flat a w) {o:Oper} (hs:Ir Y n l o S k=some r) (H:KOk P ⟨l⟩ Q rest X S β ρ k r):wpList P ⟨l⟩ Q (o::rest) a w:=by
 unfold Ir at hs
 split at hs
 ·rename_i hg
  exact Pk hT hX hr h (Ua (Wt hg) _) hs H
 ·rename_i t want hg
  exact Qps hT hX hr h hg hs H
 ·cases hs
theorem Qbz (hT:Qy P Y.T) (hX:X.n=n) (hr:X.res=[]) {l:List Oper} (h:Rel X β ρ S.flat a w) {o:Oper} (hs:Gx.stepL Y n l o S k=some r) (H:KOk P ⟨l⟩ Q rest X S β ρ k r):wpList P ⟨l⟩ Q (o::rest) a w:=by
 unfold Gx.stepL at hs
 split at hs
 ·rename_i hg
  exact Pk hT hX hr h (Ua (Wt hg) _) hs H
 ·rename_i t want hg
  split at hs
  ·rename_i t' b he
   obtain ⟨cs,h1,h2⟩:=h.get he (Qa a)
   have h2':cs=_:=h2
   subst h2'
   have h1':a.tmps[t]?=some (.bool b):=h1
   split at hs
   ·rename_i hb
    have:b=want:=by simpa using hb
    subst this
    exact Pk hT hX hr h ((Vv hg).2 h1') hs H
   ·rename_i hb
    refine Qcu hX hr h ?_ hs H
    have hne:b≠want:=by simpa using hb
    cases hw:Region.wanted o (yielded ⟨l⟩ a.tmps) with
    | false=>rfl
    | true =>
     have:=(Vv hg).1 hw
     rw [h1'] at this
     injection this with this
     injection this with this
     exact absurd this hne
  ·rename_i t' he
   obtain ⟨cs,h1,vs,h2,h3⟩:=h.get he (Qa a)
   subst h2
   refine Qcu hX hr h ?_ hs H
   cases hw:Region.wanted o (yielded ⟨l⟩ a.tmps) with
   | false=>rfl
   | true =>
    have:=(Vv hg).1 hw
    rw [h1] at this
    injection this with this
    cases this
  ·cases hs
 ·cases hs
theorem Qa3 {l:List Oper} (st:Oper→XS→(XS→Option R)→Option R)
  (hst:∀{o:Oper} {rest:List Oper} {S:XS} {β:Nat→Nat} {ρ:Nat→Value} {a:Act} {w:World} {k:XS→Option R},Rel X β ρ S.flat a w→st o S k=some r→KOk P ⟨l⟩ Q rest X S β ρ k r→wpList P ⟨l⟩ Q (o::rest) a w) :
  ∀{l1 rest:List Oper} {S:XS} {β:Nat→Nat} {ρ:Nat→Value} {a:Act} {w:World} {k:XS→Option R},Rel X β ρ S.flat a w→Nc st l1 S k=some r→KOk P ⟨l⟩ Q rest X S β ρ k r→wpList P ⟨l⟩ Q (l1++rest) a w
 | [],rest,S,β,ρ,a,w,k,h,hs,H=>H β ρ S a w hs (Vo.refl _ _ _) h
 | o::l1,rest,S,β,ρ,a,w,k,h,hs,H=>by
  simp only [Nc] at hs
  refine hst (rest:=l1++rest) h hs fun β' ρ' S' a' w' hk hkeep h'=>?_
  exact Qa3 st hst h' hk (H.after hkeep)
end
end Gx

/- A map's entry that is made first and written then. -/
namespace Gx
open Go Go.RowKit Gd
set_option linter.unusedVariables false
set_option linter.unusedSimpArgs false
section
variable {P:Program} {T:Tab}
theorem Qli {es:Array MapEntry} (hst:(es.toList.map MapEntry.born).Nodup) {j:Nat} {e:MapEntry} (hj:es.toList[j]?=some e):es.findIdx? (fun x=>(x.born:Int)==(e.born:Int))=some j:=by
 obtain ⟨hl,hj⟩:=List.getElem?_eq_some_iff.1 hj
 have hl':j<es.size:=by simpa using hl
 rw [Array.findIdx?_eq_some_iff_getElem]
 refine ⟨hl',by simp only [Array.getElem_toList] at hj; simp [hj],fun i hi=>?_⟩
 have hij:i≠j:=Nat.ne_of_lt hi
 have h1:i<(es.toList.map MapEntry.born).length:=by simp; omega
 have h2:j<(es.toList.map MapEntry.born).length:=by simpa using hl
 have hne:(es.toList.map MapEntry.born)[i]≠(es.toList.map MapEntry.born)[j]:=fun h=>hij ((List.getElem_inj hst).1 h)
 simp only [List.getElem_map,Array.getElem_toList] at hne hj
 rw [hj] at hne
 simpa using fun h:((es[i]'(by omega)).born:Int)=(e.born:Int)=>hne (by exact_mod_cast h)
theorem Mq {es:Array MapEntry} {j:Nat} {f:MapEntry→MapEntry} (hf:∀e,(f e).born=e.born):((es.modify j f).toList.map MapEntry.born)=es.toList.map MapEntry.born:=by
 apply List.ext_getElem?
 intro i
 simp only [List.getElem?_map,Array.getElem?_toList,Array.getElem?_modify]
 split
 ·cases es[i]?<;>simp [hf]
 ·rfl
theorem Tg {es:Array MapEntry} {clock:Nat} (hst:Xq es clock) {j:Nat} {f:MapEntry→MapEntry} (hf:∀e,(f e).born=e.born):Xq (es.modify j f) clock:=by
 refine ⟨by rw [Mq hf]; exact hst.1,fun e he=>?_⟩
 have hb:e.born∈(es.modify j f).toList.map MapEntry.born:=List.mem_map.2 ⟨e,he,rfl⟩
 rw [Mq hf] at hb
 obtain ⟨e',he',hbe⟩:=List.mem_map.1 hb
 rw [←hbe]; exact hst.2 e' he'
theorem Lq {k:Ty} (hk:Ah k=true) {ν:Type} {s:RT ν} {ok:Ok} {w:World}:∀{xs:List (k.De×ν)} {es:List MapEntry},Kn (rt k) s ok w xs es→es.map MapEntry.key=xs.map fun q=>Ye k q.1
 | [],es,h=>by cases (show es=[] from h); rfl
 | x::xs,es,h=>by
  obtain ⟨e,es',rfl,h1,_,h3⟩:=h
  simp [Up hk h1,Lq hk h3]
theorem Qcv (hT:Qy P T) {kt:TypeId} {te:TE} (ht:Qe T kt=some te) {k:Ty} (hd:Ys T k te.d=true) {x y:k.De} (w:World) (h:Ye k x=Ye k y):x=y:=by
 have h1:=Xo hT ht hd x y w
 have h2:=Xo hT ht hd x x w
 rw [←h] at h1
 rw [h1] at h2
 injection h2 with h2
 exact (V3 (Q9 hd)).1 (h2.trans ((V3 (Q9 hd)).2 rfl))
theorem Qa4 (hT:Qy P T) {t kt et:TypeId} {te tk tz:TE} (ht:Qe T t=some te) (htd:te.d=.map kt et) (hk:Qe T kt=some tk) (hz:Qe T et=some tz)
  {k:Ty} {ν:Type} {s:RT ν} (hd:Ys T k tk.d=true) {ok:Ok} {w:World} {g:Nat} {es:Array MapEntry} {clock:Nat} (hg:w.heap[g]?=some (.map es clock)) {xs:List (k.De×ν)} (hp:Kn (rt k) s ok w xs es.toList) (hst:Xq es clock)
  (key:k.De) {z:ν} (hzv:isV s ok w z tz.z) :
  ∃es1 clock1 u b,(Instr.mapEntry t (.map (some g)) (Ye k key)).run P w=.ok (.tuple #[u,.int .i64 ((b:Nat):Int)]) { w with heap:=w.heap.setIfInBounds g (.map es1 clock1) } ∧
   Kn (rt k) s ok w (Yx key ((Qx key xs).getD z) xs) es1.toList∧Xq es1 clock1∧(∃e∈es1.toList,e.key=Ye k key∧e.born=b)∧isV s ok w ((Qx key xs).getD z) u:=by
 have hu:=(Js hT ht).2
 rw [htd] at hu
 have hzr:(zeroValue et).run P w=.ok tz.z w:=Y9 hT w hz
 rcases Ge hT hk hd key w hp with ⟨r1,r2⟩ | ⟨j,e,y,r1,r2,r3,r4,r5⟩
 ·rw [r1]
  rcases Ij hT hk hd key hzv hp with ⟨q1,q2⟩ | ⟨j,e,q2,q3,q4,q5⟩
  ·refine ⟨es.push ⟨Ye k key,tz.z,clock⟩,clock+1,tz.z,clock,?_,by simpa using q2 clock,Dn hst _ _,⟨⟨Ye k key,tz.z,clock⟩,by simp,rfl,rfl⟩,hzv⟩
   simp [Instr.mapEntry,run_underlying hu,MapKept.run_getObj_map hg,Kb hT hk hd,r2,hzr,MapKept.run_setObj_map _ hg,Result.andThen,goInt]
  ·have h2:=q2 0
   rw [Nat.zero_add] at h2
   rw [Hw hT hk hd key w hp h2] at r2
   cases r2
 ·rw [r1]
  rcases Ij hT hk hd key r5 hp with ⟨q1,q2⟩ | ⟨j',e',q2,q3,q4,q5⟩
  ·rw [q1] at r1; cases r1
  ·have h2:=q2 0
   rw [Nat.zero_add] at h2
   have h3:=Hw hT hk hd key w hp h2
   rw [h3] at r2
   injection r2 with r2
   injection r2 with r2
   injection r2 with r2 r2'
   subst r2
   rw [q3] at r3
   injection r3 with r3
   subst r3
   have q3':es[j']?=some e':=by simpa using q3
   refine ⟨es.modify j' fun e=>{ e with key:=Ye k key },clock,e'.val,e'.born,?_,?_,Tg hst (fun _=>rfl),⟨{ e' with key:=Ye k key },?_,rfl,rfl⟩,r5⟩
   ·simp [Instr.mapEntry,run_underlying hu,MapKept.run_getObj_map hg,Kb hT hk hd,h3,q3',q4,Sq (Q9 hd),MapKept.run_setObj_map _ hg,Result.andThen,goInt]
   ·have e1:(es.modify j' fun e=>{ e with key:=Ye k key }).toList=es.toList.modify j' fun e=>{ e with key:=Ye k key,val:=e'.val }:=by
     apply List.ext_getElem?
     intro i
     simp only [Array.getElem?_toList,Array.getElem?_modify,List.getElem?_modify]
     split
     ·subst_vars; simp [q3']
     ·simp
    show Kn (rt k) s ok w (Yx key y xs) _
    rw [e1]; exact q5
   ·refine List.mem_of_getElem? (i:=j') ?_
    simp [Array.getElem?_modify,q3']
theorem Pl (hT:Qy P T) {t kt:TypeId} {tk:TE} (hk:Qe T kt=some tk)
  {k:Ty} {ν:Type} {s:RT ν} (hd:Ys T k tk.d=true) {ok:Ok} {w:World} {g:Nat} {es:Array MapEntry} {clock:Nat} (hg:w.heap[g]?=some (.map es clock)) {xs:List (k.De×ν)} (hp:Kn (rt k) s ok w xs es.toList) (hst:Xq es clock) (hnd:(xs.map Prod.fst).Nodup)
  (key:k.De) {y:ν} {v:Value} (hv:isV s ok w y v) {e:MapEntry} (he:e∈es.toList) (hek:e.key=Ye k key) :
  ∃es',(Instr.entryStore t (.map (some g)) (.int .i64 ((e.born:Nat):Int)) v).run P w=.ok () { w with heap:=w.heap.setIfInBounds g (.map es' clock) }∧Kn (rt k) s ok w (Yx key y xs) es'.toList∧Xq es' clock:=by
 obtain ⟨j,hj⟩:=List.getElem?_of_mem he
 have hf:=Qli hst.1 hj
 have hkn:(es.toList.map MapEntry.key).Nodup:=by
  rw [Lq (Q9 hd) hp,show (xs.map fun q=>Ye k q.1)=(xs.map Prod.fst).map (Ye k) from by simp]
  exact hnd.map _ fun a b hab h=>hab (Qcv hT hk hd w h)
 have hrun:(Instr.entryStore t (.map (some g)) (.int .i64 ((e.born:Nat):Int)) v).run P w=.ok () { w with heap:=w.heap.setIfInBounds g (.map (es.modify j fun e=>{ e with val:=v }) clock) }:=by
  simp [Instr.entryStore,MapKept.run_getObj_map hg,asInt,asIntOf,hf,MapKept.run_setObj_map _ hg,Result.andThen]
 refine ⟨_,hrun,?_,Tg hst fun _=>rfl⟩
 rcases Ij hT hk hd key hv hp with ⟨q1,q2⟩ | ⟨j',e',q2,q3,q4,q5⟩
 ·rcases Ge hT hk hd key w hp with ⟨r1,r2⟩ | ⟨j2,e2,y2,r1,_⟩
  ·exfalso
   have hm:Ye k key∈es.toList.map MapEntry.key:=List.mem_map.2 ⟨e,he,hek⟩
   rw [Lq (Q9 hd) hp] at hm
   obtain ⟨q,hq,hqk⟩:=List.mem_map.1 hm
   have:=Qcv hT hk hd w hqk
   subst this
   clear q2 r2 r1 hnd hkn hp hm
   induction xs with
   | nil=>cases hq
   | cons x xs ih =>
    simp only [Qx] at q1
    cases hb:eqK k q.1 x.1 with
    | true=>rw [hb] at q1; cases q1
    | false =>
     rw [hb] at q1
     rcases List.mem_cons.1 hq with rfl | hq
     ·rw [(V3 (Q9 hd)).2 rfl] at hb; cases hb
     ·exact ih hq q1
  ·rw [q1] at r1; cases r1
 ·have hjj:j=j':=by
   have h1:=(List.getElem?_eq_some_iff.1 hj)
   have h2:=(List.getElem?_eq_some_iff.1 q3)
   have g1:(es.toList.map MapEntry.key)[j]'(by simpa using h1.1)=(es.toList.map MapEntry.key)[j']'(by simpa using h2.1):=by
    rw [List.getElem_map,List.getElem_map,h1.2,h2.2,hek,q4]
   exact (List.getElem_inj hkn).1 g1
  subst hjj
  have e1:(es.modify j fun e=>{ e with val:=v }).toList=es.toList.modify j fun e=>{ e with key:=Ye k key,val:=v }:=by
   have hj':es[j]?=some e:=by simpa using hj
   apply List.ext_getElem?
   intro i
   simp only [Array.getElem?_toList,Array.getElem?_modify,List.getElem?_modify]
   split
   ·subst_vars; simp [hj',hek]
   ·simp
  rw [e1]; exact q5
end
section
variable {P:Program} {Y:TX} {X:Cx} {S:XS} {β β':Nat→Nat} {ρ ρ':Nat→Value} {a a':Act} {w w':World} {n:Nat}
variable {ops:Array Oper} {Q:Exit→Act→World→Prop} {rest:List Oper} {R:Type} {k:XS→Option R} {r:R}
theorem Qcw {M:List (Nat×Ob)} {id:Nat} {ob:Ob} (hm:Qb M id=some ob) (hbb:∀o,(Qp β ρ id ob).cov (β id) o) {o:Obj}:Evo (okR X β ρ M w) w { w with heap:=w.heap.setIfInBounds (β id) o }:=by
 obtain ⟨l1,l2,e1,_,_⟩:=Jl hm
 refine Evo.of_blocks (by simp) fun b f hk=>?_
 have hne:β id≠b:=fun e=>hk.2.2.2 (Qp β ρ id ob) (by rw [e1]; simp [Qc]) (e▸hbb f)
 simp [Array.getElem?_setIfInBounds,hne]
theorem Qit {M:List (Nat×Ob)} {id:Nat} {ob ob':Ob} (hm:Qb M id=some ob) (hc:∀b f,(Qp β ρ id ob').cov b f→(Qp β ρ id ob).cov b f) {o:Obj}:∀b f,okR X β ρ M w b f→okR X β ρ (Ht M id ob') { w with heap:=w.heap.setIfInBounds (β id) o } b f:=by
 obtain ⟨l1,l2,e1,e2,_⟩:=Jl hm
 rintro b f ⟨h1,h2,h3,h4⟩
 refine ⟨h1,by simpa using h2,h3,fun t ht=>?_⟩
 rw [e2] at ht
 obtain ⟨q,hq,rfl⟩:=List.mem_map.1 ht
 rcases List.mem_append.1 hq with hq | hq
 ·exact h4 _ (by rw [e1]; exact List.mem_map.2 ⟨q,by simp [hq],rfl⟩)
 ·rcases List.mem_cons.1 hq with rfl | hq
  ·exact fun hcv=>h4 (Qp β ρ id ob) (by rw [e1]; simp [Qc]) (hc b f hcv)
  ·exact h4 _ (by rw [e1]; exact List.mem_map.2 ⟨q,by simp [hq],rfl⟩)
theorem Rel.turnM {env:List En} {M:List (Nat×Ob)} (h:Rel X β ρ ⟨env,M⟩ a w) {id:Nat} {ob ob':Ob} (hm:Qb M id=some ob) (hb1:∀b o,(Qp β ρ id ob).blks b→(Qp β ρ id ob).cov b o) (hb2:∀g,(Qp β ρ id ob').blks g→(Qp β ρ id ob).blks g) {o:Obj}
  (hbb:(Qp β ρ id ob).blks (β id)) (hq:(Qp β ρ id ob').p (okR X β ρ (Ht M id ob') { w with heap:=w.heap.setIfInBounds (β id) o }) { w with heap:=w.heap.setIfInBounds (β id) o }) :
  Rel X β ρ ⟨env,Ht M id ob'⟩ a { w with heap:=w.heap.setIfInBounds (β id) o }:=by
 obtain ⟨l1,l2,e1,e2,e3⟩:=Jl hm
 have hO:Qc β ρ M=Qc β ρ l1++Qp β ρ id ob::Qc β ρ l2:=by rw [e1]; simp [Qc]
 have hmem:Qc β ρ (l1++(id,ob')::l2)=Qc β ρ l1++Qp β ρ id ob'::Qc β ρ l2:=by simp [Qc]
 have hS:=Sb.upd h hO (t':=Qp β ρ id ob') (w':={ w with heap:=w.heap.setIfInBounds (β id) o }) rfl rfl rfl (by simp) (fun b hb hn=>by
   have hne:β id≠b:=fun e=>hn (e▸hbb)
   simp [Array.getElem?_setIfInBounds,hne]) hb1 (fun g hg=>.inl (hb2 g hg)) (fun hevo hok=>by rw [←hmem,←e2]; exact hq)
 rw [e2]
 exact Rel.ofSb hS hmem.symm fun e he=>by
  have:=Jf.1 hS.dat _ (List.mem_map.2 ⟨e,he,rfl⟩)
  rw [←hmem] at this
  exact this
theorem Qgh (hT:Qy P Y.T) (hX:X.n=n) (hr:X.res=[]) (h:Rel X β ρ S.flat a w) {o:Oper} (hw:Region.wanted o (yielded ops a.tmps)=true) {t:TypeId} {m ky:Operand} {d:Nat} (hop:o.op=.mapEntry t m ky) (hd:o.dst=some d) {te tk tz:TE} {kt et:TypeId} (hte:Qe Y.T t=some te) (htd:te.d=.map kt et) (htk:Qe Y.T kt=some tk) (htz:Qe Y.T et=some tz)
  {id:Nat} {kv za:AV} {kk v:Ty} {xs:List (kk.De×v.De)} {key:kk.De} {z:v.De} (hm:S.ev [] m=some (.m id)) (hkv:S.ev [] ky=some kv) (hmo:Qb S.mem id=some (.map kk v xs)) (hkey:asD [] kv kk=some key) (hza:Xr v tz.z=some za) (hz:asD [] za v=some z)
  (hwd:okW n S d=true) (hb:okB S d=true) (hdk:Ys Y.T kk tk.d=true) (hka:(kk.agg==kv.isAgg)=true) (hva:(v.agg==By tz.z)=true)
  (hk:k ((XS.mk (Y6 d S.env) S.fix (Ht S.mem id (.mapE kk v (Yx key ((Qx key xs).getD z) xs) key d)) S.fixM S.prot).put d [] (.tp (.cons (.d v ((Qx key xs).getD z)) (.cons (.b d) .nil))))=some r) (H:KOk P ops Q rest X S β ρ k r):wpList P ops Q (o::rest) a w:=by
 obtain ⟨h1,h2⟩:=J7 hwd hX hr
 obtain ⟨f1,f2,f3⟩:=Zv hb
 obtain ⟨c1,g1,g2⟩:=h.ev (Qa a) hm
 have g2':c1=[.map (some (β id))]:=g2
 subst g2'
 have g1':a.eval m=.map (some (β id)):=g1
 obtain ⟨c3,h3,h4⟩:=h.ev (Qa a) hkv
 have hkr:isV (rt kk) (okR X β ρ S.flat.mem w) w key (a.eval ky):=by
  refine ⟨c3,V8 (M:=[]) (β:=β) (ρ:=ρ) (by simp [Qb]) hkey h4,?_⟩
  rw [h3]; simp only [AV.val,RT.val,Xn,bEq hka]; cases kv.isAgg<;>rfl
 have hke:=Up (Q9 hdk) hkr
 have hm':Qb S.flat.mem id=some (.map kk v xs):=Q0 hmo
 obtain ⟨⟨es,clock,hg,hp,hnd,hst1,hst2⟩,hmine⟩:=h.ob hm'
 have hzv:isV (rt v) (okR X β ρ S.flat.mem w) w z tz.z:=⟨Qh tz.z,V8 (M:=[]) (β:=β) (ρ:=ρ) (by simp [Qb]) hz (K2 hza),(Cm (bEq hva)).symm⟩
 obtain ⟨es1,clock1,u,b,hrun,hp1,hst',⟨e0,he0,he1,he2⟩,hu⟩:=Qa4 hT hte htd htk htz hdk hg hp ⟨hst1,hst2⟩ key hzv
 have hrun':(execOp a.eval o).run P w=.ok (.value (.tuple #[u,.int .i64 ((b:Nat):Int)])) { w with heap:=w.heap.setIfInBounds (β id) (.map es1 clock1) }:=by
  unfold execOp
  rw [hop]
  simp only [g1',hke]
  simp [hrun]
 refine Q8 hw (Jv hrun' ?_)
 rw [hd]
 have hne:id≠d:=by
  obtain ⟨l1,l2,e1,_⟩:=Jl hm'
  have hin:(id,Ob.map kk v xs)∈S.mem++S.fixM:=by
   rw [show S.mem++S.fixM=S.flat.mem from rfl,e1]; simp
  exact (U8 f1 _ hin).1
 have hid:upd β d b id=β id:=Uv _ _ hne
 have ha:=Kj d β ρ b (ρ d)
 have hoff:=h.off ha f1 (env':=Jx (Y6 d S.env) d++S.fix) fun e he=>let ⟨q1,q2,_⟩:=Gh f2 h2 e he; ⟨q1,q2⟩
 have sim:=V2.ok (W7 ha f1) (w:=w) (ok0:=X.ok) (B:=X.w.heap.size) (β:=fun _=>0) (H:=[])
 have hmm:Qb (S.mem++S.fixM) id=some (.map kk v xs):=hm'
 have hev:=Qcw (X:=X) (β:=upd β d b) (ρ:=upd ρ d (ρ d)) (w:=w) (o:=.map es1 clock1) hmm (fun _=>rfl)
 have hok:=Qit (X:=X) (β:=upd β d b) (ρ:=upd ρ d (ρ d)) (w:=w) (o:=.map es1 clock1) (ob':=.mapE kk v (Yx key ((Qx key xs).getD z) xs) key d) hmm (fun _ _ h=>h)
 have hT1:=hoff.turnM (ob':=.mapE kk v (Yx key ((Qx key xs).getD z) xs) key d) (o:=.map es1 clock1) hmm (fun b o h=>h) (fun g h=>h) rfl ?_
 ·have hu1:=((hu.weak sim).evo hev).weak hok
  obtain ⟨cu,hu2,hu3⟩:=hu1
  have hP:=hT1.put0 h1 (x:=.tp (.cons (.d v ((Qx key xs).getD z)) (.cons (.b d) .nil))) (c:=[.tuple #[u,.int .i64 ((b:Nat):Int)]]) ⟨[u,.int .i64 ((b:Nat):Int)],rfl,cu,[.int .i64 ((b:Nat):Int)],?_,hu2,[.int .i64 ((b:Nat):Int)],[],rfl,?_,rfl⟩
  ·rw [hid] at hP
   refine H (upd β d b) (upd ρ d (ρ d)) _ _ _ hk ⟨rfl,rfl,rfl,Zm f3 ha⟩ ?_
   have hE:(XS.put (XS.mk (Y6 d S.env) S.fix (Ht S.mem id (.mapE kk v (Yx key ((Qx key xs).getD z) xs) key d)) S.fixM S.prot) d [] (.tp (.cons (.d v ((Qx key xs).getD z)) (.cons (.b d) .nil)))).flat=⟨⟨d,[],.tp (.cons (.d v ((Qx key xs).getD z)) (.cons (.b d) .nil))⟩::(Jx (Y6 d S.env) d++S.fix),Ht (S.mem++S.fixM) id (.mapE kk v (Yx key ((Qx key xs).getD z) xs) key d)⟩:=by
    simp only [XS.flat,XS.put,List.cons_append]
    rw [Zf hmo]
   rw [hE]
   refine hP.less fun e hm=>?_
   rcases List.mem_cons.1 hm with rfl | hm
   ·exact .head _
   ·refine .tail _ ?_
    have:Jx (Jx (Y6 d S.env) d++S.fix) d=Jx (Y6 d S.env) d++S.fix:=by
     rw [Z6 h2,Pg]
    show e∈Jx (Jx (Y6 d S.env) d++S.fix) d
    rw [this]; exact hm
  ·rw [hu3]; simp only [AV.val,RT.val,Xn,AV.isAgg]; cases v.agg<;>rfl
  ·show [Value.int .i64 ((b:Nat):Int)]=[.int .i64 ((upd β d b d:Nat):Int)]
   rw [Jn]
 ·have hgl:β id<w.heap.size:=Yl hg
  refine ⟨es1,clock1,?_,Uu (Xg (Uu hp1 sim) hev) hok,(Hf (Q9 hdk) key _ hnd).1,hst'.1,hst'.2,e0,he0,he1▸Ih (Q9 hdk) key,by rw [he2,Jn]⟩
  rw [hid]; exact (MapKept.heap_set hg).1
theorem Qa5 (hT:Qy P Y.T) (h:Rel X β ρ S.flat a w) {o:Oper} (hw:Region.wanted o (yielded ops a.tmps)=true) {t:TypeId} {m st x:Operand} (hop:o.op=.entryStore t m st x) (hd:o.dst=none) {tk:TE} {kt:TypeId} (htk:Qe Y.T kt=some tk)
  {id j:Nat} {xv:AV} {kk v:Ty} {xs:List (kk.De×v.De)} {key:kk.De} {y:v.De} (hm:S.ev [] m=some (.m id)) (hst:S.ev [] st=some (.b j)) (hx:S.ev [] x=some xv) (hmo:Qb S.mem id=some (.mapE kk v xs key j)) (hy:asD S.flat.mem xv v=some y)
  (hdk:Ys Y.T kk tk.d=true) (hva:(v.agg==xv.isAgg)=true)
  (hk:k (S.set id (.map kk v (Yx key y xs)))=some r) (H:KOk P ops Q rest X S β ρ k r):wpList P ops Q (o::rest) a w:=by
 obtain ⟨c1,g1,g2⟩:=h.ev (Qa a) hm
 have g2':c1=[.map (some (β id))]:=g2
 subst g2'
 have g1':a.eval m=.map (some (β id)):=g1
 obtain ⟨c2,g3,g4⟩:=h.ev (Qa a) hst
 have g4':c2=[.int .i64 ((β j:Nat):Int)]:=g4
 subst g4'
 have g3':a.eval st=.int .i64 ((β j:Nat):Int):=g3
 have hxv:isV (rt v) (okR X β ρ S.flat.mem w) w y (a.eval x):=h.asD (Qa a) hx hy (bEq hva)
 have hm':Qb S.flat.mem id=some (.mapE kk v xs key j):=Q0 hmo
 obtain ⟨⟨es,clock,hg,hp,hnd,hst1,hst2,e0,he0,he1,he2⟩,hmine⟩:=h.ob hm'
 obtain ⟨es',hrun,hp',hst'⟩:=Pl (t:=t) hT htk hdk hg hp ⟨hst1,hst2⟩ hnd key hxv he0 (Up (Q9 hdk) he1)
 rw [he2] at hrun
 have hrun':(execOp a.eval o).run P w=.ok .skip { w with heap:=w.heap.setIfInBounds (β id) (.map es' clock) }:=by
  unfold execOp
  rw [hop]
  simp only [g1',g3']
  simp [hrun]
 refine Q8 hw ?_
 unfold Oper.wp
 rw [hrun']
 show wpList P ops Q rest (a.put o.dst undef) _
 rw [hd]
 have hE:(S.set id (.map kk v (Yx key y xs))).flat=⟨S.flat.env,Ht S.flat.mem id (.map kk v (Yx key y xs))⟩:=by
  simp only [XS.flat,XS.set]
  rw [Zf hmo]
 refine H β ρ _ _ _ hk ⟨rfl,rfl,rfl,agP.refl _ _ _⟩ ?_
 rw [hE]
 have hev:=Qcw (X:=X) (β:=β) (ρ:=ρ) (w:=w) (o:=.map es' clock) hm' (fun _=>rfl)
 have hok:=Qit (X:=X) (β:=β) (ρ:=ρ) (w:=w) (o:=.map es' clock) (ob':=.map kk v (Yx key y xs)) hm' (fun _ _ h=>h)
 exact Rel.turnM (env:=S.flat.env) h (ob':=.map kk v (Yx key y xs)) (o:=.map es' clock) hm' (fun b o h=>h) (fun g h=>h) rfl
  ⟨es',clock,(MapKept.heap_set hg).1,Uu (Xg hp' hev) hok,(Hf (Q9 hdk) key y hnd).1,hst'.1,hst'.2⟩
end
end Gx

/- Literals as rows; maps of maps. -/
namespace Gx
open Go Go.RowKit Gd
set_option linter.unusedVariables false
set_option linter.unusedSimpArgs false
theorem Qcx {v:Value} (h:Ow v=true):v=.map none:=by
 unfold Ow at h
 split at h
 ·rfl
 ·cases h
section
variable {k:Ty} {ν:Type}
theorem Pm (key:k.De):∀{xs:List (k.De×ν)},Qx key (xs.map fun q=>(q.1,()))=(Qx key xs).map fun _=>()
 | []=>rfl
 | x::l=>by
  simp only [List.map_cons,Qx]
  cases eqK k key x.1 with
  | true=>rfl
  | false=>exact Pm key
theorem Th (key:k.De) (y:ν):∀{xs:List (k.De×ν)},(Yx key y xs).map (fun q=>(q.1,()))=Yx key () (xs.map fun q=>(q.1,()))
 | []=>rfl
 | x::l=>by
  simp only [List.map_cons,Yx]
  cases eqK k key x.1 with
  | true=>rfl
  | false=>simp only [cond_false,List.map_cons]; rw [Th key y]
theorem Qcy (key:k.De) (y:ν):∀{xs:List (k.De×ν)},(key,y)∈Yx key y xs
 | []=>by simp [Yx]
 | x::l=>by
  simp only [Yx]
  cases eqK k key x.1 with
  | true=>exact .head _
  | false=>exact .tail _ (Qcy key y)
theorem Ti (hk:Ah k=true) {key:k.De} {y:ν}:∀{xs:List (k.De×ν)},(xs.map Prod.fst).Nodup→(key,y)∈xs→Qx key xs=some y
 | x::l,hn,h=>by
  have hn':=List.nodup_cons.1 (by simpa using hn:(x.1::l.map Prod.fst).Nodup)
  simp only [Qx]
  rcases List.mem_cons.1 h with rfl | h
  ·rw [(V3 hk).2 rfl]; rfl
  ·cases hb:eqK k key x.1 with
   | true =>
    have:=(V3 hk).1 hb
    exact absurd (List.mem_map.2 ⟨(key,y),h,this⟩) hn'.1
   | false=>exact Ti hk hn'.2 h
end
section
variable {P:Program} {Y:TX} {X:Cx} {S:XS} {β β':Nat→Nat} {ρ ρ':Nat→Value} {a a':Act} {w w':World} {n:Nat}
variable {ops:Array Oper} {Q:Exit→Act→World→Prop} {rest:List Oper} {R:Type} {k:XS→Option R} {r:R}
theorem Qgi (hX:X.n=n) (hr:X.res=[]) (h:Rel X β ρ S.flat a w) {o:Oper} (hw:Region.wanted o (yielded ops a.tmps)=true) {d:Nat} (hd:o.dst=some d) (hwd:okW n S d=true) (hb:okB S d=true) {t:TypeId} (hop:o.op=.makeMap t none) {kk:Ty}
  (hk:k ((S.born d (.mapO kk [] none)).put d [] (.m d))=some r) (H:KOk P ops Q rest X S β ρ k r):wpList P ops Q (o::rest) a w:=by
 obtain ⟨h1,h2⟩:=J7 hwd hX hr
 obtain ⟨f1,f2,f3⟩:=Zv hb
 have hrun:(execOp a.eval o).run P w=.ok (.value (.map (some w.heap.size))) (w.alloc (.map #[] 0)):=by
  unfold execOp
  rw [hop]
  simp [Instr.makeMap]
 refine Q8 hw (Jv hrun ?_)
 rw [hd]
 have ha:=Kj d β ρ w.heap.size (ρ d)
 have hbel:Below w.heap.size w (w.alloc (.map #[] 0)):=(Below.refl _ _).alloc (Nat.le_refl _) _
 refine H (upd β d w.heap.size) (upd ρ d (ρ d)) _ _ _ hk (U1 f3 ha _ _ _) ?_
 have hA:Rel X (upd β d w.heap.size) (upd ρ d (ρ d)) ⟨Jx (Y6 d S.env) d++S.fix,(d,.mapO kk [] none)::(S.mem++S.fixM)⟩ a (w.alloc (.map #[] 0)):=by
  refine Rel.alloc h ha f1 (fun e he=>let ⟨q1,q2,_⟩:=Gh f2 h2 e he; ⟨q1,q2⟩) hbel (fun g hg=>?_) ?_
  ·have hg':g=upd β d w.heap.size d:=hg
   rw [Jn] at hg'; omega
  ·refine ⟨[],⟨#[],0,?_,rfl,by simp,by simp,by simp⟩,rfl,fun q hq=>by cases hq⟩
   rw [Jn]; exact heap_alloc_new w _
 have hP:=hA.put0 h1 (x:=.m d) (c:=[.map (some (upd β d w.heap.size d))]) rfl
 have hv:(AV.m d).val [.map (some (upd β d w.heap.size d))]=.map (some w.heap.size):=by rw [Jn]; rfl
 rw [hv] at hP
 have he:((S.born d (.mapO kk [] none)).put d [] (.m d)).flat=⟨⟨d,[],.m d⟩::(Jx (Y6 d S.env) d++S.fix),(d,.mapO kk [] none)::(S.mem++S.fixM)⟩:=rfl
 rw [he]
 refine hP.less fun e hm=>?_
 rcases List.mem_cons.1 hm with rfl | hm
 ·exact .head _
 ·refine .tail _ ?_
  have:Jx (Jx (Y6 d S.env) d++S.fix) d=Jx (Y6 d S.env) d++S.fix:=by
   rw [Z6 h2]
   congr 1
   have idem:∀l:List En,Jx (Jx l d) d=Jx l d:=by
    intro l
    induction l with
    | nil=>rfl
    | cons x l ih =>
     simp only [Jx]
     cases hb:(Nat.beq x.t d||Fq d x.cs) with
     | true=>simpa using ih
     | false=>simp only [cond_false,Jx,hb,ih]
   exact idem _
  show e∈Jx (Jx (Y6 d S.env) d++S.fix) d
  rw [this]; exact hm
theorem Q5b (hT:Qy P Y.T) (h:Rel X β ρ S.flat a w) {o:Oper} (hw:Region.wanted o (yielded ops a.tmps)=true) {t:TypeId} {m ky x:Operand} (hop:o.op=.mapUpdate t m ky x) (hd:o.dst=none) {te tk:TE} {kt et:TypeId} (hte:Qe Y.T t=some te) (htd:te.d=.map kt et) (htk:Qe Y.T kt=some tk)
  {id j:Nat} {kv:AV} {kk:Ty} {xs:List (kk.De×Unit)} {last:Option (kk.De×Nat)} {key:kk.De} (hm:S.ev [] m=some (.m id)) (hkv:S.ev [] ky=some kv) (hx:S.ev [] x=some (.m j)) (hmo:Qb S.mem id=some (.mapO kk xs last)) (hkey:asD [] kv kk=some key)
  (hdk:Ys Y.T kk tk.d=true) (hka:(kk.agg==kv.isAgg)=true)
  (hk:k (S.set id (.mapO kk (Yx key () xs) (some (key,j))))=some r) (H:KOk P ops Q rest X S β ρ k r):wpList P ops Q (o::rest) a w:=by
 obtain ⟨c1,h1,h2⟩:=h.ev (Qa a) hm
 have h2':c1=[.map (some (β id))]:=h2
 subst h2'
 have h1':a.eval m=.map (some (β id)):=h1
 obtain ⟨c2,g1,g2⟩:=h.ev (Qa a) hx
 have g2':c2=[.map (some (β j))]:=g2
 subst g2'
 have g1':a.eval x=.map (some (β j)):=g1
 have hxv:isV Qkn (okR X β ρ S.flat.mem w) w (some (β j)) (a.eval x):=⟨[.map (some (β j))],rfl,g1'⟩
 obtain ⟨c3,h3,h4⟩:=h.ev (Qa a) hkv
 have hkr:isV (rt kk) (okR X β ρ S.flat.mem w) w key (a.eval ky):=by
  refine ⟨c3,V8 (M:=[]) (β:=β) (ρ:=ρ) (by simp [Qb]) hkey h4,?_⟩
  rw [h3]; simp only [AV.val,RT.val,Xn,bEq hka]; cases kv.isAgg<;>rfl
 have hke:=Up (Q9 hdk) hkr
 have hm':Qb S.flat.mem id=some (.mapO kk xs last):=Q0 hmo
 obtain ⟨⟨xs',⟨es,clock,hg,hp,hnd,hst1,hst2⟩,hxs,hlast⟩,hmine⟩:=h.ob hm'
 obtain ⟨es',clock',hrun,hp',hst'⟩:=C6 hT hte htd htk hdk hg hp ⟨hst1,hst2⟩ key hxv
 have hrun':(execOp a.eval o).run P w=.ok .skip { w with heap:=w.heap.setIfInBounds (β id) (.map es' clock') }:=by
  unfold execOp
  rw [hop]
  simp only [h1',hke]
  simp [hrun]
 refine Q8 hw ?_
 unfold Oper.wp
 rw [hrun']
 show wpList P ops Q rest (a.put o.dst undef) _
 rw [hd]
 have hgl:=Yl hg
 obtain ⟨l1,l2,e1,e2,e3⟩:=Jl hm'
 have hO:Qc β ρ S.flat.mem=Qc β ρ l1++Qp β ρ id (.mapO kk xs last)::Qc β ρ l2:=by rw [e1]; simp [Qc]
 have hS:=h.upd hO (t':=Qp β ρ id (.mapO kk (Yx key () xs) (some (key,j)))) (w':={ w with heap:=w.heap.setIfInBounds (β id) (.map es' clock') }) rfl rfl rfl (by simp) (fun b hb hn=>(MapKept.heap_set hg).2 b fun e=>hn e) (fun b o hb=>hb) (fun g hg=>.inl hg) (fun hevo hok=>by
  refine ⟨Yx key (some (β j)) xs',⟨es',clock',(MapKept.heap_set hg).1,?_,(Hf (Q9 hdk) key (some (β j)) hnd).1,hst'.1,hst'.2⟩,?_,fun q hq=>?_⟩
  ·exact Uu (Xg hp' hevo) hok
  ·rw [Th,hxs]
  ·simp only [A6,Option.map_some,Option.some.injEq] at hq
   subst hq
   exact Qcy key _)
 have hE:(S.set id (.mapO kk (Yx key () xs) (some (key,j)))).flat=⟨S.flat.env,Ht S.flat.mem id (.mapO kk (Yx key () xs) (some (key,j)))⟩:=by
  simp only [XS.flat,XS.set]
  rw [Zf hmo]
 refine H β ρ _ _ _ hk ⟨rfl,rfl,rfl,agP.refl _ _ _⟩ ?_
 rw [hE,e2]
 have hmem:Qc β ρ (l1++(id,Ob.mapO kk (Yx key () xs) (some (key,j)))::l2)=Qc β ρ l1++Qp β ρ id (.mapO kk (Yx key () xs) (some (key,j)))::Qc β ρ l2:=by simp [Qc]
 exact Rel.ofSb hS hmem.symm fun e he=>by
  have:=Jf.1 hS.dat _ (List.mem_map.2 ⟨e,he,rfl⟩)
  rw [←hmem] at this
  exact this
theorem Qpu {β:Nat→Nat} {ρ:Nat→Value} {ok:Ok} {a:Act} {w:World} {S:St} (h:Xc β ρ ok S a w) {cur:Vr} (hc:Jw a cur) {ky:Operand} {kv:AV} (hkv:Gx.ev S cur ky=some kv) {kk:Ty} {key:kk.De} (hkey:asD [] kv kk=some key) {d:TypeDesc} {T:Tab} (hdk:Ys T kk d=true) (hka:(kk.agg==kv.isAgg)=true):a.eval ky=Ye kk key:=by
 obtain ⟨c3,h3,h4⟩:=h.ev hc hkv
 refine Up (ok:=ok) (w:=w) (Q9 hdk) ⟨c3,V8 (M:=[]) (β:=β) (ρ:=ρ) (by simp [Qb]) hkey h4,?_⟩
 rw [h3]; simp only [AV.val,RT.val,Xn,bEq hka]; cases kv.isAgg<;>rfl
theorem Qcz (hT:Qy P Y.T) (hX:X.n=n) (hr:X.res=[]) (h:Rel X β ρ S.flat a w) {o:Oper} (hw:Region.wanted o (yielded ops a.tmps)=true) (hs:C8 Y n o S k=some r) (H:KOk P ops Q rest X S β ρ k r):wpList P ops Q (o::rest) a w:=by
 unfold C8 at hs
 split at hs
 ·rename_i t m ps d hop hd
  split at hs
  ·rename_i te hte
   split at hs
   ·rename_i e htd0
    split at hs
    ·rename_i ee u vs he hu hvs
     split at hs
     ·rename_i xs hxs
      obtain ⟨hb,hk⟩:=bvT hs
      simp only [Bool.and_eq_true] at hb
      obtain ⟨⟨⟨⟨⟨⟨hwd,hbb⟩,hsz⟩,hl⟩,hsm⟩,hpos⟩,hzl⟩:=hb
      have htd:=J6 htd0
      obtain ⟨f1,f2,f3⟩:=Zv hbb
      obtain ⟨h1,h2⟩:=J7 hwd hX hr
      have hg:=H3 h hw
      obtain ⟨us,q1,q2,q3,q4⟩:=Qa1 h hvs hxs
      have hes:=Nat.eq_of_beq_eq_true hsz
      have hxl:=Nat.eq_of_beq_eq_true hl
      have hcl:∀v∈us,(Qh v).length=ee.size:=fun v hv=>by rw [Li q2 v hv,Jh,hes]
      have hz0:(V0 (Qh ee.z) ((m+1)*ee.size)).length=(m+1)*ee.size:=by simp [V0]
      have hfill:=Sr us 0 (V0 (Qh ee.z) ((m+1)*ee.size)) hcl (by rw [hz0,Nat.zero_add,q3,hxl]; exact Nat.le_refl _)
      rw [←q1] at hfill
      have hfill':G1 (Ab ee.size) (V0 (Qh ee.z) ((m+1)*ee.size)) (ps.map (fun p=>(p.1,a.eval p.2)))=some (us.flatMap Qh):=by
       rw [hfill]
       simp only [Nat.zero_mul,List.take_zero,List.nil_append,Nat.zero_add]
       rw [List.drop_of_length_le (by rw [hz0,q3,hxl]; exact Nat.le_refl _),List.append_nil]
      rw [Kw o,hd,hop] at hg ⊢
      refine Qct hT h.toG (r:=rt u) hg h1 q4 hte htd he (by rw [Jh]; exact hes) hxl hsm hpos (Nat.succ_le_succ (Nat.zero_le _)) hzl hfill' q2 fun b a' w' hS=>?_
      refine H β (upd ρ d (.slice (some ⟨b,0,none⟩) xs.length (m+1))) _ _ _ hk (U1 f3 (Yf d β ρ _) _ _ _) ?_
      have:=Zg (o:=.row e u xs) hX hr h.sz hwd f1 f2 f3 hS (by simp only [Qp,Jn]; exact U0.refl _) ⟨_,_,_,rfl⟩
      exact this
     ·cases hs
    ·cases hs
   ·cases hs
  ·cases hs
 ·
  rename_i t rs d hop hd
  split at hs
  ·rename_i te hte
   split at hs
   ·rename_i kt et htd
    split at hs
    ·rename_i kk hkk
     obtain ⟨hb,hk⟩:=bvT hs
     simp only [Bool.and_eq_true] at hb
     have hrs:=Cr hb.2
     subst hrs
     exact Qgi hX hr h hw hd hb.1.1 hb.1.2 hop hk H
    ·cases hs
   ·cases hs
  ·cases hs
 ·
  rename_i t m ky x hop hd
  split at hs
  ·rename_i te id kv j hte hm hkv hx
   split at hs
   ·rename_i kt et kk xs last htd hmo
    split at hs
    ·rename_i tk key htk hkey
     obtain ⟨hb,hk⟩:=bvT hs
     simp only [Bool.and_eq_true] at hb
     exact Q5b hT h hw hop hd hte htd htk hm hkv hx hmo hkey hb.1 hb.2 hk H
    ·cases hs
   ·cases hs
  ·cases hs
 ·
  rename_i t m ky d hop hd
  split at hs
  ·rename_i te id kv hte hm hkv
   split at hs
   ·rename_i kt et kk v xs htd hmo
    split at hs
    ·rename_i tk tz key htk htz hkey
     split at hs
     ·rename_i za hza
      split at hs
      ·rename_i z hz
       obtain ⟨hb,hk⟩:=bvT hs
       simp only [Bool.and_eq_true] at hb
       exact Qgh hT hX hr h hw hop hd hte htd htk htz hm hkv hmo hkey hza hz hb.1.1.1.1 hb.1.1.1.2 hb.1.1.2 hb.1.2 hb.2 hk H
      ·cases hs
     ·cases hs
    ·cases hs
   ·cases hs
  ·cases hs
 ·
  rename_i t m st x hop hd
  split at hs
  ·rename_i id j xv hm hst hx
   split at hs
   ·rename_i kk v xs key j' hmo
    split at hs
    ·rename_i te hte
     split at hs
     ·rename_i kt et htd
      split at hs
      ·rename_i tk y htk hy
       obtain ⟨hb,hk⟩:=bvT hs
       simp only [Bool.and_eq_true] at hb
       have hj:=Nat.eq_of_beq_eq_true hb.1.1
       subst hj
       exact Qa5 hT h hw hop hd htk hm hst hx hmo hy hb.1.2 hb.2 hk H
      ·cases hs
     ·cases hs
    ·cases hs
   ·cases hs
  ·cases hs
 ·
  rename_i t m ky d hop hd
  split at hs
  ·rename_i te kv hte hkv
   split at hs
   ·rename_i kt et htd
    split at hs
    ·rename_i tk tz id htk htz hm
     split at hs
     ·rename_i kk xs last hmo
      split at hs
      ·rename_i key hkey
       obtain ⟨hb,hs⟩:=bvT hs
       simp only [Bool.and_eq_true] at hb
       obtain ⟨⟨⟨hwd,hdk⟩,hka⟩,hz⟩:=hb
       have hz:=Qcx hz
       have gen:∀(xv:AV),(∀{β:Nat→Nat} {ρ:Nat→Value} {ok:Ok} {w:World} {xs':List (kk.De×Option Nat)} {v:Value},(xs'.map Prod.fst).Nodup→xs'.map (fun q=>(q.1,()))=xs→(∀q,A6 β last=some q→(q.1,some q.2)∈xs')→isV Qkn ok w ((Qx key xs').getD none) v→∃cs,v=xv.val cs∧cr β ρ ok w false xv cs)→k (S.put d [] xv)=some r→wpList P ops Q (o::rest) a w:=by
        intro xv hxv hk
        refine Qpk hX hr h hw hd hwd (x:=xv) (fun {β ρ ok a w} h hc=>?_) hk H
        obtain ⟨c1,h1,h2⟩:=h.ev hc hm
        have h2':c1=[.map (some (β id))]:=h2
        subst h2'
        have h1':a.eval m=.map (some (β id)):=h1
        have hke:=Qpu h hc hkv hkey hdk hka
        obtain ⟨xs',⟨es,clock,hg,hp,hnd,_⟩,hxs,hlast⟩:=h.mm _ _ hmo
        obtain ⟨v,hrun,hv,_⟩:=Dm hT hte htd htk htz hdk hg hp key (z:=none) ⟨[.map none],rfl,hz⟩ false
        obtain ⟨cs,q1,q2⟩:=hxv hnd hxs hlast hv
        refine ⟨cs,?_,q2⟩
        unfold execOp
        rw [hop]
        simp only [h1',hke]
        simp only [Bool.false_eq_true,if_false] at hrun
        simp [hrun,q1]
       cases last with
       | some q =>
        obtain ⟨_,hch,hk⟩:=Yh hs
        unfold chk at hch
        have hkk:=(V3 (Q9 hdk)).1 (bvT hch).1
        refine gen _ (fun {β ρ ok w xs' v} hnd hxs hlast hv=>?_) hk
        have hf:=Ti (Q9 hdk) hnd (hlast (q.1,β q.2) rfl)
        rw [hkk,hf] at hv
        obtain ⟨cs,v1,v2⟩:=hv
        have v1':cs=[.map (some (β q.2))]:=v1
        subst v1'
        exact ⟨[.map (some (β q.2))],v2,rfl⟩
       | none =>
        obtain ⟨_,hch,hk⟩:=Yh hs
        unfold chk at hch
        have hnone:=Cr (bvT hch).1
        refine gen _ (fun {β ρ ok w xs' v} hnd hxs hlast hv=>?_) hk
        rw [←hxs,Pm] at hnone
        have hf:Qx key xs'=none:=by
         cases hf:Qx key xs' with
         | none=>rfl
         | some y=>rw [hf] at hnone; cases hnone
        rw [hf] at hv
        obtain ⟨cs,v1,v2⟩:=hv
        have v1':cs=[.map none]:=v1
        subst v1'
        exact ⟨[.map none],v2,rfl⟩
      ·cases hs
     ·cases hs
    ·rename_i tk tz htk htz hm
     split at hs
     ·rename_i kk v hkk hvv
      split at hs
      ·rename_i key za hkey hza
       split at hs
       ·rename_i z hz
        obtain ⟨hb,hk⟩:=bvT hs
        simp only [Bool.and_eq_true] at hb
        obtain ⟨⟨⟨hwd,hdk⟩,hka⟩,hva⟩:=hb
        refine Qpk hX hr h hw hd hwd (x:=.d v z) (fun {β ρ ok a w} h hc=>?_) hk H
        obtain ⟨c1,h1,h2⟩:=h.ev hc hm
        have h2':c1=[.map none]:=h2
        subst h2'
        have h1':a.eval m=.map none:=h1
        have hke:=Qpu h hc hkv hkey hdk hka
        have hrun:=R8 (w:=w) hT hte htd htk htz hdk key false
        refine ⟨Qh tz.z,?_,V8 (M:=[]) (β:=β) (ρ:=ρ) (by simp [Qb]) hz (K2 hza)⟩
        have hvz:(AV.d v z).val (Qh tz.z)=tz.z:=by
         have:=Cm (bEq hva)
         simp only [AV.val,AV.isAgg]
         simp only [RT.val,Xn] at this
         cases hv2:v.agg<;>rw [hv2] at this<;>exact this
        unfold execOp
        rw [hop]
        simp only [h1',hke,hvz]
        simp only [Bool.false_eq_true,if_false] at hrun
        simp [hrun]
       ·cases hs
      ·cases hs
     ·cases hs
    ·cases hs
   ·cases hs
  ·cases hs
 ·cases hs
end
end Gx

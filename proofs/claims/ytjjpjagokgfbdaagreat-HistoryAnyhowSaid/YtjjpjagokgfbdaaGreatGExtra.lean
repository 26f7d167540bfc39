/- Struct equality, literals of the call's own, results in cells, local arrays, function values. -/
import Derived.Test.YtjjpjagokgfbdaaGreatGCore
import Derived.Laws.MakeOwn
import Derived.ProofKit
import Derived.OpenShut
import Derived.Below
import Derived.ChangeSame
namespace Gd
open Go Go.RowKit
set_option linter.unusedVariables false
set_option linter.unusedSimpArgs false
def Qpi (T:Tab):List Field→List Value→List Value→Option Bool
 | [],_,_=>some true
 | f::fs,xs,ys=>match Qh T f.type,xs[f.offset]?,ys[f.offset]?,Qpi T fs xs ys with
  | some⟨_,.int _,_,_,_⟩,some(.int k a),some(.int k' b),some r=>bif Rj k k' then some((a==b)&&r)else none
  | some⟨_,.bool,_,_,_⟩,some(.bool a),some(.bool b),some r=>some((a==b)&&r)
  | some⟨_,.string,_,_,_⟩,some(.string⟨⟨a⟩⟩),some(.string⟨⟨b⟩⟩),some r=>some((a==b)&&r)
  | _,_,_,_=>none
def O6 (fs:List Field):Bool:=fs.all fun f=>f.name != "_"
section
variable {P:Program} {T:Tab} {β:Nat→Nat} {X:Cx} {G:GL} {D:List DF} {H:HL} {O:List TL} {a:Act} {w w':World}
variable {ops:Array Oper} {Q:Exit→Act→World→Prop} {rest:List Oper}
theorem Qgh (hT:Q4 P T){t:TypeId} {e:TE}(he:Qh T t=some e)(ha:X6 e.d=false){xs:List Value} {off:Nat} {v:Value}(hv:xs[off]?=some v) :
  (part t xs.toArray off).run P w=.ok v w:=Qpc hT w he xs off(by rw [ha]; simpa using hv)
theorem Qwp (hT:Q4 P T)(d:Nat):∀{fs:List Field} {xs ys:List Value} {r:Bool},O6 fs=true→Qpi T fs xs ys=some r→(Op.eqFields(d+1)xs.toArray ys.toArray fs).run P w=.ok r w
 | [],xs,ys,r,_,h=>by simp [Qpi] at h; subst h; rfl
 | f::fs,xs,ys,r,hb,h=>by
  simp only [O6,ZS,QQ] at hb
  have hn:f.name ≠ "_" := by simpa using hb.1
  simp only [Qpi] at h
  have key:∀{e:TE} {u v:Value} {p q:Bool},Qh T f.type=some e→X6 e.d=false→xs[f.offset]?=some u→ys[f.offset]?=some v →
    (Op.equalIn(d+1)f.type u v).run P w=.ok p w→Qpi T fs xs ys=some q→(Op.eqFields(d+1)xs.toArray ys.toArray(f::fs)).run P w=.ok(p&&q)w:=by
   intro e u v p q he ha hu hv hp hq
   have ih:=Qwp hT d(by simpa [O6] using hb.2)hq
   simp only [Op.eqFields,ne_eq,hn,not_false_eq_true,if_true,Sem.run_bind,Qgh hT he ha hu,Qgh hT he ha hv,Result.andThen_ok,hp]
   cases p with
   | true=>simpa using ih
   | false=>simp
  split at h
  ·rename_i t1 k z1 s1 b1 k1 a1 k2 a2 q he hu hv hq
   cases hk:Rj k1 k2 with
   | false=>rw [hk] at h; cases h
   | true =>
    rw [hk] at h
    simp only [cond_true,Option.some.injEq] at h
    subst h
    have:=C5 hk
    subst this
    exact key he rfl hu hv(run_equalIn_int w d f.type k1 k a1 a2(Jl hT he).2)hq
  ·rename_i he hu hv hq
   simp at h; subst h
   exact key he rfl hu hv(run_equalIn_bool' w d f.type _ _(Jl hT he).2)hq
  ·rename_i t1 z1 s1 b1 a1 a2 q he hu hv hq
   simp at h; subst h
   refine key he rfl hu hv ?_ hq
   rw [run_equalIn_string w d f.type⟨⟨a1⟩⟩⟨⟨a2⟩⟩(Jl hT he).2]
   rw [show(ByteArray.mk⟨a1⟩).toList=a1 from ByteArray.toList_mk a1,show(ByteArray.mk⟨a2⟩).toList=a2 from ByteArray.toList_mk a2]
  ·cases h
theorem Sb.allocTL (h:Sb β X G D H O a w)(hb:Below w.heap.size w w'){t:TL}(ht:∀g,t.blks g→w.heap.size≤g)(hq:t.p(Je X.ok X.w.heap.size β H(t::O)w')w'):Sb β X G D H(t::O)a w':=by
 have h':=h.below hb
 have hevo:Evo(Je X.ok X.w.heap.size β H O w)w w':=(Evo.of_below hb).mono fun b o hk=>hk.2.1
 have hok:∀b o,Je X.ok X.w.heap.size β H O w b o→Je X.ok X.w.heap.size β H(t::O)w' b o:=by
  rintro b o⟨h1,h2,h3,h4⟩
  refine⟨h1,JG h2 hb.size,h3,fun u hu hc=>?_⟩
  rcases QX.1 hu with rfl | hu
  ·have:=ht b(u.cb hc); omega
  ·exact h4 u hu hc
 refine{ h' with dat:=(h.dat.evo hevo).weak hok,own:=fun u hu=>?_,dHO:=fun p hp u hu=>?_,dOO:=List.Pairwise.cons(fun u hu g hg hg2=>?_)h'.dOO }
 ·rcases QX.1 hu with rfl | hu
  ·exact⟨hq,fun g hg=>.inl(QN h.bel.size(ht g hg))⟩
  ·exact⟨u.weak(u.keep(h.own u hu).1(fun g hg=>hb.block g(h.olt hu hg))hevo)hok,(h.own u hu).2⟩
 ·rcases QX.1 hu with rfl | hu
  ·intro hg
   have:=ht _ hg
   have:=h.hlt hp
   omega
  ·exact h'.dHO p hp u hu
 ·have:=ht g hg
  have:=h.olt hu hg2
  omega
theorem Sb.allocOwn (h:Sb β X G D H O a w)(hb:Below w.heap.size w w'){v:Value} {e sz m:Nat} {xs:List Value}(hv:v.ownBlock=some w.heap.size∨v.ownBlock=none)(hm:Zv v=m)(hown:w'.ownsRowS 0 e sz v m xs) :
  Sb β X G D H(tl v e sz::O)a w':=by
 subst hm
 refine h.allocTL hb(t:=tl v e sz)(fun g hg=>?_)⟨xs,hown⟩
 rcases hv with hv | hv
 ·have hg:v.ownBlock=some g:=hg
  rw [hv] at hg; injection hg with hg; omega
 ·have hg:v.ownBlock=some g:=hg
  rw [hv] at hg; cases hg
theorem Jjy (w:World)(B:Nat)(hB:B≤w.heap.size)(e sz m:Nat)(cs:List Value)(hl:cs.length=m*sz)(hm:m≤maxLen) :
  (w.alloc(.cells cs.toArray e)).ownsRowS B e sz(.slice(some⟨w.heap.size,0,none⟩)m m)m cs :=
 ⟨hl,.inr⟨w.heap.size,m,cs.toArray,(0,0),rfl,hB,heap_alloc_new w _,.inl rfl,QB _,hm,by simp [hl],by rw [←hl]; simp⟩⟩
theorem Qpj (hT:Q4 P T)(h:Sb β X G D H O a w){t:TypeId} {d:Nat} {ps:String} {af:Array Edge} {ty:TypeId} {gd:Option(Nat×Bool)}
  (hg:Fs ops G⟨some d,.buildSlice t 0⟨[]⟩,ty,ps,af,gd⟩=some true)(hlt:okD X d=true)
  {τ:Type} {r:RT τ} {e:TypeId} {te ee:TE}(ht:Qh T t=some te)(htd:te.d=.slice e)(he:Qh T e=some ee)
  (hk:∀b a' w',isV(rSl r)(Je X.ok X.w.heap.size β H(tl(.slice(some⟨b,0,none⟩)(List.length([]:List τ))0)e ee.size::O)w')w' [](.slice(some⟨b,0,none⟩)(List.length([]:List τ))0) →
   Sb β X(C4 G d(.v(.slice(some⟨b,0,none⟩)(List.length([]:List τ))0)))D H(tl(.slice(some⟨b,0,none⟩)(List.length([]:List τ))0)e ee.size::O)a' w'→wpList P ops Q rest a' w') :
  wpList P ops Q(⟨some d,.buildSlice t 0⟨[]⟩,ty,ps,af,gd⟩::rest)a w:=by
 have hrun:(execOp a.eval⟨some d,.buildSlice t 0⟨[]⟩,ty,ps,af,gd⟩).run P w=.ok(.value(.slice(some⟨w.heap.size,0,none⟩)0 0))(w.alloc(.cells #[] e)):=by
  have hun:(underlying t).run P w=.ok(.slice e)w:=by rw [Jw hT w ht,htd]
  unfold execOp
  simp [Instr.buildSlice,hun,Jz hT w he,Instr.fill,newRow]
  rw [show Array.range 0=#[] from by simp [Array.range]]
  simp
 refine Jj(Uv h hg)(J6 hrun ?_)
 have hb:Below w.heap.size w(w.alloc(.cells #[] e)):=(Below.refl _ _).alloc(QB _)_
 exact hk _ _ _(Z4.2⟨_,0,0,rfl,rfl,QB _,fun h=>absurd h(by omega)⟩)
  ((h.allocOwn hb(.inl rfl)rfl(Jjy w 0(JB _)e ee.size 0 [](by simp)(by simp [maxLen]))).put hlt(.v _))
end
end Gd

/- Results that are rows of the caller's own; local arrays; objects that are no longer written; function values. -/
namespace Gd
open Go Go.RowKit
set_option linter.unusedVariables false
set_option linter.unusedSimpArgs false
section
variable {P:Program} {T:Tab} {β:Nat→Nat} {X:Cx} {G:GL} {D:List DF} {H:HL} {O:List TL} {a:Act} {w w':World}
variable {ops:Array Oper} {Q:Exit→Act→World→Prop} {rest:List Oper}
end
end Gd

/- Local arrays of integers. -/
namespace Gd
open Go Go.RowKit
set_option linter.unusedVariables false
set_option linter.unusedSimpArgs false
section
variable {P:Program} {T:Tab} {β:Nat→Nat} {X:Cx} {G:GL} {D:List DF} {H:HL} {O:List TL} {a:Act} {w w':World}
variable {ops:Array Oper} {Q:Exit→Act→World→Prop} {rest:List Oper}
end
end Gd

/- Division and shifts by what is not a constant. -/
namespace Gd
open Go Go.RowKit
set_option linter.unusedVariables false
set_option linter.unusedSimpArgs false
def Qjz (k:IntKind)(x y:Int):Option Int:=if y=0 then none else some(k.wrap(x.tdiv y))
def Qwq (x y:Int):Option Int:=if y=0 then none else some(x.tmod y)
def Jaq (k:IntKind)(x y:Int):Option Int:=if y<0 then none else some(x.fdiv(2 ^ (min y.toNat k.bits)))
def Jar (k:IntKind)(x y:Int):Option Int:=if y<0 then none else some(k.wrap(x*2 ^ (min y.toNat k.bits)))
section
variable {P:Program} {T:Tab} {β:Nat→Nat} {X:Cx} {G:GL} {D:List DF} {H:HL} {O:List TL} {a:Act} {w w':World}
variable {ops:Array Oper} {Q:Exit→Act→World→Prop} {rest:List Oper}
theorem Jjz {t:TypeId} {k:IntKind} {u v z:Int}(h:Qjz k u v=some z)(w:World):(binOp .quo t(.int k u)(.int k v)).run P w=.ok(.int k z)w:=by
 unfold Qjz at h
 split at h
 ·cases h
 ·rename_i hv
  have:=Option.some.inj h; subst this
  rw [binOp_quo]; unfold Op.intDiv; rw [if_neg hv]; rfl
theorem Jj0 {t:TypeId} {k:IntKind} {u v z:Int}(h:Qwq u v=some z)(w:World):(binOp .rem t(.int k u)(.int k v)).run P w=.ok(.int k z)w:=by
 unfold Qwq at h
 split at h
 ·cases h
 ·rename_i hv
  have:=Option.some.inj h; subst this
  rw [binOp_rem]; unfold Op.intDiv; rw [if_neg hv]; rfl
theorem Jj1 {t:TypeId} {k k2:IntKind} {u v z:Int}(h:Jaq k u v=some z)(w:World):(binOp .shr t(.int k u)(.int k2 v)).run P w=.ok(.int k z)w:=by
 unfold Jaq at h
 split at h
 ·cases h
 ·rename_i hv
  have:=Option.some.inj h; subst this
  rw [binOp_shr]; unfold Op.shift; rw [if_neg hv]; rfl
theorem Jj2 {t:TypeId} {k k2:IntKind} {u v z:Int}(h:Jar k u v=some z)(w:World):(binOp .shl t(.int k u)(.int k2 v)).run P w=.ok(.int k z)w:=by
 unfold Jar at h
 split at h
 ·cases h
 ·rename_i hv
  have:=Option.some.inj h; subst this
  show(Op.shift .shl k u k2 v).run P w=_
  unfold Op.shift; rw [if_neg hv]; rfl
end
end Gd

/- Rows of the call's own whose elements are written. -/
namespace Gd
open Go Go.RowKit
set_option linter.unusedVariables false
set_option linter.unusedSimpArgs false
theorem Fv {τ:Type} {r:RT τ} {ok:Ok} {w w':World} {xs:List τ} {cs:List Value}(h:Kb r ok w xs cs)(he:Evo ok w w'):Kb r ok w' xs cs:=((Jev xs.length r).evo(x:=xs)⟨rfl,h⟩he).2
theorem Xy {τ:Type} {r:RT τ} {ok ok':Ok} {w:World} {xs:List τ} {cs:List Value}(h:Kb r ok w xs cs)(hk:∀b o,ok b o→ok' b o):Kb r ok' w xs cs:=((Jev xs.length r).weak(x:=xs)⟨rfl,h⟩hk).2
theorem Qtu {τ:Type} {r:RT τ} {ok:Ok} {w:World} {xs:List τ} {cs:List Value}(h:Kb r ok w xs cs):∀c∈cs,c.oneCell'=true:=(Jev xs.length r).flat(x:=xs)⟨rfl,h⟩
def ml {τ:Type}(v:Value)(e:Nat)(r:RT τ)(xs:List τ):TL where
 blks:=fun g=>v.ownBlock=some g
 cov:=fun b _=>v.ownBlock=some b
 cb:=fun h=>h
 p:=fun ok w=>Zv v=xs.length∧∃cs,w.ownsRowS 0 e r.size v(Zv v)cs∧Kb r ok w xs cs
 keep:=fun⟨h1,cs,h2,h3⟩hb he=>⟨h1,cs,Tl h2 hb,Fv h3 he⟩
 weak:=fun⟨h1,cs,h2,h3⟩hk=>⟨h1,cs,h2,Xy h3 hk⟩
 lt:=fun⟨_,_,h,_⟩g hg=>(h.lt g hg).2
theorem Fw {τ:Type} {r:RT τ} {ok:Ok} {w:World}:∀{xs:List τ} {cs:List Value},Kb r ok w xs cs→∀{i:Nat} {y:τ},xs[i]?=some y→r.rep ok w y((cs.drop(i*r.size)).take r.size)
 | x::xs,cs,⟨c1,c2,e,h1,h2⟩,i,y,hy=>by
  subst e
  have hl:=r.len h1
  cases i with
  | zero =>
   simp at hy; subst hy
   rw [XB,KW,←hl,ZX]; exact h1
  | succ i =>
   simp at hy
   have:=Fw h2 hy
   have e:(c1++c2).drop((i+1)*r.size)=c2.drop(i*r.size):=by
    rw [QP,WE,VQ,←hl,←XL,KY,hl]
   rw [e]; exact this
theorem Je0 {τ:Type} {r:RT τ} {ok:Ok} {w:World} {e:Nat} {xs:List τ} {A:Option Addr} {m c:Nat}(h:(ml(.slice A m c)e r xs).p ok w):Qzx r ok w xs A m c:=by
 obtain⟨hl,cs,hown,hr⟩:=h
 have hm:Zv(.slice A m c)=m:=rfl
 rw [hm] at hl hown
 have hrep:∀i x,xs[i]?=some x→∃ds,r.rep ok w x ds∧∀(j:Nat)u,ds[j]?=some u→cs[i*r.size+j]?=some u:=fun i x hx=>by
  refine⟨_,Fw hr hx,fun j u hu=>?_⟩
  rw [JD] at hu
  split at hu
  ·rw [JZ] at hu; exact hu
  ·cases hu
 rcases hown.2 with⟨hv,h0⟩ | ⟨g,cap,cur,fz,hv,_,_,_,hle,_⟩
 ·injection hv with e1 e2 e3
  exact⟨cs,hown.1,hl.symm,by omega,fun _=>h0,Qtu hr,fun h=>absurd h(by omega),hrep⟩
 ·have hg:(Value.slice A m c).ownBlock=some g:=by rw [hv]; rfl
  have hcell:=hown.cells hg
  injection hv with e1 e2 e3
  exact⟨cs,hown.1,hl.symm,by omega,(fun h=>absurd(e1.symm.trans h)(by simp)),Qtu hr,fun _=>⟨g,0,e1,fun j u hu=>by rw [←Hw]; exact hcell j u hu⟩,hrep⟩
theorem Qpk {τ:Type} {r:RT τ} {ok:Ok} {w:World}:∀{xs:List τ} {cs:List Value},Kb r ok w xs cs→∀{i:Nat} {z:τ} {ds:List Value},i<xs.length→r.rep ok w z ds →
  Kb r ok w(xs.set i z)(cs.take(i*r.size)++ds++cs.drop(i*r.size+ds.length))
 | x::xs,cs,⟨c1,c2,e,h1,h2⟩,i,z,ds,hi,hz=>by
  subst e
  have hl:=r.len h1
  have hd:=r.len hz
  cases i with
  | zero =>
   refine⟨ds,c2,?_,hz,h2⟩
   simp only [XB,ZB,QD,QF]
   rw [hd,←hl,KY]
  | succ i =>
   refine⟨c1,_,?_,h1,Qpk h2(by simpa using hi)hz⟩
   have e1:(i+1)*r.size=c1.length+i*r.size:=by rw [QP,hl]; omega
   rw [e1,KE,QH,QH,QH,ZF,JP(by omega)]
   congr 3
   rw [ZH,←XL,KY]
theorem N2 {τ:Type} {r:RT τ} {ok:Ok} {w:World}:∀{xs ys:List τ} {cs ds:List Value},Kb r ok w xs cs→Kb r ok w ys ds→Kb r ok w(xs++ys)(cs++ds)
 | [],ys,cs,ds,h,h2=>by simp only [Kb] at h; subst h; simpa using h2
 | x::xs,ys,cs,ds,⟨c1,c2,e,h1,h3⟩,h2=>by subst e; exact⟨c1,c2++ds,by rw [QH],h1,N2 h3 h2⟩
theorem Qh1 {τ:Type} {r:RT τ} {ok:Ok} {w:World}:∀(xs:List τ)(cs:List Value),cs.length=xs.length*r.size→(∀i x,xs[i]?=some x→∃ds,r.rep ok w x ds∧∀(j:Nat)u,ds[j]?=some u→cs[i*r.size+j]?=some u)→Kb r ok w xs cs
 | [],cs,hl,_=>by simp only [Kb]; exact JJ(by simpa using hl)
 | x::xs,cs,hl,h=>by
  obtain⟨ds,hr,hd⟩:=h 0 x rfl
  have hdl:=r.len hr
  have hl':cs.length=r.size+xs.length*r.size:=by rw [hl]; simp [QP]; omega
  refine⟨ds,cs.drop r.size,?_,hr,Qh1 xs _(by simp; omega)fun i y hy=>?_⟩
  ·have:cs.take r.size=ds:=by
    apply ZG
    intro j
    rcases JL j r.size with hj | hj
    ·rw [JQ hj]
     have hu:ds[j]?=some(ds[j]'(by omega)):=QU _
     have:=hd j _ hu
     rw [hu,←this]; simp
    ·rw [ZK(by simp; omega),ZK(by omega)]
   rw [←this,JW]
  ·obtain⟨es,he,hc⟩:=h(i+1)y(by simpa using hy)
   refine⟨es,he,fun j u hu=>?_⟩
   rw [JZ]
   have:=hc j u hu
   have e:(i+1)*r.size+j=r.size+(i*r.size+j):=by rw [QP]; omega
   rw [←e]; exact this
section
variable {P:Program} {T:Tab} {β:Nat→Nat} {X:Cx} {G:GL} {D:List DF} {H:HL} {O:List TL} {a:Act} {w w':World}
variable {ops:Array Oper} {Q:Exit→Act→World→Prop} {rest:List Oper}
theorem Sb.mget (h:Sb β X G D H O a w){τ:Type} {r:RT τ} {xs:List τ} {A:Option Addr} {m c:Nat} {e:Nat}(hm:ml(.slice A m c)e r xs∈O){j:Int} {y:τ}(hy:idx xs j=some y)(hpos:0<r.size) :
  ∃g cap cur fz,A=some⟨g,0,none⟩∧(w.heap[g]?=some(.cells cur e fz)∧Qwi fz cur.size)∧m=xs.length∧j.toNat<m∧m≤cap∧cap*r.size≤cur.size∧c=cap∧cap≤maxLen ∧
   Kb r(Je X.ok X.w.heap.size β H O w)w xs(cur.toList.take(m*r.size)):=by
 obtain⟨⟨hl,cs,hown,hr⟩,_⟩:=h.own _ hm
 obtain⟨h0,h1⟩:=W5 hy
 have hlt:=(QK.1 h1).1
 simp only [Zv] at hl hown
 rcases hown.2 with⟨hv,h0⟩ | ⟨g,cap,cur,fz,hv,_,hh,hfz,hle,hcm,hcs,htk⟩
 ·omega
 ·injection hv with e1 e2 e3
  exact⟨g,cap,cur,fz,e1,⟨hh,hfz⟩,hl,by omega,hle,hcs,e3,hcm,by rw [htk]; exact hr⟩
theorem Qtv {cur:Array Value} {g e:Nat} {fz:Nat×Nat}(hh:w.heap[g]?=some(.cells cur e fz))(i:Nat):w.cell?⟨g,i,none⟩=cur.toList[i]?:=by
 simp [World.cell?,hh]
theorem Jas (L ds:List Value){a s M off:Nat}(h1:a+s≤M)(h2:off+ds.length≤s)(h3:M≤L.length) :
  ((L.take(a+off)++ds++L.drop(a+off+ds.length)).take M) =
   (L.take M).take a++(((L.drop a).take s).take off++ds++((L.drop a).take s).drop(off+ds.length))++(L.take M).drop(a+s):=by
 apply ZG
 intro i
 simp only [List.getElem?_append,JD,JZ,QC,QO,JX]
 have e1:min(a+off)L.length=a+off:=by omega
 have e2:min a(min M L.length)=a:=by omega
 have e3:min s(L.length - a)=s:=by omega
 have e4:min off s=off:=by omega
 rw [e1,e2,e3,e4]
 by_cases c1:i<a
 ·have c2:i<a+off:=by omega
  have c3:i<M:=by omega
  have c4:i<a+off+ds.length:=by omega
  have c5:i<a+(off+ds.length+(s - (off+ds.length))):=by omega
  simp [c1,c2,c3,c4,c5]
 ·by_cases c2:i<a+off
  ·have c3:i<M:=by omega
   have c4:i<a+off+ds.length:=by omega
   have c5:i<a+(off+ds.length+(s - (off+ds.length))):=by omega
   have c6:i - a<off:=by omega
   have c7:i - a<off+ds.length:=by omega
   have c8:i - a<s:=by omega
   have c9:a+(i - a)=i:=by omega
   simp [c1,c2,c3,c4,c5,c6,c7,c8,c9]
  ·by_cases c4:i<a+off+ds.length
   ·have c3:i<M:=by omega
    have c5:i<a+(off+ds.length+(s - (off+ds.length))):=by omega
    have c6:¬ i - a<off:=by omega
    have c7:i - a<off+ds.length:=by omega
    have c8:i - (a+off)=i - a - off:=by omega
    simp [c1,c2,c3,c4,c5,c6,c7,c8]
   ·by_cases c5:i<a+s
    ·have c3:i<M:=by omega
     have c6:i<a+(off+ds.length+(s - (off+ds.length))):=by omega
     have c7:¬ i - a<off+ds.length:=by omega
     have c8:off+ds.length+(i - a - (off+ds.length))<s:=by omega
     have c9:a+(off+ds.length+(i - a - (off+ds.length)))=i:=by omega
     have c10:a+off+ds.length+(i - (a+off+ds.length))=i:=by omega
     simp [c1,c2,c3,c4,c6,c7,c8,c9,c10]
    ·have c6:¬ i<a+(off+ds.length+(s - (off+ds.length))):=by omega
     have c9:a+s+(i - (a+(off+ds.length+(s - (off+ds.length)))))=i:=by omega
     have c10:a+off+ds.length+(i - (a+off+ds.length))=i:=by omega
     simp [c4,c6,c9,c10]
theorem Sb.upd (h:Sb β X G D H O a w){O1 O2:List TL} {t t':TL}(hO:O=O1++t::O2)(hos:w'.os=w.os)(htp:w'.tape=w.tape)(hout:w'.output=w.output)(hsz:w.heap.size≤w'.heap.size)
  (hblk:∀b,b<w.heap.size→¬ t.blks b→w'.heap[b]?=w.heap[b]?)(hcov:∀b o,t.blks b→t.cov b o)(hb':∀g,t'.blks g→t.blks g∨w.heap.size≤g)
  (hp:Evo(Je X.ok X.w.heap.size β H O w)w w'→(∀b o,Je X.ok X.w.heap.size β H O w b o→Je X.ok X.w.heap.size β H(O1++t'::O2)w' b o)→t'.p(Je X.ok X.w.heap.size β H(O1++t'::O2)w')w') :
  Sb β X G D H(O1++t'::O2)a w':=by
 subst hO
 have hmem:t∈O1++t::O2:=by simp
 have hmine:=(h.own _ hmem).2
 have hevo:Evo(Je X.ok X.w.heap.size β H(O1++t::O2)w)w w':=Evo.of_blocks hsz fun b o hk=>hblk b hk.2.1 fun hb=>hk.2.2.2 t hmem(hcov b o hb)
 have hok:∀b o,Je X.ok X.w.heap.size β H(O1++t::O2)w b o→Je X.ok X.w.heap.size β H(O1++t'::O2)w' b o:=by
  rintro b o⟨h1,h2,h3,h4⟩
  refine⟨h1,JG h2 hsz,h3,fun u hu hc=>?_⟩
  rcases QW.1 hu with hu | hu
  ·exact h4 u(by simp [hu])hc
  ·rcases QX.1 hu with rfl | hu
   ·rcases hb' b(u.cb hc)with hb | hb
    ·exact h4 t hmem(hcov b o hb)
    ·omega
   ·exact h4 u(by simp [hu])hc
 have hpw:=QM.1 h.dOO
 have hpw2:=QG.1 hpw.2.1
 have hoth:∀u∈O1++O2,∀g,u.blks g→¬ t.blks g∧g<w.heap.size:=by
  intro u hu g hg
  refine⟨fun hb=>?_,h.olt(by rcases QW.1 hu with hu | hu<;>simp [hu])hg⟩
  rcases QW.1 hu with hu | hu
  ·exact hpw.2.2 u hu t(.head _)g hg hb
  ·exact hpw2.1 u hu g hb hg
 have hnew:∀u∈O1++O2,∀g,u.blks g→¬ t'.blks g:=by
  intro u hu g hg hb
  have:=hoth u hu g hg
  rcases hb' g hb with hb | hb
  ·exact this.1 hb
  ·omega
 refine{ sz:=h.sz,df:=h.df,fr:=h.fr,pn:=h.pn,tm:=h.tm,bel:=?_,dat:=(h.dat.evo hevo).weak hok,obj:=?_,own:=?_,dHH:=h.dHH,dHO:=?_,dOO:=?_ }
 ·exact h.bel.trans⟨hos,htp,hout,hsz,fun k hk hn=>hblk k(JG hk h.bel.size)fun hb=>(hmine k hb).elim(fun h=>by omega)hn⟩
 ·intro p hp'
  refine⟨?_,(h.obj p hp').2⟩
  rw [hblk _(h.hlt hp')(h.dHO p hp' t hmem)]
  exact(h.obj p hp').1
 ·intro u hu
  have keep:∀u∈O1++O2,u.p(Je X.ok X.w.heap.size β H(O1++t'::O2)w')w'∧∀g,u.blks g→X.mine g:=by
   intro u hu
   have hu':u∈O1++t::O2:=by rcases QW.1 hu with hu | hu<;>simp [hu]
   exact⟨u.weak(u.keep(h.own u hu').1(fun g hg=>hblk g(hoth u hu g hg).2(hoth u hu g hg).1)hevo)hok,(h.own u hu').2⟩
  rcases QW.1 hu with hu | hu
  ·exact keep u(by simp [hu])
  ·rcases QX.1 hu with rfl | hu
   ·exact⟨hp hevo hok,fun g hg=>(hb' g hg).elim(hmine g)fun hb=>.inl(QN h.bel.size hb)⟩
   ·exact keep u(by simp [hu])
 ·intro p hp' u hu
  rcases QW.1 hu with hu | hu
  ·exact h.dHO p hp' u(by simp [hu])
  ·rcases QX.1 hu with rfl | hu
   ·intro hb
    rcases hb' _ hb with hb | hb
    ·exact h.dHO p hp' t hmem hb
    ·have:=h.hlt hp'; omega
   ·exact h.dHO p hp' u(by simp [hu])
 ·refine QM.2⟨hpw.1,QG.2⟨fun u hu g hg hg2=>hnew u(by simp [hu])g hg2 hg,hpw2.2⟩,?_⟩
  intro u hu v hv g hg
  rcases QX.1 hv with rfl | hv
  ·exact hnew u(by simp [hu])g hg
  ·exact hpw.2.2 u hu v(.tail _ hv)g hg
theorem Sb.mset (h:Sb β X G D H O a w)(O1 O2:List TL){τ:Type} {r:RT τ} {xs:List τ} {m c g:Nat} {j:Int} {y z:τ} {e:TypeId}
  (hO:O=O1++ml(.slice(some⟨g,0,none⟩)m c)e r xs::O2)(hy:idx xs j=some y)(hpos:0<r.size){off:Nat} {ds:List Value}(hoff:off+ds.length≤r.size)(h1:∀d∈ds,d.oneCell'=true)
  (hz:∀es,r.rep(Je X.ok X.w.heap.size β H O w)w y es→r.rep(Je X.ok X.w.heap.size β H O w)w z(es.take off++ds++es.drop(off+ds.length))) :
  ∃cur fz,(w.heap[g]?=some(.cells cur e fz)∧Qwi fz cur.size)∧j.toNat*r.size+off+ds.length≤cur.size ∧
   Sb β X G D H(O1++ml(.slice(some⟨g,0,none⟩)m c)e r(xs.set j.toNat z)::O2)a(w.setRow g(cur.toList.take(j.toNat*r.size+off)++ds++cur.toList.drop(j.toNat*r.size+off+ds.length)).toArray):=by
 have hmem:ml(.slice(some⟨g,0,none⟩)m c)e r xs∈O:=by rw [hO]; simp
 obtain⟨g',cap,cur,fz,hA,⟨hh,hfz⟩,hm,hj,hle,hcs,hc,hcm,hr⟩:=h.mget hmem hy hpos
 injection hA with hA; injection hA with hA; subst hA
 have hj1:(j.toNat+1)*r.size≤m*r.size:=JH _ hj
 have hj2:m*r.size≤cap*r.size:=JH _ hle
 rw [QP] at hj1
 have hcl:cap*r.size≤cur.toList.length:=by simpa using hcs
 have hlen:j.toNat*r.size+off+ds.length≤cur.size:=by omega
 refine⟨cur,fz,⟨hh,hfz⟩,hlen,?_⟩
 have hset:=setRow_heap w g cur(cur.toList.take(j.toNat*r.size+off)++ds++cur.toList.drop(j.toNat*r.size+off+ds.length)).toArray e _ hh
 refine h.upd(t':=ml(.slice(some⟨g,0,none⟩)m c)e r(xs.set j.toNat z))hO rfl rfl rfl(by simp)(fun b hb hn=>setRow_other _ _ _ _ fun e=>hn(by subst e; rfl))(fun b o hb=>hb)(fun g hg=>.inl hg)fun hevo hok=>?_
 have hrep:=Fw hr(W5 hy).2
 have hdrop:(cur.toList.take(m*r.size)).drop(j.toNat*r.size)=(cur.toList.drop(j.toNat*r.size)).take(m*r.size - j.toNat*r.size):=by rw [KU]
 have e1:((cur.toList.take(m*r.size)).drop(j.toNat*r.size)).take r.size=(cur.toList.drop(j.toNat*r.size)).take r.size:=by
  rw [hdrop,ZP]; congr 1; omega
 rw [e1] at hrep
 have hnew:=hz _ hrep
 have hL:((cur.toList.drop(j.toNat*r.size)).take r.size).length=r.size:=r.len hrep
 refine⟨by simp [Zv,hm],_,⟨?_,.inr⟨g,cap,_,fz,by rw [hc]; rfl,JB _,hset,by rw [XK,QC,QC,QO,JX,ZW(by omega),show j.toNat*r.size+off+ds.length+(cur.toList.length - (j.toNat*r.size+off+ds.length))=cur.size by simp; omega]; exact hfz,hle,hcm,by rw [XK,QC,QC,QO,JX]; omega,rfl⟩⟩,?_⟩
 ·simp only [Zv,QO,QC,JX]; omega
 ·have h2:=Qpk(Xy(Fv hr hevo)hok)(i:=j.toNat)(z:=z)(by omega)(r.weak(r.evo hnew hevo)hok)
  simp only [Zv]
  have hfin:=Jas cur.toList ds(a:=j.toNat*r.size)(s:=r.size)(M:=m*r.size)(off:=off)(by omega)hoff(by omega)
  rw [hfin]
  have hlen2:(List.take off(List.take r.size(List.drop(j.toNat*r.size)cur.toList))++ds++List.drop(off+ds.length)(List.take r.size(List.drop(j.toNat*r.size)cur.toList))).length=r.size:=by
   simp; omega
  rw [hlen2] at h2
  exact h2
def mkL {α:Type}(bytes:Nat)(l c:Int)(z:α):Option(List α):=if 0≤l∧l≤c∧(bytes:Int)*c≤281474976710656 then some(List.replicate l.toNat z)else none
theorem Qpl (zc:List Value):∀l:Nat,((List.range(l*zc.length)).map fun j=>zc.getD(j % zc.length)undef)=(List.replicate l zc).flatten
 | 0=>by simp
 | l+1=>by
  rw [QP,WE,List.range_add,JK,Qpl zc l,List.replicate_succ',WK]
  congr 1
  simp only [List.map_map,List.flatten_cons,List.flatten_nil,QR]
  apply List.ext_getElem
  ·simp
  ·intro i h1 h2
   simp only [KF,List.getElem_range,Function.comp]
   have hlt:i<zc.length:=h2
   rw [Nat.mul_comm,Nat.mul_add_mod,Nat.mod_eq_of_lt hlt]
   simp [hlt]
theorem Qzz {τ:Type} {r:RT τ} {ok:Ok} {z:τ} {zc:List Value}(h:r.rep ok w z zc):∀l,Kb r ok w(List.replicate l z)(List.replicate l zc).flatten
 | 0=>by simp [Kb]
 | l+1=>⟨zc,(List.replicate l zc).flatten,by simp [List.replicate_succ],h,Qzz h l⟩
theorem Jat (hT:Q4 P T)(h:Sb β X G D H O a w){t:TypeId} {lo co:Operand} {d:Nat} {ps:String} {af:Array Edge} {ty:TypeId} {gd:Option(Nat×Bool)}
  (hg:Fs ops G⟨some d,.makeSlice t lo co,ty,ps,af,gd⟩=some true)(hlt:okD X d=true)
  {τ:Type} {r:RT τ} {z:τ} {zs:List τ} {kl kc:IntKind} {l c:Int} {e:TypeId} {te ee:TE}(ht:Qh T t=some te)(htd:te.d=.slice e)(he:Qh T e=some ee)(hs:ee.size=r.size)
  (hzl:Nat.beq(Qq ee.z).length ee.size=true)(hby:Nat.ble 1 ee.bytes=true)(hz:∀ok w,r.rep ok w z(Qq ee.z))
  (hl:gv G lo=some(.v(.int kl l)))(hc:gv G co=some(.v(.int kc c)))(hmk:mkL ee.bytes l c z=some zs)
  (hk:∀b a' w',Sb β X(C4 G d(.v(.slice(some⟨b,0,none⟩)zs.length c.toNat)))D H(ml(.slice(some⟨b,0,none⟩)zs.length c.toNat)e r zs::O)a' w'→wpList P ops Q rest a' w') :
  wpList P ops Q(⟨some d,.makeSlice t lo co,ty,ps,af,gd⟩::rest)a w:=by
 unfold mkL at hmk
 split at hmk
 ·rename_i hcd
  obtain⟨h0,h1,h2⟩:=hcd
  have hzs:zs=List.replicate l.toNat z:=(Option.some.inj hmk).symm
  have hlen:zs.length=l.toNat:=by rw [hzs]; simp
  have hu:P.underlying t=some(.slice e):=by rw [(Jl hT ht).2,htd]
  obtain⟨i,hi,hz',hsi,hbi⟩:=W0 hT he
  have hby':1≤ee.bytes:=QE hby
  have hc63:c≤281474976710656:=by
   have:(1:Int)*c≤(ee.bytes:Int)*c:=KA(by omega)(by omega)
   omega
  have hzz:=QJ hzl
  have hr:=run_make(P:=P)w t e i ee.z hu hi hz' kl kc l c h0 h1(by rw [hbi]; exact h2)(by omega)
  have hrun:(execOp a.eval⟨some d,.makeSlice t lo co,ty,ps,af,gd⟩).run P w=.ok(.value(.slice(some⟨w.heap.size,0,none⟩)zs.length c.toNat))(w.alloc(.cells(madeCells ee.z.cells(c.toNat*i.size))e)):=by
   unfold execOp
   simp only [h.ev hl,h.ev hc,den_v]
   simp [hr,hlen]
  refine Jj(Uv h hg)(J6 hrun ?_)
  have hb:Below w.heap.size w(w.alloc(.cells(madeCells ee.z.cells(c.toNat*i.size))e)):=(Below.refl _ _).alloc(QB _)_
  have hcells:(madeCells ee.z.cells(c.toNat*i.size)).toList=(List.replicate c.toNat(Qq ee.z)).flatten:=by
   rw [←Qpl,hzz,hsi]
   unfold madeCells
   rw [Ym] at hzz ⊢
   simp only [Array.toList_map,Array.toList_range]
   apply WV
   intro q hq
   have hq':q<c.toNat*ee.size:=by simpa using hq
   have hpos:0<ee.size:=by
    rcases XQ ee.size with h0 | h0
    ·rw [h0] at hq'; omega
    ·exact h0
   have hsz:ee.z.cells.size=ee.size:=by rw [←hzz]; simp
   have hm:q % ee.z.cells.size<ee.z.cells.size:=VJ _(by omega)
   rw [getElem!_pos ee.z.cells _ hm]
   simp only [VX]
   have hm2:q % ee.size<ee.z.cells.toList.length:=by rw [hsz] at hm; simpa [hsz] using hm
   rw [QU hm2]
   simp [hsz]
  refine hk _ _ _((h.allocTL hb(t:=ml(.slice(some⟨w.heap.size,0,none⟩)zs.length c.toNat)e r zs)(fun g hg=>?_)⟨rfl,(List.replicate l.toNat(Qq ee.z)).flatten,⟨?_,.inr⟨w.heap.size,c.toNat,_,(0,0),rfl,JB _,heap_alloc_new w _,.inl rfl,?_,?_,?_,?_⟩⟩,?_⟩).put hlt(.v _))
  ·have hg:some w.heap.size=some g:=hg
   injection hg with hg; omega
  ·simp [Zv,hlen,hzz,hs]
  ·simp only [Zv]; omega
  ·rw [Lw]; omega
  ·exact KZ(by rw [size_madeCells,hsi,hs])
  ·simp only [Zv]
   rw [hcells,hlen]
   have e1:c.toNat=l.toNat+(c.toNat - l.toNat):=by omega
   rw [e1,←List.replicate_append_replicate,WK]
   have e2:l.toNat*r.size=(List.replicate l.toNat(Qq ee.z)).flatten.length:=by simp [hzz,hs]
   rw [e2,ZX]
  ·rw [hzs]; exact Qzz(hz _ _)_
 ·cases hmk
end
end Gd

/- Rows that are appended to, frozen, lent to a call. -/
namespace Gd
open Go Go.RowKit
set_option linter.unusedVariables false
set_option linter.unusedSimpArgs false
section
variable {P:Program} {T:Tab} {β:Nat→Nat} {X:Cx} {G:GL} {D:List DF} {H:HL} {O:List TL} {a:Act} {w w':World}
variable {ops:Array Oper} {Q:Exit→Act→World→Prop} {rest:List Oper}
theorem Sb.addNilM (h:Sb β X G D H O a w)(e:Nat){τ:Type}(r:RT τ):Sb β X G D H(ml(.slice none 0 0)e r []::O)a w :=
 h.allocTL(Below.refl _ _)(fun g hg=>by have hg:(none:Option Nat)=some g:=hg; cases hg)⟨rfl,[],World.ownsRowS_nil _ _ _ _,rfl⟩
theorem Sb.freeze (h:Sb β X G D H O a w){τ:Type} {r:RT τ} {xs:List τ} {A:Option Addr} {c:Nat} {e:Nat} {O2:List TL}(hO:O=ml(.slice A xs.length c)e r xs::O2)(hpos:Nat.ble 1 r.size=true) :
  Sb β X G(DF.v(rSl r)xs(.slice A xs.length c)::D)H(tl(.slice A xs.length c)e r.size::O2)a w:=by
 subst hO
 have hmem:ml(.slice A xs.length c)e r xs∈ml(.slice A xs.length c)e r xs::O2:=.head _
 obtain⟨⟨hl,cs,hown,hr⟩,hmine⟩:=h.own _ hmem
 have hok:∀b o,Je X.ok X.w.heap.size β H(ml(.slice A xs.length c)e r xs::O2)w b o→Je X.ok X.w.heap.size β H(tl(.slice A xs.length c)e r.size::O2)w b o:=by
  rintro b o⟨h1,h2,h3,h4⟩
  refine⟨h1,h2,h3,fun u hu hc=>?_⟩
  rcases QX.1 hu with rfl | hu
  ·exact h4 _(.head _)hc.1
  ·exact h4 u(.tail _ hu)hc
 have hpw:=QG.1 h.dOO
 refine{ sz:=h.sz,df:=h.df,fr:=h.fr,pn:=h.pn,tm:=h.tm,bel:=h.bel,dat:=⟨?_,h.dat.weak hok⟩,obj:=h.obj,own:=fun u hu=>?_,dHH:=h.dHH,dHO:=fun p hp u hu=>?_,dOO:=QG.2⟨fun u hu g hg=>hpw.1 u hu g hg,hpw.2⟩ }
 ·refine Z4.2⟨A,xs.length,c,rfl,rfl,?_,fun h0=>?_⟩
  ·rcases hown.2 with⟨hv,h0⟩ | ⟨g,cap,cur,fz,hv,_,_,_,hle,_⟩
   ·simp only [Zv] at h0; omega
   ·injection hv with e1 e2 e3; simp only [Zv] at hle; omega
  ·rcases hown.2 with⟨hv,h1⟩ | ⟨g,cap,cur,fz,hv,_,hh,hfz,hle,hcm,hcs,htk⟩
   ·simp only [Zv] at h1; omega
   ·injection hv with e1 e2 e3
    simp only [Zv] at hle htk
    refine⟨g,0,e1,fun i x hx=>?_⟩
    have hi:=(QK.1 hx).1
    have hrep:=Fw hr hx
    refine⟨_,r.weak hrep hok,fun j u hu=>?_⟩
    have hj:j<r.size:=by have:=(QK.1 hu).1; rw [r.len hrep] at this; exact this
    have hgb:(Value.slice A xs.length c).ownBlock=some g:=by rw [e1]; rfl
    rw [QF]
    refine⟨⟨X.mine_ok(hmine g hgb)_,Yh hh,fun p hp e2=>h.dHO p hp _ hmem(by rw [e2]; exact hgb),fun u' hu' hc=>?_⟩,?_⟩
    ·rcases QX.1 hu' with rfl | hu'
     ·have:=hc.2
      simp only [Zv] at this
      have:(i+1)*r.size≤xs.length*r.size:=JH _ hi
      rw [QP] at this
      omega
     ·exact hpw.1 u' hu' g hgb(u'.cb hc)
    ·rw [Qtv hh]
     rw [JQ hj,JZ,←htk,JD] at hu
     split at hu
     ·exact hu
     ·cases hu
 ·rcases QX.1 hu with rfl | hu
  ·exact⟨⟨cs,hown⟩,hmine⟩
  ·exact⟨u.weak(h.own u(.tail _ hu)).1 hok,(h.own u(.tail _ hu)).2⟩
 ·rcases QX.1 hu with rfl | hu
  ·exact fun hg=>(h.dHO p hp _ hmem)hg
  ·exact h.dHO p hp u(.tail _ hu)
theorem Qh2 (hT:Q4 P T)(h:Sb β X G D H O a w)(O1 O2:List TL){t:TypeId} {s x:Operand} {d:Nat} {ps:String} {af:Array Edge} {ty:TypeId} {gd:Option(Nat×Bool)}
  (hg:Fs ops G⟨some d,.call⟨.builtin .append,⟨[s,x]⟩,⟨[t,t]⟩⟩,ty,ps,af,gd⟩=some true)(hlt:okD X d=true)
  {τ:Type} {r:RT τ} {xs ys zs:List τ} {A:Option Addr} {A2:Option Addr} {m c m2 c2:Nat} {e:TypeId} {te ee:TE}(ht:Qh T t=some te)(htd:te.d=.slice e)(he:Qh T e=some ee)(hs:ee.size=r.size)
  (hz:Nat.beq(Qq ee.z).length ee.size=true)(hsz:Nat.ble 1 ee.size=true)(hby:Nat.ble 1 ee.bytes=true)
  (hO:O=O1++ml(.slice A m c)e r xs::O2)(hs1:gv G s=some(.v(.slice A m c)))(hx1:gv G x=some(.v(.slice A2 m2 c2)))
  (hDy:Qzx r(Je X.ok X.w.heap.size β H O w)w ys A2 m2 c2)(happ:app ee.bytes xs ys=some zs)
  (hk:∀A' c' a' w',Sb β X(C4 G d(.v(.slice A' zs.length c')))D H(O1++ml(.slice A' zs.length c')e r zs::O2)a' w'→wpList P ops Q rest a' w') :
  wpList P ops Q(⟨some d,.call⟨.builtin .append,⟨[s,x]⟩,⟨[t,t]⟩⟩,ty,ps,af,gd⟩::rest)a w:=by
 obtain⟨hbytes,rfl⟩:=Qjw happ
 have hmem:ml(.slice A m c)e r xs∈O:=by rw [hO]; simp
 obtain⟨⟨hl,xs0,hown,hr⟩,hmine⟩:=h.own _ hmem
 obtain⟨csy,hcy1,hyl,hmc2,hA2,hcy2,hcy3,hcy4⟩:=hDy
 have hzl:=QJ hz
 have hsz':0<ee.size:=QE hsz
 have hby':0<ee.bytes:=QE hby
 have hnews:∀ad,A2=some ad→∀j u,csy[j]?=some u→w.cell?(ad.add j)=some u:=by
  intro ad had j u hu
  have hj:=(QK.1 hu).1
  have hm2:0<m2:=by
   rcases XQ m2 with h0 | h0
   ·rw [h0,XB] at hcy1; omega
   ·exact h0
  obtain⟨b,o,hA',hc⟩:=hcy3 hm2
  rw [hA'] at had
  injection had with had
  subst had
  rw [Hw]
  exact hc j u hu
 simp only [Zv] at hown hl
 rw [←hs] at hown
 obtain⟨v',w1,hrun,hown',hgrow,hblk⟩:=Qgf(P:=P)(w:=w)(ty:=ty)hT ht htd he hzl hsz' hby' hown(JB _)(k:=m2)(c:=c2)(A:=A2)(news:=csy)(by rw [hs]; exact hcy1)hA2 hnews hcy2(by rw [hl,←hyl]; exact hbytes)
 have hrun':(execOp a.eval⟨some d,.call⟨.builtin .append,⟨[s,x]⟩,⟨[t,t]⟩⟩,ty,ps,af,gd⟩).run P w=.ok(.value v')w1:=by
  unfold execOp
  have hm:(Array.mk [s,x]).map a.eval=⟨[.slice A m c,.slice A2 m2 c2]⟩:=by simp [h.ev hs1,h.ev hx1,den_v]
  simp [resolve,hm,invoke,builtin,hrun]
 have hform:∃A' c',v'=.slice A'(m+m2)c':=by
  rcases hown'.2 with⟨rfl,h0⟩ | ⟨g,cap,cur,fz,rfl,_⟩
  ·exact⟨none,0,by rw [h0]⟩
  ·exact⟨_,cap,rfl⟩
 obtain⟨A',c',rfl⟩:=hform
 have hlen:m+m2=(xs++ys).length:=by rw [QC,hl,hyl]
 refine Jj(Uv h hg)(J6 hrun' ?_)
 have hS:Sb β X G D H(O1++ml(.slice A'(m+m2)c')e r(xs++ys)::O2)a w1:=by
  refine h.upd hO hgrow.os hgrow.tape hgrow.output hgrow.size(fun b hb hn=>hgrow.block b hb fun e=>hn e.symm)(fun b o hb=>hb)(fun g hg=>?_)fun hevo hok=>?_
  ·rcases hblk with he1 | ⟨he1,_⟩
   ·exact .inl(by have hg:(Value.slice A'(m+m2)c').ownBlock=some g:=hg; rw [he1] at hg; exact hg)
   ·have hg:(Value.slice A'(m+m2)c').ownBlock=some g:=hg
    rw [he1] at hg; injection hg with hg; exact .inr(by omega)
  ·refine⟨hlen,xs0++csy,by rw [←hs]; exact hown',N2(Xy(Fv hr hevo)hok)(Xy(Fv ?_ hevo)hok)⟩
   exact Qh1 ys csy(by rw [hcy1,hyl])hcy4
 have:=hk A' c'(a.put(some d)(.slice A'(m+m2)c'))w1
 rw [←hlen] at this
 exact this(hS.put hlt(.v _))
end
end Gd
namespace Gd
open Go Go.RowKit
section
variable {P:Program} {T:Tab} {β:Nat→Nat} {X:Cx} {G:GL} {D:List DF} {H:HL} {O:List TL} {a:Act} {w w':World}
variable {ops:Array Oper} {Q:Exit→Act→World→Prop} {rest:List Oper}
def Jou (v:Value):List Nat:=match v.ownBlock with
 | some g=>[g]
 | none=>[]
theorem Qz0 {v:Value} {g:Nat}:g∈Jou v↔v.ownBlock=some g:=by
 unfold Jou
 cases h:v.ownBlock with
 | none=>simp
 | some b=>simp [eq_comm]
def Qly (Ts:List TL)(L:List Nat)(ok:Ok)(w:World):Prop :=
 (∀t∈Ts,t.p ok w∧(∀g,t.blks g→g∈L)∧∀g o,t.blks g→¬ ok g o)∧(Ts.Pairwise fun s t=>∀g,s.blks g→¬ t.blks g)∧∀g∈L,∃t∈Ts,t.blks g
theorem Jau {f:FuncId} {fn:Func} {c:Code} {vs:List Value} {R:Value→World→Prop} {ok:Ok} {n:Nat} {L:List Nat} {O:List TL}(hok:∀b o,ok b o→b<w.heap.size)
  (hf:P.funcs[f]?=some fn)(hb:fn.body=some c)(hn:fn.ntmps=n)(hle:Nat.ble vs.length n=true){D:List DF}(hD:Qhv ok w D)(hO:Qly O L ok w)
  (h:∀a,Sb(fun _=>0)(cxL L n ok w)(Qzt vs 0)D [] O a w→c.wp P(bodyPost P fn(Qwm L w R))a w):Calls P f⟨vs⟩w(Qwm L w R):=by
 refine calls_of_wp hf hb(h _ ?_)
 have hle':=QE hle
 have hk:∀b o,ok b o→Je(okL L ok)w.heap.size(fun _=>0) [] O w b o:=fun b o hbo=>⟨.inl(.inl hbo),hok b o hbo,by simp,fun t ht hc=>(hO.1 t ht).2.2 b o(t.cb hc)hbo⟩
 refine{ sz:=by simp [hn]; omega,df:=rfl,fr:=by simp,pn:=by simp,tm:=?_,bel:=Uc.refl _ _ _,dat:=hD.weak hk,obj:=by simp,own:=fun t ht=>⟨t.weak(hO.1 t ht).1 hk,fun g hg=>.inr((hO.1 t ht).2.1 g hg)⟩,dHH:=by simp,dHO:=by simp,dOO:=hO.2.1 }
 intro p hp
 obtain⟨j,v,rfl,hv⟩:=Qzu hp
 have hj:=(QK.1 hv).1
 simp only [QF,den_v]
 rw [XM(by simpa using hj)]
 simpa using hv
theorem Sb.melt0 {A:Option Addr} {c e:Nat} {τ:Type} {r:RT τ} {O2:List TL}(h:Sb β X G D H(tl(.slice A 0 c)e r.size::O2)a w):Sb β X G D H(ml(.slice A 0 c)e r []::O2)a w:=by
 have hok:∀b o,Je X.ok X.w.heap.size β H(tl(.slice A 0 c)e r.size::O2)w b o→Je X.ok X.w.heap.size β H(ml(.slice A 0 c)e r []::O2)w b o:=by
  rintro b o⟨h1,h2,h3,h4⟩
  refine⟨h1,h2,h3,fun u hu hc=>?_⟩
  rcases QX.1 hu with rfl | hu
  ·exact h4 _(.head _)⟨hc,by simp [Zv]⟩
  ·exact h4 u(.tail _ hu)hc
 obtain⟨⟨cs,hown⟩,hmine⟩:=h.own _(.head _)
 have hpw:=QG.1 h.dOO
 have hcs:cs=[]:=by
  have:=hown.1
  simp only [Zv,XB] at this
  exact JJ this
 refine{ sz:=h.sz,df:=h.df,fr:=h.fr,pn:=h.pn,tm:=h.tm,bel:=h.bel,dat:=h.dat.weak hok,obj:=h.obj,own:=fun u hu=>?_,dHH:=h.dHH,dHO:=fun p hp u hu=>?_,dOO:=QG.2⟨fun u hu g hg=>hpw.1 u hu g hg,hpw.2⟩ }
 ·rcases QX.1 hu with rfl | hu
  ·exact⟨⟨rfl,cs,hown,by subst hcs; rfl⟩,hmine⟩
  ·exact⟨u.weak(h.own u(.tail _ hu)).1 hok,(h.own u(.tail _ hu)).2⟩
 ·rcases QX.1 hu with rfl | hu
  ·exact fun hg=>h.dHO p hp _(.head _)hg
  ·exact h.dHO p hp u(.tail _ hu)
end
end Gd

/- Results of a call's own, as rows that will be written: for elements that hold no addresses. -/
namespace Gd
open Go Go.RowKit
set_option linter.unusedVariables false
set_option linter.unusedSimpArgs false
section
variable {P:Program} {T:Tab} {β:Nat→Nat} {X:Cx} {G:GL} {D:List DF} {H:HL} {O:List TL} {a:Act} {w w':World}
variable {ops:Array Oper} {Q:Exit→Act→World→Prop} {rest:List Oper}
end
end Gd

/- From a statement's arguments to typed values, and back to the statement. -/
namespace Gd
open Go Go.RowKit Go.WideShapes Go.ChangeShapes
set_option linter.unusedVariables false
set_option linter.unusedSimpArgs false
def A7 {τ:Type}(P:Program)(r:RT τ)(t:TypeId)(good:τ→Prop):Prop :=
 P.cellsOf t=r.size∧(∀{w:World} {rc:Reach} {b:Nat} {v:Value},Value.okWide P w rc b t v→(r.agg=true→∃cs,v=.agg cs)∧(r.agg=false→∃c,v.cells=#[c]∧v=c)) ∧
 ∀{H:Type}(enc:TypeId×Value→H)(w:World)(n:Nat)(cs:List Value)(x:DataW H×List MemPlace),
  DataW.trod enc P w 0(fun _=>true)true n t cs=some x→∃y,r.rep(lt w)w y cs∧good y
def Je1 (k:IntKind)(n:Int):Prop:=k.min≤n∧n≤k.max
def Je2 (s:Str):Prop:=s.length≤maxLen
def Jqb (_:Bool):Prop:=True
def Qpm {τ:Type}(g:τ→Prop)(l:List τ):Prop:=l.length≤maxLen∧∀x∈l,g x
section
variable {P:Program}
theorem Jav {t:TypeId} {k:IntKind}(ht:P.underlying t=some(.int k))(hc:P.cellsOf t=1):A7 P(Tk k)t(Je1 k):=by
 refine⟨hc,fun hv=>⟨fun h=>(nomatch h),fun _=>?_⟩,fun enc w n cs x h=>?_⟩
 ·obtain⟨n,rfl⟩:=okWide_int ht hv
  exact⟨_,rfl,rfl⟩
 ·obtain⟨m,rfl,_,hw⟩:=DataW.trod_int ht h
  exact⟨m,rfl,by simpa [Lit.wf,Je1] using hw⟩
theorem Q5h {t:TypeId}(ht:P.underlying t=some .bool)(hc:P.cellsOf t=1):A7 P Qtq t Jqb:=by
 refine⟨hc,fun hv=>⟨fun h=>(nomatch h),fun _=>?_⟩,fun enc w n cs x h=>?_⟩
 ·obtain⟨n,rfl⟩:=okWide_bool ht hv
  exact⟨_,rfl,rfl⟩
 ·obtain⟨m,rfl,_⟩:=DataW.trod_bool ht h
  exact⟨m,rfl,trivial⟩
theorem Jaw {t:TypeId}(ht:P.underlying t=some .string)(hc:P.cellsOf t=1):A7 P Jot t Je2:=by
 refine⟨hc,fun hv=>⟨fun h=>(nomatch h),fun _=>?_⟩,fun enc w n cs x h=>?_⟩
 ·obtain⟨n,rfl⟩:=okWide_string ht hv
  exact⟨_,rfl,rfl⟩
 ·obtain⟨s,rfl,_,hs⟩:=DataW.trod_string ht h
  refine⟨s.data.toList,?_,by simpa [Je2] using hs⟩
  show [Value.string s]=[Ye s.data.toList]
  simp [Ye]
theorem Je3 {τ:Type} {r:RT τ} {t e:TypeId} {g:τ→Prop}(ht:P.underlying t=some(.slice e))(hc:P.cellsOf t=1)(he:A7 P r e g)(hpos:0<r.size):A7 P(rSl r)t(Qpm g):=by
 refine⟨hc,fun hv=>⟨fun h=>(nomatch h),fun _=>?_⟩,fun enc w n cs x h=>?_⟩
 ·obtain⟨a,l,c,rfl⟩:=okWide_slice ht hv
  exact⟨_,rfl,rfl⟩
 ·rcases DataW.trod_slice ht h with⟨rfl,_⟩ | ⟨a,len,cap,elems,rest,m,_,rfl,_,_,hlc,hcm,hel,hall,_⟩
  ·exact⟨[],⟨_,rfl,none,0,0,rfl,rfl,QB _,fun h0=>absurd h0(by omega)⟩,by simp [Qpm]⟩
  ·have hsz:P.cellsOf e=r.size:=he.1
   have h1:∀i,i<len→∃y cs,r.rep(lt w)w y cs∧g y∧w.cells? 0(a.add(i*P.cellsOf e))(P.cellsOf e)=some cs:=by
    intro i hi
    have:=hall i hi
    obtain⟨z,hz⟩:∃z,elems[i]?=some z:=⟨elems[i]'(by omega),QU(by omega)⟩
    rw [hz] at this
    obtain⟨cs,hcs,hz2⟩:=ZE.1 this
    obtain⟨y,hy,hg⟩:=he.2.2 enc w m cs z hz2
    exact⟨y,cs,hy,hg,hcs⟩
   have h2:∀k,k≤len→∃ys:List τ,ys.length=k∧∀i y,ys[i]?=some y→∃cs,r.rep(lt w)w y cs∧g y∧w.cells? 0(a.add(i*P.cellsOf e))(P.cellsOf e)=some cs:=by
    intro k
    induction k with
    | zero=>exact fun _=>⟨[],rfl,fun i y h=>by simp at h⟩
    | succ k ih =>
     intro hk
     obtain⟨ys,hl,hys⟩:=ih(by omega)
     obtain⟨y,cs,hy,hg,hcs⟩:=h1 k(by omega)
     refine⟨ys++[y],by simp [hl],fun i z hz=>?_⟩
     rcases JL i k with hlt | hge
     ·rw [JF(by omega)] at hz
      exact hys i z hz
     ·rw [JE(by omega)] at hz
      have:i - ys.length=0:=by
       rcases XQ(i - ys.length)with h | h
       ·exact h
       ·rw [ZK(by simp; omega)] at hz; cases hz
      rw [this] at hz
      simp at hz
      subst hz
      have hik:i=k:=by omega
      subst hik
      exact⟨cs,hy,hg,hcs⟩
   obtain⟨ys,hl,hys⟩:=h2 len(QB _)
   refine⟨ys,⟨_,rfl,some a,len,cap,rfl,hl,hlc,fun h0=>?_⟩,⟨by omega,fun y hy=>?_⟩⟩
   ·have hsp:a.spot=none:=by
     obtain⟨y,cs,_,_,hcs⟩:=h1 0 h0
     obtain⟨_,hlen,hcell⟩:=World.cells?_some hcs
     have g0:=hcell 0(by omega)
     obtain⟨c0,hc0⟩:∃c0,cs[0]?=some c0:=⟨cs[0]'(by omega),QU(by omega)⟩
     rw [hc0] at g0
     simpa [Addr.add] using World.cell?_spot g0
    obtain⟨b,o,sp⟩:=a
    simp only at hsp
    subst hsp
    refine⟨b,o,rfl,fun i y hi=>?_⟩
    obtain⟨cs,hy,_,hcs⟩:=hys i y hi
    obtain⟨_,hlen,hcell⟩:=World.cells?_some hcs
    refine⟨cs,hy,fun j u hu=>?_⟩
    have hj:j<P.cellsOf e:=by rw [←hlen]; exact(QK.1 hu).1
    have:=hcell j hj
    rw [hu,add_plain,add_plain,hsz] at this
    refine⟨?_,this⟩
    show b<w.heap.size
    unfold World.cell? at this
    rcases JL b w.heap.size with hlt | hge
    ·exact hlt
    ·rw [XI hge] at this; cases this
   ·obtain⟨i,hi⟩:=XC hy
    obtain⟨_,_,hg,_⟩:=hys i y hi
    exact hg
theorem A7.fld {τ:Type} {r:RT τ} {t:TypeId} {g:τ→Prop}(ho:A7 P r t g){H:Type} {enc:TypeId×Value→H} {w:World} {n:Nat} {cs:List Value} {fs:Array Field} {xs:List(DataW H×List MemPlace)}
  (hlen:xs.length=fs.size)(hf:∀(i:Nat)(f:Field),fs[i]?=some f→DataW.trod enc P w 0(fun _=>true)true n f.type((cs.drop f.offset).take(P.cellsOf f.type))=xs[i]?)
  (i:Nat)(o:Nat){f:Field}(hi:fs[i]?=some f)(ht:f.type=t)(hof:f.offset=o):∃y,r.rep(lt w)w y((cs.drop o).take r.size)∧g y:=by
 have h1:=hf i f hi
 have hlt:=(ZO.1 hi).1
 rw [QU(by omega),ht,hof,ho.1] at h1
 exact ho.2.2 enc w n _ _ h1
theorem A7.arg {τ:Type} {r:RT τ} {t:TypeId} {g:τ→Prop}(ho:A7 P r t g){H:Type} {enc:TypeId×Value→H} {w:World} {rc:Reach} {b:Nat} {v:Value} {d:DataW H} {ps:List MemPlace}
  (hv:Value.okWide P w rc b t v)(h:DataW.Trod enc P w 0(fun _=>true)true t v d ps):∃y,isV r(lt w)w y v∧g y:=by
 obtain⟨n,hn⟩:=h
 obtain⟨y,hy,hg⟩:=ho.2.2 enc w n _ _ hn
 refine⟨y,⟨_,hy,?_⟩,hg⟩
 unfold RT.val
 cases ha:r.agg with
 | true =>
  obtain⟨cs,rfl⟩:=(ho.2.1 hv).1 ha
  simp [Value.cells]
 | false =>
  obtain⟨c,hc,rfl⟩:=(ho.2.1 hv).2 ha
  rw [hc]; simp
end
section
variable {H:Type} {enc:TypeId×Value→H} {P:Program} {W:World} {base:Nat} {vs:List String}
theorem Jqc {t1 t2 t3:TypeId} {args:Array Value} {ds gs:List(DataW H)} {before:List MemPlace} {ts:Array TypeId}(hts:ts=#[t1,t2,t3])
  (hval:∀(j:Nat)t v,ts[j]?=some t→args[j]?=some v→Value.okWide P W .any base t v)(hW:DataW.Whole enc P ts.toList vs false W args.toList ds gs before)
  {τ1 τ2 τ3:Type} {r1:RT τ1} {r2:RT τ2} {r3:RT τ3} {g1:τ1→Prop} {g2:τ2→Prop} {g3:τ3→Prop}(ho1:A7 P r1 t1 g1)(ho2:A7 P r2 t2 g2)(ho3:A7 P r3 t3 g3) :
  ∃v1 v2 v3 y1 y2 y3,args=⟨[v1,v2,v3]⟩∧isV r1(lt W)W y1 v1∧g1 y1∧isV r2(lt W)W y2 v2∧g2 y2∧isV r3(lt W)W y3 v3∧g3 y3:=by
 subst hts
 obtain⟨p,q,hA,_⟩:=hW
 obtain⟨v1,vs1,d1,ds1,p1,q1,hargs,rfl,rfl,h1,k1⟩:=trodAll_cons hA
 obtain⟨v2,vs2,d2,ds2,p2,q2,rfl,rfl,rfl,h2,k2⟩:=trodAll_cons k1
 obtain⟨v3,vs3,d3,ds3,p3,q3,rfl,rfl,rfl,h3,k3⟩:=trodAll_cons k2
 obtain⟨rfl,rfl,rfl⟩:=trodAll_nil k3
 obtain rfl:args=⟨[v1,v2,v3]⟩:=by cases args; simp_all
 obtain⟨y1,hy1,hg1⟩:=ho1.arg(hval 0 t1 v1 rfl rfl)h1
 obtain⟨y2,hy2,hg2⟩:=ho2.arg(hval 1 t2 v2 rfl rfl)h2
 obtain⟨y3,hy3,hg3⟩:=ho3.arg(hval 2 t3 v3 rfl rfl)h3
 exact⟨v1,v2,v3,y1,y2,y3,rfl,hy1,hg1,hy2,hg2,hy3,hg3⟩
theorem Qfr (hl:laidOutB P=true){W':World} {sp:Nat→Bool}:∀{ts:List TypeId} {vs:List Value} {ds:List(DataW H)} {ps:List MemPlace},
  (ts.all fun t=>P.readableRec t&&decide(t<P.types.size))=true→DataW.TrodAll enc P W 0(fun _=>true)true ts vs ds ps→(∀p∈ps,W.sameAt W' p)→(∀p∈ps,sp p.block=true)→DataW.TrodAll enc P W' 0 sp true ts vs ds ps
 | [],[],[],_,_,h,_,_=>h
 | t::ts,v::vs,d::ds,ps,hr,⟨p,q,h,hs,e⟩,h1,h2=>by
  subst e
  simp only [ZS,QQ,decide_eq_true_eq] at hr
  exact⟨p,q,WideElems.Trod_stays hl hr.1.1 hr.1.2 h(fun x hx=>h1 x(QW.2(.inl hx)))(fun x hx=>h2 x(QW.2(.inl hx))),
   Qfr hl hr.2 hs(fun x hx=>h1 x(QW.2(.inr hx)))(fun x hx=>h2 x(QW.2(.inr hx))),rfl⟩
theorem Qlz {w:World} {sp:Nat→Bool} {hd:Bool}:∀{ts:List TypeId} {vs:List Value} {ds:List(DataW H)} {ps:List MemPlace},DataW.TrodAll enc P w base sp hd ts vs ds ps→ds.length=ts.length
 | [],[],[],_,_=>rfl
 | _::_,_::_,_::_,_,⟨_,_,_,hs,_⟩=>congrArg(·+1)(Qlz hs)
theorem Je4 {f:FuncId} {fn:Func} {s:ChangeSpec} {args:Array Value} {ds gs:List(DataW H)} {before:List MemPlace} {tb:TypeId}
  (hres:fn.resultTypes=#[tb])(hb:P.underlying tb=some .bool)(hv:s.vars=[])(hlaid:laidOutB P=true)
  (hread:(fn.params.toList.all fun t=>P.readableRec t&&decide(t<P.types.size))=true)
  (hspec:∀d:List(DataW H),d.length=fn.params.size→s.fn H d={ results:=[.lit(.bool true)],args:=d })
  (hW:DataW.Whole enc P fn.params.toList s.vars false W args.toList ds gs before)
  (hcall:Calls P f args W(Ret W(R1 Qtq(lt W)W true))) :
  Calls P f args W fun e W'=>∃v,e=.returned v∧s.post enc P fn false true false false W args v W':=by
 have hW':=hW
 obtain⟨p,q,hA,hV,rfl,hfz,hnd⟩:=hW
 rw [hv] at hV
 obtain⟨rfl,rfl⟩:=trodVars_none hV
 have hlen:=Qlz hA
 have hs:s.fn H(ds++[])={ results:=[.lit(.bool true)],args:=ds }:=by
  rw [QR]; exact hspec ds(by simpa using hlen)
 refine hcall.mono ?_
 rintro e W'⟨v,rfl,hr,hbel⟩
 have hbel:=hbel.nil
 obtain rfl:=Qpb.1 hr
 simp only [QR] at hW'
 have hlt:∀p'∈p,p'.block<W.heap.size:=fun p' hp=>hW'.lt p' hp
 refine⟨_,rfl,?_⟩
 refine⟨ds,[],p,[],p,[],hW',?_,?_,?_,World.keptBut_mono(fun p' hp=>⟨hp,by simpa using hp⟩)(hbel.frame(·∈p)),fun h=>by cases h⟩
 ·rw [hs,hres]
  exact trodAll_mk1(shut_bool hb _)
 ·rw [hs]
  exact Qfr hlaid hread hA(fun x hx=>hbel.same(hlt x hx))(fun x hx=>by simpa using hlt x hx)
 ·rw [hs,hv]
  rfl
end
end Gd

/- Plain facts on the functions that the texts are written with. -/
namespace Gd
open Go
set_option linter.unusedVariables false
set_option linter.unusedSimpArgs false
theorem Q3 {n:Int}(h0 : -9223372036854775808≤n)(h1:n<9223372036854775808):IntKind.wrap .i64 n=n:=by
 have e:IntKind.wrap .i64 n=(if(18446744073709551616:Int) / 2≤n % 18446744073709551616 then n % 18446744073709551616 - 18446744073709551616 else n % 18446744073709551616):=by
  simp [IntKind.wrap,IntKind.bits,IntKind.signed]
 rw [e]
 split<;>omega
theorem Jj3 {α:Type} {l:List α} {i:Nat} {x:α}(h:l[i]?=some x):idx l(i:Int)=some x:=by
 simp [idx,h]
end Gd

/- Types of data, abstract values, what they mean. -/
namespace Gx
open Go Go.RowKit Gd
set_option linter.unusedVariables false
set_option linter.unusedSimpArgs false
inductive Ki (α:Type)where
 | mk(x:α)(ks:List(Ki α))
def Ki.x {α:Type}:Ki α→α
 | .mk x _=>x
def Ki.ks {α:Type}:Ki α→List(Ki α)
 | .mk _ ks=>ks
inductive Ty where
 | int(k:IntKind) | bool | str
 | sl(e:Ty) | arr(n:Nat)(e:Ty)
 | unit | pr(f r:Ty) | st(fs:Ty) | ref | rose(fs:Ty)
@[reducible] def Ty.i:Ty:=.int .i64
@[reducible] def Ty.De:Ty→Type
 | .int _=>Int | .bool=>Bool | .str=>Str
 | .sl e=>List e.De | .arr _ e=>List e.De
 | .unit=>Unit | .pr f r=>f.De×r.De | .st fs=>fs.De | .ref=>Unit | .rose fs=>Ki fs.De
def Ty.beq:Ty→Ty→Bool
 | .int a,.int b=>Rj a b
 | .bool,.bool=>true
 | .str,.str=>true
 | .sl a,.sl b=>Ty.beq a b
 | .arr n a,.arr m b=>Nat.beq n m&&Ty.beq a b
 | .unit,.unit=>true
 | .pr a b,.pr c d=>Ty.beq a c&&Ty.beq b d
 | .st a,.st b=>Ty.beq a b
 | .ref,.ref=>true
 | .rose a,.rose b=>Ty.beq a b
 | _,_=>false
theorem Ty.beq_eq:∀{a b:Ty},Ty.beq a b=true→a=b
 | .int a,b,h=>by cases b<;>simp [Ty.beq] at h; rw [C5 h]
 | .bool,b,h=>by cases b<;>simp [Ty.beq] at h; rfl
 | .str,b,h=>by cases b<;>simp [Ty.beq] at h; rfl
 | .sl a,b,h=>by cases b<;>simp [Ty.beq] at h; rw [Ty.beq_eq h]
 | .arr n a,b,h=>by cases b<;>simp [Ty.beq] at h; rw [h.1,Ty.beq_eq h.2]
 | .unit,b,h=>by cases b<;>simp [Ty.beq] at h; rfl
 | .pr a c,b,h=>by cases b<;>simp [Ty.beq] at h; rw [Ty.beq_eq h.1,Ty.beq_eq h.2]
 | .st a,b,h=>by cases b<;>simp [Ty.beq] at h; rw [Ty.beq_eq h]
 | .ref,b,h=>by cases b<;>simp [Ty.beq] at h; rfl
 | .rose a,b,h=>by cases b<;>simp [Ty.beq] at h; rw [Ty.beq_eq h]
theorem Ty.beq_refl:∀a:Ty,Ty.beq a a=true
 | .int k=>by cases k<;>rfl
 | .bool=>rfl | .str=>rfl | .unit=>rfl
 | .sl a=>Ty.beq_refl a
 | .arr n a=>by simp [Ty.beq,Ty.beq_refl a,JY]
 | .pr a b=>by simp [Ty.beq,Ty.beq_refl a,Ty.beq_refl b]
 | .st a=>Ty.beq_refl a
 | .ref=>rfl
 | .rose a=>Ty.beq_refl a
def Ty.cast (a b:Ty)(x:a.De):Option b.De:=if h:Ty.beq a b=true then some(Ty.beq_eq h▸x)else none
theorem Ty.cast_ok {a b:Ty} {x:a.De} {y:b.De}(h:Ty.cast a b x=some y):∃e:a=b,y=e▸x:=by
 unfold Ty.cast at h
 split at h
 ·rename_i hb; exact⟨Ty.beq_eq hb,(Option.some.inj h).symm⟩
 ·cases h
def Jqd:RT Unit where
 size:=0
 agg:=true
 rep:=fun _ _ _ cs=>cs=[]
 len:=by rintro _ _ x cs rfl; rfl
 one:=fun h=>by cases h
 flat:=by rintro _ _ x cs rfl c hc; simp at hc
 evo:=fun h _=>h
 weak:=fun h _=>h
def Jl4 {τ σ:Type}(r:RT τ)(s:RT σ):RT(τ×σ)where
 size:=r.size+s.size
 agg:=true
 rep:=fun ok w x cs=>∃c1 c2,cs=c1++c2∧r.rep ok w x.1 c1∧s.rep ok w x.2 c2
 len:=by rintro _ _ x cs⟨c1,c2,rfl,h1,h2⟩; simp [r.len h1,s.len h2]
 one:=fun h=>by cases h
 flat:=by
  rintro _ _ x cs⟨c1,c2,rfl,h1,h2⟩c hc
  rcases QW.1 hc with hc | hc
  ·exact r.flat h1 c hc
  ·exact s.flat h2 c hc
 evo:=by rintro _ _ _ x cs⟨c1,c2,rfl,h1,h2⟩he; exact⟨c1,c2,rfl,r.evo h1 he,s.evo h2 he⟩
 weak:=by rintro _ _ _ x cs⟨c1,c2,rfl,h1,h2⟩he; exact⟨c1,c2,rfl,r.weak h1 he,s.weak h2 he⟩
def Jov {τ:Type}(r:RT τ):RT τ where
 size:=r.size
 agg:=true
 rep:=r.rep
 len:=r.len
 one:=fun h=>by cases h
 flat:=r.flat
 evo:=r.evo
 weak:=r.weak
def Jqe:RT Unit where
 size:=1
 agg:=false
 rep:=fun _ _ _ _=>False
 len:=fun h=>h.elim
 one:=fun _=>rfl
 flat:=fun h=>h.elim
 evo:=fun h _=>h
 weak:=fun h _=>h
def Jow {τ:Type}(r:RT τ):RT(Ki τ)where
 size:=r.size+1
 agg:=true
 rep:=fun _ _ _ _=>False
 len:=fun h=>h.elim
 one:=fun h=>by cases h
 flat:=fun h=>h.elim
 evo:=fun h _=>h
 weak:=fun h _=>h
def Jox {τ:Type}(r:RT τ)(k:RT(Ki τ)):RT(Ki τ)where
 size:=r.size+1
 agg:=true
 rep:=fun ok w x cs=>∃c1 c2,cs=c1++c2∧r.rep ok w x.x c1∧(rSl k).rep ok w x.ks c2
 len:=by rintro _ _ x cs⟨c1,c2,rfl,h1,h2⟩; simp [r.len h1,(rSl k).len h2,rSl]
 one:=fun h=>by cases h
 flat:=by
  rintro _ _ x cs⟨c1,c2,rfl,h1,h2⟩c hc
  rcases QW.1 hc with hc | hc
  ·exact r.flat h1 c hc
  ·exact(rSl k).flat h2 c hc
 evo:=by rintro _ _ _ x cs⟨c1,c2,rfl,h1,h2⟩he; exact⟨c1,c2,rfl,r.evo h1 he,(rSl k).evo h2 he⟩
 weak:=by rintro _ _ _ x cs⟨c1,c2,rfl,h1,h2⟩he; exact⟨c1,c2,rfl,r.weak h1 he,(rSl k).weak h2 he⟩
def D9 {τ:Type}(r:RT τ):Nat→RT(Ki τ)
 | 0=>Jow r
 | n+1=>Jox r(D9 r n)
theorem C6 {τ:Type}(r:RT τ):∀n,(D9 r n).size=r.size+1
 | 0=>rfl
 | _+1=>rfl
theorem Qpn {τ:Type} {r s:RT τ} {ok:Ok} {w:World}(hs:r.size=s.size)(h:∀{x cs},r.rep ok w x cs→s.rep ok w x cs){xs:List τ} {cs:List Value}:(rSl r).rep ok w xs cs→(rSl s).rep ok w xs cs:=by
 rintro⟨v,rfl,A,n,c,rfl,hl,hc,hn⟩
 refine⟨_,rfl,A,n,c,rfl,hl,hc,fun h0=>?_⟩
 obtain⟨b,o,hA,hx⟩:=hn h0
 refine⟨b,o,hA,fun i x hi=>?_⟩
 obtain⟨cs,hr,ha⟩:=hx i x hi
 exact⟨cs,h hr,by rw [←hs]; exact ha⟩
theorem Ql0 {τ:Type}(r:RT τ){ok:Ok} {w:World}:∀(n:Nat){x:Ki τ} {cs:List Value},(D9 r n).rep ok w x cs→(D9 r(n+1)).rep ok w x cs
 | 0,_,_,h=>h.elim
 | n+1,x,cs,⟨c1,c2,e,h1,h2⟩=>⟨c1,c2,e,h1,Qpn(by rw [C6,C6])(Ql0 r n)h2⟩
theorem Qtw {τ:Type}(r:RT τ){ok:Ok} {w:World} {n m:Nat}(h:n≤m){x:Ki τ} {cs:List Value}(hx:(D9 r n).rep ok w x cs):(D9 r m).rep ok w x cs:=by
 induction h with
 | refl=>exact hx
 | step _ ih=>exact Ql0 r _ ih
def Ql1 {τ:Type}(r:RT τ):RT(Ki τ)where
 size:=r.size+1
 agg:=true
 rep:=fun ok w x cs=>∃n,(D9 r n).rep ok w x cs
 len:=by rintro _ _ x cs⟨n,h⟩; rw [(D9 r n).len h,C6]
 one:=fun h=>by cases h
 flat:=by rintro _ _ x cs⟨n,h⟩; exact(D9 r n).flat h
 evo:=by rintro _ _ _ x cs⟨n,h⟩he; exact⟨n,(D9 r n).evo h he⟩
 weak:=by rintro _ _ _ x cs⟨n,h⟩he; exact⟨n,(D9 r n).weak h he⟩
theorem Jax {τ:Type} {r:RT τ} {ok:Ok} {w:World} {x:Ki τ} {cs:List Value}(h:(Ql1 r).rep ok w x cs):∃c1 c2,cs=c1++c2∧r.rep ok w x.x c1∧(rSl(Ql1 r)).rep ok w x.ks c2:=by
 obtain⟨n,h⟩:=h
 cases n with
 | zero=>exact h.elim
 | succ n =>
  obtain⟨c1,c2,e,h1,h2⟩:=h
  exact⟨c1,c2,e,h1,Qpn(s:=Ql1 r)(C6 r n)(fun h=>⟨n,h⟩)h2⟩
theorem Qz1 {τ:Type} {r:RT τ} {ok:Ok} {w:World} {x:τ} {ks:List(Ki τ)} {c1 c2:List Value}(h1:r.rep ok w x c1)(h2:(rSl(Ql1 r)).rep ok w ks c2):(Ql1 r).rep ok w(.mk x ks)(c1++c2):=by
 obtain⟨v,rfl,A,n,c,rfl,hl,hc,hn⟩:=h2
 rcases XQ n with h0 | h0
 ·subst h0
  refine⟨1,c1,_,rfl,h1,_,rfl,A,0,c,rfl,hl,hc,fun h=>absurd h(by omega)⟩
 ·obtain⟨b,o,hA,hx⟩:=hn h0
  have key2:∀(k:Nat),∃m,∀(i:Nat)(y:Ki τ),i<k→ks[i]?=some y→∃cs,(D9 r m).rep ok w y cs∧Cz ok w b(o+i*(Ql1 r).size)cs:=by
   intro k
   induction k with
   | zero=>exact⟨0,fun i y hi=>absurd hi(by omega)⟩
   | succ k ih =>
    obtain⟨m,hm⟩:=ih
    cases hk:ks[k]? with
    | none =>
     refine⟨m,fun i y hi hy=>?_⟩
     rcases JL i k with hlt | hge
     ·exact hm i y hlt hy
     ·have:i=k:=by omega
      subst this; rw [hk] at hy; cases hy
    | some z =>
     obtain⟨cs,⟨m2,h3⟩,h4⟩:=hx k z hk
     refine⟨max m m2,fun i y hi hy=>?_⟩
     rcases JL i k with hlt | hge
     ·obtain⟨cs',h5,h6⟩:=hm i y hlt hy
      exact⟨cs',Qtw r(KP _ _)h5,h6⟩
     ·have:i=k:=by omega
      subst this; rw [hk] at hy; injection hy with hy; subst hy
      exact⟨cs,Qtw r(ZR _ _)h3,h4⟩
  obtain⟨m,hm⟩:=key2 ks.length
  refine⟨m+1,c1,_,rfl,h1,_,rfl,A,n,c,rfl,hl,hc,fun _=>⟨b,o,hA,fun i y hy=>?_⟩⟩
  obtain⟨cs,h5,h6⟩:=hm i y(QK.1 hy).1 hy
  exact⟨cs,h5,by rw [C6]; exact h6⟩
def rt:(t:Ty)→RT t.De
 | .int k=>Tk k
 | .bool=>Qtq
 | .str=>Jot
 | .sl e=>rSl(rt e)
 | .arr n e=>Jev n(rt e)
 | .unit=>Jqd
 | .pr f r=>Jl4(rt f)(rt r)
 | .st fs=>Jov(rt fs)
 | .ref=>Jqe
 | .rose fs=>Ql1(rt fs)
def Ty.size:Ty→Nat
 | .int _=>1 | .bool=>1 | .str=>1 | .sl _=>1
 | .arr n e=>n*e.size
 | .unit=>0 | .pr f r=>f.size+r.size | .st fs=>fs.size | .ref=>1 | .rose fs=>fs.size+1
def Ty.agg:Ty→Bool
 | .int _=>false | .bool=>false | .str=>false | .sl _=>false
 | .arr _ _=>true
 | .unit=>true | .pr _ _=>true | .st _=>true | .ref=>false | .rose _=>true
theorem Jh:∀t:Ty,(rt t).size=t.size
 | .int _=>rfl | .bool=>rfl | .str=>rfl | .sl _=>rfl
 | .arr n e=>by simp [rt,Jev,Ty.size,Jh e]
 | .unit=>rfl
 | .pr f r=>by simp [rt,Jl4,Ty.size,Jh f,Jh r]
 | .st fs=>by simp [rt,Jov,Ty.size,Jh fs]
 | .ref=>rfl
 | .rose fs=>by simp [rt,Ql1,Ty.size,Jh fs]
theorem B7:∀t:Ty,(rt t).agg=t.agg
 | .int _=>rfl | .bool=>rfl | .str=>rfl | .sl _=>rfl | .arr _ _=>rfl | .unit=>rfl | .pr _ _=>rfl | .st _=>rfl | .ref=>rfl | .rose _=>rfl
inductive PS where
 | f(k off:Nat) | i(j:Int)(size:Nat)
def PS.off:PS→Nat
 | .f _ o=>o | .i j s=>j.toNat*s
def J8:List PS→Nat
 | []=>0
 | p::l=>p.off+J8 l
inductive AV where
 | d(t:Ty)(x:t.De)
 | p(id:Nat)(path:List PS)
 | e(id:Nat)(path:List PS)
 | s(id:Nat)
 | m(id:Nat)
 | b(id:Nat)
 | w(id:Nat)(j n:Int)
 | a(t:Ty)(x:t.De)
 | z | ns | np | nm | nf
 | f(fn:FuncId)(caps:AV)
 | ag(l:AV)
 | tp(l:AV)
 | nil
 | cons(x r:AV)
def AV.isAgg:AV→Bool
 | .d t _=>t.agg
 | .ag _=>true
 | _=>false
def AV.val (x:AV)(cs:List Value):Value:=bif x.isAgg then .agg cs.toArray else cs.headD undef
def AV.size:AV→Nat
 | .d t _=>t.size
 | .ag l=>l.size
 | .nil=>0
 | .cons x r=>x.size+r.size
 | _=>1
def AV.inMem:AV→Bool
 | .tp _=>false
 | .f _ _=>true
 | .ag l=>l.inMem
 | .cons x r=>x.inMem&&r.inMem
 | _=>true
def zal (v u:Value):Prop:=v=u∨(u=.slice none 0 0∧∃A,v=.slice A 0 0)
theorem zal.form {v u:Value}(h:zal v u)(hu:∃A n c,u=.slice A n c):∃A n c,v=.slice A n c:=by
 rcases h with rfl | ⟨_,A,rfl⟩
 ·exact hu
 ·exact⟨_,_,_,rfl⟩
section
variable (β:Nat→Nat) (ρ:Nat→Value) (ok:Ok) (w:World)
def cr:Bool→AV→List Value→Prop
 | _,.d t x,cs=>(rt t).rep ok w x cs
 | _,.p id path,cs=>cs=[.pointer(some⟨β id,J8 path,none⟩)]
 | _,.e id path,cs=>∃g,(ρ id).ownBlock=some g∧cs=[.pointer(some⟨g,J8 path,none⟩)]
 | _,.s id,cs=>(∃v,cs=[v]∧zal v(ρ id))∧∃A n c,ρ id=.slice A n c
 | _,.m id,cs=>cs=[.map(some(β id))]
 | _,.b id,cs=>cs=[.int .i64(β id)]
 | _,.w id j n,cs=>∃A c,cs=[.slice(some A)n.toNat c]∧(0<n.toNat→A=⟨β id,j.toNat,none⟩)
 | _,.a t x,cs=>∃v,cs=[v]∧Qpa(rt t)ok w x v
 | _,.z,cs=>∃A,cs=[.slice A 0 0]
 | _,.ns,cs=>cs=[.slice none 0 0]
 | _,.np,cs=>cs=[.pointer none]
 | _,.nm,cs=>cs=[.map none]
 | _,.nf,cs=>cs=[.nilFunc]
 | _,.f fn caps,cs=>∃vs,cs=[.func(.func fn) #[] vs.toArray]∧cr true caps vs
 | _,.ag l,cs=>cr false l cs
 | _,.tp l,cs=>∃vs,cs=[.tuple vs.toArray]∧cr true l vs
 | _,.nil,cs=>cs=[]
 | true,.cons x r,cs=>∃c1 vs,cs=x.val c1::vs∧cr false x c1∧cr true r vs
 | false,.cons x r,cs=>∃c1 c2,cs=c1++c2∧cr false x c1∧cr false r c2
end
section
variable {β:Nat→Nat} {ρ:Nat→Value} {ok ok':Ok} {w w':World}
theorem Lx:∀{m:Bool} {x:AV} {cs:List Value},cr β ρ ok w m x cs→Evo ok w w'→cr β ρ ok w' m x cs
 | m,.d t x,cs,h,he=>by cases m<;>exact(rt t).evo h he
 | m,.p ..,cs,h,he=>by cases m<;>exact h
 | m,.e ..,cs,h,he=>by cases m<;>exact h
 | m,.s _,cs,h,he=>by cases m<;>exact h
 | m,.m _,cs,h,he=>by cases m<;>exact h
 | m,.b _,cs,h,he=>by cases m<;>exact h
 | m,.w ..,cs,h,he=>by cases m<;>exact h
 | m,.a t x,cs,h,he=>by cases m<;>exact let⟨v,h1,h2⟩:=h; ⟨v,h1,h2.evo he⟩
 | m,.z,cs,h,he=>by cases m<;>exact h
 | m,.ns,cs,h,he=>by cases m<;>exact h
 | m,.np,cs,h,he=>by cases m<;>exact h
 | m,.nm,cs,h,he=>by cases m<;>exact h
 | m,.nf,cs,h,he=>by cases m<;>exact h
 | m,.f fn caps,cs,h,he=>by cases m<;>exact let⟨vs,h1,h2⟩:=h; ⟨vs,h1,Lx h2 he⟩
 | m,.ag l,cs,h,he=>by cases m<;>exact Lx(m:=false)(x:=l)h he
 | m,.tp l,cs,h,he=>by cases m<;>exact let⟨vs,h1,h2⟩:=h; ⟨vs,h1,Lx h2 he⟩
 | m,.nil,cs,h,he=>by cases m<;>exact h
 | true,.cons x r,cs,h,he=>let⟨c1,vs,h1,h2,h3⟩:=h; ⟨c1,vs,h1,Lx h2 he,Lx h3 he⟩
 | false,.cons x r,cs,h,he=>let⟨c1,vs,h1,h2,h3⟩:=h; ⟨c1,vs,h1,Lx h2 he,Lx h3 he⟩
theorem Wd:∀{m:Bool} {x:AV} {cs:List Value},cr β ρ ok w m x cs→(∀b o,ok b o→ok' b o)→cr β ρ ok' w m x cs
 | m,.d t x,cs,h,he=>by cases m<;>exact(rt t).weak h he
 | m,.p ..,cs,h,he=>by cases m<;>exact h
 | m,.e ..,cs,h,he=>by cases m<;>exact h
 | m,.s _,cs,h,he=>by cases m<;>exact h
 | m,.m _,cs,h,he=>by cases m<;>exact h
 | m,.b _,cs,h,he=>by cases m<;>exact h
 | m,.w ..,cs,h,he=>by cases m<;>exact h
 | m,.a t x,cs,h,he=>by cases m<;>exact let⟨v,h1,h2⟩:=h; ⟨v,h1,h2.weak he⟩
 | m,.z,cs,h,he=>by cases m<;>exact h
 | m,.ns,cs,h,he=>by cases m<;>exact h
 | m,.np,cs,h,he=>by cases m<;>exact h
 | m,.nm,cs,h,he=>by cases m<;>exact h
 | m,.nf,cs,h,he=>by cases m<;>exact h
 | m,.f fn caps,cs,h,he=>by cases m<;>exact let⟨vs,h1,h2⟩:=h; ⟨vs,h1,Wd h2 he⟩
 | m,.ag l,cs,h,he=>by cases m<;>exact Wd(m:=false)(x:=l)h he
 | m,.tp l,cs,h,he=>by cases m<;>exact let⟨vs,h1,h2⟩:=h; ⟨vs,h1,Wd h2 he⟩
 | m,.nil,cs,h,he=>by cases m<;>exact h
 | true,.cons x r,cs,h,he=>let⟨c1,vs,h1,h2,h3⟩:=h; ⟨c1,vs,h1,Wd h2 he,Wd h3 he⟩
 | false,.cons x r,cs,h,he=>let⟨c1,vs,h1,h2,h3⟩:=h; ⟨c1,vs,h1,Wd h2 he,Wd h3 he⟩
theorem U1:∀{x:AV} {cs:List Value},cr β ρ ok w false x cs→cs.length=x.size
 | .d t x,cs,h=>by rw [AV.size,←Jh]; exact(rt t).len h
 | .p ..,cs,h=>by subst h; rfl
 | .e ..,cs,⟨_,_,h⟩=>by subst h; rfl
 | .s _,cs,⟨⟨_,h,_⟩,_⟩=>by subst h; rfl
 | .m _,cs,h=>by subst h; rfl
 | .b _,cs,h=>by subst h; rfl
 | .w ..,cs,⟨_,_,h,_⟩=>by subst h; rfl
 | .a t x,cs,⟨_,h,_⟩=>by subst h; rfl
 | .z,cs,⟨_,h⟩=>by subst h; rfl
 | .ns,cs,h=>by subst h; rfl
 | .np,cs,h=>by subst h; rfl
 | .nm,cs,h=>by subst h; rfl
 | .nf,cs,h=>by subst h; rfl
 | .f ..,cs,⟨_,h,_⟩=>by subst h; rfl
 | .ag l,cs,h=>by rw [AV.size]; exact U1(x:=l)h
 | .tp l,cs,⟨_,h,_⟩=>by subst h; rfl
 | .nil,cs,h=>by subst h; rfl
 | .cons x r,cs,⟨c1,c2,h,h1,h2⟩=>by subst h; rw [QC,U1 h1,U1 h2]; rfl
theorem To:∀{x:AV} {cs:List Value},cr β ρ ok w false x cs→x.inMem=true→∀c∈cs,c.oneCell'=true
 | .d t x,cs,h,_=>(rt t).flat h
 | .p ..,cs,h,_=>by subst h; simp; rfl
 | .e ..,cs,⟨_,_,h⟩,_=>by subst h; simp; rfl
 | .s id,cs,⟨⟨v,h,hz⟩,hs⟩,_=>by
  subst h; obtain⟨A,n,c,rfl⟩:=hz.form hs
  intro c hc; simp at hc; subst hc; rfl
 | .m _,cs,h,_=>by subst h; simp; rfl
 | .b _,cs,h,_=>by subst h; simp; rfl
 | .w ..,cs,⟨_,_,h,_⟩,_=>by subst h; simp; rfl
 | .a t x,cs,⟨v,h,hv⟩,_=>by obtain⟨b,o,c,rfl,_⟩:=hv; subst h; simp; rfl
 | .z,cs,⟨_,h⟩,_=>by subst h; simp; rfl
 | .ns,cs,h,_=>by subst h; simp; rfl
 | .np,cs,h,_=>by subst h; simp; rfl
 | .nm,cs,h,_=>by subst h; simp; rfl
 | .nf,cs,h,_=>by subst h; simp; rfl
 | .f ..,cs,⟨_,h,_⟩,_=>by subst h; simp; rfl
 | .ag l,cs,h,hm=>To(x:=l)h hm
 | .tp l,cs,_,hm=>by cases hm
 | .nil,cs,h,_=>by subst h; simp
 | .cons x r,cs,⟨c1,c2,h,h1,h2⟩,hm=>by
  simp only [AV.inMem,QQ] at hm
  subst h
  intro c hc
  rcases QW.1 hc with hc | hc
  ·exact To h1 hm.1 c hc
  ·exact To h2 hm.2 c hc
theorem Joy {x:AV} {cs:List Value}(h:cr β ρ ok w false x cs)(ha:x.isAgg=false)(hn:x.size=1):∃c,cs=[c]:=by
 have:=U1 h
 rw [hn] at this
 match cs,this with
 | [c],_=>exact⟨c,rfl⟩
theorem Je5:∀{t:Ty},t.agg=false→t.size=1
 | .int _,_=>rfl | .bool,_=>rfl | .str,_=>rfl | .sl _,_=>rfl | .ref,_=>rfl
def AV.isVal:AV→Bool
 | .nil=>false
 | .cons _ _=>false
 | .d t _=>true
 | _=>true
theorem N3 {x:AV} {cs:List Value}(h:cr β ρ ok w false x cs)(hv:x.isVal=true)(hm:x.inMem=true):Qq(x.val cs)=cs:=by
 unfold AV.val
 cases ha:x.isAgg with
 | true=>simp [Qq]
 | false =>
  have hsz:x.size=1:=by
   cases x<;>first | rfl | (simp [AV.isAgg] at ha; done) | (simp [AV.isVal] at hv; done) | skip
   ·exact Je5 ha
  obtain⟨c,rfl⟩:=Joy h ha hsz
  have:=To h hm c(.head _)
  simp only [cond_false,List.headD_cons]
  cases c<;>first | rfl | (simp [Value.oneCell'] at this)
theorem Qz2 {t:Ty} {x:t.De} {cs:List Value}:(AV.d t x).val cs=(rt t).val cs:=by
 simp only [AV.val,AV.isAgg,RT.val,B7]
 cases t.agg<;>simp
theorem Jay {t:Ty} {x:t.De} {cs:List Value}(h:cr β ρ ok w false(.d t x)cs):isV(rt t)ok w x((AV.d t x).val cs):=⟨cs,h,Qz2⟩
theorem Rm {t:Ty} {x:t.De} {v:Value}(h:isV(rt t)ok w x v):∃cs,cr β ρ ok w false(.d t x)cs∧v=(AV.d t x).val cs:=by
 obtain⟨cs,hr,rfl⟩:=h
 exact⟨cs,hr,Qz2.symm⟩
end
end Gx

/- Abstract states. -/
namespace Gx
open Go Go.RowKit Gd
set_option linter.unusedVariables false
set_option linter.unusedSimpArgs false
inductive CK where
 | sl(e:TypeId)(u:Ty)
 | mp(k v:Ty)
@[reducible] def CK.ty:CK→Ty
 | .sl _ u=>.sl u
 | .mp k v=>.sl(.pr k v)
inductive Ob where
 | var(tid:TypeId)(c:AV)
 | row(e:TypeId)(t:Ty)(xs:List t.De)
 | tail(e:TypeId)(t:Ty)(xs:List t.De)
 | map(k v:Ty)(xs:List(k.De×v.De))
 | mapC(k:Ty)(c:CK)(xs:List(k.De×c.ty.De))(hole:Option(k.De×Nat))
 | mapE(k v:Ty)(xs:List(k.De×v.De))(key:k.De)(j:Nat)
def Ql2 (β:Nat→Nat)(ρ:Nat→Value)(g:Nat)(tid:TypeId)(c:AV):TL where
 blks:=fun b=>b=g
 cov:=fun b _=>b=g
 cb:=fun h=>h
 p:=fun ok w=>∃cs,w.heap[g]?=some(.cells cs.toArray tid(0,0))∧cr β ρ ok w false c cs
 keep:=fun⟨cs,h1,h2⟩hb he=>⟨cs,by rw [hb _ rfl]; exact h1,Lx h2 he⟩
 weak:=fun⟨cs,h1,h2⟩hk=>⟨cs,h1,Wd h2 hk⟩
 lt:=fun⟨_,h,_⟩b hb=>by subst hb; exact Yh h
def Qch {τ:Type}(v:Value)(e:Nat)(r:RT τ)(xs:List τ):TL where
 blks:=fun g=>v.ownBlock=some g
 cov:=fun b o=>v.ownBlock=some b∧Zv v*r.size≤o
 cb:=fun h=>h.1
 p:=fun ok w=>isV(rSl r)ok w xs v∧∃ys,w.ownsRowS 0 e r.size v(Zv v)ys
 keep:=fun⟨h1,ys,h⟩hb he=>⟨h1.evo he,ys,Tl h hb⟩
 weak:=fun⟨h1,h⟩hk=>⟨h1.weak hk,h⟩
 lt:=fun⟨_,_,h⟩g hg=>(h.lt g hg).2
def Xn {κ ν:Type}(r:RT κ)(s:RT ν)(ok:Ok)(w:World):List(κ×ν)→List MapEntry→Prop
 | [],es=>es=[]
 | x::xs,es=>∃e es',es=e::es'∧isV r ok w x.1 e.key∧isV s ok w x.2 e.val∧Xn r s ok w xs es'
theorem W6 {κ ν:Type} {r:RT κ} {s:RT ν} {ok:Ok} {w w':World}:∀{xs:List(κ×ν)} {es:List MapEntry},Xn r s ok w xs es→Evo ok w w'→Xn r s ok w' xs es
 | [],_,h,_=>h
 | x::xs,es,⟨e,es',h,h1,h2,h3⟩,he=>⟨e,es',h,h1.evo he,h2.evo he,W6 h3 he⟩
theorem Vo {κ ν:Type} {r:RT κ} {s:RT ν} {ok ok':Ok} {w:World}:∀{xs:List(κ×ν)} {es:List MapEntry},Xn r s ok w xs es→(∀b o,ok b o→ok' b o)→Xn r s ok' w xs es
 | [],_,h,_=>h
 | x::xs,es,⟨e,es',h,h1,h2,h3⟩,he=>⟨e,es',h,h1.weak he,h2.weak he,Vo h3 he⟩
def Rn {κ ν:Type}(g:Nat)(r:RT κ)(s:RT ν)(xs:List(κ×ν)):TL where
 blks:=fun b=>b=g
 cov:=fun b _=>b=g
 cb:=fun h=>h
 p:=fun ok w=>∃es clock,w.heap[g]?=some(.map es clock)∧Xn r s ok w xs es.toList∧(xs.map Prod.fst).Nodup∧(es.toList.map MapEntry.born).Nodup∧∀e∈es.toList,e.born<clock
 keep:=fun⟨es,c,h1,h2,h3⟩hb he=>⟨es,c,by rw [hb _ rfl]; exact h1,W6 h2 he,h3⟩
 weak:=fun⟨es,c,h1,h2,h3⟩hk=>⟨es,c,h1,Vo h2 hk,h3⟩
 lt:=fun⟨_,_,h,_⟩b hb=>by subst hb; exact Yh h
def Kc:Value→Option Nat
 | .map o=>o
 | v=>v.ownBlock
theorem Qci {w:World} {base:Nat} {e:TypeId} {size n:Nat} {v:Value} {xs:List Value}(h:w.ownsRowS base e size v n xs){b:Nat}:v.ownBlock=some b↔Kc v=some b:=by
 rcases h.2 with⟨rfl,_⟩ | ⟨g,cap,cur,fz,rfl,_⟩<;>exact Iff.rfl
def Qb0:(c:CK)→Value→c.ty.De→TL
  | .sl e u,v,x=>ml v e(rt u)x
  | .mp k v0,v,x=>{ Rn((Kc v).getD 0)(rt k)(rt v0)x with
      blks:=fun b=>Kc v=some b
      cov:=fun b _=>Kc v=some b
      cb:=fun h=>h
      p:=fun ok w=>∃g,v=.map(some g)∧(Rn g(rt k)(rt v0)x).p ok w
      keep:=fun⟨g,h1,h2⟩hb he=>⟨g,h1,(Rn g(rt k)(rt v0)x).keep h2(fun b hg=>hb b(by subst hg; rw [h1]; rfl))he⟩
      weak:=fun⟨g,h1,h2⟩hk=>⟨g,h1,(Rn g(rt k)(rt v0)x).weak h2 hk⟩
      lt:=fun⟨g,h1,h2⟩b hb=>(Rn g(rt k)(rt v0)x).lt h2 b(by rw [h1] at hb; injection hb with hb; exact hb.symm) }
theorem Qz3 {c:CK} {v:Value} {x:c.ty.De} {ok:Ok} {w:World}(h:(Qb0 c v x).p ok w){b:Nat}:(Qb0 c v x).blks b↔Kc v=some b:=by
 cases c with
 | sl e u =>
  obtain⟨_,cs,h2,_⟩:=h
  exact Qci h2
 | mp k v0=>exact Iff.rfl
def Jj4:RT Value where
 size:=1
 agg:=false
 rep:=fun _ _ x cs=>cs=[x]∧x.oneCell'=true
 len:=fun h=>by rw [h.1]; rfl
 one:=fun _=>rfl
 flat:=fun h c hc=>by rw [h.1] at hc; simp at hc; subst hc; exact h.2
 evo:=fun h _=>h
 weak:=fun h _=>h
def B8 {κ:Type}(c:CK)(hole:Option κ)(hv:Value)(ok:Ok)(w:World):List(κ×c.ty.De)→List(κ×Value)→List Value→Prop
 | [],[],[]=>True
 | x::xs,y::ys,v::vs=>x.1=y.1∧((hole=some x.1∧v=undef∧zal y.2 hv)∨(hole≠some x.1∧zal y.2 v∧(Qb0 c v x.2).p ok w))∧B8 c hole hv ok w xs ys vs
 | _,_,_=>False
section
variable {κ:Type} {c:CK} {hole:Option κ} {hv:Value} {ok ok':Ok} {w w':World}
theorem Qpo:∀{xs:List (κ×c.ty.De)} {ys:List(κ×Value)} {vs:List Value},B8 c hole hv ok w xs ys vs→(∀v∈vs,∀b,Kc v=some b→w'.heap[b]?=w.heap[b]?)→Evo ok w w'→B8 c hole hv ok w' xs ys vs
 | [],[],[],h,_,_=>h
 | x::xs,y::ys,v::vs,⟨h1,h2,h3⟩,hb,he=>⟨h1,h2.imp id fun⟨q1,q2,q3⟩=>⟨q1,q2,(Qb0 c v x.2).keep q3(fun b hg=>hb v(.head _)b((Qz3 q3).1 hg))he⟩,Qpo h3(fun v hv=>hb v(.tail _ hv))he⟩
 | [],[],_::_,h,_,_=>h.elim
 | [],_::_,_,h,_,_=>h.elim
 | _::_,[],_,h,_,_=>h.elim
 | _::_,_::_,[],h,_,_=>h.elim
theorem Ro:∀{xs:List (κ×c.ty.De)} {ys:List(κ×Value)} {vs:List Value},B8 c hole hv ok w xs ys vs→(∀b o,ok b o→ok' b o)→B8 c hole hv ok' w xs ys vs
 | [],[],[],h,_=>h
 | x::xs,y::ys,v::vs,⟨h1,h2,h3⟩,hk=>⟨h1,h2.imp id fun⟨q1,q2,q3⟩=>⟨q1,q2,(Qb0 c v x.2).weak q3 hk⟩,Ro h3 hk⟩
 | [],[],_::_,h,_=>h.elim
 | [],_::_,_,h,_=>h.elim
 | _::_,[],_,h,_=>h.elim
 | _::_,_::_,[],h,_=>h.elim
theorem Q7x:∀{xs:List (κ×c.ty.De)} {ys:List(κ×Value)} {vs:List Value},B8 c hole hv ok w xs ys vs→∀v∈vs,∀b,Kc v=some b→b<w.heap.size
 | [],[],[],h=>by simp
 | x::xs,y::ys,v::vs,⟨h1,h2,h3⟩=>by
  intro y hy b hb
  rcases QX.1 hy with rfl | hy
  ·rcases h2 with⟨_,rfl,_⟩ | ⟨_,_,q3⟩
   ·cases hb
   ·exact(Qb0 c y x.2).lt q3 b((Qz3 q3).2 hb)
  ·exact Q7x h3 y hy b hb
 | [],[],_::_,h=>h.elim
 | [],_::_,_,h=>h.elim
 | _::_,[],_,h=>h.elim
 | _::_,_::_,[],h=>h.elim
end
def Tp:Value→List Value
 | .tuple vs=>vs.toList
 | _=>[]
abbrev Qh3 (vs:List Value):Prop:=vs.Pairwise fun a b=>∀g,Kc a=some g→Kc b≠some g
def Je6 {κ:Type}(g:Nat)(r:RT κ)(c:CK)(vs:List Value)(xs:List(κ×c.ty.De))(hole:Option κ)(hv:Value)(ok:Ok)(w:World):Prop :=
 ∃ys,(∃es clock,w.heap[g]?=some(.map es clock)∧Xn r Jj4 ok w ys es.toList∧(es.toList.map MapEntry.born).Nodup∧∀e∈es.toList,e.born<clock)∧B8 c hole hv ok w xs ys vs∧(xs.map Prod.fst).Nodup∧Qh3 vs∧(∀v∈vs,Kc v≠some g)∧∀k,hole=some k→k∉xs.map Prod.fst→hv=.slice none 0 0
def Je7 (g:Nat)(vs:List Value){κ:Type}(r:RT κ)(c:CK)(xs:List(κ×c.ty.De))(hole:Option κ)(hv:Value):TL where
 blks:=fun b=>b=g∨∃v∈vs,Kc v=some b
 cov:=fun b _=>b=g∨∃v∈vs,Kc v=some b
 cb:=fun h=>h
 p:=fun ok w=>Je6 g r c vs xs hole hv ok w
 keep:=fun⟨ys,⟨es,cl,h1,h2,h3⟩,h4,h5⟩hb he=>⟨ys,⟨es,cl,by rw [hb _(.inl rfl)]; exact h1,W6 h2 he,h3⟩,Qpo h4(fun v hv b hvb=>hb b(.inr⟨v,hv,hvb⟩))he,h5⟩
 weak:=fun⟨ys,⟨es,cl,h1,h2,h3⟩,h4,h5⟩hk=>⟨ys,⟨es,cl,h1,Vo h2 hk,h3⟩,Ro h4 hk,h5⟩
 lt:=fun⟨_,⟨_,_,h,_⟩,h2,_⟩b hb=>by
  rcases hb with rfl | ⟨v,hv,hb⟩
  ·exact Yh h
  ·exact Q7x h2 v hv b hb
def Ly {k:Ty}(β:Nat→Nat)(ρ:Nat→Value)(c:CK)(hole:Option(k.De×Nat)):Value:=match hole with
 | some q=>(match c with
  | .sl _ _=>ρ q.2
  | .mp _ _=>.map(some(β q.2)))
 | none=>undef
def Qz4 {k:Ty}(hole:Option(k.De×Nat)):Option k.De:=match hole with
 | some q=>some q.1
 | none=>none
def Je8 {κ ν:Type}(g:Nat)(r:RT κ)(s:RT ν)(xs:List(κ×ν))(key:κ)(b:Nat):TL where
 blks:=fun b=>b=g
 cov:=fun b _=>b=g
 cb:=fun h=>h
 p:=fun ok w=>∃es clock,w.heap[g]?=some(.map es clock)∧Xn r s ok w xs es.toList∧(xs.map Prod.fst).Nodup∧(es.toList.map MapEntry.born).Nodup∧(∀e∈es.toList,e.born<clock)∧∃e∈es.toList,isV r ok w key e.key∧e.born=b
 keep:=fun⟨es,c,h1,h2,h3,h4,h5,e,h6,h7,h8⟩hb he=>⟨es,c,by rw [hb _ rfl]; exact h1,W6 h2 he,h3,h4,h5,e,h6,h7.evo he,h8⟩
 weak:=fun⟨es,c,h1,h2,h3,h4,h5,e,h6,h7,h8⟩hk=>⟨es,c,h1,Vo h2 hk,h3,h4,h5,e,h6,h7.weak hk,h8⟩
 lt:=fun⟨_,_,h,_⟩b hb=>by subst hb; exact Yh h
def Qw (β:Nat→Nat)(ρ:Nat→Value)(id:Nat):Ob→TL
 | .var tid c=>Ql2 β ρ(β id)tid c
 | .row e t xs=>ml(ρ id)e(rt t)xs
 | .tail e t xs=>Qch(ρ id)e(rt t)xs
 | .map k v xs=>Rn(β id)(rt k)(rt v)xs
 | .mapC k c xs hole=>Je7(β id)(Tp(ρ id))(rt k)c xs(Qz4 hole)(Ly β ρ c hole)
 | .mapE k v xs key j=>Je8(β id)(rt k)(rt v)xs key(β j)
abbrev Va:=List (Nat×Bool)
structure En where
 t:Nat
 cs:Va
 av:AV
structure St where
 env:List En
 mem:List(Nat×Ob)
def Jt (a:Act)(cs:Va):Prop:=∀c∈cs,a.tmps[c.1]?=some(.bool c.2)
def rd (a:Act)(t:Nat):Option Value:=bif Nat.blt t 100000 then a.tmps[t]? else some(.pointer(some⟨t - 100000,0,none⟩))
theorem Lz {a:Act} {t:Nat}(h:Nat.blt t 100000=true):rd a t=a.tmps[t]?:=by unfold rd; rw [h]; rfl
def enD (β:Nat→Nat)(ρ:Nat→Value)(a:Act)(e:En):DF where
 p:=fun ok w=>(Jt a e.cs→∃cs,rd a e.t=some(e.av.val cs)∧cr β ρ ok w false e.av cs)∧(Jt a e.cs∨rd a e.t=some undef)
 evo:=fun h he=>⟨fun hc=>let⟨cs,h1,h2⟩:=h.1 hc; ⟨cs,h1,Lx h2 he⟩,h.2⟩
 weak:=fun h hk=>⟨fun hc=>let⟨cs,h1,h2⟩:=h.1 hc; ⟨cs,h1,Wd h2 hk⟩,h.2⟩
abbrev Qf (β:Nat→Nat)(ρ:Nat→Value)(mem:List(Nat×Ob)):List TL:=mem.map fun q=>Qw β ρ q.1 q.2
abbrev okR (X:Cx)(β:Nat→Nat)(ρ:Nat→Value)(mem:List(Nat×Ob))(w:World):Ok:=Je X.ok X.w.heap.size(fun _=>0) [](Qf β ρ mem)w
def Rel (X:Cx)(β:Nat→Nat)(ρ:Nat→Value)(S:St)(a:Act)(w:World):Prop :=
 Sb(fun _=>0)X [](S.env.map(enD β ρ a)) [](Qf β ρ S.mem)a w
def Qj0:List En→Nat→Option En
 | [],_=>none
 | e::l,t=>bif Nat.beq e.t t then some e else Qj0 l t
theorem Qj1 {l:List En} {t:Nat} {e:En}(h:Qj0 l t=some e):e∈l∧e.t=t:=by
 induction l with
 | nil=>simp [Qj0] at h
 | cons x l ih =>
  simp only [Qj0] at h
  cases hb:Nat.beq x.t t with
  | true=>rw [hb] at h; simp only [cond_true,Option.some.injEq] at h; subst h; exact⟨.head _,QJ hb⟩
  | false=>rw [hb] at h; exact⟨.tail _(ih h).1,(ih h).2⟩
def Kj (l:List En)(t:Nat):Option En:=bif Nat.blt t 100000 then Qj0 l t else none
theorem Qcj {l:List En} {t:Nat} {e:En}(h:Kj l t=some e):Nat.blt t 100000=true:=by
 unfold Kj at h
 cases hb:Nat.blt t 100000 with
 | true=>rfl
 | false=>rw [hb] at h; cases h
theorem U2 {l:List En} {t:Nat} {e:En}(h:Kj l t=some e):e∈l∧e.t=t:=by
 have hb:=Qcj h
 unfold Kj at h
 rw [hb] at h
 exact Qj1 h
theorem Qz5 {l:List En} {t:Nat} {e:En}(h:Kj l t=some e)(a:Act):rd a e.t=a.tmps[e.t]?:=Lz(by rw [(U2 h).2]; exact Qcj h)
def Jqf (l:List En)(g:Nat):Option En:=Qj0 l(100000+g)
theorem Q5i (a:Act)(g:Nat):rd a(100000+g)=some(.pointer(some⟨g,0,none⟩)):=by
 unfold rd
 have:Nat.blt(100000+g)100000=false:=by
  cases hb:Nat.blt(100000+g)100000 with
  | false=>rfl
  | true=>exact absurd(QE hb)(by omega)
 rw [this]
 simp
def Jj5:Va→Nat×Bool→Bool
 | [],_=>false
 | (t,b)::l,c=>(Nat.beq t c.1&&(b==c.2))||Jj5 l c
theorem Q7y:∀{l:Va} {c:Nat×Bool},Jj5 l c=true→c∈l
 | (t,b)::l,(u,v),h=>by
  simp only [Jj5,JS,QQ] at h
  rcases h with⟨h1,h2⟩ | h
  ·have:=QJ h1
   simp only [beq_iff_eq] at h2
   subst this; subst h2; exact .head _
  ·exact .tail _(Q7y h)
def Qwr:Va→Va→Bool
 | [],_=>true
 | c::l,cur=>Jj5 cur c&&Qwr l cur
theorem Qel:∀{l cur:Va} {a:Act},Qwr l cur=true→Jt a cur→Jt a l
 | [],cur,a,_,_=>by intro c hc; cases hc
 | c::l,cur,a,h,hc=>by
  simp only [Qwr,QQ] at h
  intro x hx
  rcases QX.1 hx with rfl | hx
  ·exact hc _(Q7y h.1)
  ·exact Qel h.2 hc x hx
def Qj2:Value→Option AV
 | .int k n=>some(.d(.int k)n)
 | .bool b=>some(.d .bool b)
 | .string⟨⟨l⟩⟩=>some(.d .str l)
 | .slice none 0 0=>some .ns
 | .pointer none=>some .np
 | .map none=>some .nm
 | .nilFunc=>some .nf
 | _=>none
def Qpp:List Value→Option AV
 | []=>some .nil
 | v::l=>match Qj2 v,Qpp l with
  | some x,some r=>some(.cons x r)
  | _,_=>none
def Qws:Value→Option AV
 | .agg⟨l⟩=>match Qpp l with
  | some r=>some(.ag r)
  | none=>none
 | v=>Qj2 v
section
variable {β:Nat→Nat} {ρ:Nat→Value} {ok:Ok} {w:World}
theorem Qj3 {v:Value} {x:AV}(h:Qj2 v=some x):cr β ρ ok w false x [v]∧x.val [v]=v:=by
 unfold Qj2 at h
 split at h<;>first | (simp at h; done) | skip
 all_goals
  simp only [Option.some.injEq] at h
  subst h
  exact⟨rfl,rfl⟩
theorem Qtx:∀{l:List Value} {x:AV},Qpp l=some x→cr β ρ ok w false x l
 | [],x,h=>by simp [Qpp] at h; subst h; rfl
 | v::l,x,h=>by
  simp only [Qpp] at h
  split at h
  ·rename_i y r h1 h2
   simp at h; subst h
   exact⟨[v],l,rfl,(Qj3 h1).1,Qtx h2⟩
  ·cases h
theorem Qpq {v:Value} {x:AV}(h:Qws v=some x):∃cs,v=x.val cs∧cr β ρ ok w false x cs:=by
 unfold Qws at h
 split at h
 ·rename_i l
  split at h
  ·rename_i r hr
   simp at h; subst h
   exact⟨l,rfl,Qtx(x:=r)hr⟩
  ·cases h
 ·obtain⟨h1,h2⟩:=Qj3(β:=β)(ρ:=ρ)(ok:=ok)(w:=w)h
  exact⟨_,h2.symm,h1⟩
end
def ev (S:St)(cur:Va):Operand→Option AV
 | .tmp t=>match Kj S.env t with
  | some e=>bif Qwr e.cs cur then some e.av else none
  | none=>none
 | .const v=>Qws v
 | .func f=>some(.f f .nil)
 | .global g=>match Jqf S.env g with
  | some e=>bif Qwr e.cs cur then some e.av else none
  | none=>none
def Rp (t:Nat):Va→Bool
 | []=>false
 | c::l=>Nat.beq c.1 t||Rp t l
theorem Qck {t:Nat}:∀{l:Va},Rp t l=false→∀c∈l,c.1≠t
 | [],_,c,hc=>by cases hc
 | d::l,h,c,hc=>by
  simp only [Rp,ZU] at h
  rcases QX.1 hc with rfl | hc
  ·intro e; rw [e] at h; simp [JY] at h
  ·exact Qck h.2 c hc
def Jr:List En→Nat→List En
 | [],_=>[]
 | e::l,t=>bif Nat.beq e.t t||Rp t e.cs then Jr l t else e::Jr l t
theorem Fx {l:List En} {t:Nat} {e:En}(h:e∈Jr l t):e∈l∧e.t≠t∧∀c∈e.cs,c.1≠t:=by
 induction l with
 | nil=>simp [Jr] at h
 | cons x l ih =>
  simp only [Jr] at h
  cases hb:(Nat.beq x.t t||Rp t x.cs)with
  | true=>rw [hb] at h; exact⟨.tail _(ih h).1,(ih h).2⟩
  | false =>
   rw [hb] at h
   simp only [cond_false,QX] at h
   rcases h with rfl | h
   ·simp only [ZU] at hb
    exact⟨.head _,fun e=>by rw [e] at hb; simp [JY] at hb,Qck hb.2⟩
   ·exact⟨.tail _(ih h).1,(ih h).2⟩
def St.put (S:St)(d:Nat)(cs:Va)(x:AV):St:=⟨⟨d,cs,x⟩::Jr S.env d,S.mem⟩
def St.del (S:St)(d:Nat):St:=⟨Jr S.env d,S.mem⟩
section
variable {X:Cx} {β:Nat→Nat} {ρ:Nat→Value} {S:St} {a a':Act} {w w':World}
theorem Jf {ok:Ok} {w:World}:∀{D:List DF},Qhv ok w D↔∀d∈D,d.p ok w
 | []=>by simp [Qhv]
 | d::D=>by simp [Qhv,Jf(D:=D)]
theorem Rel.en (h:Rel X β ρ S a w){e:En}(he:e∈S.env):(enD β ρ a e).p(okR X β ρ S.mem w)w:=Jf.1 h.dat _(QY.2⟨e,he,rfl⟩)
theorem Rel.get (h:Rel X β ρ S a w){t:Nat} {e:En}(he:Kj S.env t=some e)(hc:Jt a e.cs) :
  ∃cs,a.tmps[t]?=some(e.av.val cs)∧cr β ρ(okR X β ρ S.mem w)w false e.av cs:=by
 have hr:=Qz5 he a
 obtain⟨hm,rfl⟩:=U2 he
 rw [←hr]
 exact(h.en hm).1 hc
theorem Rel.ev (h:Rel X β ρ S a w){cur:Va}(hc:Jt a cur){x:Operand} {v:AV}(hx:ev S cur x=some v) :
  ∃cs,a.eval x=v.val cs∧cr β ρ(okR X β ρ S.mem w)w false v cs:=by
 cases x with
 | tmp t =>
  simp only [Gx.ev] at hx
  split at hx
  ·rename_i e he
   cases hb:Qwr e.cs cur with
   | false=>rw [hb] at hx; cases hx
   | true =>
    rw [hb] at hx
    simp at hx; subst hx
    obtain⟨cs,h1,h2⟩:=h.get he(Qel hb hc)
    exact⟨cs,by simp [Act.eval,h1],h2⟩
  ·cases hx
 | const v =>
  obtain⟨cs,h1,h2⟩:=Qpq(β:=β)(ρ:=ρ)(ok:=okR X β ρ S.mem w)(w:=w)hx
  exact⟨cs,h1,h2⟩
 | func f =>
  simp [Gx.ev] at hx; subst hx
  exact⟨[.func(.func f) #[] #[]],rfl,[],rfl,rfl⟩
 | global g =>
  simp only [Gx.ev] at hx
  split at hx
  ·rename_i e he
   cases hb:Qwr e.cs cur with
   | false=>rw [hb] at hx; cases hx
   | true =>
    rw [hb] at hx
    simp at hx; subst hx
    obtain⟨hm,ht⟩:=Qj1 he
    obtain⟨cs,h1,h2⟩:=(h.en hm).1(Qel hb hc)
    rw [ht,Q5i] at h1
    exact⟨cs,Option.some.inj h1,h2⟩
  ·cases hx
theorem Rel.act (h:Rel X β ρ S a w){env':List En}(hs:a'.tmps.size=a.tmps.size)(hd:a'.defers=a.defers)(hr:∀t∈X.res,a'.tmps[t]?=a.tmps[t]?)
  (he:∀e∈env',(enD β ρ a' e).p(okR X β ρ S.mem w)w):Rel X β ρ⟨env',S.mem⟩a' w :=
 {sz:=hs.trans h.sz,df:=hd.trans h.df,fr:=fun t ht=>(hr t ht).trans(h.fr t ht),pn:=h.pn,tm:=by simp,bel:=h.bel,
  dat:=Jf.2 fun d hd=>by obtain⟨e,hm,rfl⟩:=QY.1 hd; exact he e hm,
  obj:=h.obj,own:=h.own,dHH:=h.dHH,dHO:=h.dHO,dOO:=h.dOO }
theorem Y7 {d t:Nat}(hne:t≠d)(v:Value):(a.put(some d)v).tmps[t]?=a.tmps[t]?:=by
 have:d≠t:=fun e=>hne e.symm
 simp [Act.put,this]
theorem Qh4 {d t:Nat}(hne:t≠d)(v:Value):rd(a.put(some d)v)t=rd a t:=by
 unfold rd
 rw [Y7 hne]
theorem en_put (h:Rel X β ρ S a w){d:Nat}(v:Value){e:En}(he:e∈Jr S.env d):(enD β ρ(a.put(some d)v)e).p(okR X β ρ S.mem w)w:=by
 obtain⟨h1,h2,h3⟩:=Fx he
 have hcc:Jt(a.put(some d)v)e.cs↔Jt a e.cs:=⟨fun hc c hm=>by rw [←Y7(h3 c hm)v]; exact hc c hm,fun hc c hm=>by rw [Y7(h3 c hm)v]; exact hc c hm⟩
 refine⟨fun hc=>?_,?_⟩
 ·obtain⟨cs,h4,h5⟩:=(h.en h1).1(hcc.1 hc)
  exact⟨cs,by rw [Qh4 h2]; exact h4,h5⟩
 ·rw [hcc,Qh4 h2]; exact(h.en h1).2
theorem Rel.put (h:Rel X β ρ S a w){d:Nat}(hd:okD X d=true){cs:Va} {x:AV} {v:Value}
  (hx:Jt(a.put(some d)v)cs→∃c,v=x.val c∧cr β ρ(okR X β ρ S.mem w)w false x c)(hu:Jt(a.put(some d)v)cs∨v=undef):Rel X β ρ(S.put d cs x)(a.put(some d)v)w:=by
 refine h.act(by simp [Act.put])rfl(fun k hk=>Y7(fun(e:k=d)=>Qwj hd(e▸hk))v)fun e he=>?_
 rcases QX.1 he with rfl | he
 ·refine⟨fun hc=>?_,hu.imp id fun e=>by rw [Lz(Ri hd)]; simp [Act.put,h.sz,Tm hd,e]⟩
  obtain⟨c,h1,h2⟩:=hx hc
  exact⟨c,by rw [Lz(Ri hd)]; simp [Act.put,h.sz,Tm hd,h1],h2⟩
 ·exact en_put h v he
theorem Rel.del (h:Rel X β ρ S a w){d:Nat}(hd:okD X d=true)(v:Value):Rel X β ρ(S.del d)(a.put(some d)v)w :=
 h.act(by simp [Act.put])rfl(fun k hk=>Y7(fun(e:k=d)=>Qwj hd(e▸hk))v)fun e he=>en_put h v he
theorem Rel.less (h:Rel X β ρ S a w){env':List En}(he:∀e∈env',e∈S.env):Rel X β ρ⟨env',S.mem⟩a w :=
 h.act rfl rfl(fun _ _=>rfl)fun e hm=>h.en(he e hm)
theorem Qc (a:Act):Jt a []:=fun _ h=>by cases h
theorem Rel.put0 (h:Rel X β ρ S a w){d:Nat}(hd:okD X d=true){x:AV} {c:List Value}(hx:cr β ρ(okR X β ρ S.mem w)w false x c):Rel X β ρ(S.put d [] x)(a.put(some d)(x.val c))w :=
 h.put hd(fun _=>⟨c,rfl,hx⟩)(.inl(Qc _))
def Qe:List (Nat×Ob)→Nat→Option Ob
 | [],_=>none
 | q::l,t=>bif Nat.beq q.1 t then some q.2 else Qe l t
def Nw:List (Nat×Ob)→Nat→Ob→List(Nat×Ob)
 | [],_,_=>[]
 | q::l,t,o=>bif Nat.beq q.1 t then(t,o)::l else q::Nw l t o
def Ju:List (Nat×Ob)→Nat→List(Nat×Ob)
 | [],_=>[]
 | q::l,t=>bif Nat.beq q.1 t then l else q::Ju l t
theorem Ji:∀{l:List (Nat×Ob)} {t:Nat} {o:Ob},Qe l t=some o→∃l1 l2,l=l1++(t,o)::l2∧(∀o',Nw l t o'=l1++(t,o')::l2)∧Ju l t=l1++l2
 | q::l,t,o,h=>by
  simp only [Qe] at h
  cases hb:Nat.beq q.1 t with
  | true =>
   rw [hb] at h
   simp at h
   have:=QJ hb
   subst h; subst this
   exact⟨[],l,rfl,fun o'=>by simp [Nw,hb],by simp [Ju,hb]⟩
  | false =>
   rw [hb] at h
   obtain⟨l1,l2,h1,h2,h3⟩:=Ji h
   exact⟨q::l1,l2,by rw [h1]; rfl,fun o'=>by simp [Nw,hb,h2 o'],by simp [Ju,hb,h3]⟩
theorem Rel.ob (h:Rel X β ρ S a w){id:Nat} {o:Ob}(ho:Qe S.mem id=some o) :
  (Qw β ρ id o).p(okR X β ρ S.mem w)w∧∀g,(Qw β ρ id o).blks g→X.mine g:=by
 obtain⟨l1,l2,h1,_⟩:=Ji ho
 exact h.own _(by rw [h1]; simp [Qf])
end
end Gx

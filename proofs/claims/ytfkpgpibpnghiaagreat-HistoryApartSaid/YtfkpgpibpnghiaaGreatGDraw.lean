/- A region whose order is drawn: what each operation gives, whatever the order. -/
import Derived.Test.YtfkpgpibpnghiaaGreatGCore
import Derived.Orders
import Derived.Laws.MakeOwn
import Derived.ProofKit
import Derived.OpenShut
import Derived.Below
import Derived.ChangeSame
namespace Gd
open Go Go.RowKit
set_option linter.unusedVariables false
set_option linter.unusedSimpArgs false
structure FV where
 p:Ok→World→Value→Prop
 evo:∀{ok w w' v},p ok w v→Evo ok w w'→p ok w' v
 weak:∀{ok ok' w v},p ok w v→(∀b o,ok b o→ok' b o)→p ok' w v
def FV.any:FV:=⟨fun _ _ _=>True,fun h _=>h,fun h _=>h⟩
def FV.eq(u:Value):FV:=⟨fun _ _ v=>v=u,fun h _=>h,fun h _=>h⟩
def FV.rep{τ:Type}(r:RT τ)(x:τ):FV:=⟨fun ok w v=>isV r ok w x v,fun h he=>h.evo he,fun h hk=>h.weak hk⟩
def FV.at{τ:Type}(r:RT τ)(x:τ):FV:=⟨fun ok w v=>Qky r ok w x v,fun h he=>h.evo he,fun h hk=>h.weak hk⟩
def Jss(S:Nat→Prop):Nat→Prop
 | 0=>True
 | n+1=>Jss S n∧S n
theorem Jss.get{S:Nat→Prop}:∀{n i:Nat},Jss S n→i<n→S i
 | n+1,i,h,hi=>by
  rcases Nat.lt_or_ge i n with h1 | h1
  ·exact h.1.get h1
  ·have:i=n:=by omega
   subst this; exact h.2
def Qvg(l:List Oper)(i j:Nat):Bool :=
 match l[i]? with
 | some o=>o.after.toList.any fun e=>Region.binds .any e&&Nat.beq e.on j
 | none=>false
def Bd(l:List Oper):Nat→Nat→Nat→Bool
 | 0,_,_=>false
 | f+1,i,j=>match l[i]? with
  | some o=>o.after.toList.any fun e=>Region.binds .any e&&(Nat.beq e.on j||Bd l f e.on j)
  | none=>false
def backB(l:List Oper):Bool:=l.zipIdx.all fun(o,i)=>o.after.toList.all fun e=>!Region.binds .any e||Nat.blt e.on i
def Qyg:List Nat→Bool
 | []=>true
 | d::ds=>Qnd ds d&&Qyg ds
section
variable {P:Program} {T:Tab} {β:Nat→Nat} {X:Cx} {G:GL} {D:List DF} {H:HL} {O:List TL} {a:Act} {w w':World}
def Jnp:List Nat→Nat→List Nat
 | [],_=>[]
 | k::ks,d=>bif Nat.beq k d then Jnp ks d else k::Jnp ks d
def Jum(W:List (Option (Value→TL)))(i:Nat):Option (Value→TL):=match W[i]? with
 | some q=>q
 | none=>none
def Jnq(W:List (Option (Value→TL)))(i d:Nat)(Ox Ox':List TL)(a':Act):Prop :=
 match Jum W i with
 | some mk=>Ox'=mk (a'.tmps.getD d undef)::Ox
 | none=>Ox'=Ox
theorem Y7{α β:Type}{f f':α→Option β}:∀{l:List α},(∀j∈l,f' j=f j)→l.filterMap f'=l.filterMap f
 | [],_=>rfl
 | y::ys,h=>by
  simp only[JR,h y (.head _),Y7 fun j hj=>h j (.tail _ hj)]
def Qhe(q:List (Option (Value→TL)))(β0:Nat→Nat)(P:Program)(l:List Oper)(X:Cx)(G:GL)(D:List DF)(H:HL)(O:List TL)(ds:List Nat)(F Fo:List FV)(i:Nat):Prop :=
 match ds[i]?,F[i]?,l[i]? with
 | some d,some fv,some o =>
  ∀(β:Nat→Nat) (a:Act) (w:World) (dX:DF) (Ox:List TL) (Q:Exit→Act→World→Prop),Sb β ⟨X.n,X.ok,X.w,Jnp ds d,a,some β0,X.lent,X.lok,X.dfs⟩ G (dX::D) H (Ox++O) a w →
   (∀(j e:Nat) (gv:FV),Qvg l i j=true→ds[j]?=some e→F[j]?=some gv→gv.p (Jk X.ok X.w.heap.size β H (Ox++O) w) w (a.tmps.getD e undef)) →
   (∀(j e:Nat) (gv:FV),Qvg l j i=true→ds[j]?=some e→Fo[j]?=some gv→gv.p (Jk X.ok X.w.heap.size β H (Ox++O) w) w (a.tmps.getD e undef)) →
   (∀β' a' w' Ox',Sb β' ⟨X.n,X.ok,X.w,Jnp ds d,a,some β0,X.lent,X.lok,X.dfs⟩ G (dX::D) H (Ox'++O) a' w'→fv.p (Jk X.ok X.w.heap.size β' H (Ox'++O) w') w' (a'.tmps.getD d undef)→Jnq q i d Ox Ox' a'→Q .normal a' w') →
   wpList P ⟨l⟩ Q [o] a w
 | _,_,_=>True
theorem Qvh:∀{ds:List Nat},Qyg ds=true→ds.Nodup
 | [],_=>List.Pairwise.nil
 | d::ds,h=>by
  simp only[Qyg,QJ]at h
  exact List.Pairwise.cons (fun e he hd=>Q1j h.1 (hd▸he)) (Qvh h.2)
theorem Qk5{l:List Oper}{listed:Array Bool}{i:Nat}:i∈Region.ready .any ⟨l⟩ listed ↔
  i<l.length∧listed.getD i true=false∧∃o,l[i]?=some o∧∀e∈o.after.toList,Region.binds .any e=true→listed.getD e.on false=true:=by
 simp only[Region.ready,QU,JL,XJ]
 constructor
 ·rintro⟨h1,h2⟩
  simp only[QJ,JN]at h2
  grind [Array,Oper,Array.all_eq_true_iff_forall_mem]
 grind
def Qqp(l:List Oper)(E:Nat→Prop):Prop:=∀i o,E i→l[i]?=some o→∀e∈o.after.toList,Region.binds .any e=true→E e.on
theorem Sg{l:List Oper}{E:Nat→Prop}(hc:Qqp l E):∀(f i j:Nat),Bd l f i j=true→(∀o,l[i]?=some o→∀e∈o.after.toList,Region.binds .any e=true→E e.on)→E j
 | 0,_,_,h,_=>by simp[Bd]at h
 | f+1,i,j,h,hi=>by
  simp only[Bd]at h
  split at h
  ·rename_i o ho
   obtain⟨e,he,hb⟩:=ZI.1 h
   simp only[QJ,JU]at hb
   have hE:=hi o ho e he hb.1
   rcases hb.2 with h1 | h1
   ·rw[←Nat.eq_of_beq_eq_true h1]; exact hE
   ·exact Sg hc f e.on j h1 fun o' ho'=>hc _ o' hE ho'
  ·cases h
theorem Jnr{l:List Oper}{i:Nat}{o:Oper}(h:backB l=true)(ho:l[i]?=some o){e:Edge}(he:e∈o.after.toList)(hb:Region.binds .any e=true):e.on<i:=by
 have hm:(o,i)∈l.zipIdx:=by
  rw[List.mem_zipIdx_iff_getElem?]; simpa using ho
 have:=JX.1 h _ hm
 have:=JX.1 this e he
 simp_all
theorem Q7o{l:List Oper}{listed:Array Bool}(hs:listed.size=l.length)(hb:backB l=true)(hr:Region.ready .any ⟨l⟩ listed=[]):∀i,i<l.length→listed.getD i false=true:=by
 intro i
 induction i using Nat.strongRecOn with
 | _ i ih =>
  intro hi
  cases hl:listed.getD i false with
  | true=>rfl
  | false =>
   exfalso
   have:i∈Region.ready .any ⟨l⟩ listed:=by
    rw[Qk5]
    refine⟨hi,?_,l[i],by simp[hi],fun e he hbe=>?_⟩
    ·grind
    ·have hlt:=Jnr (o:=l[i]) hb (List.getElem?_eq_getElem hi) he hbe
     grind
   rw[hr]at this
   simp at this
theorem Qyh{l:List Oper}{Q:Exit→Act→World→Prop}{i:Nat}{o:Oper}{K:Act→World→Prop}(ho:l[i]?=some o)(h:wpList P ⟨l⟩ (Exit.then K Q) [o] a w):wpOp P ⟨l⟩ Q i K a w:=by
 have ho':(⟨l⟩:Array Oper)[i]?=some o:=by simpa using ho
 unfold wpOp
 rw[ho']
 unfold wpList at h
 simp only
 split
 ·rename_i hw
  rw[if_pos hw]at h
  rcases h with h | ⟨h1,h2⟩
  ·left
   unfold Oper.wp at *
   generalize (execOp a.eval o).run P w=res at *
   cases res with
   | ok nx w1 =>
    cases nx<;>first
     | exact h
     | exact Calls.mono h (fun e w'' he=>by cases e<;>exact he)
     | exact Rows.mono h (fun _ _ he=>he)
   | halt x w1=>cases x<;>exact h
  ·exact .inr ⟨h1,h2⟩
 ·rename_i hw
  rw[if_neg hw]at h
  exact h
theorem Qi1{l:List Oper}{Q:Exit→Act→World→Prop}{i:Nat}{o:Oper}(ho:l[i]?=some o)(h:wpList P ⟨l⟩ Q (l.drop i) a w):wpOp P ⟨l⟩ Q i (wpList P ⟨l⟩ Q (l.drop (i+1))) a w:=by
 have ho':(⟨l⟩:Array Oper)[i]?=some o:=by simpa using ho
 have hi:=(List.getElem?_eq_some_iff.1 ho).1
 rw[List.drop_eq_getElem_cons hi,(List.getElem?_eq_some_iff.1 ho).2]at h
 unfold wpOp
 rw[ho']
 exact h
theorem Sb.perm{O':List TL}(h:Sb β X G D H O a w)(hp:O.Perm O'):Sb β X G D H O' a w:=by
 have hok:∀b o,Jk X.ok X.w.heap.size β H O w b o→Jk X.ok X.w.heap.size β H O' w b o:=fun b o ⟨h1,h2,h3,h4⟩=>⟨h1,h2,h3,fun u hu=>h4 u (hp.mem_iff.2 hu)⟩
 refine { sz:=h.sz,df:=h.df,fr:=h.fr,pn:=h.pn,tm:=h.tm,bel:=h.bel,dat:=h.dat.weak hok,obj:=h.obj,own:=fun u hu=>⟨u.weak (h.own u (hp.mem_iff.2 hu)).1 hok,(h.own u (hp.mem_iff.2 hu)).2⟩,dHH:=h.dHH,dHO:=fun p hp' u hu=>h.dHO p hp' u (hp.mem_iff.2 hu),dOO:=?_ }
 exact(hp.pairwise_iff (fun {x y} hxy g hg hg2=>hxy g hg2 hg)).1 h.dOO
theorem Sb.getD(h:Sb β X G D H O a w){d:Nat}{v:Value}(hv:Jo G d=some (.v v)):a.tmps.getD d undef=v:=by
 have:=h.tm _ (Dq hv)
 simp_all [Zc,JJ]
end
end Gd

/- Struct equality, literals of the call's own, results in cells, local arrays, function values. -/
namespace Gd
open Go Go.RowKit
set_option linter.unusedVariables false
set_option linter.unusedSimpArgs false
def Qqq(T:Tab):List Field→List Value→List Value→Option Bool
 | [],_,_=>some true
 | f::fs,xs,ys=>match Qj T f.type,xs[f.offset]?,ys[f.offset]?,Qqq T fs xs ys with
  | some ⟨_,.int _,_,_,_⟩,some (.int k a),some (.int k' b),some r=>bif Sf k k' then some ((a==b)&&r)else none
  | some ⟨_,.bool,_,_,_⟩,some (.bool a),some (.bool b),some r=>some ((a==b)&&r)
  | some ⟨_,.string,_,_,_⟩,some (.string ⟨⟨a⟩⟩),some (.string ⟨⟨b⟩⟩),some r=>some ((a==b)&&r)
  | _,_,_,_=>none
def Rb(fs:List Field):Bool:=fs.all fun f=>f.name != "_"
section
variable {P:Program} {T:Tab} {β:Nat→Nat} {X:Cx} {G:GL} {D:List DF} {H:HL} {O:List TL} {a:Act} {w w':World}
variable {ops:Array Oper} {Q:Exit→Act→World→Prop} {rest:List Oper}
theorem Qhf(hT:Q9 P T){t:TypeId}{e:TE}(he:Qj T t=some e)(ha:Zy e.d=false){xs:List Value}{off:Nat}{v:Value}(hv:xs[off]?=some v) :
  (part t xs.toArray off).run P w=.ok v w:=Qiw hT w he xs off (by rw[ha]; simpa using hv)
theorem Qyi(hT:Q9 P T)(d:Nat):∀{fs:List Field} {xs ys:List Value} {r:Bool},Rb fs=true→Qqq T fs xs ys=some r→(Op.eqFields (d+1) xs.toArray ys.toArray fs).run P w=.ok r w
 | [],xs,ys,r,_,h=>by simp[Qqq]at h; subst h; rfl
 | f::fs,xs,ys,r,hb,h=>by
  simp only[Rb,ZG,QJ]at hb
  have hn:f.name ≠ "_" := by grind
  simp only[Qqq]at h
  have key:∀{e:TE} {u v:Value} {p q:Bool},Qj T f.type=some e→Zy e.d=false→xs[f.offset]?=some u→ys[f.offset]?=some v →
    (Op.equalIn (d+1) f.type u v).run P w=.ok p w→Qqq T fs xs ys=some q→(Op.eqFields (d+1) xs.toArray ys.toArray (f::fs)).run P w=.ok (p&&q) w:=by
   intro e u v p q he ha hu hv hp hq
   have ih:=Qyi hT d (by grind [Rb]) hq
   simp only[Op.eqFields,ne_eq,hn,not_false_eq_true,if_true,Sem.run_bind,Qhf hT he ha hu,Qhf hT he ha hv,Result.andThen_ok,hp]
   cases p with
   | true=>simpa using ih
   | false=>simp
  split at h
  ·rename_i t1 k z1 s1 b1 k1 a1 k2 a2 q he hu hv hq
   cases hk:Sf k1 k2 with
   | false=>rw[hk]at h; cases h
   | true =>
    rw[hk]at h
    simp only[cond_true,Option.some.injEq]at h
    subst h
    have:=Iq hk
    subst this
    exact key he rfl hu hv (run_equalIn_int w d f.type k1 k a1 a2 (Jv hT he).2) hq
  ·rename_i he hu hv hq
   simp at h; subst h
   exact key he rfl hu hv (run_equalIn_bool' w d f.type _ _ (Jv hT he).2) hq
  ·rename_i t1 z1 s1 b1 a1 a2 q he hu hv hq
   simp at h; subst h
   refine key he rfl hu hv ?_ hq
   rw[run_equalIn_string w d f.type ⟨⟨a1⟩⟩ ⟨⟨a2⟩⟩ (Jv hT he).2]
   rw[show(ByteArray.mk ⟨a1⟩).toList=a1 from ByteArray.toList_mk a1,show(ByteArray.mk ⟨a2⟩).toList=a2 from ByteArray.toList_mk a2]
  ·cases h
theorem Sb.allocTL(h:Sb β X G D H O a w)(hb:Below w.heap.size w w'){t:TL}(ht:∀g,t.blks g→w.heap.size≤g)(hq:t.p (Jk X.ok X.w.heap.size β H (t::O) w') w'):Sb β X G D H (t::O) a w':=by
 have h':=h.below hb
 have hevo:Evo (Jk X.ok X.w.heap.size β H O w) w w':=(Evo.of_below hb).mono fun b o hk=>hk.2.1
 have hok:∀b o,Jk X.ok X.w.heap.size β H O w b o→Jk X.ok X.w.heap.size β H (t::O) w' b o:=by
  rintro b o ⟨h1,h2,h3,h4⟩
  refine⟨h1,QP h2 hb.size,h3,fun u hu hc=>?_⟩
  rcases QX.1 hu with rfl | hu
  ·have:=ht b (u.cb hc); omega
  ·exact h4 u hu hc
 refine { h' with dat:=(h.dat.evo hevo).weak hok,own:=fun u hu=>?_,dHO:=fun p hp u hu=>?_,dOO:=List.Pairwise.cons (fun u hu g hg hg2=>?_) h'.dOO }
 ·rcases QX.1 hu with rfl | hu
  ·exact⟨hq,fun g hg=>.inl (Nat.le_trans h.bel.size (ht g hg))⟩
  ·exact⟨u.weak (u.keep (h.own u hu).1 (fun g hg=>hb.block g (h.olt hu hg)) hevo) hok,(h.own u hu).2⟩
 ·rcases QX.1 hu with rfl | hu
  ·intro hg
   have:=ht _ hg
   have:=h.hlt hp
   omega
  ·exact h'.dHO p hp u hu
 ·have:=ht g hg
  have:=h.olt hu hg2
  omega
theorem Sb.allocOwn(h:Sb β X G D H O a w)(hb:Below w.heap.size w w'){v:Value}{e sz m:Nat}{xs:List Value}(hv:v.ownBlock=some w.heap.size∨v.ownBlock=none)(hm:Wn v=m)(hown:w'.ownsRowS 0 e sz v m xs) :
  Sb β X G D H (tl v e sz::O) a w':=by
 subst hm
 refine h.allocTL hb (t:=tl v e sz) (fun g hg=>?_) ⟨xs,hown⟩
 rcases hv with hv | hv
 ·have hg:v.ownBlock=some g:=hg
  rw[hv]at hg; grind
 ·have hg:v.ownBlock=some g:=hg
  rw[hv]at hg; cases hg
theorem Jns(w:World)(B:Nat)(hB:B≤w.heap.size)(e sz m:Nat)(cs:List Value)(hl:cs.length=m*sz)(hm:m≤maxLen) :
  (w.alloc (.cells cs.toArray e)).ownsRowS B e sz (.slice (some ⟨w.heap.size,0,none⟩) m m) m cs :=
 ⟨hl,.inr ⟨w.heap.size,m,cs.toArray,(0,0),rfl,hB,heap_alloc_new w _,.inl rfl,QG _,hm,by simp[hl],by rw[←hl]; simp⟩⟩
theorem Qqr(hT:Q9 P T)(h:Sb β X G D H O a w){t:TypeId}{d:Nat}{ps:String}{af:Array Edge}{ty:TypeId}{gd:Option (Nat×Bool)}
  (hg:Bb ops G ⟨some d,.buildSlice t 0 ⟨[]⟩,ty,ps,af,gd⟩=some true) (hlt:okD X d=true)
  {τ:Type} {r:RT τ} {e:TypeId} {te ee:TE} (ht:Qj T t=some te) (htd:te.d=.slice e) (he:Qj T e=some ee)
  (hk:∀b a' w',isV (rSl r) (Jk X.ok X.w.heap.size β H (tl (.slice (some ⟨b,0,none⟩) (List.length ([]:List τ)) 0) e ee.size::O) w') w' [] (.slice (some ⟨b,0,none⟩) (List.length ([]:List τ)) 0) →
   Sb β X (He G d (.v (.slice (some ⟨b,0,none⟩) (List.length ([]:List τ)) 0))) D H (tl (.slice (some ⟨b,0,none⟩) (List.length ([]:List τ)) 0) e ee.size::O) a' w'→wpList P ops Q rest a' w') :
  wpList P ops Q (⟨some d,.buildSlice t 0 ⟨[]⟩,ty,ps,af,gd⟩::rest) a w:=by
 have hrun:(execOp a.eval ⟨some d,.buildSlice t 0 ⟨[]⟩,ty,ps,af,gd⟩).run P w=.ok (.value (.slice (some ⟨w.heap.size,0,none⟩) 0 0)) (w.alloc (.cells #[] e)):=by
  have hun:(underlying t).run P w=.ok (.slice e) w:=by rw[Jh hT w ht,htd]
  unfold execOp
  simp[Instr.buildSlice,hun,J0 hT w he,Instr.fill,newRow]
  rw[show Array.range 0=#[]from by grind]
  simp
 refine Jw (Zp h hg) (Yj hrun ?_)
 have hb:Below w.heap.size w (w.alloc (.cells #[] e)):=(Below.refl _ _).alloc (QG _) _
 exact hk _ _ _ (Xb.2 ⟨_,0,0,rfl,rfl,QG _,fun h=>absurd h (by omega)⟩)
  ((h.allocOwn hb (.inl rfl) rfl (Jns w 0 (JQ _) e ee.size 0 [] (by simp) (by simp[maxLen]))).put hlt (.v _))
end
end Gd

/- Results that are rows of the caller's own; local arrays; objects that are no longer written; function values. -/
namespace Gd
open Go Go.RowKit
set_option linter.unusedVariables false
set_option linter.unusedSimpArgs false
section
variable {P:Program} {T:Tab} {β:Nat→Nat} {X:Cx} {G:GL} {D:List DF} {H:HL} {O:List TL} {a:Act} {w w':World}
variable {ops:Array Oper} {Q:Exit→Act→World→Prop} {rest:List Oper}
end
end Gd

/- Local arrays of integers. -/
namespace Gd
open Go Go.RowKit
set_option linter.unusedVariables false
set_option linter.unusedSimpArgs false
def DF.pure(p:Prop):DF:=⟨fun _ _=>p,fun h _=>h,fun h _=>h⟩
section
variable {P:Program} {T:Tab} {β:Nat→Nat} {X:Cx} {G:GL} {D:List DF} {H:HL} {O:List TL} {a:Act} {w w':World}
variable {ops:Array Oper} {Q:Exit→Act→World→Prop} {rest:List Oper}
end
end Gd

/- Division and shifts by what is not a constant. -/
namespace Gd
open Go Go.RowKit
set_option linter.unusedVariables false
set_option linter.unusedSimpArgs false
def Qk6(k:IntKind)(x y:Int):Option Int:=if y=0 then none else some (k.wrap (x.tdiv y))
def Qyj(x y:Int):Option Int:=if y=0 then none else some (x.tmod y)
def Jdi(k:IntKind)(x y:Int):Option Int:=if y<0 then none else some (x.fdiv (2 ^ (min y.toNat k.bits)))
def Jdj(k:IntKind)(x y:Int):Option Int:=if y<0 then none else some (k.wrap (x*2 ^ (min y.toNat k.bits)))
section
variable {P:Program} {T:Tab} {β:Nat→Nat} {X:Cx} {G:GL} {D:List DF} {H:HL} {O:List TL} {a:Act} {w w':World}
variable {ops:Array Oper} {Q:Exit→Act→World→Prop} {rest:List Oper}
theorem Jnt{t:TypeId}{k:IntKind}{u v z:Int}(h:Qk6 k u v=some z)(w:World):(binOp .quo t (.int k u) (.int k v)).run P w=.ok (.int k z) w:=by
 simp_all [Qk6,Option.some.inj,binOp_quo,Op.intDiv,if_neg]
theorem Jnu{t:TypeId}{k:IntKind}{u v z:Int}(h:Qyj u v=some z)(w:World):(binOp .rem t (.int k u) (.int k v)).run P w=.ok (.int k z) w:=by
 simp_all [Qyj,Option.some.inj,binOp_rem,Op.intDiv,if_neg]
theorem Jnv{t:TypeId}{k k2:IntKind}{u v z:Int}(h:Jdi k u v=some z)(w:World):(binOp .shr t (.int k u) (.int k2 v)).run P w=.ok (.int k z) w:=by
 simp_all [Jdi,Option.some.inj,binOp_shr,Op.shift,if_neg]
theorem Jnw{t:TypeId}{k k2:IntKind}{u v z:Int}(h:Jdj k u v=some z)(w:World):(binOp .shl t (.int k u) (.int k2 v)).run P w=.ok (.int k z) w:=by
 unfold Jdj at h
 split at h
 ·cases h
 ·rename_i hv
  have:=Option.some.inj h; subst this
  show(Op.shift .shl k u k2 v).run P w=_
  simp_all [Op.shift,if_neg]
end
end Gd

/- Rows of the call's own whose elements are written. -/
namespace Gd
open Go Go.RowKit
set_option linter.unusedVariables false
set_option linter.unusedSimpArgs false
theorem Be{τ:Type}{r:RT τ}{ok:Ok}{w w':World}{xs:List τ}{cs:List Value}(h:We r ok w xs cs)(he:Evo ok w w'):We r ok w' xs cs:=((Jhw xs.length r).evo (x:=xs) ⟨rfl,h⟩ he).2
theorem Gj{τ:Type}{r:RT τ}{ok ok':Ok}{w:World}{xs:List τ}{cs:List Value}(h:We r ok w xs cs)(hk:∀b o,ok b o→ok' b o):We r ok' w xs cs:=((Jhw xs.length r).weak (x:=xs) ⟨rfl,h⟩ hk).2
theorem Qvi{τ:Type}{r:RT τ}{ok:Ok}{w:World}{xs:List τ}{cs:List Value}(h:We r ok w xs cs):∀c∈cs,c.oneCell'=true:=(Jhw xs.length r).flat (x:=xs) ⟨rfl,h⟩
def ml{τ:Type}(v:Value)(e:Nat)(r:RT τ)(xs:List τ):TL where
 blks:=fun g=>v.ownBlock=some g
 cov:=fun b _=>v.ownBlock=some b
 cb:=fun h=>h
 p:=fun ok w=>Wn v=xs.length∧∃cs,w.ownsRowS 0 e r.size v (Wn v) cs∧We r ok w xs cs
 keep:=fun⟨h1,cs,h2,h3⟩ hb he=>⟨h1,cs,T7 h2 hb,Be h3 he⟩
 weak:=fun⟨h1,cs,h2,h3⟩ hk=>⟨h1,cs,h2,Gj h3 hk⟩
 lt:=fun⟨_,_,h,_⟩ g hg=>(h.lt g hg).2
theorem Bf{τ:Type}{r:RT τ}{ok:Ok}{w:World}:∀{xs:List τ} {cs:List Value},We r ok w xs cs→∀{i:Nat} {y:τ},xs[i]?=some y→r.rep ok w y ((cs.drop (i*r.size)).take r.size)
 | x::xs,cs,⟨c1,c2,e,h1,h2⟩,i,y,hy=>by
  subst e
  have hl:=r.len h1
  cases i with
  | zero =>
   grind
  | succ i =>
   simp at hy
   have:=Bf h2 hy
   have e:(c1++c2).drop ((i+1)*r.size)=c2.drop (i*r.size):=by
    rw[Nat.add_mul,VH,ZR,←hl,←List.drop_drop,List.drop_left,hl]
   rw[e]; exact this
theorem Jh2{τ:Type}{r:RT τ}{ok:Ok}{w:World}{e:Nat}{xs:List τ}{A:Option Addr}{m c:Nat}(h:(ml (.slice A m c) e r xs).p ok w):Q1t r ok w xs A m c:=by
 obtain⟨hl,cs,hown,hr⟩:=h
 have hm:Wn (.slice A m c)=m:=rfl
 rw[hm]at hl hown
 have hrep:∀i x,xs[i]?=some x→∃ds,r.rep ok w x ds∧∀(j:Nat) u,ds[j]?=some u→cs[i*r.size+j]?=some u:=fun i x hx=>by
  refine⟨_,Bf hr hx,fun j u hu=>?_⟩
  rw[JC]at hu
  grind
 rcases hown.2 with⟨hv,h0⟩ | ⟨g,cap,cur,fz,hv,_,_,_,hle,_⟩
 ·injection hv with e1 e2 e3
  exact⟨cs,hown.1,hl.symm,by omega,fun _=>h0,Qvi hr,fun h=>absurd h (by omega),hrep⟩
 ·have hg:(Value.slice A m c).ownBlock=some g:=by rw[hv]; rfl
  have hcell:=hown.cells hg
  injection hv with e1 e2 e3
  exact⟨cs,hown.1,hl.symm,by omega,(fun h=>absurd (e1.symm.trans h) (by simp)),Qvi hr,fun _=>⟨g,0,e1,fun j u hu=>by rw[←E6]; grind⟩,hrep⟩
theorem Qqs{τ:Type}{r:RT τ}{ok:Ok}{w:World}:∀{xs:List τ} {cs:List Value},We r ok w xs cs→∀{i:Nat} {z:τ} {ds:List Value},i<xs.length→r.rep ok w z ds →
  We r ok w (xs.set i z) (cs.take (i*r.size)++ds++cs.drop (i*r.size+ds.length))
 | x::xs,cs,⟨c1,c2,e,h1,h2⟩,i,z,ds,hi,hz=>by
  subst e
  have hl:=r.len h1
  have hd:=r.len hz
  cases i with
  | zero =>
   refine⟨ds,c2,?_,hz,h2⟩
   grind
  | succ i =>
   refine⟨c1,_,?_,h1,Qqs h2 (by simpa using hi) hz⟩
   have e1:(i+1)*r.size=c1.length+i*r.size:=by rw[Nat.add_mul,hl]; omega
   rw[e1,ZL,List.append_assoc,List.append_assoc,List.append_assoc,XH,List.take_of_length_le (by omega)]
   grind [Nat.add_assoc,List.drop_drop,List.drop_left]
theorem Pl{τ:Type}{r:RT τ}{ok:Ok}{w:World}:∀{xs ys:List τ} {cs ds:List Value},We r ok w xs cs→We r ok w ys ds→We r ok w (xs++ys) (cs++ds)
 | [],ys,cs,ds,h,h2=>by grind [We]
 | x::xs,ys,cs,ds,⟨c1,c2,e,h1,h3⟩,h2=>by subst e; exact⟨c1,c2++ds,by rw[List.append_assoc],h1,Pl h3 h2⟩
theorem Qi2{τ:Type}{r:RT τ}{ok:Ok}{w:World}:∀(xs:List τ) (cs:List Value),cs.length=xs.length*r.size→(∀i x,xs[i]?=some x→∃ds,r.rep ok w x ds∧∀(j:Nat) u,ds[j]?=some u→cs[i*r.size+j]?=some u)→We r ok w xs cs
 | [],cs,hl,_=>by simp_all [We,QD]
 | x::xs,cs,hl,h=>by
  obtain⟨ds,hr,hd⟩:=h 0 x rfl
  have hdl:=r.len hr
  have hl':cs.length=r.size+xs.length*r.size:=by rw[hl]; grind
  refine⟨ds,cs.drop r.size,?_,hr,Qi2 xs _ (by simp; omega) fun i y hy=>?_⟩
  ·have:cs.take r.size=ds:=by
    apply KU
    grind
   rw[←this,List.take_append_drop]
  ·obtain⟨es,he,hc⟩:=h (i+1) y (by simpa using hy)
   grind
section
variable {P:Program} {T:Tab} {β:Nat→Nat} {X:Cx} {G:GL} {D:List DF} {H:HL} {O:List TL} {a:Act} {w w':World}
variable {ops:Array Oper} {Q:Exit→Act→World→Prop} {rest:List Oper}
theorem Sb.mget(h:Sb β X G D H O a w){τ:Type}{r:RT τ}{xs:List τ}{A:Option Addr}{m c:Nat}{e:Nat}(hm:ml (.slice A m c) e r xs∈O){j:Int}{y:τ}(hy:idx xs j=some y)(hpos:0<r.size) :
  ∃g cap cur fz,A=some ⟨g,0,none⟩∧(w.heap[g]?=some (.cells cur e fz)∧Qyd fz cur.size)∧m=xs.length∧j.toNat<m∧m≤cap∧cap*r.size≤cur.size∧c=cap∧cap≤maxLen ∧
   We r (Jk X.ok X.w.heap.size β H O w) w xs (cur.toList.take (m*r.size)):=by
 obtain⟨⟨hl,cs,hown,hr⟩,_⟩:=h.own _ hm
 obtain⟨h0,h1⟩:=Gn hy
 have hlt:=(List.getElem?_eq_some_iff.1 h1).1
 simp only[Wn]at hl hown
 rcases hown.2 with⟨hv,h0⟩ | ⟨g,cap,cur,fz,hv,_,hh,hfz,hle,hcm,hcs,htk⟩
 ·omega
 ·injection hv with e1 e2 e3
  exact⟨g,cap,cur,fz,e1,⟨hh,hfz⟩,hl,by omega,hle,hcs,e3,hcm,by rw[htk]; exact hr⟩
theorem Qvj{cur:Array Value}{g e:Nat}{fz:Nat×Nat}(hh:w.heap[g]?=some (.cells cur e fz))(i:Nat):w.cell? ⟨g,i,none⟩=cur.toList[i]?:=by
 simp[World.cell?,hh]
theorem Jdk(L ds:List Value){a s M off:Nat}(h1:a+s≤M)(h2:off+ds.length≤s)(h3:M≤L.length) :
  ((L.take (a+off)++ds++L.drop (a+off+ds.length)).take M) =
   (L.take M).take a++(((L.drop a).take s).take off++ds++((L.drop a).take s).drop (off+ds.length))++(L.take M).drop (a+s):=by
 apply KU
 intro i
 simp only[List.getElem?_append,JC,JD,List.length_append,List.length_take,List.length_drop]
 grind
theorem Sb.upd(h:Sb β X G D H O a w){O1 O2:List TL}{t t':TL}(hO:O=O1++t::O2)(hos:w'.os=w.os)(htp:w'.tape=w.tape)(hout:w'.output=w.output)(hsz:w.heap.size≤w'.heap.size)
  (hblk:∀b,b<w.heap.size→¬ t.blks b→w'.heap[b]?=w.heap[b]?) (hcov:∀b o,t.blks b→t.cov b o) (hb':∀g,t'.blks g→t.blks g∨w.heap.size≤g)
  (hp:Evo (Jk X.ok X.w.heap.size β H O w) w w'→(∀b o,Jk X.ok X.w.heap.size β H O w b o→Jk X.ok X.w.heap.size β H (O1++t'::O2) w' b o)→t'.p (Jk X.ok X.w.heap.size β H (O1++t'::O2) w') w') :
  Sb β X G D H (O1++t'::O2) a w':=by
 subst hO
 have hmem:t∈O1++t::O2:=by simp
 have hmine:=(h.own _ hmem).2
 have hevo:Evo (Jk X.ok X.w.heap.size β H (O1++t::O2) w) w w':=Evo.of_blocks hsz fun b o hk=>hblk b hk.2.1 fun hb=>hk.2.2.2 t hmem (hcov b o hb)
 have hok:∀b o,Jk X.ok X.w.heap.size β H (O1++t::O2) w b o→Jk X.ok X.w.heap.size β H (O1++t'::O2) w' b o:=by
  rintro b o ⟨h1,h2,h3,h4⟩
  refine⟨h1,QP h2 hsz,h3,fun u hu hc=>?_⟩
  rcases QZ.1 hu with hu | hu
  ·grind
  ·rcases QX.1 hu with rfl | hu
   ·rcases hb' b (u.cb hc)with hb | hb
    ·grind
    ·omega
   grind
 have hpw:=QE.1 h.dOO
 have hpw2:=List.pairwise_cons.1 hpw.2.1
 have hoth:∀u∈O1++O2,∀g,u.blks g→¬ t.blks g∧g<w.heap.size:=by
  intro u hu g hg
  refine⟨fun hb=>?_,h.olt (by rcases QZ.1 hu with hu | hu<;>simp[hu]) hg⟩
  grind
 have hnew:∀u∈O1++O2,∀g,u.blks g→¬ t'.blks g:=by
  grind
 refine { sz:=h.sz,df:=h.df,fr:=h.fr,pn:=h.pn,tm:=h.tm,bel:=?_,dat:=(h.dat.evo hevo).weak hok,obj:=?_,own:=?_,dHH:=h.dHH,dHO:=?_,dOO:=?_ }
 ·exact h.bel.trans ⟨hos,htp,hout,hsz,fun k hk hn=>hblk k (QP hk h.bel.size) fun hb=>(hmine k hb).elim (fun h=>by omega) hn⟩
 ·intro p hp'
  refine⟨?_,(h.obj p hp').2⟩
  rw[hblk _ (h.hlt hp') (h.dHO p hp' t hmem)]
  exact(h.obj p hp').1
 ·intro u hu
  have keep:∀u∈O1++O2,u.p (Jk X.ok X.w.heap.size β H (O1++t'::O2) w') w'∧∀g,u.blks g→X.mine g:=by
   intro u hu
   have hu':u∈O1++t::O2:=by rcases QZ.1 hu with hu | hu<;>simp[hu]
   exact⟨u.weak (u.keep (h.own u hu').1 (fun g hg=>hblk g (hoth u hu g hg).2 (hoth u hu g hg).1) hevo) hok,(h.own u hu').2⟩
  rcases QZ.1 hu with hu | hu
  ·grind
  ·rcases QX.1 hu with rfl | hu
   ·exact⟨hp hevo hok,fun g hg=>(hb' g hg).elim (hmine g) fun hb=>.inl (Nat.le_trans h.bel.size hb)⟩
   grind
 ·intro p hp' u hu
  rcases QZ.1 hu with hu | hu
  ·exact h.dHO p hp' u (by simp[hu])
  ·rcases QX.1 hu with rfl | hu
   ·intro hb
    rcases hb' _ hb with hb | hb
    ·exact h.dHO p hp' t hmem hb
    ·have:=h.hlt hp'; omega
   ·exact h.dHO p hp' u (by simp[hu])
 ·refine QE.2 ⟨hpw.1,List.pairwise_cons.2 ⟨fun u hu g hg hg2=>hnew u (by simp[hu]) g hg2 hg,hpw2.2⟩,?_⟩
  grind
theorem Sb.mset(h:Sb β X G D H O a w)(O1 O2:List TL){τ:Type}{r:RT τ}{xs:List τ}{m c g:Nat}{j:Int}{y z:τ}{e:TypeId}
  (hO:O=O1++ml (.slice (some ⟨g,0,none⟩) m c) e r xs::O2) (hy:idx xs j=some y) (hpos:0<r.size) {off:Nat} {ds:List Value} (hoff:off+ds.length≤r.size) (h1:∀d∈ds,d.oneCell'=true)
  (hz:∀es,r.rep (Jk X.ok X.w.heap.size β H O w) w y es→r.rep (Jk X.ok X.w.heap.size β H O w) w z (es.take off++ds++es.drop (off+ds.length))) :
  ∃cur fz,(w.heap[g]?=some (.cells cur e fz)∧Qyd fz cur.size)∧j.toNat*r.size+off+ds.length≤cur.size ∧
   Sb β X G D H (O1++ml (.slice (some ⟨g,0,none⟩) m c) e r (xs.set j.toNat z)::O2) a (w.setRow g (cur.toList.take (j.toNat*r.size+off)++ds++cur.toList.drop (j.toNat*r.size+off+ds.length)).toArray):=by
 have hmem:ml (.slice (some ⟨g,0,none⟩) m c) e r xs∈O:=by rw[hO]; simp
 obtain⟨g',cap,cur,fz,hA,⟨hh,hfz⟩,hm,hj,hle,hcs,hc,hcm,hr⟩:=h.mget hmem hy hpos
 injection hA with hA; injection hA with hA; subst hA
 have hj1:(j.toNat+1)*r.size≤m*r.size:=QT _ hj
 have hj2:m*r.size≤cap*r.size:=QT _ hle
 rw[Nat.add_mul]at hj1
 have hcl:cap*r.size≤cur.toList.length:=by simpa using hcs
 have hlen:j.toNat*r.size+off+ds.length≤cur.size:=by omega
 refine⟨cur,fz,⟨hh,hfz⟩,hlen,?_⟩
 have hset:=setRow_heap w g cur (cur.toList.take (j.toNat*r.size+off)++ds++cur.toList.drop (j.toNat*r.size+off+ds.length)).toArray e _ hh
 refine h.upd (t':=ml (.slice (some ⟨g,0,none⟩) m c) e r (xs.set j.toNat z)) hO rfl rfl rfl (by simp) (fun b hb hn=>setRow_other _ _ _ _ fun e=>hn (by subst e; rfl)) (fun b o hb=>hb) (fun g hg=>.inl hg) fun hevo hok=>?_
 have hrep:=Bf hr (Gn hy).2
 have hdrop:(cur.toList.take (m*r.size)).drop (j.toNat*r.size)=(cur.toList.drop (j.toNat*r.size)).take (m*r.size - j.toNat*r.size):=by rw[List.drop_take]
 have e1:((cur.toList.take (m*r.size)).drop (j.toNat*r.size)).take r.size=(cur.toList.drop (j.toNat*r.size)).take r.size:=by
  rw[hdrop,ZA]; congr 1; omega
 rw[e1]at hrep
 have hnew:=hz _ hrep
 have hL:((cur.toList.drop (j.toNat*r.size)).take r.size).length=r.size:=r.len hrep
 refine⟨by simp[Wn,hm],_,⟨?_,.inr ⟨g,cap,_,fz,by rw[hc]; rfl,JQ _,hset,by rw[XJ,List.length_append,List.length_append,List.length_take,List.length_drop,Nat.min_eq_left (by omega),show j.toNat*r.size+off+ds.length+(cur.toList.length - (j.toNat*r.size+off+ds.length))=cur.size by simp; omega]; exact hfz,hle,hcm,by rw[XJ,List.length_append,List.length_append,List.length_take,List.length_drop]; omega,rfl⟩⟩,?_⟩
 ·grind [Wn,List.length_take,List.length_append,List.length_drop]
 ·have h2:=Qqs (Gj (Be hr hevo) hok) (i:=j.toNat) (z:=z) (by omega) (r.weak (r.evo hnew hevo) hok)
  simp only[Wn]
  have hfin:=Jdk cur.toList ds (a:=j.toNat*r.size) (s:=r.size) (M:=m*r.size) (off:=off) (by omega) hoff (by omega)
  rw[hfin]
  have hlen2:(List.take off (List.take r.size (List.drop (j.toNat*r.size) cur.toList))++ds++List.drop (off+ds.length) (List.take r.size (List.drop (j.toNat*r.size) cur.toList))).length=r.size:=by
   simp; omega
  rw[hlen2]at h2
  exact h2
def mkL{α:Type}(bytes:Nat)(l c:Int)(z:α):Option (List α):=if 0≤l∧l≤c∧(bytes:Int)*c≤281474976710656 then some (List.replicate l.toNat z)else none
theorem Qqt(zc:List Value):∀l:Nat,((List.range (l*zc.length)).map fun j=>zc.getD (j % zc.length) undef)=(List.replicate l zc).flatten
 | 0=>by simp
 | l+1=>by
  rw[Nat.add_mul,VH,List.range_add,QN,Qqt zc l,List.replicate_succ',VK]
  congr 1
  simp only[VU,List.flatten_cons,List.flatten_nil,QC]
  apply ZM
  ·simp
  simp_all [XE,List.getElem_range,Function.comp,Nat.mul_comm,Nat.mul_add_mod,Nat.mod_eq_of_lt]
theorem Q1v{τ:Type}{r:RT τ}{ok:Ok}{z:τ}{zc:List Value}(h:r.rep ok w z zc):∀l,We r ok w (List.replicate l z) (List.replicate l zc).flatten
 | 0=>by simp[We]
 | l+1=>⟨zc,(List.replicate l zc).flatten,by grind,h,Q1v h l⟩
theorem Jdl(hT:Q9 P T)(h:Sb β X G D H O a w){t:TypeId}{lo co:Operand}{d:Nat}{ps:String}{af:Array Edge}{ty:TypeId}{gd:Option (Nat×Bool)}
  (hg:Bb ops G ⟨some d,.makeSlice t lo co,ty,ps,af,gd⟩=some true) (hlt:okD X d=true)
  {τ:Type} {r:RT τ} {z:τ} {zs:List τ} {kl kc:IntKind} {l c:Int} {e:TypeId} {te ee:TE} (ht:Qj T t=some te) (htd:te.d=.slice e) (he:Qj T e=some ee) (hs:ee.size=r.size)
  (hzl:Nat.beq (Qv ee.z).length ee.size=true) (hby:Nat.ble 1 ee.bytes=true) (hz:∀ok w,r.rep ok w z (Qv ee.z))
  (hl:gv G lo=some (.v (.int kl l))) (hc:gv G co=some (.v (.int kc c))) (hmk:mkL ee.bytes l c z=some zs)
  (hk:∀b a' w',Sb β X (He G d (.v (.slice (some ⟨b,0,none⟩) zs.length c.toNat))) D H (ml (.slice (some ⟨b,0,none⟩) zs.length c.toNat) e r zs::O) a' w'→wpList P ops Q rest a' w') :
  wpList P ops Q (⟨some d,.makeSlice t lo co,ty,ps,af,gd⟩::rest) a w:=by
 unfold mkL at hmk
 split at hmk
 ·rename_i hcd
  obtain⟨h0,h1,h2⟩:=hcd
  have hzs:zs=List.replicate l.toNat z:=(Option.some.inj hmk).symm
  have hlen:zs.length=l.toNat:=by rw[hzs]; simp
  have hu:P.underlying t=some (.slice e):=by rw[(Jv hT ht).2,htd]
  obtain⟨i,hi,hz',hsi,hbi⟩:=Hg hT he
  have hby':1≤ee.bytes:=QW hby
  have hc63:c≤281474976710656:=by
   have:(1:Int)*c≤(ee.bytes:Int)*c:=ZN (by omega) (by omega)
   omega
  have hzz:=Nat.eq_of_beq_eq_true hzl
  have hr:=run_make (P:=P) w t e i ee.z hu hi hz' kl kc l c h0 h1 (by rw[hbi]; exact h2) (by omega)
  have hrun:(execOp a.eval ⟨some d,.makeSlice t lo co,ty,ps,af,gd⟩).run P w=.ok (.value (.slice (some ⟨w.heap.size,0,none⟩) zs.length c.toNat)) (w.alloc (.cells (madeCells ee.z.cells (c.toNat*i.size)) e)):=by
   unfold execOp
   simp only[h.ev hl,h.ev hc,Zc]
   simp[hr,hlen]
  refine Jw (Zp h hg) (Yj hrun ?_)
  have hb:Below w.heap.size w (w.alloc (.cells (madeCells ee.z.cells (c.toNat*i.size)) e)):=(Below.refl _ _).alloc (QG _) _
  have hcells:(madeCells ee.z.cells (c.toNat*i.size)).toList=(List.replicate c.toNat (Qv ee.z)).flatten:=by
   rw[←Qqt,hzz,hsi]
   unfold madeCells
   rw[Yq]at hzz ⊢
   simp only[Array.toList_map,Array.toList_range]
   grind [List.map_congr_left,Nat.eq_zero_or_pos,Nat.mod_lt,List.getElem?_eq_getElem]
  refine hk _ _ _ ((h.allocTL hb (t:=ml (.slice (some ⟨w.heap.size,0,none⟩) zs.length c.toNat) e r zs) (fun g hg=>?_) ⟨rfl,(List.replicate l.toNat (Qv ee.z)).flatten,⟨?_,.inr ⟨w.heap.size,c.toNat,_,(0,0),rfl,JQ _,heap_alloc_new w _,.inl rfl,?_,?_,?_,?_⟩⟩,?_⟩).put hlt (.v _))
  ·have hg:some w.heap.size=some g:=hg
   grind
  ·simp_all [Wn]
  ·grind [Wn]
  ·rw[Dt]; omega
  ·grind [Nat.le_of_eq,size_madeCells]
  ·simp only[Wn]
   rw[hcells,hlen]
   have e1:c.toNat=l.toNat+(c.toNat - l.toNat):=by omega
   rw[e1,←List.replicate_append_replicate,VK]
   have e2:l.toNat*r.size=(List.replicate l.toNat (Qv ee.z)).flatten.length:=by simp[hzz,hs]
   rw[e2,List.take_left]
  grind [Q1v]
 ·cases hmk
end
end Gd

/- Rows that are appended to, frozen, lent to a call. -/
namespace Gd
open Go Go.RowKit
set_option linter.unusedVariables false
set_option linter.unusedSimpArgs false
section
variable {P:Program} {T:Tab} {β:Nat→Nat} {X:Cx} {G:GL} {D:List DF} {H:HL} {O:List TL} {a:Act} {w w':World}
variable {ops:Array Oper} {Q:Exit→Act→World→Prop} {rest:List Oper}
theorem Sb.addNilM(h:Sb β X G D H O a w)(e:Nat){τ:Type}(r:RT τ):Sb β X G D H (ml (.slice none 0 0) e r []::O) a w :=
 h.allocTL (Below.refl _ _) (fun g hg=>by have hg:(none:Option Nat)=some g:=hg; cases hg) ⟨rfl,[],World.ownsRowS_nil _ _ _ _,rfl⟩
theorem Sb.freeze(h:Sb β X G D H O a w){τ:Type}{r:RT τ}{xs:List τ}{A:Option Addr}{c:Nat}{e:Nat}{O2:List TL}(hO:O=ml (.slice A xs.length c) e r xs::O2)(hpos:Nat.ble 1 r.size=true) :
  Sb β X G (DF.v (rSl r) xs (.slice A xs.length c)::D) H (tl (.slice A xs.length c) e r.size::O2) a w:=by
 subst hO
 have hmem:ml (.slice A xs.length c) e r xs∈ml (.slice A xs.length c) e r xs::O2:=.head _
 obtain⟨⟨hl,cs,hown,hr⟩,hmine⟩:=h.own _ hmem
 have hok:∀b o,Jk X.ok X.w.heap.size β H (ml (.slice A xs.length c) e r xs::O2) w b o→Jk X.ok X.w.heap.size β H (tl (.slice A xs.length c) e r.size::O2) w b o:=by
  rintro b o ⟨h1,h2,h3,h4⟩
  refine⟨h1,h2,h3,fun u hu hc=>?_⟩
  rcases QX.1 hu with rfl | hu
  ·exact h4 _ (.head _) hc.1
  grind
 have hpw:=List.pairwise_cons.1 h.dOO
 refine { sz:=h.sz,df:=h.df,fr:=h.fr,pn:=h.pn,tm:=h.tm,bel:=h.bel,dat:=⟨?_,h.dat.weak hok⟩,obj:=h.obj,own:=fun u hu=>?_,dHH:=h.dHH,dHO:=fun p hp u hu=>?_,dOO:=List.pairwise_cons.2 ⟨fun u hu g hg=>hpw.1 u hu g hg,hpw.2⟩ }
 ·refine Xb.2 ⟨A,xs.length,c,rfl,rfl,?_,fun h0=>?_⟩
  ·rcases hown.2 with⟨hv,h0⟩ | ⟨g,cap,cur,fz,hv,_,_,_,hle,_⟩
   ·grind
   grind
  ·rcases hown.2 with⟨hv,h1⟩ | ⟨g,cap,cur,fz,hv,_,hh,hfz,hle,hcm,hcs,htk⟩
   ·grind
   ·injection hv with e1 e2 e3
    simp only[Wn]at hle htk
    refine⟨g,0,e1,fun i x hx=>?_⟩
    have hi:=(List.getElem?_eq_some_iff.1 hx).1
    have hrep:=Bf hr hx
    refine⟨_,r.weak hrep hok,fun j u hu=>?_⟩
    have hj:j<r.size:=by have:=(List.getElem?_eq_some_iff.1 hu).1; rw[r.len hrep]at this; exact this
    have hgb:(Value.slice A xs.length c).ownBlock=some g:=by rw[e1]; rfl
    rw[QY]
    refine⟨⟨X.mine_ok (hmine g hgb) _,Vh hh,fun p hp e2=>h.dHO p hp _ hmem (by rw[e2]; exact hgb),fun u' hu' hc=>?_⟩,?_⟩
    ·rcases QX.1 hu' with rfl | hu'
     ·have:=hc.2
      grind
     ·exact hpw.1 u' hu' g hgb (u'.cb hc)
    grind [Qvj,List.getElem?_take_of_lt]
 ·rcases QX.1 hu with rfl | hu
  ·exact⟨⟨cs,hown⟩,hmine⟩
  ·exact⟨u.weak (h.own u (.tail _ hu)).1 hok,(h.own u (.tail _ hu)).2⟩
 ·rcases QX.1 hu with rfl | hu
  ·exact fun hg=>(h.dHO p hp _ hmem) hg
  ·exact h.dHO p hp u (.tail _ hu)
theorem Qi3(hT:Q9 P T)(h:Sb β X G D H O a w)(O1 O2:List TL){t:TypeId}{s x:Operand}{d:Nat}{ps:String}{af:Array Edge}{ty:TypeId}{gd:Option (Nat×Bool)}
  (hg:Bb ops G ⟨some d,.call ⟨.builtin .append,⟨[s,x]⟩,⟨[t,t]⟩⟩,ty,ps,af,gd⟩=some true) (hlt:okD X d=true)
  {τ:Type} {r:RT τ} {xs ys zs:List τ} {A:Option Addr} {A2:Option Addr} {m c m2 c2:Nat} {e:TypeId} {te ee:TE} (ht:Qj T t=some te) (htd:te.d=.slice e) (he:Qj T e=some ee) (hs:ee.size=r.size)
  (hz:Nat.beq (Qv ee.z).length ee.size=true) (hsz:Nat.ble 1 ee.size=true) (hby:Nat.ble 1 ee.bytes=true)
  (hO:O=O1++ml (.slice A m c) e r xs::O2) (hs1:gv G s=some (.v (.slice A m c))) (hx1:gv G x=some (.v (.slice A2 m2 c2)))
  (hDy:Q1t r (Jk X.ok X.w.heap.size β H O w) w ys A2 m2 c2) (happ:app ee.bytes xs ys=some zs)
  (hk:∀A' c' a' w',Sb β X (He G d (.v (.slice A' zs.length c'))) D H (O1++ml (.slice A' zs.length c') e r zs::O2) a' w'→wpList P ops Q rest a' w') :
  wpList P ops Q (⟨some d,.call ⟨.builtin .append,⟨[s,x]⟩,⟨[t,t]⟩⟩,ty,ps,af,gd⟩::rest) a w:=by
 obtain⟨hbytes,rfl⟩:=Qk3 happ
 have hmem:ml (.slice A m c) e r xs∈O:=by rw[hO]; simp
 obtain⟨⟨hl,xs0,hown,hr⟩,hmine⟩:=h.own _ hmem
 obtain⟨csy,hcy1,hyl,hmc2,hA2,hcy2,hcy3,hcy4⟩:=hDy
 have hzl:=Nat.eq_of_beq_eq_true hz
 have hsz':0<ee.size:=QW hsz
 have hby':0<ee.bytes:=QW hby
 have hnews:∀ad,A2=some ad→∀j u,csy[j]?=some u→w.cell? (ad.add j)=some u:=by
  intro ad had j u hu
  have hj:=(List.getElem?_eq_some_iff.1 hu).1
  have hm2:0<m2:=by
   grind
  grind [E6]
 simp only[Wn]at hown hl
 rw[←hs]at hown
 obtain⟨v',w1,hrun,hown',hgrow,hblk⟩:=Qhd (P:=P) (w:=w) (ty:=ty) hT ht htd he hzl hsz' hby' hown (JQ _) (k:=m2) (c:=c2) (A:=A2) (news:=csy) (by rw[hs]; exact hcy1) hA2 hnews hcy2 (by rw[hl,←hyl]; exact hbytes)
 have hrun':(execOp a.eval ⟨some d,.call ⟨.builtin .append,⟨[s,x]⟩,⟨[t,t]⟩⟩,ty,ps,af,gd⟩).run P w=.ok (.value v') w1:=by
  unfold execOp
  have hm:(Array.mk [s,x]).map a.eval=⟨[.slice A m c,.slice A2 m2 c2]⟩:=by simp[h.ev hs1,h.ev hx1,Zc]
  simp_all [resolve,invoke,builtin]
 have hform:∃A' c',v'=.slice A' (m+m2) c':=by
  rcases hown'.2 with⟨rfl,h0⟩ | ⟨g,cap,cur,fz,rfl,_⟩
  ·grind
  grind
 obtain⟨A',c',rfl⟩:=hform
 have hlen:m+m2=(xs++ys).length:=by rw[List.length_append,hl,hyl]
 refine Jw (Zp h hg) (Yj hrun' ?_)
 have hS:Sb β X G D H (O1++ml (.slice A' (m+m2) c') e r (xs++ys)::O2) a w1:=by
  refine h.upd hO hgrow.os hgrow.tape hgrow.output hgrow.size (fun b hb hn=>hgrow.block b hb fun e=>hn e.symm) (fun b o hb=>hb) (fun g hg=>?_) fun hevo hok=>?_
  ·rcases hblk with he1 | ⟨he1,_⟩
   ·exact .inl (by have hg:(Value.slice A' (m+m2) c').ownBlock=some g:=hg; rw[he1]at hg; exact hg)
   ·have hg:(Value.slice A' (m+m2) c').ownBlock=some g:=hg
    rw[he1]at hg; grind
  ·refine⟨hlen,xs0++csy,by rw[←hs]; exact hown',Pl (Gj (Be hr hevo) hok) (Gj (Be ?_ hevo) hok)⟩
   grind [Qi2]
 have:=hk A' c' (a.put (some d) (.slice A' (m+m2) c')) w1
 rw[←hlen]at this
 exact this (hS.put hlt (.v _))
end
end Gd
namespace Gd
open Go Go.RowKit
section
variable {P:Program} {T:Tab} {β:Nat→Nat} {X:Cx} {G:GL} {D:List DF} {H:HL} {O:List TL} {a:Act} {w w':World}
variable {ops:Array Oper} {Q:Exit→Act→World→Prop} {rest:List Oper}
def Jst(v:Value):List Nat:=match v.ownBlock with
 | some g=>[g]
 | none=>[]
theorem Q1w{v:Value}{g:Nat}:g∈Jst v↔v.ownBlock=some g:=by
 unfold Jst
 grind
def Qnf(Ts:List TL)(L:List Nat)(ok:Ok)(w:World):Prop :=
 (∀t∈Ts,t.p ok w∧(∀g,t.blks g→g∈L)∧∀g o,t.blks g→¬ ok g o)∧(Ts.Pairwise fun s t=>∀g,s.blks g→¬ t.blks g)∧∀g∈L,∃t∈Ts,t.blks g
theorem Jdm{f:FuncId}{fn:Func}{c:Code}{vs:List Value}{R:Value→World→Prop}{ok:Ok}{n:Nat}{L:List Nat}{O:List TL}(hok:∀b o,ok b o→b<w.heap.size)
  (hf:P.funcs[f]?=some fn) (hb:fn.body=some c) (hn:fn.ntmps=n) (hle:Nat.ble vs.length n=true) {D:List DF} (hD:Qcy ok w D) (hO:Qnf O L ok w)
  (h:∀a,Sb (fun _=>0) (cxL L n ok w) (Q1p vs 0) D [] O a w→c.wp P (bodyPost P fn (Qyf L w R)) a w):Calls P f ⟨vs⟩ w (Qyf L w R):=by
 refine calls_of_wp hf hb (h _ ?_)
 have hle':=QW hle
 have hk:∀b o,ok b o→Jk (okL L ok) w.heap.size (fun _=>0) [] O w b o:=fun b o hbo=>⟨.inl (.inl hbo),hok b o hbo,by simp,fun t ht hc=>(hO.1 t ht).2.2 b o (t.cb hc) hbo⟩
 refine { sz:=by grind,df:=rfl,fr:=by simp,pn:=by simp,tm:=?_,bel:=Vi.refl _ _ _,dat:=hD.weak hk,obj:=by simp,own:=fun t ht=>⟨t.weak (hO.1 t ht).1 hk,fun g hg=>.inr ((hO.1 t ht).2.1 g hg)⟩,dHH:=by simp,dHO:=by simp,dOO:=hO.2.1 }
 intro p hp
 obtain⟨j,v,rfl,hv⟩:=Q1q hp
 have hj:=(List.getElem?_eq_some_iff.1 hv).1
 simp_all [QY,Zc,XT]
theorem Sb.melt0{A:Option Addr}{c e:Nat}{τ:Type}{r:RT τ}{O2:List TL}(h:Sb β X G D H (tl (.slice A 0 c) e r.size::O2) a w):Sb β X G D H (ml (.slice A 0 c) e r []::O2) a w:=by
 have hok:∀b o,Jk X.ok X.w.heap.size β H (tl (.slice A 0 c) e r.size::O2) w b o→Jk X.ok X.w.heap.size β H (ml (.slice A 0 c) e r []::O2) w b o:=by
  rintro b o ⟨h1,h2,h3,h4⟩
  refine⟨h1,h2,h3,fun u hu hc=>?_⟩
  rcases QX.1 hu with rfl | hu
  ·exact h4 _ (.head _) ⟨hc,by simp[Wn]⟩
  grind
 obtain⟨⟨cs,hown⟩,hmine⟩:=h.own _ (.head _)
 have hpw:=List.pairwise_cons.1 h.dOO
 have hcs:cs=[]:=by
  have:=hown.1
  simp_all [Wn,ZS,QD]
 refine { sz:=h.sz,df:=h.df,fr:=h.fr,pn:=h.pn,tm:=h.tm,bel:=h.bel,dat:=h.dat.weak hok,obj:=h.obj,own:=fun u hu=>?_,dHH:=h.dHH,dHO:=fun p hp u hu=>?_,dOO:=List.pairwise_cons.2 ⟨fun u hu g hg=>hpw.1 u hu g hg,hpw.2⟩ }
 ·rcases QX.1 hu with rfl | hu
  ·exact⟨⟨rfl,cs,hown,by subst hcs; rfl⟩,hmine⟩
  ·exact⟨u.weak (h.own u (.tail _ hu)).1 hok,(h.own u (.tail _ hu)).2⟩
 ·rcases QX.1 hu with rfl | hu
  ·exact fun hg=>h.dHO p hp _ (.head _) hg
  ·exact h.dHO p hp u (.tail _ hu)
end
end Gd

/- Results of a call's own, as rows that will be written: for elements that hold no addresses. -/
namespace Gd
open Go Go.RowKit
set_option linter.unusedVariables false
set_option linter.unusedSimpArgs false
section
variable {P:Program} {T:Tab} {β:Nat→Nat} {X:Cx} {G:GL} {D:List DF} {H:HL} {O:List TL} {a:Act} {w w':World}
variable {ops:Array Oper} {Q:Exit→Act→World→Prop} {rest:List Oper}
end
end Gd

/- From a statement's arguments to typed values, and back to the statement. -/
namespace Gd
open Go Go.RowKit Go.WideShapes Go.ChangeShapes
set_option linter.unusedVariables false
set_option linter.unusedSimpArgs false
def Cr{τ:Type}(P:Program)(r:RT τ)(t:TypeId)(good:τ→Prop):Prop :=
 P.cellsOf t=r.size∧(∀{w:World} {rc:Reach} {b:Nat} {v:Value},Value.okWide P w rc b t v→(r.agg=true→∃cs,v=.agg cs)∧(r.agg=false→∃c,v.cells=#[c]∧v=c)) ∧
 ∀{H:Type} (enc:TypeId×Value→H) (w:World) (n:Nat) (cs:List Value) (x:DataW H×List MemPlace),
  DataW.trod enc P w 0 (fun _=>true) true n t cs=some x→∃y,r.rep (lt w) w y cs∧good y
def Jh3(k:IntKind)(n:Int):Prop:=k.min≤n∧n≤k.max
def Jh4(s:Str):Prop:=s.length≤maxLen
def Jun(_:Bool):Prop:=True
def Qqu{τ:Type}(g:τ→Prop)(l:List τ):Prop:=l.length≤maxLen∧∀x∈l,g x
section
variable {P:Program}
theorem Jdn{t:TypeId}{k:IntKind}(ht:P.underlying t=some (.int k))(hc:P.cellsOf t=1):Cr P (T6 k) t (Jh3 k):=by
 refine⟨hc,fun hv=>⟨fun h=>(nomatch h),fun _=>?_⟩,fun enc w n cs x h=>?_⟩
 ·obtain⟨n,rfl⟩:=okWide_int ht hv
  exact⟨_,rfl,rfl⟩
 ·obtain⟨m,rfl,_,hw⟩:=DataW.trod_int ht h
  exact⟨m,rfl,by grind [Lit.wf,Jh3]⟩
theorem Q7p{t:TypeId}(ht:P.underlying t=some .bool)(hc:P.cellsOf t=1):Cr P Qvc t Jun:=by
 refine⟨hc,fun hv=>⟨fun h=>(nomatch h),fun _=>?_⟩,fun enc w n cs x h=>?_⟩
 ·obtain⟨n,rfl⟩:=okWide_bool ht hv
  exact⟨_,rfl,rfl⟩
 ·obtain⟨m,rfl,_⟩:=DataW.trod_bool ht h
  exact⟨m,rfl,trivial⟩
theorem Jdo{t:TypeId}(ht:P.underlying t=some .string)(hc:P.cellsOf t=1):Cr P Jsr t Jh4:=by
 refine⟨hc,fun hv=>⟨fun h=>(nomatch h),fun _=>?_⟩,fun enc w n cs x h=>?_⟩
 ·obtain⟨n,rfl⟩:=okWide_string ht hv
  exact⟨_,rfl,rfl⟩
 ·obtain⟨s,rfl,_,hs⟩:=DataW.trod_string ht h
  refine⟨s.data.toList,?_,by simp_all [Jh4]⟩
  show [Value.string s]=[Yo s.data.toList]
  simp[Yo]
theorem Jh5{τ:Type}{r:RT τ}{t e:TypeId}{g:τ→Prop}(ht:P.underlying t=some (.slice e))(hc:P.cellsOf t=1)(he:Cr P r e g)(hpos:0<r.size):Cr P (rSl r) t (Qqu g):=by
 refine⟨hc,fun hv=>⟨fun h=>(nomatch h),fun _=>?_⟩,fun enc w n cs x h=>?_⟩
 ·obtain⟨a,l,c,rfl⟩:=okWide_slice ht hv
  exact⟨_,rfl,rfl⟩
 ·rcases DataW.trod_slice ht h with⟨rfl,_⟩ | ⟨a,len,cap,elems,rest,m,_,rfl,_,_,hlc,hcm,hel,hall,_⟩
  ·exact⟨[],⟨_,rfl,none,0,0,rfl,rfl,QG _,fun h0=>absurd h0 (by omega)⟩,by simp[Qqu]⟩
  ·have hsz:P.cellsOf e=r.size:=he.1
   have h1:∀i,i<len→∃y cs,r.rep (lt w) w y cs∧g y∧w.cells? 0 (a.add (i*P.cellsOf e)) (P.cellsOf e)=some cs:=by
    intro i hi
    have:=hall i hi
    obtain⟨z,hz⟩:∃z,elems[i]?=some z:=⟨elems[i]'(by omega),List.getElem?_eq_getElem (by omega)⟩
    rw[hz]at this
    obtain⟨cs,hcs,hz2⟩:=Option.bind_eq_some_iff.1 this
    obtain⟨y,hy,hg⟩:=he.2.2 enc w m cs z hz2
    grind
   have h2:∀k,k≤len→∃ys:List τ,ys.length=k∧∀i y,ys[i]?=some y→∃cs,r.rep (lt w) w y cs∧g y∧w.cells? 0 (a.add (i*P.cellsOf e)) (P.cellsOf e)=some cs:=by
    intro k
    induction k with
    | zero=>simp_all
    | succ k ih =>
     intro hk
     obtain⟨ys,hl,hys⟩:=ih (by omega)
     obtain⟨y,cs,hy,hg,hcs⟩:=h1 k (by omega)
     refine⟨ys++[y],by simp[hl],fun i z hz=>?_⟩
     grind
   obtain⟨ys,hl,hys⟩:=h2 len (QG _)
   refine⟨ys,⟨_,rfl,some a,len,cap,rfl,hl,hlc,fun h0=>?_⟩,⟨by omega,fun y hy=>?_⟩⟩
   ·have hsp:a.spot=none:=by
     obtain⟨y,cs,_,_,hcs⟩:=h1 0 h0
     obtain⟨_,hlen,hcell⟩:=World.cells?_some hcs
     have g0:=hcell 0 (by omega)
     grind [List.getElem?_eq_getElem,Addr.add,World.cell?_spot]
    obtain⟨b,o,sp⟩:=a
    simp only at hsp
    subst hsp
    refine⟨b,o,rfl,fun i y hi=>?_⟩
    obtain⟨cs,hy,_,hcs⟩:=hys i y hi
    obtain⟨_,hlen,hcell⟩:=World.cells?_some hcs
    refine⟨cs,hy,fun j u hu=>?_⟩
    have hj:j<P.cellsOf e:=by rw[←hlen]; grind
    have:=hcell j hj
    rw[hu,add_plain,add_plain,hsz]at this
    refine⟨?_,this⟩
    show b<w.heap.size
    grind [World.cell?,Nat.lt_or_ge,Array.getElem?_eq_none]
   grind [List.getElem?_of_mem]
theorem Cr.fld{τ:Type}{r:RT τ}{t:TypeId}{g:τ→Prop}(ho:Cr P r t g){H:Type}{enc:TypeId×Value→H}{w:World}{n:Nat}{cs:List Value}{fs:Array Field}{xs:List (DataW H×List MemPlace)}
  (hlen:xs.length=fs.size) (hf:∀(i:Nat) (f:Field),fs[i]?=some f→DataW.trod enc P w 0 (fun _=>true) true n f.type ((cs.drop f.offset).take (P.cellsOf f.type))=xs[i]?)
  (i:Nat) (o:Nat) {f:Field} (hi:fs[i]?=some f) (ht:f.type=t) (hof:f.offset=o):∃y,r.rep (lt w) w y ((cs.drop o).take r.size)∧g y:=by
 have h1:=hf i f hi
 have hlt:=(Array.getElem?_eq_some_iff.1 hi).1
 rw[List.getElem?_eq_getElem (by omega),ht,hof,ho.1]at h1
 exact ho.2.2 enc w n _ _ h1
theorem Cr.arg{τ:Type}{r:RT τ}{t:TypeId}{g:τ→Prop}(ho:Cr P r t g){H:Type}{enc:TypeId×Value→H}{w:World}{rc:Reach}{b:Nat}{v:Value}{d:DataW H}{ps:List MemPlace}
  (hv:Value.okWide P w rc b t v) (h:DataW.Trod enc P w 0 (fun _=>true) true t v d ps):∃y,isV r (lt w) w y v∧g y:=by
 obtain⟨n,hn⟩:=h
 obtain⟨y,hy,hg⟩:=ho.2.2 enc w n _ _ hn
 refine⟨y,⟨_,hy,?_⟩,hg⟩
 unfold RT.val
 cases ha:r.agg with
 | true =>
  obtain⟨cs,rfl⟩:=(ho.2.1 hv).1 ha
  simp[Value.cells]
 | false =>
  obtain⟨c,hc,rfl⟩:=(ho.2.1 hv).2 ha
  rw[hc]; simp
end
section
variable {H:Type} {enc:TypeId×Value→H} {P:Program} {W:World} {base:Nat} {vs:List String}
theorem Juo{t1 t2 t3:TypeId}{args:Array Value}{ds gs:List (DataW H)}{before:List MemPlace}{ts:Array TypeId}(hts:ts=#[t1,t2,t3])
  (hval:∀(j:Nat) t v,ts[j]?=some t→args[j]?=some v→Value.okWide P W .any base t v) (hW:DataW.Whole enc P ts.toList vs false W args.toList ds gs before)
  {τ1 τ2 τ3:Type} {r1:RT τ1} {r2:RT τ2} {r3:RT τ3} {g1:τ1→Prop} {g2:τ2→Prop} {g3:τ3→Prop} (ho1:Cr P r1 t1 g1) (ho2:Cr P r2 t2 g2) (ho3:Cr P r3 t3 g3) :
  ∃v1 v2 v3 y1 y2 y3,args=⟨[v1,v2,v3]⟩∧isV r1 (lt W) W y1 v1∧g1 y1∧isV r2 (lt W) W y2 v2∧g2 y2∧isV r3 (lt W) W y3 v3∧g3 y3:=by
 subst hts
 obtain⟨p,q,hA,_⟩:=hW
 obtain⟨v1,vs1,d1,ds1,p1,q1,hargs,rfl,rfl,h1,k1⟩:=trodAll_cons hA
 obtain⟨v2,vs2,d2,ds2,p2,q2,rfl,rfl,rfl,h2,k2⟩:=trodAll_cons k1
 obtain⟨v3,vs3,d3,ds3,p3,q3,rfl,rfl,rfl,h3,k3⟩:=trodAll_cons k2
 obtain⟨rfl,rfl,rfl⟩:=trodAll_nil k3
 obtain rfl:args=⟨[v1,v2,v3]⟩:=by grind
 obtain⟨y1,hy1,hg1⟩:=ho1.arg (hval 0 t1 v1 rfl rfl) h1
 obtain⟨y2,hy2,hg2⟩:=ho2.arg (hval 1 t2 v2 rfl rfl) h2
 obtain⟨y3,hy3,hg3⟩:=ho3.arg (hval 2 t3 v3 rfl rfl) h3
 grind
theorem Qgq(hl:laidOutB P=true){W':World}{sp:Nat→Bool}:∀{ts:List TypeId} {vs:List Value} {ds:List (DataW H)} {ps:List MemPlace},
  (ts.all fun t=>P.readableRec t&&decide (t<P.types.size))=true→DataW.TrodAll enc P W 0 (fun _=>true) true ts vs ds ps→(∀p∈ps,W.sameAt W' p)→(∀p∈ps,sp p.block=true)→DataW.TrodAll enc P W' 0 sp true ts vs ds ps
 | [],[],[],_,_,h,_,_=>h
 | t::ts,v::vs,d::ds,ps,hr,⟨p,q,h,hs,e⟩,h1,h2=>by
  subst e
  simp only[ZG,QJ,decide_eq_true_eq]at hr
  exact⟨p,q,WideElems.Trod_stays hl hr.1.1 hr.1.2 h (fun x hx=>h1 x (QZ.2 (.inl hx))) (fun x hx=>h2 x (QZ.2 (.inl hx))),
   Qgq hl hr.2 hs (fun x hx=>h1 x (QZ.2 (.inr hx))) (fun x hx=>h2 x (QZ.2 (.inr hx))),rfl⟩
theorem Qng{w:World}{sp:Nat→Bool}{hd:Bool}:∀{ts:List TypeId} {vs:List Value} {ds:List (DataW H)} {ps:List MemPlace},DataW.TrodAll enc P w base sp hd ts vs ds ps→ds.length=ts.length
 | [],[],[],_,_=>rfl
 | _::_,_::_,_::_,_,⟨_,_,_,hs,_⟩=>congrArg (·+1) (Qng hs)
theorem Jh6{f:FuncId}{fn:Func}{s:ChangeSpec}{args:Array Value}{ds gs:List (DataW H)}{before:List MemPlace}{tb:TypeId}
  (hres:fn.resultTypes=#[tb]) (hb:P.underlying tb=some .bool) (hv:s.vars=[]) (hlaid:laidOutB P=true)
  (hread:(fn.params.toList.all fun t=>P.readableRec t&&decide (t<P.types.size))=true)
  (hspec:∀d:List (DataW H),d.length=fn.params.size→s.fn H d={ results:=[.lit (.bool true)],args:=d })
  (hW:DataW.Whole enc P fn.params.toList s.vars false W args.toList ds gs before)
  (hcall:Calls P f args W (Ret W (R1 Qvc (lt W) W true))) :
  Calls P f args W fun e W'=>∃v,e=.returned v∧s.post enc P fn false true false false W args v W':=by
 have hW':=hW
 obtain⟨p,q,hA,hV,rfl,hfz,hnd⟩:=hW
 rw[hv]at hV
 obtain⟨rfl,rfl⟩:=trodVars_none hV
 have hlen:=Qng hA
 have hs:s.fn H (ds++[])={ results:=[.lit (.bool true)],args:=ds }:=by
  rw[QC]; grind
 refine hcall.mono ?_
 rintro e W' ⟨v,rfl,hr,hbel⟩
 have hbel:=hbel.nil
 obtain rfl:=Qql.1 hr
 simp only[QC]at hW'
 have hlt:∀p'∈p,p'.block<W.heap.size:=fun p' hp=>hW'.lt p' hp
 refine⟨_,rfl,?_⟩
 refine⟨ds,[],p,[],p,[],hW',?_,?_,?_,World.keptBut_mono (fun p' hp=>⟨hp,by simpa using hp⟩) (hbel.frame (·∈p)),fun h=>by cases h⟩
 ·rw[hs,hres]
  exact trodAll_mk1 (shut_bool hb _)
 ·rw[hs]
  exact Qgq hlaid hread hA (fun x hx=>hbel.same (hlt x hx)) (fun x hx=>by grind)
 ·rw[hs,hv]
  rfl
end
end Gd

/- Plain facts on the functions that the texts are written with. -/
namespace Gd
open Go
set_option linter.unusedVariables false
set_option linter.unusedSimpArgs false
theorem Q0{n:Int}(h0 : -9223372036854775808≤n)(h1:n<9223372036854775808):IntKind.wrap .i64 n=n:=by
 grind [IntKind.wrap,Int,IntKind.bits,IntKind.signed]
theorem Jdp{i:Nat}(h:i<maxLen):IntKind.wrap .i64 ((i:Int)+1)=((i+1:Nat):Int):=by
 rw[Dt]at h
 rw[Q0 (by omega) (by omega)]
 omega
theorem Jag{α:Type}{l:List α}{i:Nat}{x:α}(h:l[i]?=some x):idx l (i:Int)=some x:=by
 simp[idx,h]
end Gd

/- Types of data, abstract values, what they mean. -/
namespace Gx
open Go Go.RowKit Gd
set_option linter.unusedVariables false
set_option linter.unusedSimpArgs false
inductive Xs(α:Type) where
 | mk (x:α) (ks:List (Xs α))
def Xs.x{α:Type}:Xs α→α
 | .mk x _=>x
def Xs.ks{α:Type}:Xs α→List (Xs α)
 | .mk _ ks=>ks
inductive Ty where
 | int (k:IntKind) | bool | str
 | sl (e:Ty) | arr (n:Nat) (e:Ty)
 | unit | pr (f r:Ty) | st (fs:Ty) | ref | rose (fs:Ty)
@[reducible] def Ty.i:Ty:=.int .i64
@[reducible] def Ty.De:Ty→Type
 | .int _=>Int | .bool=>Bool | .str=>Str
 | .sl e=>List e.De | .arr _ e=>List e.De
 | .unit=>Unit | .pr f r=>f.De×r.De | .st fs=>fs.De | .ref=>Unit | .rose fs=>Xs fs.De
def Ty.beq:Ty→Ty→Bool
 | .int a,.int b=>Sf a b
 | .bool,.bool=>true
 | .str,.str=>true
 | .sl a,.sl b=>Ty.beq a b
 | .arr n a,.arr m b=>Nat.beq n m&&Ty.beq a b
 | .unit,.unit=>true
 | .pr a b,.pr c d=>Ty.beq a c&&Ty.beq b d
 | .st a,.st b=>Ty.beq a b
 | .ref,.ref=>true
 | .rose a,.rose b=>Ty.beq a b
 | _,_=>false
theorem Ty.beq_eq:∀{a b:Ty},Ty.beq a b=true→a=b
 | .int a,b,h=>by cases b<;>simp[Ty.beq]at h; rw[Iq h]
 | .bool,b,h=>by cases b<;>simp[Ty.beq]at h; rfl
 | .str,b,h=>by cases b<;>simp[Ty.beq]at h; rfl
 | .sl a,b,h=>by cases b<;>simp[Ty.beq]at h; rw[Ty.beq_eq h]
 | .arr n a,b,h=>by cases b<;>simp[Ty.beq]at h; rw[h.1,Ty.beq_eq h.2]
 | .unit,b,h=>by cases b<;>simp[Ty.beq]at h; rfl
 | .pr a c,b,h=>by cases b<;>simp[Ty.beq]at h; rw[Ty.beq_eq h.1,Ty.beq_eq h.2]
 | .st a,b,h=>by cases b<;>simp[Ty.beq]at h; rw[Ty.beq_eq h]
 | .ref,b,h=>by cases b<;>simp[Ty.beq]at h; rfl
 | .rose a,b,h=>by cases b<;>simp[Ty.beq]at h; rw[Ty.beq_eq h]
theorem Ty.beq_refl:∀a:Ty,Ty.beq a a=true
 | .int k=>by cases k<;>rfl
 | .bool=>rfl | .str=>rfl | .unit=>rfl
 | .sl a=>Ty.beq_refl a
 | .arr n a=>by simp[Ty.beq,Ty.beq_refl a,Nat.beq_refl]
 | .pr a b=>by simp[Ty.beq,Ty.beq_refl a,Ty.beq_refl b]
 | .st a=>Ty.beq_refl a
 | .ref=>rfl
 | .rose a=>Ty.beq_refl a
def Ty.cast(a b:Ty)(x:a.De):Option b.De:=if h:Ty.beq a b=true then some (Ty.beq_eq h▸x)else none
theorem Ty.cast_ok{a b:Ty}{x:a.De}{y:b.De}(h:Ty.cast a b x=some y):∃e:a=b,y=e▸x:=by
 grind [Ty.cast,Ty.beq_eq,Option.some.inj]
def Jup:RT Unit where
 size:=0
 agg:=true
 rep:=fun _ _ _ cs=>cs=[]
 len:=by grind
 one:=fun h=>by cases h
 flat:=by grind
 evo:=fun h _=>h
 weak:=fun h _=>h
def Jp5{τ σ:Type}(r:RT τ)(s:RT σ):RT (τ×σ) where
 size:=r.size+s.size
 agg:=true
 rep:=fun ok w x cs=>∃c1 c2,cs=c1++c2∧r.rep ok w x.1 c1∧s.rep ok w x.2 c2
 len:=by rintro _ _ x cs ⟨c1,c2,rfl,h1,h2⟩; simp[r.len h1,s.len h2]
 one:=fun h=>by cases h
 flat:=by
  rintro _ _ x cs ⟨c1,c2,rfl,h1,h2⟩ c hc
  rcases QZ.1 hc with hc | hc
  ·exact r.flat h1 c hc
  ·exact s.flat h2 c hc
 evo:=by rintro _ _ _ x cs ⟨c1,c2,rfl,h1,h2⟩ he; exact⟨c1,c2,rfl,r.evo h1 he,s.evo h2 he⟩
 weak:=by rintro _ _ _ x cs ⟨c1,c2,rfl,h1,h2⟩ he; exact⟨c1,c2,rfl,r.weak h1 he,s.weak h2 he⟩
def Jsu{τ:Type}(r:RT τ):RT τ where
 size:=r.size
 agg:=true
 rep:=r.rep
 len:=r.len
 one:=fun h=>by cases h
 flat:=r.flat
 evo:=r.evo
 weak:=r.weak
def Juq:RT Unit where
 size:=1
 agg:=false
 rep:=fun _ _ _ _=>False
 len:=fun h=>h.elim
 one:=fun _=>rfl
 flat:=fun h=>h.elim
 evo:=fun h _=>h
 weak:=fun h _=>h
def Jsv{τ:Type}(r:RT τ):RT (Xs τ) where
 size:=r.size+1
 agg:=true
 rep:=fun _ _ _ _=>False
 len:=fun h=>h.elim
 one:=fun h=>by cases h
 flat:=fun h=>h.elim
 evo:=fun h _=>h
 weak:=fun h _=>h
def Jsw{τ:Type}(r:RT τ)(k:RT (Xs τ)):RT (Xs τ) where
 size:=r.size+1
 agg:=true
 rep:=fun ok w x cs=>∃c1 c2,cs=c1++c2∧r.rep ok w x.x c1∧(rSl k).rep ok w x.ks c2
 len:=by rintro _ _ x cs ⟨c1,c2,rfl,h1,h2⟩; simp[r.len h1,(rSl k).len h2,rSl]
 one:=fun h=>by cases h
 flat:=by
  rintro _ _ x cs ⟨c1,c2,rfl,h1,h2⟩ c hc
  rcases QZ.1 hc with hc | hc
  ·exact r.flat h1 c hc
  ·exact(rSl k).flat h2 c hc
 evo:=by rintro _ _ _ x cs ⟨c1,c2,rfl,h1,h2⟩ he; exact⟨c1,c2,rfl,r.evo h1 he,(rSl k).evo h2 he⟩
 weak:=by rintro _ _ _ x cs ⟨c1,c2,rfl,h1,h2⟩ he; exact⟨c1,c2,rfl,r.weak h1 he,(rSl k).weak h2 he⟩
def Lv{τ:Type}(r:RT τ):Nat→RT (Xs τ)
 | 0=>Jsv r
 | n+1=>Jsw r (Lv r n)
theorem Ir{τ:Type}(r:RT τ):∀n,(Lv r n).size=r.size+1
 | 0=>rfl
 | _+1=>rfl
theorem Qqv{τ:Type}{r s:RT τ}{ok:Ok}{w:World}(hs:r.size=s.size)(h:∀{x cs},r.rep ok w x cs→s.rep ok w x cs){xs:List τ}{cs:List Value}:(rSl r).rep ok w xs cs→(rSl s).rep ok w xs cs:=by
 rintro⟨v,rfl,A,n,c,rfl,hl,hc,hn⟩
 refine⟨_,rfl,A,n,c,rfl,hl,hc,fun h0=>?_⟩
 grind
theorem Qnh{τ:Type}(r:RT τ){ok:Ok}{w:World}:∀(n:Nat) {x:Xs τ} {cs:List Value},(Lv r n).rep ok w x cs→(Lv r (n+1)).rep ok w x cs
 | 0,_,_,h=>h.elim
 | n+1,x,cs,⟨c1,c2,e,h1,h2⟩=>⟨c1,c2,e,h1,Qqv (by rw[Ir,Ir]) (Qnh r n) h2⟩
theorem Jdq{τ:Type}(r:RT τ){ok:Ok}{w:World}{n m:Nat}(h:n≤m){x:Xs τ}{cs:List Value}(hx:(Lv r n).rep ok w x cs):(Lv r m).rep ok w x cs:=by
 induction h with
 | refl=>exact hx
 | step _ ih=>exact Qnh r _ ih
def Qni{τ:Type}(r:RT τ):RT (Xs τ) where
 size:=r.size+1
 agg:=true
 rep:=fun ok w x cs=>∃n,(Lv r n).rep ok w x cs
 len:=by rintro _ _ x cs ⟨n,h⟩; rw[(Lv r n).len h,Ir]
 one:=fun h=>by cases h
 flat:=by rintro _ _ x cs ⟨n,h⟩; exact(Lv r n).flat h
 evo:=by rintro _ _ _ x cs ⟨n,h⟩ he; exact⟨n,(Lv r n).evo h he⟩
 weak:=by rintro _ _ _ x cs ⟨n,h⟩ he; exact⟨n,(Lv r n).weak h he⟩
theorem Jdr{τ:Type}{r:RT τ}{ok:Ok}{w:World}{x:Xs τ}{cs:List Value}(h:(Qni r).rep ok w x cs):∃c1 c2,cs=c1++c2∧r.rep ok w x.x c1∧(rSl (Qni r)).rep ok w x.ks c2:=by
 obtain⟨n,h⟩:=h
 cases n with
 | zero=>exact h.elim
 | succ n =>
  obtain⟨c1,c2,e,h1,h2⟩:=h
  exact⟨c1,c2,e,h1,Qqv (s:=Qni r) (Ir r n) (fun h=>⟨n,h⟩) h2⟩
theorem Q1x{τ:Type}{r:RT τ}{ok:Ok}{w:World}{x:τ}{ks:List (Xs τ)}{c1 c2:List Value}(h1:r.rep ok w x c1)(h2:(rSl (Qni r)).rep ok w ks c2):(Qni r).rep ok w (.mk x ks) (c1++c2):=by
 obtain⟨v,rfl,A,n,c,rfl,hl,hc,hn⟩:=h2
 rcases Nat.eq_zero_or_pos n with h0 | h0
 ·subst h0
  refine⟨1,c1,_,rfl,h1,_,rfl,A,0,c,rfl,hl,hc,fun h=>absurd h (by omega)⟩
 ·obtain⟨b,o,hA,hx⟩:=hn h0
  have key2:∀(k:Nat),∃m,∀(i:Nat) (y:Xs τ),i<k→ks[i]?=some y→∃cs,(Lv r m).rep ok w y cs∧Ik ok w b (o+i*(Qni r).size) cs:=by
   intro k
   induction k with
   | zero=>simp_all
   | succ k ih =>
    obtain⟨m,hm⟩:=ih
    cases hk:ks[k]? with
    | none =>
     refine⟨m,fun i y hi hy=>?_⟩
     grind
    | some z =>
     obtain⟨cs,⟨m2,h3⟩,h4⟩:=hx k z hk
     refine⟨max m m2,fun i y hi hy=>?_⟩
     grind [Nat.lt_or_ge,Jdq,Nat.le_max_left,Nat.le_max_right]
  obtain⟨m,hm⟩:=key2 ks.length
  refine⟨m+1,c1,_,rfl,h1,_,rfl,A,n,c,rfl,hl,hc,fun _=>⟨b,o,hA,fun i y hy=>?_⟩⟩
  obtain⟨cs,h5,h6⟩:=hm i y (List.getElem?_eq_some_iff.1 hy).1 hy
  exact⟨cs,h5,by rw[Ir]; exact h6⟩
def rt:(t:Ty)→RT t.De
 | .int k=>T6 k
 | .bool=>Qvc
 | .str=>Jsr
 | .sl e=>rSl (rt e)
 | .arr n e=>Jhw n (rt e)
 | .unit=>Jup
 | .pr f r=>Jp5 (rt f) (rt r)
 | .st fs=>Jsu (rt fs)
 | .ref=>Juq
 | .rose fs=>Qni (rt fs)
def Ty.size:Ty→Nat
 | .int _=>1 | .bool=>1 | .str=>1 | .sl _=>1
 | .arr n e=>n*e.size
 | .unit=>0 | .pr f r=>f.size+r.size | .st fs=>fs.size | .ref=>1 | .rose fs=>fs.size+1
def Ty.agg:Ty→Bool
 | .int _=>false | .bool=>false | .str=>false | .sl _=>false
 | .arr _ _=>true
 | .unit=>true | .pr _ _=>true | .st _=>true | .ref=>false | .rose _=>true
theorem Jn:∀t:Ty,(rt t).size=t.size
 | .int _=>rfl | .bool=>rfl | .str=>rfl | .sl _=>rfl
 | .arr n e=>by simp[rt,Jhw,Ty.size,Jn e]
 | .unit=>rfl
 | .pr f r=>by simp[rt,Jp5,Ty.size,Jn f,Jn r]
 | .st fs=>by simp[rt,Jsu,Ty.size,Jn fs]
 | .ref=>rfl
 | .rose fs=>by simp[rt,Qni,Ty.size,Jn fs]
theorem Nn:∀t:Ty,(rt t).agg=t.agg
 | .int _=>rfl | .bool=>rfl | .str=>rfl | .sl _=>rfl | .arr _ _=>rfl | .unit=>rfl | .pr _ _=>rfl | .st _=>rfl | .ref=>rfl | .rose _=>rfl
inductive PS where
 | f (k off:Nat) | i (j:Int) (size:Nat)
def PS.off:PS→Nat
 | .f _ o=>o | .i j s=>j.toNat*s
def Yr:List PS→Nat
 | []=>0
 | p::l=>p.off+Yr l
inductive AV where
 | d (t:Ty) (x:t.De)
 | p (id:Nat) (path:List PS)
 | e (id:Nat) (path:List PS)
 | s (id:Nat)
 | m (id:Nat)
 | b (id:Nat)
 | w (id:Nat) (j n:Int)
 | a (t:Ty) (x:t.De)
 | z | ns | np | nm | nf
 | f (fn:FuncId) (caps:AV)
 | ag (l:AV)
 | tp (l:AV)
 | nil
 | cons (x r:AV)
def AV.isAgg:AV→Bool
 | .d t _=>t.agg
 | .ag _=>true
 | _=>false
def AV.val(x:AV)(cs:List Value):Value:=bif x.isAgg then .agg cs.toArray else cs.headD undef
def AV.size:AV→Nat
 | .d t _=>t.size
 | .ag l=>l.size
 | .nil=>0
 | .cons x r=>x.size+r.size
 | _=>1
def AV.inMem:AV→Bool
 | .tp _=>false
 | .f _ _=>true
 | .ag l=>l.inMem
 | .cons x r=>x.inMem&&r.inMem
 | _=>true
def zal(v u:Value):Prop:=v=u∨(u=.slice none 0 0∧∃A,v=.slice A 0 0)
theorem zal.form{v u:Value}(h:zal v u)(hu:∃A n c,u=.slice A n c):∃A n c,v=.slice A n c:=by
 rcases h with rfl | ⟨_,A,rfl⟩
 ·exact hu
 grind
section
variable (β:Nat→Nat) (ρ:Nat→Value) (ok:Ok) (w:World)
def cr:Bool→AV→List Value→Prop
 | _,.d t x,cs=>(rt t).rep ok w x cs
 | _,.p id path,cs=>cs=[.pointer (some ⟨β id,Yr path,none⟩)]
 | _,.e id path,cs=>∃g,(ρ id).ownBlock=some g∧cs=[.pointer (some ⟨g,Yr path,none⟩)]
 | _,.s id,cs=>(∃v,cs=[v]∧zal v (ρ id))∧∃A n c,ρ id=.slice A n c
 | _,.m id,cs=>cs=[.map (some (β id))]
 | _,.b id,cs=>cs=[.int .i64 (β id)]
 | _,.w id j n,cs=>∃A c,cs=[.slice (some A) n.toNat c]∧(0<n.toNat→A=⟨β id,j.toNat,none⟩)
 | _,.a t x,cs=>∃v,cs=[v]∧Qky (rt t) ok w x v
 | _,.z,cs=>∃A,cs=[.slice A 0 0]
 | _,.ns,cs=>cs=[.slice none 0 0]
 | _,.np,cs=>cs=[.pointer none]
 | _,.nm,cs=>cs=[.map none]
 | _,.nf,cs=>cs=[.nilFunc]
 | _,.f fn caps,cs=>∃vs,cs=[.func (.func fn) #[] vs.toArray]∧cr true caps vs
 | _,.ag l,cs=>cr false l cs
 | _,.tp l,cs=>∃vs,cs=[.tuple vs.toArray]∧cr true l vs
 | _,.nil,cs=>cs=[]
 | true,.cons x r,cs=>∃c1 vs,cs=x.val c1::vs∧cr false x c1∧cr true r vs
 | false,.cons x r,cs=>∃c1 c2,cs=c1++c2∧cr false x c1∧cr false r c2
end
section
variable {β:Nat→Nat} {ρ:Nat→Value} {ok ok':Ok} {w w':World}
theorem No:∀{m:Bool} {x:AV} {cs:List Value},cr β ρ ok w m x cs→Evo ok w w'→cr β ρ ok w' m x cs
 | m,.d t x,cs,h,he=>by cases m<;>exact(rt t).evo h he
 | m,.p ..,cs,h,he=>by cases m<;>exact h
 | m,.e ..,cs,h,he=>by cases m<;>exact h
 | m,.s _,cs,h,he=>by cases m<;>exact h
 | m,.m _,cs,h,he=>by cases m<;>exact h
 | m,.b _,cs,h,he=>by cases m<;>exact h
 | m,.w ..,cs,h,he=>by cases m<;>exact h
 | m,.a t x,cs,h,he=>by cases m<;>exact let⟨v,h1,h2⟩:=h; ⟨v,h1,h2.evo he⟩
 | m,.z,cs,h,he=>by cases m<;>exact h
 | m,.ns,cs,h,he=>by cases m<;>exact h
 | m,.np,cs,h,he=>by cases m<;>exact h
 | m,.nm,cs,h,he=>by cases m<;>exact h
 | m,.nf,cs,h,he=>by cases m<;>exact h
 | m,.f fn caps,cs,h,he=>by cases m<;>exact let⟨vs,h1,h2⟩:=h; ⟨vs,h1,No h2 he⟩
 | m,.ag l,cs,h,he=>by cases m<;>exact No (m:=false) (x:=l) h he
 | m,.tp l,cs,h,he=>by cases m<;>exact let⟨vs,h1,h2⟩:=h; ⟨vs,h1,No h2 he⟩
 | m,.nil,cs,h,he=>by cases m<;>exact h
 | true,.cons x r,cs,h,he=>let⟨c1,vs,h1,h2,h3⟩:=h; ⟨c1,vs,h1,No h2 he,No h3 he⟩
 | false,.cons x r,cs,h,he=>let⟨c1,vs,h1,h2,h3⟩:=h; ⟨c1,vs,h1,No h2 he,No h3 he⟩
theorem Gs:∀{m:Bool} {x:AV} {cs:List Value},cr β ρ ok w m x cs→(∀b o,ok b o→ok' b o)→cr β ρ ok' w m x cs
 | m,.d t x,cs,h,he=>by cases m<;>exact(rt t).weak h he
 | m,.p ..,cs,h,he=>by cases m<;>exact h
 | m,.e ..,cs,h,he=>by cases m<;>exact h
 | m,.s _,cs,h,he=>by cases m<;>exact h
 | m,.m _,cs,h,he=>by cases m<;>exact h
 | m,.b _,cs,h,he=>by cases m<;>exact h
 | m,.w ..,cs,h,he=>by cases m<;>exact h
 | m,.a t x,cs,h,he=>by cases m<;>exact let⟨v,h1,h2⟩:=h; ⟨v,h1,h2.weak he⟩
 | m,.z,cs,h,he=>by cases m<;>exact h
 | m,.ns,cs,h,he=>by cases m<;>exact h
 | m,.np,cs,h,he=>by cases m<;>exact h
 | m,.nm,cs,h,he=>by cases m<;>exact h
 | m,.nf,cs,h,he=>by cases m<;>exact h
 | m,.f fn caps,cs,h,he=>by cases m<;>exact let⟨vs,h1,h2⟩:=h; ⟨vs,h1,Gs h2 he⟩
 | m,.ag l,cs,h,he=>by cases m<;>exact Gs (m:=false) (x:=l) h he
 | m,.tp l,cs,h,he=>by cases m<;>exact let⟨vs,h1,h2⟩:=h; ⟨vs,h1,Gs h2 he⟩
 | m,.nil,cs,h,he=>by cases m<;>exact h
 | true,.cons x r,cs,h,he=>let⟨c1,vs,h1,h2,h3⟩:=h; ⟨c1,vs,h1,Gs h2 he,Gs h3 he⟩
 | false,.cons x r,cs,h,he=>let⟨c1,vs,h1,h2,h3⟩:=h; ⟨c1,vs,h1,Gs h2 he,Gs h3 he⟩
theorem Z0:∀{x:AV} {cs:List Value},cr β ρ ok w false x cs→cs.length=x.size
 | .d t x,cs,h=>by rw[AV.size,←Jn]; exact(rt t).len h
 | .p ..,cs,h=>by subst h; rfl
 | .e ..,cs,⟨_,_,h⟩=>by subst h; rfl
 | .s _,cs,⟨⟨_,h,_⟩,_⟩=>by subst h; rfl
 | .m _,cs,h=>by subst h; rfl
 | .b _,cs,h=>by subst h; rfl
 | .w ..,cs,⟨_,_,h,_⟩=>by subst h; rfl
 | .a t x,cs,⟨_,h,_⟩=>by subst h; rfl
 | .z,cs,⟨_,h⟩=>by subst h; rfl
 | .ns,cs,h=>by subst h; rfl
 | .np,cs,h=>by subst h; rfl
 | .nm,cs,h=>by subst h; rfl
 | .nf,cs,h=>by subst h; rfl
 | .f ..,cs,⟨_,h,_⟩=>by subst h; rfl
 | .ag l,cs,h=>by rw[AV.size]; exact Z0 (x:=l) h
 | .tp l,cs,⟨_,h,_⟩=>by subst h; rfl
 | .nil,cs,h=>by subst h; rfl
 | .cons x r,cs,⟨c1,c2,h,h1,h2⟩=>by subst h; rw[List.length_append,Z0 h1,Z0 h2]; rfl
theorem T9:∀{x:AV} {cs:List Value},cr β ρ ok w false x cs→x.inMem=true→∀c∈cs,c.oneCell'=true
 | .d t x,cs,h,_=>(rt t).flat h
 | .p ..,cs,h,_=>by subst h; simp; rfl
 | .e ..,cs,⟨_,_,h⟩,_=>by subst h; simp; rfl
 | .s id,cs,⟨⟨v,h,hz⟩,hs⟩,_=>by
  subst h; obtain⟨A,n,c,rfl⟩:=hz.form hs
  intro c hc; simp at hc; subst hc; rfl
 | .m _,cs,h,_=>by subst h; simp; rfl
 | .b _,cs,h,_=>by subst h; simp; rfl
 | .w ..,cs,⟨_,_,h,_⟩,_=>by subst h; simp; rfl
 | .a t x,cs,⟨v,h,hv⟩,_=>by obtain⟨b,o,c,rfl,_⟩:=hv; subst h; simp; rfl
 | .z,cs,⟨_,h⟩,_=>by subst h; simp; rfl
 | .ns,cs,h,_=>by subst h; simp; rfl
 | .np,cs,h,_=>by subst h; simp; rfl
 | .nm,cs,h,_=>by subst h; simp; rfl
 | .nf,cs,h,_=>by subst h; simp; rfl
 | .f ..,cs,⟨_,h,_⟩,_=>by subst h; simp; rfl
 | .ag l,cs,h,hm=>T9 (x:=l) h hm
 | .tp l,cs,_,hm=>by cases hm
 | .nil,cs,h,_=>by subst h; simp
 | .cons x r,cs,⟨c1,c2,h,h1,h2⟩,hm=>by
  simp only[AV.inMem,QJ]at hm
  subst h
  intro c hc
  rcases QZ.1 hc with hc | hc
  ·exact T9 h1 hm.1 c hc
  ·exact T9 h2 hm.2 c hc
theorem Jsx{x:AV}{cs:List Value}(h:cr β ρ ok w false x cs)(ha:x.isAgg=false)(hn:x.size=1):∃c,cs=[c]:=by
 have:=Z0 h
 rw[hn]at this
 match cs,this with
 | [c],_=>exact⟨c,rfl⟩
theorem Jh7:∀{t:Ty},t.agg=false→t.size=1
 | .int _,_=>rfl | .bool,_=>rfl | .str,_=>rfl | .sl _,_=>rfl | .ref,_=>rfl
def AV.isVal:AV→Bool
 | .nil=>false
 | .cons _ _=>false
 | .d t _=>true
 | _=>true
theorem Pm{x:AV}{cs:List Value}(h:cr β ρ ok w false x cs)(hv:x.isVal=true)(hm:x.inMem=true):Qv (x.val cs)=cs:=by
 unfold AV.val
 cases ha:x.isAgg with
 | true=>simp[Qv]
 | false =>
  have hsz:x.size=1:=by
   cases x<;>first | rfl | (simp[AV.isAgg]at ha; done) | (simp[AV.isVal]at hv; done) | skip
   ·exact Jh7 ha
  obtain⟨c,rfl⟩:=Jsx h ha hsz
  have:=T9 h hm c (.head _)
  simp only[cond_false,List.headD_cons]
  cases c<;>first | rfl | grind [Value.oneCell']
theorem Q1y{t:Ty}{x:t.De}{cs:List Value}:(AV.d t x).val cs=(rt t).val cs:=by
 grind [AV.val,AV.isAgg,RT.val,Nn]
theorem Jds{t:Ty}{x:t.De}{cs:List Value}(h:cr β ρ ok w false (.d t x) cs):isV (rt t) ok w x ((AV.d t x).val cs):=⟨cs,h,Q1y⟩
theorem Si{t:Ty}{x:t.De}{v:Value}(h:isV (rt t) ok w x v):∃cs,cr β ρ ok w false (.d t x) cs∧v=(AV.d t x).val cs:=by
 obtain⟨cs,hr,rfl⟩:=h
 exact⟨cs,hr,Q1y.symm⟩
end
end Gx

/- Abstract states. -/
namespace Gx
open Go Go.RowKit Gd
set_option linter.unusedVariables false
set_option linter.unusedSimpArgs false
inductive CK where
 | sl (e:TypeId) (u:Ty)
 | mp (k v:Ty)
@[reducible] def CK.ty:CK→Ty
 | .sl _ u=>.sl u
 | .mp k v=>.sl (.pr k v)
inductive Ob where
 | var (tid:TypeId) (c:AV)
 | row (e:TypeId) (t:Ty) (xs:List t.De)
 | tail (e:TypeId) (t:Ty) (xs:List t.De)
 | map (k v:Ty) (xs:List (k.De×v.De))
 | mapC (k:Ty) (c:CK) (xs:List (k.De×c.ty.De)) (hole:Option (k.De×Nat))
def Qqw(β:Nat→Nat)(ρ:Nat→Value)(g:Nat)(tid:TypeId)(c:AV):TL where
 blks:=fun b=>b=g
 cov:=fun b _=>b=g
 cb:=fun h=>h
 p:=fun ok w=>∃cs,w.heap[g]?=some (.cells cs.toArray tid (0,0))∧cr β ρ ok w false c cs
 keep:=fun⟨cs,h1,h2⟩ hb he=>⟨cs,by rw[hb _ rfl]; exact h1,No h2 he⟩
 weak:=fun⟨cs,h1,h2⟩ hk=>⟨cs,h1,Gs h2 hk⟩
 lt:=fun⟨_,h,_⟩ b hb=>by grind
def Qc3{τ:Type}(v:Value)(e:Nat)(r:RT τ)(xs:List τ):TL where
 blks:=fun g=>v.ownBlock=some g
 cov:=fun b o=>v.ownBlock=some b∧Wn v*r.size≤o
 cb:=fun h=>h.1
 p:=fun ok w=>isV (rSl r) ok w xs v∧∃ys,w.ownsRowS 0 e r.size v (Wn v) ys
 keep:=fun⟨h1,ys,h⟩ hb he=>⟨h1.evo he,ys,T7 h hb⟩
 weak:=fun⟨h1,h⟩ hk=>⟨h1.weak hk,h⟩
 lt:=fun⟨_,_,h⟩ g hg=>(h.lt g hg).2
def Lw{κ ν:Type}(r:RT κ)(s:RT ν)(ok:Ok)(w:World):List (κ×ν)→List MapEntry→Prop
 | [],es=>es=[]
 | x::xs,es=>∃e es',es=e::es'∧isV r ok w x.1 e.key∧isV s ok w x.2 e.val∧Lw r s ok w xs es'
theorem Sj{κ ν:Type}{r:RT κ}{s:RT ν}{ok:Ok}{w w':World}:∀{xs:List (κ×ν)} {es:List MapEntry},Lw r s ok w xs es→Evo ok w w'→Lw r s ok w' xs es
 | [],_,h,_=>h
 | x::xs,es,⟨e,es',h,h1,h2,h3⟩,he=>⟨e,es',h,h1.evo he,h2.evo he,Sj h3 he⟩
theorem H3{κ ν:Type}{r:RT κ}{s:RT ν}{ok ok':Ok}{w:World}:∀{xs:List (κ×ν)} {es:List MapEntry},Lw r s ok w xs es→(∀b o,ok b o→ok' b o)→Lw r s ok' w xs es
 | [],_,h,_=>h
 | x::xs,es,⟨e,es',h,h1,h2,h3⟩,he=>⟨e,es',h,h1.weak he,h2.weak he,H3 h3 he⟩
def Qi4{κ ν:Type}(g:Nat)(r:RT κ)(s:RT ν)(xs:List (κ×ν)):TL where
 blks:=fun b=>b=g
 cov:=fun b _=>b=g
 cb:=fun h=>h
 p:=fun ok w=>∃es clock,w.heap[g]?=some (.map es clock)∧Lw r s ok w xs es.toList∧(xs.map Prod.fst).Nodup∧(es.toList.map MapEntry.born).Nodup∧∀e∈es.toList,e.born<clock
 keep:=fun⟨es,c,h1,h2,h3⟩ hb he=>⟨es,c,by rw[hb _ rfl]; exact h1,Sj h2 he,h3⟩
 weak:=fun⟨es,c,h1,h2,h3⟩ hk=>⟨es,c,h1,H3 h2 hk,h3⟩
 lt:=fun⟨_,_,h,_⟩ b hb=>by grind
def Xl:Value→Option Nat
 | .map o=>o
 | v=>v.ownBlock
theorem Qc4{w:World}{base:Nat}{e:TypeId}{size n:Nat}{v:Value}{xs:List Value}(h:w.ownsRowS base e size v n xs){b:Nat}:v.ownBlock=some b↔Xl v=some b:=by
 rcases h.2 with⟨rfl,_⟩ | ⟨g,cap,cur,fz,rfl,_⟩<;>exact Iff.rfl
def Qck:(c:CK)→Value→c.ty.De→TL
  | .sl e u,v,x=>ml v e (rt u) x
  | .mp k v0,v,x=>{ Qi4 ((Xl v).getD 0) (rt k) (rt v0) x with
      blks:=fun b=>Xl v=some b
      cov:=fun b _=>Xl v=some b
      cb:=fun h=>h
      p:=fun ok w=>∃g,v=.map (some g)∧(Qi4 g (rt k) (rt v0) x).p ok w
      keep:=fun⟨g,h1,h2⟩ hb he=>⟨g,h1,(Qi4 g (rt k) (rt v0) x).keep h2 (fun b hg=>hb b (by subst hg; rw[h1]; rfl)) he⟩
      weak:=fun⟨g,h1,h2⟩ hk=>⟨g,h1,(Qi4 g (rt k) (rt v0) x).weak h2 hk⟩
      lt:=fun⟨g,h1,h2⟩ b hb=>(Qi4 g (rt k) (rt v0) x).lt h2 b (by rw[h1]at hb; injection hb with hb; exact hb.symm) }
theorem Q1z{c:CK}{v:Value}{x:c.ty.De}{ok:Ok}{w:World}(h:(Qck c v x).p ok w){b:Nat}:(Qck c v x).blks b↔Xl v=some b:=by
 cases c with
 | sl e u =>
  obtain⟨_,cs,h2,_⟩:=h
  exact Qc4 h2
 | mp k v0=>exact Iff.rfl
def Jnx:RT Value where
 size:=1
 agg:=false
 rep:=fun _ _ x cs=>cs=[x]∧x.oneCell'=true
 len:=fun h=>by rw[h.1]; rfl
 one:=fun _=>rfl
 flat:=fun h c hc=>by rw[h.1]at hc; grind
 evo:=fun h _=>h
 weak:=fun h _=>h
def Du{κ:Type}(c:CK)(hole:Option κ)(hv:Value)(ok:Ok)(w:World):List (κ×c.ty.De)→List (κ×Value)→List Value→Prop
 | [],[],[]=>True
 | x::xs,y::ys,v::vs=>x.1=y.1∧((hole=some x.1∧v=undef∧zal y.2 hv)∨(hole≠some x.1∧zal y.2 v∧(Qck c v x.2).p ok w))∧Du c hole hv ok w xs ys vs
 | _,_,_=>False
section
variable {κ:Type} {c:CK} {hole:Option κ} {hv:Value} {ok ok':Ok} {w w':World}
theorem Qqx:∀{xs:List (κ×c.ty.De)} {ys:List (κ×Value)} {vs:List Value},Du c hole hv ok w xs ys vs→(∀v∈vs,∀b,Xl v=some b→w'.heap[b]?=w.heap[b]?)→Evo ok w w'→Du c hole hv ok w' xs ys vs
 | [],[],[],h,_,_=>h
 | x::xs,y::ys,v::vs,⟨h1,h2,h3⟩,hb,he=>⟨h1,h2.imp id fun⟨q1,q2,q3⟩=>⟨q1,q2,(Qck c v x.2).keep q3 (fun b hg=>hb v (.head _) b ((Q1z q3).1 hg)) he⟩,Qqx h3 (fun v hv=>hb v (.tail _ hv)) he⟩
 | [],[],_::_,h,_,_=>h.elim
 | [],_::_,_,h,_,_=>h.elim
 | _::_,[],_,h,_,_=>h.elim
 | _::_,_::_,[],h,_,_=>h.elim
theorem Sl:∀{xs:List (κ×c.ty.De)} {ys:List (κ×Value)} {vs:List Value},Du c hole hv ok w xs ys vs→(∀b o,ok b o→ok' b o)→Du c hole hv ok' w xs ys vs
 | [],[],[],h,_=>h
 | x::xs,y::ys,v::vs,⟨h1,h2,h3⟩,hk=>⟨h1,h2.imp id fun⟨q1,q2,q3⟩=>⟨q1,q2,(Qck c v x.2).weak q3 hk⟩,Sl h3 hk⟩
 | [],[],_::_,h,_=>h.elim
 | [],_::_,_,h,_=>h.elim
 | _::_,[],_,h,_=>h.elim
 | _::_,_::_,[],h,_=>h.elim
theorem Jah:∀{xs:List (κ×c.ty.De)} {ys:List (κ×Value)} {vs:List Value},Du c hole hv ok w xs ys vs→∀v∈vs,∀b,Xl v=some b→b<w.heap.size
 | [],[],[],h=>by simp
 | x::xs,y::ys,v::vs,⟨h1,h2,h3⟩=>by
  intro y hy b hb
  rcases QX.1 hy with rfl | hy
  ·rcases h2 with⟨_,rfl,_⟩ | ⟨_,_,q3⟩
   ·cases hb
   ·exact(Qck c y x.2).lt q3 b ((Q1z q3).2 hb)
  ·exact Jah h3 y hy b hb
 | [],[],_::_,h=>h.elim
 | [],_::_,_,h=>h.elim
 | _::_,[],_,h=>h.elim
 | _::_,_::_,[],h=>h.elim
end
def Qaa:Value→List Value
 | .tuple vs=>vs.toList
 | _=>[]
abbrev Qi5(vs:List Value):Prop:=vs.Pairwise fun a b=>∀g,Xl a=some g→Xl b≠some g
def Jh8{κ:Type}(g:Nat)(r:RT κ)(c:CK)(vs:List Value)(xs:List (κ×c.ty.De))(hole:Option κ)(hv:Value)(ok:Ok)(w:World):Prop :=
 ∃ys,(∃es clock,w.heap[g]?=some (.map es clock)∧Lw r Jnx ok w ys es.toList∧(es.toList.map MapEntry.born).Nodup∧∀e∈es.toList,e.born<clock)∧Du c hole hv ok w xs ys vs∧(xs.map Prod.fst).Nodup∧Qi5 vs∧(∀v∈vs,Xl v≠some g)∧∀k,hole=some k→k∉xs.map Prod.fst→hv=.slice none 0 0
def Jh9(g:Nat)(vs:List Value){κ:Type}(r:RT κ)(c:CK)(xs:List (κ×c.ty.De))(hole:Option κ)(hv:Value):TL where
 blks:=fun b=>b=g∨∃v∈vs,Xl v=some b
 cov:=fun b _=>b=g∨∃v∈vs,Xl v=some b
 cb:=fun h=>h
 p:=fun ok w=>Jh8 g r c vs xs hole hv ok w
 keep:=fun⟨ys,⟨es,cl,h1,h2,h3⟩,h4,h5⟩ hb he=>⟨ys,⟨es,cl,by rw[hb _ (.inl rfl)]; exact h1,Sj h2 he,h3⟩,Qqx h4 (fun v hv b hvb=>hb b (.inr ⟨v,hv,hvb⟩)) he,h5⟩
 weak:=fun⟨ys,⟨es,cl,h1,h2,h3⟩,h4,h5⟩ hk=>⟨ys,⟨es,cl,h1,H3 h2 hk,h3⟩,Sl h4 hk,h5⟩
 lt:=fun⟨_,⟨_,_,h,_⟩,h2,_⟩ b hb=>by
  rcases hb with rfl | ⟨v,hv,hb⟩
  ·exact Vh h
  ·exact Jah h2 v hv b hb
def Np{k:Ty}(β:Nat→Nat)(ρ:Nat→Value)(c:CK)(hole:Option (k.De×Nat)):Value:=match hole with
 | some q=>(match c with
  | .sl _ _=>ρ q.2
  | .mp _ _=>.map (some (β q.2)))
 | none=>undef
def Q10{k:Ty}(hole:Option (k.De×Nat)):Option k.De:=match hole with
 | some q=>some q.1
 | none=>none
def Q4(β:Nat→Nat)(ρ:Nat→Value)(id:Nat):Ob→TL
 | .var tid c=>Qqw β ρ (β id) tid c
 | .row e t xs=>ml (ρ id) e (rt t) xs
 | .tail e t xs=>Qc3 (ρ id) e (rt t) xs
 | .map k v xs=>Qi4 (β id) (rt k) (rt v) xs
 | .mapC k c xs hole=>Jh9 (β id) (Qaa (ρ id)) (rt k) c xs (Q10 hole) (Np β ρ c hole)
abbrev Vk:=List (Nat×Bool)
structure En where
 t:Nat
 cs:Vk
 av:AV
structure St where
 env:List En
 mem:List (Nat×Ob)
def Jx(a:Act)(cs:Vk):Prop:=∀c∈cs,a.tmps[c.1]?=some (.bool c.2)
def rd(a:Act)(t:Nat):Option Value:=bif Nat.blt t 100000 then a.tmps[t]? else some (.pointer (some ⟨t - 100000,0,none⟩))
theorem Pn{a:Act}{t:Nat}(h:Nat.blt t 100000=true):rd a t=a.tmps[t]?:=by grind [rd]
def enD(β:Nat→Nat)(ρ:Nat→Value)(a:Act)(e:En):DF where
 p:=fun ok w=>(Jx a e.cs→∃cs,rd a e.t=some (e.av.val cs)∧cr β ρ ok w false e.av cs)∧(Jx a e.cs∨rd a e.t=some undef)
 evo:=fun h he=>⟨fun hc=>let⟨cs,h1,h2⟩:=h.1 hc; ⟨cs,h1,No h2 he⟩,h.2⟩
 weak:=fun h hk=>⟨fun hc=>let⟨cs,h1,h2⟩:=h.1 hc; ⟨cs,h1,Gs h2 hk⟩,h.2⟩
abbrev Qk(β:Nat→Nat)(ρ:Nat→Value)(mem:List (Nat×Ob)):List TL:=mem.map fun q=>Q4 β ρ q.1 q.2
abbrev okR(X:Cx)(β:Nat→Nat)(ρ:Nat→Value)(mem:List (Nat×Ob))(w:World):Ok:=Jk X.ok X.w.heap.size (fun _=>0) [] (Qk β ρ mem) w
def Rel(X:Cx)(β:Nat→Nat)(ρ:Nat→Value)(S:St)(a:Act)(w:World):Prop :=
 Sb (fun _=>0) X [] (S.env.map (enD β ρ a)) [] (Qk β ρ S.mem) a w
def Qk7:List En→Nat→Option En
 | [],_=>none
 | e::l,t=>bif Nat.beq e.t t then some e else Qk7 l t
theorem Qk8{l:List En}{t:Nat}{e:En}(h:Qk7 l t=some e):e∈l∧e.t=t:=by
 induction l with
 | nil=>simp[Qk7]at h
 | cons x l ih =>
  simp only[Qk7]at h
  cases hb:Nat.beq x.t t with
  | true=>rw[hb]at h; simp_all
  | false=>rw[hb]at h; grind
def Xt(l:List En)(t:Nat):Option En:=bif Nat.blt t 100000 then Qk7 l t else none
theorem Qc5{l:List En}{t:Nat}{e:En}(h:Xt l t=some e):Nat.blt t 100000=true:=by
 grind [Xt,Nat.blt]
theorem Z3{l:List En}{t:Nat}{e:En}(h:Xt l t=some e):e∈l∧e.t=t:=by
 have hb:=Qc5 h
 grind [Xt,Qk8]
theorem Q11{l:List En}{t:Nat}{e:En}(h:Xt l t=some e)(a:Act):rd a e.t=a.tmps[e.t]?:=Pn (by rw[(Z3 h).2]; exact Qc5 h)
def Jur(l:List En)(g:Nat):Option En:=Qk7 l (100000+g)
theorem Q7q(a:Act)(g:Nat):rd a (100000+g)=some (.pointer (some ⟨g,0,none⟩)):=by
 unfold rd
 have:Nat.blt (100000+g) 100000=false:=by
  cases hb:Nat.blt (100000+g) 100000 with
  | false=>rfl
  | true=>exact absurd (QW hb) (by omega)
 rw[this]
 simp
def Jny:Vk→Nat×Bool→Bool
 | [],_=>false
 | (t,b)::l,c=>(Nat.beq t c.1&&(b==c.2))||Jny l c
theorem Jai:∀{l:Vk} {c:Nat×Bool},Jny l c=true→c∈l
 | (t,b)::l,(u,v),h=>by
  simp only[Jny,JU,QJ]at h
  rcases h with⟨h1,h2⟩ | h
  ·have:=Nat.eq_of_beq_eq_true h1
   grind
  ·exact .tail _ (Jai h)
def Qyk:Vk→Vk→Bool
 | [],_=>true
 | c::l,cur=>Jny cur c&&Qyk l cur
theorem Qfc:∀{l cur:Vk} {a:Act},Qyk l cur=true→Jx a cur→Jx a l
 | [],cur,a,_,_=>by intro c hc; cases hc
 | c::l,cur,a,h,hc=>by
  simp only[Qyk,QJ]at h
  intro x hx
  rcases QX.1 hx with rfl | hx
  ·exact hc _ (Jai h.1)
  ·exact Qfc h.2 hc x hx
def Qk9:Value→Option AV
 | .int k n=>some (.d (.int k) n)
 | .bool b=>some (.d .bool b)
 | .string ⟨⟨l⟩⟩=>some (.d .str l)
 | .slice none 0 0=>some .ns
 | .pointer none=>some .np
 | .map none=>some .nm
 | .nilFunc=>some .nf
 | _=>none
def Qqy:List Value→Option AV
 | []=>some .nil
 | v::l=>match Qk9 v,Qqy l with
  | some x,some r=>some (.cons x r)
  | _,_=>none
def Qyl:Value→Option AV
 | .agg ⟨l⟩=>match Qqy l with
  | some r=>some (.ag r)
  | none=>none
 | v=>Qk9 v
section
variable {β:Nat→Nat} {ρ:Nat→Value} {ok:Ok} {w:World}
theorem Qla{v:Value}{x:AV}(h:Qk9 v=some x):cr β ρ ok w false x [v]∧x.val [v]=v:=by
 unfold Qk9 at h
 split at h<;>first | (simp at h; done) | skip
 all_goals
  simp only[Option.some.injEq]at h
  subst h
  exact⟨rfl,rfl⟩
theorem Qvk:∀{l:List Value} {x:AV},Qqy l=some x→cr β ρ ok w false x l
 | [],x,h=>by simp[Qqy]at h; subst h; rfl
 | v::l,x,h=>by
  simp only[Qqy]at h
  split at h
  ·rename_i y r h1 h2
   simp at h; subst h
   exact⟨[v],l,rfl,(Qla h1).1,Qvk h2⟩
  ·cases h
theorem Qqz{v:Value}{x:AV}(h:Qyl v=some x):∃cs,v=x.val cs∧cr β ρ ok w false x cs:=by
 unfold Qyl at h
 split at h
 ·rename_i l
  split at h
  ·rename_i r hr
   simp at h; subst h
   exact⟨l,rfl,Qvk (x:=r) hr⟩
  ·cases h
 ·obtain⟨h1,h2⟩:=Qla (β:=β) (ρ:=ρ) (ok:=ok) (w:=w) h
  grind
end
def ev(S:St)(cur:Vk):Operand→Option AV
 | .tmp t=>match Xt S.env t with
  | some e=>bif Qyk e.cs cur then some e.av else none
  | none=>none
 | .const v=>Qyl v
 | .func f=>some (.f f .nil)
 | .global g=>match Jur S.env g with
  | some e=>bif Qyk e.cs cur then some e.av else none
  | none=>none
def Qc6(t:Nat):Vk→Bool
 | []=>false
 | c::l=>Nat.beq c.1 t||Qc6 t l
theorem Qc7{t:Nat}:∀{l:Vk},Qc6 t l=false→∀c∈l,c.1≠t
 | [],_,c,hc=>by cases hc
 | d::l,h,c,hc=>by
  simp only[Qc6,XR]at h
  rcases QX.1 hc with rfl | hc
  ·grind [Nat.beq_refl]
  ·exact Qc7 h.2 c hc
def Vc:List En→Nat→List En
 | [],_=>[]
 | e::l,t=>bif Nat.beq e.t t||Qc6 t e.cs then Vc l t else e::Vc l t
theorem Nq{l:List En}{t:Nat}{e:En}(h:e∈Vc l t):e∈l∧e.t≠t∧∀c∈e.cs,c.1≠t:=by
 induction l with
 | nil=>simp[Vc]at h
 | cons x l ih =>
  simp only[Vc]at h
  cases hb:(Nat.beq x.t t||Qc6 t x.cs)with
  | true=>rw[hb]at h; grind
  | false =>
   rw[hb]at h
   simp only[cond_false,QX]at h
   rcases h with rfl | h
   ·simp only[XR]at hb
    exact⟨.head _,fun e=>by rw[e]at hb; simp_all,Qc7 hb.2⟩
   grind
def St.put(S:St)(d:Nat)(cs:Vk)(x:AV):St:=⟨⟨d,cs,x⟩::Vc S.env d,S.mem⟩
def St.del(S:St)(d:Nat):St:=⟨Vc S.env d,S.mem⟩
section
variable {X:Cx} {β:Nat→Nat} {ρ:Nat→Value} {S:St} {a a':Act} {w w':World}
theorem Yk{ok:Ok}{w:World}:∀{D:List DF},Qcy ok w D↔∀d∈D,d.p ok w
 | []=>by simp[Qcy]
 | d::D=>by simp[Qcy,Yk (D:=D)]
theorem Rel.en(h:Rel X β ρ S a w){e:En}(he:e∈S.env):(enD β ρ a e).p (okR X β ρ S.mem w) w:=Yk.1 h.dat _ (QK.2 ⟨e,he,rfl⟩)
theorem Rel.get(h:Rel X β ρ S a w){t:Nat}{e:En}(he:Xt S.env t=some e)(hc:Jx a e.cs) :
  ∃cs,a.tmps[t]?=some (e.av.val cs)∧cr β ρ (okR X β ρ S.mem w) w false e.av cs:=by
 have hr:=Q11 he a
 obtain⟨hm,rfl⟩:=Z3 he
 rw[←hr]
 exact(h.en hm).1 hc
theorem Rel.ev(h:Rel X β ρ S a w){cur:Vk}(hc:Jx a cur){x:Operand}{v:AV}(hx:ev S cur x=some v) :
  ∃cs,a.eval x=v.val cs∧cr β ρ (okR X β ρ S.mem w) w false v cs:=by
 cases x with
 | tmp t =>
  simp only[Gx.ev]at hx
  split at hx
  ·rename_i e he
   cases hb:Qyk e.cs cur with
   | false=>rw[hb]at hx; cases hx
   | true =>
    rw[hb]at hx
    simp at hx; subst hx
    obtain⟨cs,h1,h2⟩:=h.get he (Qfc hb hc)
    exact⟨cs,by simp[Act.eval,h1],h2⟩
  ·cases hx
 | const v =>
  obtain⟨cs,h1,h2⟩:=Qqz (β:=β) (ρ:=ρ) (ok:=okR X β ρ S.mem w) (w:=w) hx
  exact⟨cs,h1,h2⟩
 | func f =>
  simp[Gx.ev]at hx; subst hx
  exact⟨[.func (.func f) #[] #[]],rfl,[],rfl,rfl⟩
 | global g =>
  simp only[Gx.ev]at hx
  split at hx
  ·rename_i e he
   cases hb:Qyk e.cs cur with
   | false=>rw[hb]at hx; cases hx
   | true =>
    rw[hb]at hx
    simp at hx; subst hx
    obtain⟨hm,ht⟩:=Qk8 he
    obtain⟨cs,h1,h2⟩:=(h.en hm).1 (Qfc hb hc)
    rw[ht,Q7q]at h1
    exact⟨cs,Option.some.inj h1,h2⟩
  ·cases hx
theorem Rel.act(h:Rel X β ρ S a w){env':List En}(hs:a'.tmps.size=a.tmps.size)(hd:a'.defers=a.defers)(hr:∀t∈X.res,a'.tmps[t]?=a.tmps[t]?)
  (he:∀e∈env',(enD β ρ a' e).p (okR X β ρ S.mem w) w):Rel X β ρ ⟨env',S.mem⟩ a' w :=
 {sz:=hs.trans h.sz,df:=hd.trans h.df,fr:=fun t ht=>(hr t ht).trans (h.fr t ht),pn:=h.pn,tm:=by simp,bel:=h.bel,
  dat:=Yk.2 fun d hd=>by grind,
  obj:=h.obj,own:=h.own,dHH:=h.dHH,dHO:=h.dHO,dOO:=h.dOO }
theorem Vd{d t:Nat}(hne:t≠d)(v:Value):(a.put (some d) v).tmps[t]?=a.tmps[t]?:=by
 have:d≠t:=fun e=>hne e.symm
 grind [Act.put]
theorem Qi6{d t:Nat}(hne:t≠d)(v:Value):rd (a.put (some d) v) t=rd a t:=by
 grind [rd,Vd]
theorem en_put(h:Rel X β ρ S a w){d:Nat}(v:Value){e:En}(he:e∈Vc S.env d):(enD β ρ (a.put (some d) v) e).p (okR X β ρ S.mem w) w:=by
 obtain⟨h1,h2,h3⟩:=Nq he
 have hcc:Jx (a.put (some d) v) e.cs↔Jx a e.cs:=⟨fun hc c hm=>by rw[←Vd (h3 c hm) v]; exact hc c hm,fun hc c hm=>by rw[Vd (h3 c hm) v]; exact hc c hm⟩
 refine⟨fun hc=>?_,?_⟩
 ·obtain⟨cs,h4,h5⟩:=(h.en h1).1 (hcc.1 hc)
  grind [Qi6]
 ·rw[hcc,Qi6 h2]; exact(h.en h1).2
theorem Rel.put(h:Rel X β ρ S a w){d:Nat}(hd:okD X d=true){cs:Vk}{x:AV}{v:Value}
  (hx:Jx (a.put (some d) v) cs→∃c,v=x.val c∧cr β ρ (okR X β ρ S.mem w) w false x c) (hu:Jx (a.put (some d) v) cs∨v=undef):Rel X β ρ (S.put d cs x) (a.put (some d) v) w:=by
 refine h.act (by simp[Act.put]) rfl (fun k hk=>Vd (fun(e:k=d)=>Qpv hd (e▸hk)) v) fun e he=>?_
 rcases QX.1 he with rfl | he
 ·refine⟨fun hc=>?_,hu.imp id fun e=>by rw[Pn (Qfa hd)]; simp[Act.put,h.sz,Qkz hd,e]⟩
  obtain⟨c,h1,h2⟩:=hx hc
  exact⟨c,by rw[Pn (Qfa hd)]; simp[Act.put,h.sz,Qkz hd,h1],h2⟩
 ·exact en_put h v he
theorem Rel.del(h:Rel X β ρ S a w){d:Nat}(hd:okD X d=true)(v:Value):Rel X β ρ (S.del d) (a.put (some d) v) w :=
 h.act (by simp[Act.put]) rfl (fun k hk=>Vd (fun(e:k=d)=>Qpv hd (e▸hk)) v) fun e he=>en_put h v he
theorem Rel.less(h:Rel X β ρ S a w){env':List En}(he:∀e∈env',e∈S.env):Rel X β ρ ⟨env',S.mem⟩ a w :=
 h.act rfl rfl (fun _ _=>rfl) fun e hm=>h.en (he e hm)
theorem Qf(a:Act):Jx a []:=fun _ h=>by cases h
theorem Rel.put0(h:Rel X β ρ S a w){d:Nat}(hd:okD X d=true){x:AV}{c:List Value}(hx:cr β ρ (okR X β ρ S.mem w) w false x c):Rel X β ρ (S.put d [] x) (a.put (some d) (x.val c)) w :=
 h.put hd (fun _=>⟨c,rfl,hx⟩) (.inl (Qf _))
def Qh:List (Nat×Ob)→Nat→Option Ob
 | [],_=>none
 | q::l,t=>bif Nat.beq q.1 t then some q.2 else Qh l t
def Qi7:List (Nat×Ob)→Nat→Ob→List (Nat×Ob)
 | [],_,_=>[]
 | q::l,t,o=>bif Nat.beq q.1 t then(t,o)::l else q::Qi7 l t o
def J3:List (Nat×Ob)→Nat→List (Nat×Ob)
 | [],_=>[]
 | q::l,t=>bif Nat.beq q.1 t then l else q::J3 l t
theorem J2:∀{l:List (Nat×Ob)} {t:Nat} {o:Ob},Qh l t=some o→∃l1 l2,l=l1++(t,o)::l2∧(∀o',Qi7 l t o'=l1++(t,o')::l2)∧J3 l t=l1++l2
 | q::l,t,o,h=>by
  simp only[Qh]at h
  cases hb:Nat.beq q.1 t with
  | true =>
   rw[hb]at h
   simp at h
   have:=Nat.eq_of_beq_eq_true hb
   subst h; subst this
   exact⟨[],l,rfl,fun o'=>by simp[Qi7,hb],by simp[J3,hb]⟩
  | false =>
   rw[hb]at h
   obtain⟨l1,l2,h1,h2,h3⟩:=J2 h
   grind [Qi7,J3]
theorem Rel.ob(h:Rel X β ρ S a w){id:Nat}{o:Ob}(ho:Qh S.mem id=some o) :
  (Q4 β ρ id o).p (okR X β ρ S.mem w) w∧∀g,(Q4 β ρ id o).blks g→X.mine g:=by
 obtain⟨l1,l2,h1,_⟩:=J2 ho
 exact h.own _ (by rw[h1]; simp[Qk])
end
end Gx

/- Maps of data: what the model does with them. -/
import Derived.Test.YtpdhjildhjpjdaaGreatGRows
import Derived.Test.YtpdhjildhjpjdaaGreatGCore
import Derived.MapKept
namespace Gx
open Go Go.RowKit Gd
set_option linter.unusedVariables false
set_option linter.unusedSimpArgs false
def L6:Ty→Bool
 | .int _=>true
 | .bool=>true
 | .str=>true
 | _=>false
def Qck:Ty→Bool
 | .pr a r=>L6 a&&Qck r
 | .unit=>true
 | t=>L6 t
def Int.blt'(a b:Int):Bool:=decide (a<b)
def Ir:Ty→Bool
 | .st fs=>Qck fs
 | t=>L6 t
def eqK:(t:Ty)→t.De→t.De→Bool
 | .int _,a,b=>a==b
 | .bool,a,b=>a==b
 | .str,a,b=>a==b
 | .pr f r,a,b=>eqK f a.1 b.1&&eqK r a.2 b.2
 | .unit,_,_=>true
 | .st fs,a,b=>eqK fs a b
 | _,_,_=>false
def Qg{k:Ty}{ν:Type}(key:k.De):List (k.De×ν)→Option ν
 | []=>none
 | x::l=>bif eqK k key x.1 then some x.2 else Qg key l
def Yu{k:Ty}{ν:Type}(key:k.De)(v:ν):List (k.De×ν)→List (k.De×ν)
 | []=>[(key,v)]
 | x::l=>bif eqK k key x.1 then(key,v)::l else x::Yu key v l
def ltT:(t:Ty)→t.De→t.De→Bool
 | .int _,a,b=>Int.blt' a b
 | _,_,_=>false
def Qfh{k:Ty}{ν:Type}(key:k.De)(v:ν):List (k.De×ν)→List (k.De×ν)
 | []=>[(key,v)]
 | x::l=>bif ltT k key x.1 then(key,v)::x::l else x::Qfh key v l
def Jj{k:Ty}{ν:Type}(key:k.De)(v:ν)(l:List (k.De×ν)):List (k.De×ν):=bif (Qg key l).isSome then Yu key v l else Qfh key v l
def Wc:(t:Ty)→t.De→List Value
 | .int k,n=>[.int k n]
 | .bool,b=>[.bool b]
 | .str,s=>[Yp s]
 | .pr f r,x=>Wc f x.1++Wc r x.2
 | .st fs,x=>Wc fs x
 | _,_=>[]
def Ym:(t:Ty)→t.De→Value
 | .int k,n=>.int k n
 | .bool,b=>.bool b
 | .str,s=>Yp s
 | .st fs,x=>.agg (Wc fs x).toArray
 | _,_=>undef
theorem Qfi{t:Ty}(ht:L6 t=true){ok:Ok}{w:World}{x:t.De}{cs:List Value}:(rt t).rep ok w x cs↔cs=Wc t x:=by
 cases t<;>simp[L6]at ht<;>exact Iff.rfl
theorem Qk9:∀{t:Ty},Qck t=true→∀{ok:Ok} {w:World} {x:t.De} {cs:List Value},(rt t).rep ok w x cs↔cs=Wc t x
 | .pr f r,ht,ok,w,x,cs=>by
  simp only[Qck,QQ]at ht
  constructor
  ·rintro⟨c1,c2,rfl,h1,h2⟩
   rw[(Qfi ht.1).1 h1,(Qk9 ht.2).1 h2]; rfl
  ·rintro rfl
   exact⟨_,_,rfl,(Qfi ht.1).2 rfl,(Qk9 ht.2).2 rfl⟩
 | .unit,ht,ok,w,x,cs=>Iff.rfl
 | .int _,ht,ok,w,x,cs=>Qfi ht
 | .bool,ht,ok,w,x,cs=>Qfi ht
 | .str,ht,ok,w,x,cs=>Qfi ht
 | .sl _,ht,_,_,_,_=>by simp[Qck,L6]at ht
 | .arr _ _,ht,_,_,_,_=>by simp[Qck,L6]at ht
 | .st _,ht,_,_,_,_=>by simp[Qck,L6]at ht
theorem Q2z{t:Ty}(ht:Ir t=true){ok:Ok}{w:World}{x:t.De}{v:Value}:isV (rt t) ok w x v↔v=Ym t x:=by
 cases t with
 | int k=>exact Ja1
 | bool=>exact Qrk
 | str=>exact Jnf
 | st fs =>
  constructor
  ·rintro⟨cs,h,rfl⟩
   rw[(Qk9 ht).1 h]; rfl
  ·rintro rfl
   exact⟨_,(Qk9 ht).2 rfl,rfl⟩
 | _=>simp[Ir,L6]at ht
theorem Hg{t:Ty}(ht:Ir t=true){ok:Ok}{w:World}{x:t.De}{v:Value}(h:isV (rt t) ok w x v):v=Ym t x:=(Q2z ht).1 h
theorem Qy9{t:Ty}(ht:Ir t=true){ok:Ok}{w:World}(x:t.De):isV (rt t) ok w x (Ym t x):=(Q2z ht).2 rfl
theorem Qcl{t:Ty}(ht:L6 t=true){x y:t.De}:eqK t x y=true↔x=y:=by
 cases t<;>simp[L6]at ht<;>simp[eqK]
theorem Ja7:∀{t:Ty},Qck t=true→∀{x y:t.De},eqK t x y=true↔x=y
 | .pr f r,ht,x,y=>by
  simp only[Qck,QQ]at ht
  obtain⟨x1,x2⟩:=x
  obtain⟨y1,y2⟩:=y
  simp only[eqK,QQ,Qcl ht.1,Ja7 ht.2,Prod.mk.injEq]
 | .unit,ht,x,y=>by simp[eqK]
 | .int _,ht,x,y=>Qcl ht
 | .bool,ht,x,y=>Qcl ht
 | .str,ht,x,y=>Qcl ht
 | .sl _,ht,_,_=>by simp[Qck,L6]at ht
 | .arr _ _,ht,_,_=>by simp[Qck,L6]at ht
 | .st _,ht,_,_=>by simp[Qck,L6]at ht
theorem Vo{t:Ty}(ht:Ir t=true){x y:t.De}:eqK t x y=true↔x=y:=by
 cases t with
 | st fs=>exact Ja7 (t:=fs) ht
 | int k=>exact Qcl (t:=.int k) rfl
 | bool=>exact Qcl (t:=.bool) rfl
 | str=>exact Qcl (t:=.str) rfl
 | _=>simp[Ir,L6]at ht
def Gt:Ty→TypeDesc→Bool
 | .int k,.int k'=>Qax k k'
 | .bool,.bool=>true
 | .str,.string=>true
 | _,_=>false
def Jei(T:Tab)(f:Field)(t:Ty)(i:Nat):Bool:=f.name != "_" && Nat.beq f.offset i&&(match Qk T f.type with
 | some e=>Gt t e.d
 | none=>false)
def H9(T:Tab):List Field→Ty→Nat→Bool
 | [],.unit,_=>true
 | [f],t,i=>Jei T f t i
 | f::g::fs,.pr a r,i=>Jei T f a i&&H9 T (g::fs) r (i+1)
 | _,_,_=>false
def Y6(T:Tab):Ty→TypeDesc→Bool
 | .st fs,.struct ⟨fds⟩=>H9 T fds fs 0
 | t,d=>Gt t d
theorem Dl{t:Ty}{d:TypeDesc}(h:Gt t d=true):L6 t=true:=by
 cases t<;>cases d<;>simp[Gt]at h<;>rfl
theorem Ig{T:Tab}{f:Field}{t:Ty}{i:Nat}(h:Jei T f t i=true):(f.name != "_")=true∧f.offset=i∧∃e,Qk T f.type=some e∧Gt t e.d=true:=by
 simp only[Jei,QQ]at h
 grind [Nat.eq_of_beq_eq_true]
theorem Qow{T:Tab}:∀{fds:List Field} {t:Ty} {i:Nat},H9 T fds t i=true→Qck t=true
 | [],t,i,h=>by cases t<;>simp[H9]at h; rfl
 | [f],t,i,h=>by
  simp only[H9]at h
  obtain⟨_,_,e,_,h3⟩:=Ig h
  have:=Dl h3
  cases t<;>simp[L6]at this<;>rfl
 | f::g::fs,t,i,h=>by
  cases t<;>simp only[H9,QQ]at h
  all_goals first | (cases h; done) | skip
  obtain⟨_,_,e,_,h3⟩:=Ig h.1
  simp only[Qck,QQ]
  exact⟨Dl h3,Qow h.2⟩
theorem Jf{T:Tab}{t:Ty}{d:TypeDesc}(h:Y6 T t d=true):Ir t=true:=by
 cases t with
 | st fs =>
  cases d<;>simp[Y6,Gt]at h
  rename_i fds
  obtain⟨fds⟩:=fds
  exact Qow h
 | _=>cases d<;>simp[Y6,Gt]at h<;>rfl
theorem On{t:Ty}(h:L6 t=true)(x:t.De):Wc t x=[Ym t x]:=by
 cases t<;>simp[L6]at h<;>rfl
section
variable {P:Program} {T:Tab}
theorem Q20(hT:Q0 P T){f:Field}{t:Ty}{i:Nat}(h:Jei T f t i=true){fs:List Field}{p1 p2 r1 r2:List Value}{x y:t.De}(h1:p1.length=i)(h2:p2.length=i){q:Bool}
  (hq:Qrr T fs (p1++Wc t x++r1) (p2++Wc t y++r2)=some q):Qrr T (f::fs) (p1++Wc t x++r1) (p2++Wc t y++r2)=some (eqK t x y&&q):=by
 obtain⟨_,ho,e,he,hs⟩:=Ig h
 obtain⟨e1,e2,e3,e4,e5⟩:=e
 have g1:(p1++Wc t x++r1)[f.offset]?=some (Ym t x):=by
  rw[On (Dl hs),ho,←h1]; simp
 have g2:(p2++Wc t y++r2)[f.offset]?=some (Ym t y):=by
  rw[On (Dl hs),ho,←h2]; simp
 unfold Qrr
 rw[he,g1,g2,hq]
 cases t<;>cases e2<;>simp[Gt]at hs
 ·rename_i k k'
  simp only[Ym]
  rw[show Qax k k=true from by cases k<;>rfl]
  rfl
 ·rfl
 ·rfl
theorem Q21(hT:Q0 P T):∀{fds:List Field} {t:Ty} {i:Nat},H9 T fds t i=true→∀{p1 p2:List Value} {x y:t.De},p1.length=i→p2.length=i →
  Qrr T fds (p1++Wc t x) (p2++Wc t y)=some (eqK t x y)∧Tl fds=true
 | [],t,i,h,p1,p2,x,y,h1,h2=>by
  cases t<;>simp[H9]at h
  exact⟨rfl,rfl⟩
 | [f],t,i,h,p1,p2,x,y,h1,h2=>by
  simp only[H9]at h
  have hb:Tl [f]=true:=by simp only[Tl,JM,List.all_nil,Bool.and_true]; exact(Ig h).1
  refine⟨?_,hb⟩
  have:=Q20 hT h (fs:=[]) (r1:=[]) (r2:=[]) (x:=x) (y:=y) h1 h2 rfl
  grind
 | f::g::fs,t,i,h,p1,p2,x,y,h1,h2=>by
  cases t<;>simp only[H9,QQ]at h
  all_goals first | (cases h; done) | skip
  rename_i a r
  obtain⟨x1,x2⟩:=x
  obtain⟨y1,y2⟩:=y
  have hs:=Dl (Ig h.1).2.2.choose_spec.2
  have l1:(Wc a x1).length=1:=by rw[On hs]; rfl
  have l2:(Wc a y1).length=1:=by rw[On hs]; rfl
  obtain⟨q1,q2⟩:=Q21 hT h.2 (p1:=p1++Wc a x1) (p2:=p2++Wc a y1) (x:=x2) (y:=y2) (by simp[l1,h1]) (by simp[l2,h2])
  refine⟨?_,?_⟩
  ·have:=Q20 hT h.1 (fs:=g::fs) (r1:=Wc r x2) (r2:=Wc r y2) (x:=x1) (y:=y1) h1 h2 q1
   grind [Wc,eqK,List.append_assoc]
  ·simp only[Tl,JM,QQ]at q2 ⊢
   grind [Ig]
theorem Oo(hT:Q0 P T){kt:TypeId}{te:TE}(ht:Qk T kt=some te){t:Ty}(h:Y6 T t te.d=true)(x y:t.De)(w:World):(Op.equal kt (Ym t x) (Ym t y)).run P w=.ok (eqK t x y) w:=by
 have hu:=(Jo hT ht).2
 cases t with
 | st fs =>
  obtain⟨e1,e2,e3,e4,e5⟩:=te
  cases e2<;>simp[Y6,Gt]at h
  rename_i fds
  obtain⟨fds⟩:=fds
  have hf:P.fieldsOf kt=⟨fds⟩:=by simp[Program.fieldsOf,hu]
  have:=run_equalIn_struct (P:=P) w 9999 kt (Wc fs x).toArray (Wc fs y).toArray (by rw[hf,hu]) (Q2h hT ht).1
  rw[hf]at this
  show(Op.equalIn 10000 kt _ _).run P w=_
  simp only[Ym]
  rw[this]
  obtain⟨q1,q2⟩:=Q21 hT h (p1:=[]) (p2:=[]) (x:=x) (y:=y) rfl rfl
  grind [eqK,Qy6]
 | int k =>
  obtain⟨e1,e2,e3,e4,e5⟩:=te
  cases e2<;>simp[Y6,Gt]at h
  exact run_equalIn_int w 9999 kt k _ x y hu
 | bool =>
  obtain⟨e1,e2,e3,e4,e5⟩:=te
  cases e2<;>simp[Y6,Gt]at h
  exact run_equalIn_bool' w 9999 kt x y hu
 | str =>
  obtain⟨e1,e2,e3,e4,e5⟩:=te
  cases e2<;>simp[Y6,Gt]at h
  show(Op.equalIn 10000 kt _ _).run P w=_
  simp only[Ym,Yp]
  rw[run_equalIn_string w 9999 kt ⟨⟨x⟩⟩ ⟨⟨y⟩⟩ hu]
  rw[show(ByteArray.mk ⟨x⟩).toList=x from ByteArray.toList_mk x,show(ByteArray.mk ⟨y⟩).toList=y from ByteArray.toList_mk y]
  rfl
 | _=>cases te with | mk e1 e2 e3 e4 e5=>cases e2<;>simp[Y6,Gt]at h
theorem Oq(hT:Q0 P T){kt:TypeId}{te:TE}(ht:Qk T kt=some te){t:Ty}(h:Y6 T t te.d=true)(key:t.De)(w:World){ν:Type}{s:RT ν}{ok:Ok}:∀{xs:List (t.De×ν)} {es:List MapEntry} (i:Nat),W8 (rt t) s ok w xs es →
  (Qg key xs=none∧(Instr.findAsking kt (Ym t key) es i).run P w=.ok none w∧(Instr.findNow te.d (Ym t key) es i=some none∨Instr.findNow te.d (Ym t key) es i=none)) ∨
  (∃(j:Nat) (e:MapEntry) (y:ν),Qg key xs=some y∧(Instr.findAsking kt (Ym t key) es i).run P w=.ok (some (i+j,e.val)) w∧(Instr.findNow te.d (Ym t key) es i=some (some (i+j,e.val))∨Instr.findNow te.d (Ym t key) es i=none)∧es[j]?=some e∧e.key=Ym t key∧isV s ok w y e.val)
 | [],es,i,hp=>by
  have:es=[]:=hp
  subst this
  exact .inl ⟨rfl,rfl,.inl rfl⟩
 | x::xs,es,i,hp=>by
  obtain⟨e,es',rfl,h1,h2,h3⟩:=hp
  have hk:=Hg (Jf h) h1
  have heq:=Oo hT ht h key x.1 w
  have hsn:Instr.sameNow te.d (Ym t key) e.key=some (eqK t key x.1)∨Instr.sameNow te.d (Ym t key) e.key=none:=by
   rw[hk]
   cases t with
   | st fs=>exact .inr (by cases te with | mk e1 e2 e3 e4 e5=>cases e2<;>rfl)
   | int k =>
    obtain⟨e1,e2,e3,e4,e5⟩:=te
    cases e2<;>simp[Y6,Gt]at h
    grind [Instr.sameNow,Ym,eqK]
   | bool =>
    grind [Y6,Gt,Instr.sameNow,Ym,eqK]
   | str =>
    obtain⟨e1,e2,e3,e4,e5⟩:=te
    cases e2<;>simp[Y6,Gt]at h
    refine .inl ?_
    simp only[Instr.sameNow,Ym,eqK,Yp]
    congr 1
    rw[ZE,MapKept.bytes_beq]
    simp
   | _=>cases te with | mk e1 e2 e3 e4 e5=>cases e2<;>simp[Y6,Gt]at h
  simp only[Qg,Instr.findNow,Instr.findAsking,Sem.run_bind,hk,heq,Result.andThen_ok]
  rw[hk]at hsn
  cases he:eqK t key x.1 with
  | true =>
   have:=(Vo (Jf h)).1 he
   refine .inr ⟨0,e,x.2,rfl,by simp,?_,rfl,by rw[hk,this],h2⟩
   rcases hsn with hsn | hsn<;>rw[hsn]
   ·rw[he]; exact .inl rfl
   ·exact .inr rfl
  | false =>
   rcases Oq hT ht h key w (i+1) h3 with⟨q1,q2,q3⟩ | ⟨j,e',y,q1,q2,q3,q4,q5,q6⟩
   ·grind
   ·have ea:i+1+j=i+(j+1):=by omega
    rw[ea]at q2 q3
    refine .inr ⟨j+1,e',y,q1,by simpa using q2,?_,q4,q5,q6⟩
    rcases hsn with hsn | hsn<;>rw[hsn]
    ·rw[he]; exact q3
    ·exact .inr rfl
theorem Qa2(hT:Q0 P T){kt:TypeId}{te:TE}(ht:Qk T kt=some te){t:Ty}(h:Y6 T t te.d=true)(key:t.De)(w:World){ν:Type}{s:RT ν}{ok:Ok}{xs:List (t.De×ν)}{es:List MapEntry}(hp:W8 (rt t) s ok w xs es) :
  (Qg key xs=none∧(Instr.findKey kt (Ym t key) es).run P w=.ok none w) ∨
  (∃(j:Nat) (e:MapEntry) (y:ν),Qg key xs=some y∧(Instr.findKey kt (Ym t key) es).run P w=.ok (some (j,e.val)) w∧es[j]?=some e∧e.key=Ym t key∧isV s ok w y e.val):=by
 have hu:=(Jo hT ht).2
 rcases Oq hT ht h key w 0 hp with⟨q1,q2,q3⟩ | ⟨j,e,y,q1,q2,q3,q4,q5,q6⟩
 ·refine .inl ⟨q1,?_⟩
  rcases q3 with q3 | q3
  ·exact MapKept.run_findKey hu q3
  simp_all [Instr.findKey,run_underlying,Result.andThen]
 ·rw[QV]at q2 q3
  refine .inr ⟨j,e,y,q1,?_,q4,q5,q6⟩
  rcases q3 with q3 | q3
  ·exact MapKept.run_findKey hu q3
  simp_all [Instr.findKey,run_underlying,Result.andThen]
theorem Qla(hT:Q0 P T){f:Field}{t:Ty}{i:Nat}(h:Jei T f t i=true){p r:List Value}{x:t.De}(h1:p.length=i)(w:World)(e:Bool)(n:Nat) :
  (part f.type (p++Wc t x++r).toArray f.offset).run P w=.ok (Ym t x) w∧(Instr.checkKey e (n+1) f.type (Ym t x)).run P w=.ok () w:=by
 obtain⟨_,ho,te,he,hs⟩:=Ig h
 have hu:=(Jo hT he).2
 have g1:(p++Wc t x++r)[f.offset]?=some (Ym t x):=by
  rw[On (Dl hs),ho,←h1]; simp
 refine⟨Qjp hT he ?_ g1,?_⟩
 ·obtain⟨e1,e2,e3,e4,e5⟩:=te
  cases t<;>cases e2<;>simp[Gt]at hs<;>rfl
 ·refine MapKept.run_checkKey hu ?_ e n
  obtain⟨e1,e2,e3,e4,e5⟩:=te
  cases t<;>cases e2<;>simp[Gt]at hs
  ·rename_i a b
   have:=Io hs
   exact this
  ·trivial
  ·trivial
theorem Qd5(hT:Q0 P T)(w:World)(e:Bool)(n:Nat){body:Field→PUnit→Sem (ForInStep PUnit)}{cs:List Value}
  (hbody:∀(f:Field) (v:Value),f.name ≠ "_" → (part f.type cs.toArray f.offset).run P w=.ok v w→(Instr.checkKey e (n+1) f.type v).run P w=.ok () w→(body f ⟨⟩).run P w=.ok (ForInStep.yield ⟨⟩) w):∀{fds:List Field} {t:Ty} {i:Nat},H9 T fds t i=true→∀{p:List Value} {x:t.De},p.length=i→cs=p++Wc t x →
  (forIn fds PUnit.unit body).run P w=.ok ⟨⟩ w
 | [],t,i,h,p,x,h1,hc=>by simp
 | [f],t,i,h,p,x,h1,hc=>by
  simp only[H9]at h
  have hn:f.name ≠ "_" := by grind [Ig]
  obtain⟨q1,q2⟩:=Qla hT h (r:=[]) (x:=x) h1 w e n
  rw[QH,←hc]at q1
  simp_all
 | f::g::fs,t,i,h,p,x,h1,hc=>by
  cases t<;>simp only[H9,QQ]at h
  all_goals first | (cases h; done) | skip
  rename_i a r
  obtain⟨x1,x2⟩:=x
  have hs:=Dl (Ig h.1).2.2.choose_spec.2
  have l1:(Wc a x1).length=1:=by rw[On hs]; rfl
  have hn:f.name ≠ "_" := by grind [Ig]
  obtain⟨q1,q2⟩:=Qla hT h.1 (r:=Wc r x2) (x:=x1) h1 w e n
  have hc':cs=p++Wc a x1++Wc r x2:=by rw[hc]; simp[Wc]
  rw[←hc']at q1
  have ih:=Qd5 hT w e n hbody h.2 (p:=p++Wc a x1) (x:=x2) (by simp[l1,h1]) hc'
  rw[List.forIn_cons]
  simp_all
theorem Wl(hT:Q0 P T){kt:TypeId}{te:TE}(ht:Qk T kt=some te){t:Ty}(h:Y6 T t te.d=true)(x:t.De)(w:World)(e:Bool):(Instr.checkKey e 10000 kt (Ym t x)).run P w=.ok () w:=by
 have hu:=(Jo hT ht).2
 cases t with
 | st fs =>
  obtain⟨e1,e2,e3,e4,e5⟩:=te
  cases e2<;>simp[Y6,Gt]at h
  rename_i fds
  obtain⟨fds⟩:=fds
  unfold Instr.checkKey
  simp only[Sem.run_bind,run_underlying hu,Result.andThen,Ym]
  simp only[List.forIn_toArray]
  rw[Qd5 hT w e 9998 (cs:=Wc fs x) (fun f v hn h1 h2=>by simp_all) h (p:=[]) (x:=x) rfl rfl]
  rfl
 | int k =>
  obtain⟨e1,e2,e3,e4,e5⟩:=te
  cases e2<;>simp[Y6,Gt]at h
  exact MapKept.run_checkKey hu (show MapKept.IsKey (.int _) (.int k x)from Io h) e 9999
 | bool =>
  obtain⟨e1,e2,e3,e4,e5⟩:=te
  cases e2<;>simp[Y6,Gt]at h
  exact MapKept.run_checkKey hu (show MapKept.IsKey .bool (.bool x)from trivial) e 9999
 | str =>
  obtain⟨e1,e2,e3,e4,e5⟩:=te
  cases e2<;>simp[Y6,Gt]at h
  exact MapKept.run_checkKey hu (show MapKept.IsKey .string (Yp x)from trivial) e 9999
 | _=>cases te with | mk e1 e2 e3 e4 e5=>cases e2<;>simp[Y6,Gt]at h
theorem Fx{t:Ty}(h:L6 t=true)(x:t.De)(n:Nat):Instr.sameBits n (Ym t x) (Ym t x)=true:=by
 cases t<;>simp[L6]at h<;>cases n<;>simp[Instr.sameBits,Ym,Yp]
 all_goals rw[MapKept.bytes_beq]
theorem Qrz{n:Nat}:∀{t:Ty},Qck t=true→∀(x:t.De),((Wc t x).zip (Wc t x)).all (fun(x,y)=>Instr.sameBits n x y)=true
 | .pr f r,ht,x=>by
  simp only[Qck,QQ]at ht
  have ih:=Qrz (n:=n) ht.2 x.2
  simp only[Wc,On ht.1,List.singleton_append,List.zip_cons_cons,JM,Fx ht.1,ih,Bool.and_self]
 | .unit,ht,x=>rfl
 | .int k,ht,x=>by have:=Fx (t:=.int k) rfl x n; simp_all [Wc,Ym]
 | .bool,ht,x=>by have:=Fx (t:=.bool) rfl x n; simp_all [Wc,Ym]
 | .str,ht,x=>by have:=Fx (t:=.str) rfl x n; simp_all [Wc,Ym]
 | .sl _,ht,_=>by simp[Qck,L6]at ht
 | .arr _ _,ht,_=>by simp[Qck,L6]at ht
 | .st _,ht,_=>by simp[Qck,L6]at ht
theorem Qwb{t:Ty}(h:Ir t=true)(x:t.De)(w:World):(Instr.keyThatStays (Ym t x) (Ym t x)).run P w=.ok (Ym t x) w:=by
 have:Instr.sameBits 10000 (Ym t x) (Ym t x)=true:=by
  cases t with
  | st fs =>
   have:=Qrz (n:=9999) h x
   grind [Ym,Instr.sameBits]
  | int k=>exact Fx (t:=.int k) rfl x _
  | bool=>exact Fx (t:=.bool) rfl x _
  | str=>exact Fx (t:=.str) rfl x _
  | _=>simp[Ir,L6]at h
 simp[Instr.keyThatStays,this]
theorem Qr0(hT:Q0 P T){t kt et:TypeId}{te tk tz:TE}(ht:Qk T t=some te)(htd:te.d=.map kt et)(hk:Qk T kt=some tk)(hz:Qk T et=some tz)
  {k:Ty} {ν:Type} {s:RT ν} (hd:Y6 T k tk.d=true) {ok:Ok} {w:World} {g:Nat} {es:Array MapEntry} {clock:Nat} (hg:w.heap[g]?=some (.map es clock)) {xs:List (k.De×ν)} (hp:W8 (rt k) s ok w xs es.toList)
  (key:k.De) {z:ν} (hzv:isV s ok w z tz.z) (c:Bool) :
  ∃v,(Instr.lookup t (.map (some g)) (Ym k key) c).run P w=.ok (if c=true then .tuple #[v,.bool (Qg key xs).isSome]else v) w∧isV s ok w ((Qg key xs).getD z) v ∧
   (Qg key xs=none∧v=tz.z∨∃(j:Nat) (e:MapEntry),es.toList[j]?=some e∧e.key=Ym k key∧v=e.val):=by
 have hu:=(Jo hT ht).2
 rw[htd]at hu
 have hzr:(zeroValue et).run P w=.ok tz.z w:=V1 hT w hz
 rcases Qa2 hT hk hd key w hp with⟨q1,q2⟩ | ⟨j,e,y,q1,q2,q3,q4,q5⟩
 ·refine⟨tz.z,?_,by rw[q1]; exact hzv,.inl ⟨q1,rfl⟩⟩
  simp[Instr.lookup,run_underlying hu,MapKept.run_getObj_map hg,Wl hT hk hd,q2,hzr,Result.andThen,q1]
 ·refine⟨e.val,?_,by rw[q1]; exact q5,.inr ⟨j,e,q3,q4,rfl⟩⟩
  simp[Instr.lookup,run_underlying hu,MapKept.run_getObj_map hg,Wl hT hk hd,q2,Result.andThen,q1]
theorem Qvf(hT:Q0 P T){t kt et:TypeId}{te tk tz:TE}(ht:Qk T t=some te)(htd:te.d=.map kt et)(hk:Qk T kt=some tk)(hz:Qk T et=some tz)
  {k:Ty} (hd:Y6 T k tk.d=true) {w:World} (key:k.De) (c:Bool) :
  (Instr.lookup t (.map none) (Ym k key) c).run P w=.ok (if c=true then .tuple #[tz.z,.bool false]else tz.z) w:=by
 have hu:=(Jo hT ht).2
 rw[htd]at hu
 have hzr:(zeroValue et).run P w=.ok tz.z w:=V1 hT w hz
 rcases Qa2 (ok:=fun _ _=>True) hT hk hd key w (s:=Qv4) (xs:=[]) (es:=[]) rfl with⟨q1,q2⟩ | ⟨j,e,y,q1,q2,q3,q4,q5⟩
 ·simp[Instr.lookup,run_underlying hu,Wl hT hk hd,q2,hzr,Result.andThen]
 ·simp at q3
theorem Qlb(hT:Q0 P T){kt:TypeId}{te:TE}(ht:Qk T kt=some te){k:Ty}(h:Y6 T k te.d=true)(key:k.De){ν:Type}{s:RT ν}{ok:Ok}{w:World}{y:ν}{v:Value}(hv:isV s ok w y v):∀{xs:List (k.De×ν)} {es:List MapEntry},W8 (rt k) s ok w xs es →
  (Qg key xs=none∧∀c,W8 (rt k) s ok w (Yu key y xs) (es++[⟨Ym k key,v,c⟩])) ∨
  (∃(j:Nat) (e:MapEntry),(∀i,(Instr.findAsking kt (Ym k key) es i).run P w=.ok (some (i+j,e.val)) w)∧es[j]?=some e∧e.key=Ym k key∧W8 (rt k) s ok w (Yu key y xs) (es.modify j fun e=>{ e with key:=Ym k key,val:=v }))
 | [],es,hp=>by
  have:es=[]:=hp
  subst this
  exact .inl ⟨rfl,fun c=>⟨_,[],rfl,Qy9 (Jf h) key,hv,rfl⟩⟩
 | x::xs,es,hp=>by
  obtain⟨e,es',rfl,h1,h2,h3⟩:=hp
  have hk:=Hg (Jf h) h1
  have heq:=Oo hT ht h key x.1 w
  simp only[Yu,Qg,Instr.findAsking,Sem.run_bind,hk,heq,Result.andThen_ok]
  cases he:eqK k key x.1 with
  | true =>
   have:=(Vo (Jf h)).1 he
   exact .inr ⟨0,e,by simp,rfl,by rw[hk,this],⟨_,es',rfl,Qy9 (Jf h) key,hv,h3⟩⟩
  | false =>
   rcases Qlb hT ht h key hv h3 with⟨q1,q2⟩ | ⟨j,e',q2,q3,q4,q5⟩
   ·exact .inl ⟨q1,fun c=>⟨e,_,rfl,h1,h2,q2 c⟩⟩
   ·exact .inr ⟨j+1,e',fun i=>by rw[show i+(j+1)=i+1+j by omega]; grind,q3,q4,⟨e,_,rfl,h1,h2,q5⟩⟩
def Bj(es:Array MapEntry)(clock:Nat):Prop:=(es.toList.map MapEntry.born).Nodup∧∀e∈es.toList,e.born<clock
theorem Qhl{k:Ty}{ν:Type}(hk:Ir k=true)(key:k.De)(y:ν):∀{xs:List (k.De×ν)},(xs.map Prod.fst).Nodup→((Yu key y xs).map Prod.fst).Nodup∧∀z∈(Yu key y xs).map Prod.fst,z=key∨z∈xs.map Prod.fst
 | [],_=>⟨by simp[Yu],by simp[Yu]⟩
 | x::xs,h=>by
  simp only[Yu]
  have h1:=QN.1 h
  cases he:eqK k key x.1 with
  | true =>
   have:=(Vo hk).1 he
   grind
  | false =>
   obtain⟨h2,h3⟩:=Qhl hk key y h1.2
   refine⟨?_,fun z hz=>?_⟩
   ·simp only[cond_false,QT,QN]
    refine⟨fun hm=>?_,h2⟩
    rcases h3 _ hm with hm | hm
    ·rw[hm,(Vo hk).2 rfl]at he; cases he
    ·exact h1.1 hm
   grind
theorem Qm8{k:Ty}{ν:Type}(hk:Ir k=true){key:k.De}{v:ν}:∀{xs:List (k.De×ν)},(xs.map Prod.fst).Nodup→(Qg key xs=some v↔(key,v)∈xs)
 | [],_=>by simp[Qg]
 | x::xs,hn=>by
  obtain⟨h1,h2⟩:=QN.1 (show(x.1::xs.map Prod.fst).Nodup from hn)
  simp only[Qg]
  cases he:eqK k key x.1 with
  | true =>
   have e:=(Vo hk).1 he
   simp only[cond_true,Option.some.injEq,QJ]
   constructor
   ·rintro rfl; exact .inl (Prod.ext e rfl)
   ·rintro(h | h)
    ·rw[←h]
    ·exact absurd (QZ.2 ⟨_,h,e⟩) h1
  | false =>
   simp only[cond_false,QJ]
   rw[Qm8 hk h2]
   constructor
   ·exact .inr
   ·rintro(h | h)
    ·rw[←h,(Vo hk).2 rfl]at he; cases he
    ·exact h
theorem Qcm{k:Ty}{ν:Type}(hk:Ir k=true){xs ys:List (k.De×ν)}(h:ys.Perm xs)(hn:(xs.map Prod.fst).Nodup)(key:k.De):Qg key ys=Qg key xs:=by
 have hn2:(ys.map Prod.fst).Nodup:=(h.map _).nodup_iff.2 hn
 refine Option.ext fun v=>?_
 rw[Qm8 hk hn,Qm8 hk hn2]
 exact h.mem_iff
theorem Q22{k:Ty}{ν:Type}{key:k.De}{v:ν}:∀{xs:List (k.De×ν)},Qg key xs=none→Yu key v xs=xs++[(key,v)]
 | [],_=>rfl
 | x::xs,h=>by
  simp only[Qg]at h
  simp only[Yu]
  cases he:eqK k key x.1 with
  | true=>rw[he]at h; cases h
  | false=>rw[he]at h; simp only[cond_false,QA]; rw[Q22 h]
theorem Qm9{k:Ty}{ν:Type}(hk:Ir k=true){key:k.De}{v:ν}:∀{xs:List (k.De×ν)},(xs.map Prod.fst).Nodup→(Qg key xs).isSome=true→Yu key v xs=xs.map fun p=>bif eqK k key p.1 then(key,v)else p
 | x::xs,hn,h=>by
  obtain⟨h1,h2⟩:=QN.1 (show(x.1::xs.map Prod.fst).Nodup from hn)
  simp only[Qg]at h
  simp only[Yu,QT]
  cases he:eqK k key x.1 with
  | true =>
   have e:=(Vo hk).1 he
   simp only[cond_true,List.cons.injEq,true_and]
   refine((List.map_congr_left fun p hp=>?_).trans (List.map_id xs)).symm
   cases hb:eqK k key p.1 with
   | false=>rfl
   | true=>exact absurd (QZ.2 ⟨p,hp,((Vo hk).1 hb).symm.trans e⟩) h1
  | false=>rw[he]at h; simp only[cond_false]; rw[Qm9 hk h2 h]
theorem Ea{k:Ty}{ν:Type}{key:k.De}{v:ν}:∀{xs:List (k.De×ν)},(Qfh key v xs).Perm ((key,v)::xs)
 | []=>.refl _
 | x::xs=>by
  simp only[Qfh]
  cases ltT k key x.1 with
  | true=>exact .refl _
  | false=>exact(Ea.cons x).trans (.swap _ _ _)
theorem Qhm{k:Ty}{ν:Type}(hk:Ir k=true){xs ys:List (k.De×ν)}(h:ys.Perm xs)(hn:(xs.map Prod.fst).Nodup)(key:k.De)(v:ν):(Yu key v ys).Perm (Jj key v xs):=by
 have hn2:(ys.map Prod.fst).Nodup:=(h.map _).nodup_iff.2 hn
 have hf:=Qcm hk h hn key
 unfold Jj
 cases hx:Qg key xs with
 | none =>
  rw[hx]at hf
  rw[Q22 hf]
  exact((JJ (l₁:=ys) (l₂:=[(key,v)])).trans (h.cons _)).trans Ea.symm
 | some y =>
  rw[hx]at hf
  rw[Option.isSome_some,cond_true,Qm9 hk hn2 (by rw[hf]; rfl),Qm9 hk hn (by rw[hx]; rfl)]
  exact h.map _
theorem Qna{k:Ty}{ν:Type}(hk:Ir k=true)(key:k.De)(y:ν){xs:List (k.De×ν)}(h:(xs.map Prod.fst).Nodup):((Jj key y xs).map Prod.fst).Nodup:=((Qhm hk (.refl xs) h key y).map _).nodup_iff.1 (Qhl hk key y h).1
theorem Qlc(hT:Q0 P T){t kt et:TypeId}{te tk:TE}(ht:Qk T t=some te)(htd:te.d=.map kt et)(hk:Qk T kt=some tk)
  {k:Ty} (hd:Y6 T k tk.d=true) {w:World} {g:Nat} {es:Array MapEntry} {clock:Nat} (hg:w.heap[g]?=some (.map es clock)) (key:k.De) {v:Value} :
  ((Instr.findKey kt (Ym k key) es.toList).run P w=.ok none w→(Instr.mapUpdate t (.map (some g)) (Ym k key) v).run P w=.ok () { w with heap:=w.heap.setIfInBounds g (.map (es.push ⟨Ym k key,v,clock⟩) (clock+1)) }) ∧
  (∀j e,(Instr.findKey kt (Ym k key) es.toList).run P w=.ok (some (j,e.val)) w→es.toList[j]?=some e→e.key=Ym k key →
   (Instr.mapUpdate t (.map (some g)) (Ym k key) v).run P w=.ok () { w with heap:=w.heap.setIfInBounds g (.map (es.modify j fun e=>{ e with key:=Ym k key,val:=v }) clock) }):=by
 have hu:=(Jo hT ht).2
 rw[htd]at hu
 refine⟨fun q=>?_,fun j e q2 q3 q4=>?_⟩
 ·simp[Instr.mapUpdate,run_underlying hu,MapKept.run_getObj_map hg,Wl hT hk hd,q,MapKept.run_setObj_map _ hg,Result.andThen]
 ·have hj:es[j]?=some e:=by simpa using q3
  simp[Instr.mapUpdate,run_underlying hu,MapKept.run_getObj_map hg,Wl hT hk hd,q2,hj,q4,Qwb (Jf hd),MapKept.run_setObj_map _ hg,Result.andThen]
theorem Qr1{es:Array MapEntry}{clock:Nat}(hst:Bj es clock)(kv v:Value):Bj (es.push ⟨kv,v,clock⟩) (clock+1):=by
 refine⟨?_,fun e he=>?_⟩
 ·simp only[Array.toList_push,QC,QT,ZU]
  refine List.nodup_append.2 ⟨hst.1,by simp,fun a ha b hb=>?_⟩
  obtain⟨e,he,rfl⟩:=QZ.1 ha
  simp at hb; subst hb
  exact ZS (hst.2 e he)
 ·simp only[Array.toList_push,QX,JH]at he
  rcases he with he | rfl
  ·exact Nat.lt_succ_of_lt (hst.2 e he)
  grind
theorem Qza{es:Array MapEntry}{clock:Nat}(hst:Bj es clock)(kv v:Value)(j:Nat):Bj (es.modify j fun e=>{ e with key:=kv,val:=v }) clock:=by
 have hmap:∀(l:List MapEntry) (j:Nat),(l.modify j fun e=>{ e with key:=kv,val:=v }).map MapEntry.born=l.map MapEntry.born:=by
  intro l
  induction l with
  | nil=>grind
  | cons x l ih=>grind
 refine⟨?_,fun e he=>?_⟩
 ·rw[Array.toList_modify,hmap]; exact hst.1
 ·have hb:e.born∈(es.toList.modify j fun e=>{ e with key:=kv,val:=v }).map MapEntry.born:=QZ.2 ⟨e,by simpa using he,rfl⟩
  rw[hmap]at hb
  obtain⟨e',he',hbe⟩:=QZ.1 hb
  rw[←hbe]; exact hst.2 e' he'
theorem Ot(hT:Q0 P T){kt:TypeId}{te:TE}(ht:Qk T kt=some te){t:Ty}(h:Y6 T t te.d=true)(key:t.De)(w:World){ν:Type}{s:RT ν}{ok:Ok}{xs:List (t.De×ν)}{es:List MapEntry}(hp:W8 (rt t) s ok w xs es)
  {r:Option (Nat×Value)} (hr:(Instr.findAsking kt (Ym t key) es 0).run P w=.ok r w):(Instr.findKey kt (Ym t key) es).run P w=.ok r w:=by
 have hu:=(Jo hT ht).2
 rcases Oq hT ht h key w 0 hp with⟨q1,q2,q3⟩ | ⟨j,e,y,q1,q2,q3,q4,q5,q6⟩
 ·rw[hr]at q2; injection q2 with q2; subst q2
  rcases q3 with q3 | q3
  ·exact MapKept.run_findKey hu q3
  simp_all [Instr.findKey,run_underlying,Result.andThen]
 ·rw[hr]at q2; injection q2 with q2; subst q2
  rcases q3 with q3 | q3
  ·exact MapKept.run_findKey hu q3
  simp_all [Instr.findKey,run_underlying,Result.andThen]
theorem Qix(hT:Q0 P T){t kt et:TypeId}{te tk:TE}(ht:Qk T t=some te)(htd:te.d=.map kt et)(hk:Qk T kt=some tk)
  {k:Ty} {ν:Type} {s:RT ν} (hd:Y6 T k tk.d=true) {ok:Ok} {w:World} {g:Nat} {es:Array MapEntry} {clock:Nat} (hg:w.heap[g]?=some (.map es clock)) {xs:List (k.De×ν)} (hp:W8 (rt k) s ok w xs es.toList) (hst:Bj es clock)
  (key:k.De) {y:ν} {v:Value} (hv:isV s ok w y v) :
  ∃es' clock',(Instr.mapUpdate t (.map (some g)) (Ym k key) v).run P w=.ok () { w with heap:=w.heap.setIfInBounds g (.map es' clock') }∧W8 (rt k) s ok w (Yu key y xs) es'.toList∧Bj es' clock':=by
 rcases Qlb hT hk hd key hv hp with⟨q1,q2⟩ | ⟨j,e,q2,q3,q4,q5⟩
 ·rcases Qa2 hT hk hd key w hp with⟨r1,r2⟩ | ⟨j,e,y',r1,_⟩
  ·exact⟨_,_,(Qlc hT ht htd hk hd hg key).1 r2,by grind,Qr1 hst _ _⟩
  grind
 ·have h2:=q2 0
  rw[QV]at h2
  exact⟨_,_,(Qlc hT ht htd hk hd hg key).2 j e (Ot hT hk hd key w hp h2) q3 q4,by simpa using q5,Qza hst _ _ _⟩
end
end Gx

/- Parts of values; values as data. -/
namespace Gx
open Go Go.RowKit Gd
set_option linter.unusedVariables false
set_option linter.unusedSimpArgs false
def exF:(fs:Ty)→fs.De→AV
 | .pr f r,x=>.cons (.d f x.1) (exF r x.2)
 | .unit,_=>.nil
 | .int k,x=>.cons (.d (.int k) x) .nil
 | .bool,x=>.cons (.d .bool x) .nil
 | .str,x=>.cons (.d .str x) .nil
 | .sl e,x=>.cons (.d (.sl e) x) .nil
 | .arr n e,x=>.cons (.d (.arr n e) x) .nil
 | .st fs,x=>.cons (.d (.st fs) x) .nil
 | .ref,x=>.cons (.d .ref x) .nil
 | .rose fs,x=>.cons (.d (.rose fs) x) .nil
def Jns:AV→AV→AV
 | .cons x r,m=>.cons x (Jns r m)
 | .nil,m=>m
 | x,_=>x
def Q23:AV→Bool
 | .cons _ r=>Q23 r
 | .nil=>true
 | _=>false
@[reducible] def Jh9:Ty→Ty→Ty
 | .pr f g,u=>.pr f (Jh9 g u)
 | .int k,u=>.pr (.int k) u
 | .bool,u=>.pr .bool u
 | .str,u=>.pr .str u
 | .sl e,u=>.pr (.sl e) u
 | .arr n e,u=>.pr (.arr n e) u
 | .st fs,u=>.pr (.st fs) u
 | .ref,u=>.pr .ref u
 | .rose fs,u=>.pr (.rose fs) u
 | .unit,u=>.pr .unit u
def Jnt:(fs u:Ty)→(Jh9 fs u).De→fs.De×u.De
 | .pr f g,u,x=>match Jnt g u x.2 with
  | (y,z)=>((x.1,y),z)
 | .int _,_,x=>x
 | .bool,_,x=>x
 | .str,_,x=>x
 | .sl _,_,x=>x
 | .arr _ _,_,x=>x
 | .st _,_,x=>x
 | .ref,_,x=>x
 | .rose _,_,x=>x
 | .unit,_,x=>x
def Qcn:AV→Option AV
 | .d (.st fs) x=>some (exF fs x)
 | .d (.rose fs) x=>some (Jns (exF fs x.x) (.cons (.d (.sl (.rose fs)) x.ks) .nil))
 | .ag l=>some l
 | _=>none
def kid:AV→Nat→Option (AV×Nat)
 | .cons x _,0=>some (x,0)
 | .cons x r,k+1=>match kid r k with
  | some (y,o)=>some (y,x.size+o)
  | none=>none
 | _,_=>none
def nav:List PS→AV→Option AV
 | [],x=>some x
 | .f k off::ps,x=>match Qcn x with
  | some l=>match kid l k with
   | some (y,o)=>bif Nat.beq o off then nav ps y else none
   | none=>none
  | none=>none
 | .i _ _::_,_=>none
def Uu(g:AV→Option AV):AV→Nat→Option (AV×Nat)
 | .cons x r,0=>match g x with
  | some y=>some (.cons y r,0)
  | none=>none
 | .cons x r,k+1=>match Uu g r k with
  | some (r',o)=>some (.cons x r',x.size+o)
  | none=>none
 | _,_=>none
def Qld(cur new:AV):Bool:=Nat.beq new.size cur.size&&new.inMem&&new.isVal&&cur.isVal
def Qpv:List PS→AV→AV→Option AV
 | [],cur,new=>bif Qld cur new then some new else none
 | .f k off::ps,cur,new=>match Qcn cur with
  | some l=>match Uu (fun c=>Qpv ps c new) l k with
   | some (l',o)=>bif Nat.beq o off then some (.ag l')else none
   | none=>none
  | none=>none
 | .i _ _::_,_,_=>none
def asD(M:List (Nat×Ob)):AV→(t:Ty)→Option t.De
 | .d t x,u=>Ty.cast t u x
 | .ns,.sl _=>some []
 | .z,.sl _=>some []
 | .s id,.sl e=>match Qh M id with
  | some (.tail _ t xs)=>Ty.cast (.sl t) (.sl e) xs
  | _=>none
 | .ag l,.st fs=>asD M l fs
 | .ag l,.rose fs=>match asD M l (Jh9 fs (.sl (.rose fs)))with
  | some x=>match Jnt fs (.sl (.rose fs)) x with
   | (a,ks)=>some (.mk a ks)
  | none=>none
 | .nil,.unit=>some ()
 | .cons x r,.pr f g=>match asD M x f,asD M r g with
  | some a,some b=>some (a,b)
  | _,_=>none
 | .cons x .nil,.int k=>asD M x (.int k)
 | .cons x .nil,.bool=>asD M x .bool
 | .cons x .nil,.str=>asD M x .str
 | .cons x .nil,.sl e=>asD M x (.sl e)
 | .cons x .nil,.arr n e=>asD M x (.arr n e)
 | .cons x .nil,.st fs=>asD M x (.st fs)
 | .cons x .nil,.rose fs=>asD M x (.rose fs)
 | _,_=>none
section
variable {β:Nat→Nat} {ρ:Nat→Value} {ok:Ok} {w:World}
theorem Q8k:∀{fs:Ty} {x:fs.De} {cs:List Value},(rt fs).rep ok w x cs→cr β ρ ok w false (exF fs x) cs
 | .pr f r,x,cs,⟨c1,c2,h,h1,h2⟩=>⟨c1,c2,h,h1,Q8k h2⟩
 | .unit,_,cs,h=>h
 | .int k,x,cs,h=>⟨cs,[],by simp,h,rfl⟩
 | .bool,x,cs,h=>⟨cs,[],by simp,h,rfl⟩
 | .str,x,cs,h=>⟨cs,[],by simp,h,rfl⟩
 | .sl e,x,cs,h=>⟨cs,[],by simp,h,rfl⟩
 | .arr n e,x,cs,h=>⟨cs,[],by simp,h,rfl⟩
 | .st fs,x,cs,h=>⟨cs,[],by simp,h,rfl⟩
 | .ref,x,cs,h=>h.elim
 | .rose fs,x,cs,h=>⟨cs,[],by simp,h,rfl⟩
theorem Q24:∀(fs:Ty) (x:fs.De),Q23 (exF fs x)=true
 | .pr f r,x=>Q24 r x.2
 | .unit,_=>rfl
 | .int k,x=>rfl
 | .bool,x=>rfl
 | .str,x=>rfl
 | .sl e,x=>rfl
 | .arr n e,x=>rfl
 | .st fs,x=>rfl
 | .ref,x=>rfl
 | .rose fs,x=>rfl
theorem Qzb:∀{l m:AV} {c1 c2:List Value},Q23 l=true→cr β ρ ok w false l c1→cr β ρ ok w false m c2→cr β ρ ok w false (Jns l m) (c1++c2)
 | .cons x r,m,c1,c2,hl,⟨d1,d2,e,h1,h2⟩,hm=>⟨d1,d2++c2,by rw[e,List.append_assoc],h1,Qzb (l:=r) hl h2 hm⟩
 | .nil,m,c1,c2,_,h,hm=>by
  have h:c1=[]:=h
  subst h; exact hm
theorem Ja8:∀{fs u:Ty} {x:(Jh9 fs u).De} {cs:List Value},(rt (Jh9 fs u)).rep ok w x cs→∃c1 c2,cs=c1++c2∧(rt fs).rep ok w (Jnt fs u x).1 c1∧(rt u).rep ok w (Jnt fs u x).2 c2
 | .pr f g,u,x,cs,⟨c1,c2,e,h1,h2⟩=>by
  obtain⟨d1,d2,e2,h3,h4⟩:=Ja8 (fs:=g) (u:=u) h2
  exact⟨c1++d1,d2,by rw[e,e2,List.append_assoc],⟨c1,d1,rfl,h1,h3⟩,h4⟩
 | .int _,_,x,cs,h=>h
 | .bool,_,x,cs,h=>h
 | .str,_,x,cs,h=>h
 | .sl _,_,x,cs,h=>h
 | .arr _ _,_,x,cs,h=>h
 | .st _,_,x,cs,h=>h
 | .ref,_,x,cs,h=>h
 | .rose _,_,x,cs,h=>h
 | .unit,_,x,cs,h=>h
theorem Qnb{x l:AV}{cs:List Value}(h:Qcn x=some l)(hc:cr β ρ ok w false x cs):cr β ρ ok w false l cs:=by
 unfold Qcn at h
 split at h
 ·simp at h; subst h; exact Q8k hc
 ·simp at h; subst h
  obtain⟨c1,c2,rfl,h1,h2⟩:=Jeg hc
  exact Qzb (Q24 _ _) (Q8k h1) ⟨c2,[],by simp,h2,rfl⟩
 ·simp at h; subst h; exact hc
 ·cases h
theorem Jia:∀{l:AV} {k:Nat} {y:AV} {o:Nat} {cs:List Value},kid l k=some (y,o)→cr β ρ ok w false l cs →
  cr β ρ ok w false y ((cs.drop o).take y.size)∧o+y.size≤cs.length
 | .cons x r,0,y,o,cs,h,⟨c1,c2,e,h1,h2⟩=>by
  simp[kid]at h
  obtain⟨rfl,rfl⟩:=h
  grind [Zr,List.take_left]
 | .cons x r,k+1,y,o,cs,h,⟨c1,c2,e,h1,h2⟩=>by
  simp only[kid]at h
  split at h
  ·rename_i y' o' hk
   simp at h
   obtain⟨rfl,rfl⟩:=h
   obtain⟨h3,h4⟩:=Jia hk h2
   grind [Zr,List.length_append,List.drop_drop,List.drop_left]
  ·cases h
 | .d ..,_,_,_,_,h,_=>by simp[kid]at h
 | .p ..,_,_,_,_,h,_=>by simp[kid]at h
 | .e ..,_,_,_,_,h,_=>by simp[kid]at h
 | .s ..,_,_,_,_,h,_=>by simp[kid]at h
 | .m ..,_,_,_,_,h,_=>by simp[kid]at h
 | .b ..,_,_,_,_,h,_=>by simp[kid]at h
 | .w ..,_,_,_,_,h,_=>by simp[kid]at h
 | .a ..,_,_,_,_,h,_=>by simp[kid]at h
 | .z,_,_,_,_,h,_=>by simp[kid]at h
 | .ns,_,_,_,_,h,_=>by simp[kid]at h
 | .np,_,_,_,_,h,_=>by simp[kid]at h
 | .nm,_,_,_,_,h,_=>by simp[kid]at h
 | .nf,_,_,_,_,h,_=>by simp[kid]at h
 | .f ..,_,_,_,_,h,_=>by simp[kid]at h
 | .ag ..,_,_,_,_,h,_=>by simp[kid]at h
 | .tp ..,_,_,_,_,h,_=>by simp[kid]at h
 | .nil,_,_,_,_,h,_=>by simp[kid]at h
theorem Qjq:∀{ps:List PS} {x y:AV} {cs:List Value},nav ps x=some y→cr β ρ ok w false x cs →
  cr β ρ ok w false y ((cs.drop (Yt ps)).take y.size)∧Yt ps+y.size≤cs.length
 | [],x,y,cs,h,hc=>by
  grind [nav,Zr,Yt,List.take_of_length_le]
 | .f k off::ps,x,y,cs,h,hc=>by
  simp only[nav]at h
  split at h
  ·rename_i l hl
   split at h
   ·rename_i y' o hk
    cases hb:Nat.beq o off with
    | false=>rw[hb]at h; cases h
    | true =>
     rw[hb]at h
     simp only[cond_true]at h
     have:=Nat.eq_of_beq_eq_true hb
     subst this
     obtain⟨h1,h2⟩:=Jia hk (Qnb hl hc)
     obtain⟨h3,h4⟩:=Qjq h h1
     have hl:=Zr h1
     rw[hl]at h4
     grind [Yt,PS.off,List.drop_take,List.drop_drop,Nat.min_eq_left]
   ·cases h
  ·cases h
 | .i _ _::_,_,_,_,h,_=>by simp[nav]at h
theorem Qnc{g:AV→Option AV}{off:Nat}{ds:List Value}
  (hg:∀{c c':AV} {cs:List Value},g c=some c'→cr β ρ ok w false c cs→cr β ρ ok w false c' (cs.take off++ds++cs.drop (off+ds.length))∧off+ds.length≤cs.length) :
  ∀{l l':AV} {k o:Nat} {cs:List Value},Uu g l k=some (l',o)→cr β ρ ok w false l cs →
   cr β ρ ok w false l' (cs.take (o+off)++ds++cs.drop (o+off+ds.length))∧o+off+ds.length≤cs.length
 | .cons x r,l',0,o,cs,h,⟨c1,c2,e,h1,h2⟩=>by
  simp only[Uu]at h
  split at h
  ·rename_i y hy
   simp at h
   obtain⟨rfl,rfl⟩:=h
   obtain⟨h3,h4⟩:=hg hy h1
   subst e
   refine⟨⟨_,c2,?_,h3,h2⟩,by rw[List.length_append]; omega⟩
   rw[QV,XX (by omega),List.drop_append_of_le_length (by omega)]
   grind
  ·cases h
 | .cons x r,l',k+1,o,cs,h,⟨c1,c2,e,h1,h2⟩=>by
  simp only[Uu]at h
  split at h
  ·rename_i r' o' hr
   simp at h
   obtain⟨rfl,rfl⟩:=h
   obtain⟨h3,h4⟩:=Qnc hg hr h2
   subst e
   have hl:=Zr h1
   refine⟨⟨c1,_,?_,h1,h3⟩,by rw[List.length_append,hl]; omega⟩
   have e1:x.size+o'+off=c1.length+(o'+off):=by rw[hl]; omega
   rw[e1,XF,List.take_of_length_le (by omega),XQ]
   grind [List.append_assoc,Nat.add_assoc,List.drop_drop,List.drop_left]
  ·cases h
 | .d ..,_,_,_,_,h,_=>by simp[Uu]at h
 | .p ..,_,_,_,_,h,_=>by simp[Uu]at h
 | .e ..,_,_,_,_,h,_=>by simp[Uu]at h
 | .s ..,_,_,_,_,h,_=>by simp[Uu]at h
 | .m ..,_,_,_,_,h,_=>by simp[Uu]at h
 | .b ..,_,_,_,_,h,_=>by simp[Uu]at h
 | .w ..,_,_,_,_,h,_=>by simp[Uu]at h
 | .a ..,_,_,_,_,h,_=>by simp[Uu]at h
 | .z,_,_,_,_,h,_=>by simp[Uu]at h
 | .ns,_,_,_,_,h,_=>by simp[Uu]at h
 | .np,_,_,_,_,h,_=>by simp[Uu]at h
 | .nm,_,_,_,_,h,_=>by simp[Uu]at h
 | .nf,_,_,_,_,h,_=>by simp[Uu]at h
 | .f ..,_,_,_,_,h,_=>by simp[Uu]at h
 | .ag ..,_,_,_,_,h,_=>by simp[Uu]at h
 | .tp ..,_,_,_,_,h,_=>by simp[Uu]at h
 | .nil,_,_,_,_,h,_=>by simp[Uu]at h
theorem Qco{new:AV}{ds:List Value}(hn:cr β ρ ok w false new ds):∀{ps:List PS} {cur av':AV} {cs:List Value},Qpv ps cur new=some av'→cr β ρ ok w false cur cs →
  cr β ρ ok w false av' (cs.take (Yt ps)++ds++cs.drop (Yt ps+ds.length))∧Yt ps+ds.length≤cs.length
 | [],cur,av',cs,h,hc=>by
  simp only[Qpv]at h
  cases hb:Qld cur new with
  | false=>rw[hb]at h; cases h
  | true =>
   rw[hb]at h
   simp at h; subst h
   simp only[Qld,QQ]at hb
   have h1:=Nat.eq_of_beq_eq_true hb.1.1.1
   have h2:=Zr hn
   have h3:=Zr hc
   simp_all [Yt,XN,QF,QV,XZ,QH]
 | .f k off::ps,cur,av',cs,h,hc=>by
  simp only[Qpv]at h
  split at h
  ·rename_i l hl
   split at h
   ·rename_i l' o hk
    cases hb:Nat.beq o off with
    | false=>rw[hb]at h; cases h
    | true =>
     rw[hb]at h
     simp only[cond_true,Option.some.injEq]at h
     have:=Nat.eq_of_beq_eq_true hb
     subst this; subst h
     have:=Qnc (off:=Yt ps) (ds:=ds) (fun {c c' cs'} hg hcc=>Qco hn (ps:=ps) hg hcc) hk (Qnb hl hc)
     exact this
   ·cases h
  ·cases h
 | .i _ _::_,_,_,_,h,_=>by simp[Qpv]at h
theorem Qnd{τ:Type}{r:RT τ}{A:Option Addr}{c:Nat}:Qv5 r ok w [] (.slice A 0 c):=⟨A,0,c,rfl,rfl,QR _,fun h=>absurd h (by omega)⟩
theorem Qzc{τ:Type}{r:RT τ}{xs:List τ}{v u:Value}(hz:zal v u)(h:isV (rSl r) ok w xs u):isV (rSl r) ok w xs v:=by
 rcases hz with rfl | ⟨h0,A,rfl⟩
 ·exact h
 grind [Qm0,List.length_eq_zero_iff,U9,Qnd]
theorem K8{M:List (Nat×Ob)}(hM:∀id o,Qh M id=some o→(Qv β ρ id o).p ok w) :
  ∀{x:AV} {t:Ty} {y:t.De} {cs:List Value},asD M x t=some y→cr β ρ ok w false x cs→(rt t).rep ok w y cs
 | .d t x,u,y,cs,h,hc=>by
  obtain⟨rfl,rfl⟩:=Ty.cast_ok (by simpa only[asD]using h)
  exact hc
 | .ns,u,y,cs,h,hc=>by
  cases u<;>simp[asD]at h
  subst h
  exact⟨_,hc,Qnd⟩
 | .z,u,y,cs,h,⟨A,hc⟩=>by
  cases u<;>simp[asD]at h
  subst h
  exact⟨_,hc,Qnd⟩
 | .s id,u,y,cs,h,hc=>by
  cases u<;>simp[asD]at h
  rename_i e
  split at h
  ·rename_i e' t xs ho
   obtain⟨he,rfl⟩:=Ty.cast_ok h
   injection he with he
   subst he
   have:=(hM _ _ ho).1
   obtain⟨⟨v,hv,hz⟩,_⟩:=hc
   exact⟨_,hv,U9.1 (Qzc hz this)⟩
  ·cases h
 | .ag l,u,y,cs,h,hc=>by
  cases u<;>simp only[asD]at h<;>first | (cases h; done) | skip
  ·rename_i fs
   exact K8 hM (x:=l) (t:=fs) h hc
  ·rename_i fs
   split at h
   ·rename_i y hy
    simp at h; subst h
    obtain⟨c1,c2,rfl,h1,h2⟩:=Ja8 (K8 hM (x:=l) hy hc)
    exact Q2u h1 h2
   ·cases h
 | .nil,u,y,cs,h,hc=>by
  cases u<;>simp[asD]at h
  exact hc
 | .cons x r,u,y,cs,h,⟨c1,c2,e,h1,h2⟩=>by
  have key:∀{v:Ty} {z:v.De},r=.nil→asD M x v=some z→(rt v).rep ok w z cs:=by
   intro v z hr hx
   subst hr
   have:c2=[]:=h2
   subst this; subst e
   rw[QH]
   exact K8 hM hx h1
  cases u with
  | pr f g =>
   simp only[asD]at h
   split at h
   ·rename_i a b ha hb
    simp at h; subst h
    exact⟨c1,c2,e,K8 hM ha h1,K8 hM hb h2⟩
   ·cases h
  | unit=>simp[asD]at h
  | int k=>cases r<;>simp[asD]at h; exact key rfl h
  | bool=>cases r<;>simp[asD]at h; exact key rfl h
  | str=>cases r<;>simp[asD]at h; exact key rfl h
  | sl e=>cases r<;>simp[asD]at h; exact key rfl h
  | arr n e=>cases r<;>simp[asD]at h; exact key rfl h
  | st fs=>cases r<;>simp[asD]at h; exact key rfl h
  | ref=>cases r<;>simp[asD]at h
  | rose fs=>cases r<;>simp only[asD]at h<;>first | (cases h; done) | exact key rfl h
 | .p ..,u,_,_,h,_=>by cases u<;>simp[asD]at h
 | .e ..,u,_,_,h,_=>by cases u<;>simp[asD]at h
 | .m ..,u,_,_,h,_=>by cases u<;>simp[asD]at h
 | .b ..,u,_,_,h,_=>by cases u<;>simp[asD]at h
 | .w ..,u,_,_,h,_=>by cases u<;>simp[asD]at h
 | .a ..,u,_,_,h,_=>by cases u<;>simp[asD]at h
 | .np,u,_,_,h,_=>by cases u<;>simp[asD]at h
 | .nm,u,_,_,h,_=>by cases u<;>simp[asD]at h
 | .nf,u,_,_,h,_=>by cases u<;>simp[asD]at h
 | .f ..,u,_,_,h,_=>by cases u<;>simp[asD]at h
 | .tp ..,u,_,_,h,_=>by cases u<;>simp[asD]at h
end
end Gx

/- The quiet operations. -/
namespace Gx
open Go Go.RowKit Gd
set_option linter.unusedVariables false
set_option linter.unusedSimpArgs false
structure TX where
 T:Tab
 tys:List (Nat×Ty)
 gl:List (Nat×Σ t:Ty,t.De)
def lit:AV→Option Value
 | .d (.int k) n=>some (.int k n)
 | .d .bool b=>some (.bool b)
 | .d .str l=>some (Yp l)
 | _=>none
def Ja9:Value→Option AV
 | .int k n=>some (.d (.int k) n)
 | .bool b=>some (.d .bool b)
 | .string ⟨⟨l⟩⟩=>some (.d .str l)
 | _=>none
def nth:AV→Nat→Option AV
 | .cons x _,0=>some x
 | .cons _ r,k+1=>nth r k
 | _,_=>none
def evs(S:St)(cur:Vz):List Operand→Option AV
 | []=>some .nil
 | x::xs=>match ev S cur x,evs S cur xs with
  | some v,some r=>some (.cons v r)
  | _,_=>none
def Jib(c:Bool)(x y:Option AV):Option AV :=
 match x,y with
 | some (.d .bool p),some (.d .bool q)=>some (.d .bool (bif c then p else q))
 | some (.d (.int k) p),some (.d (.int k') q)=>bif Qax k k' then some (.d (.int k) (bif c then p else q))else none
 | _,_=>match c with
  | true=>x
  | false=>y
def Jba(cur:Vz)(c:Operand)(b:Bool):Vz:=match c with
 | .tmp t=>(t,b)::cur
 | _=>cur
def W9:AV→Option (IntKind×Int)
 | .d (.int k) n=>some (k,n)
 | _=>none
def Q25(M:List (Nat×Ob)):AV→Option Nat
 | .d (.sl _) xs=>some xs.length
 | .d .str l=>some l.length
 | .ns=>some 0
 | .z=>some 0
 | .s id=>match Qh M id with
  | some (.row _ _ xs)=>some xs.length
  | some (.tail _ _ xs)=>some xs.length
  | _=>none
 | .w _ _ n=>some n.toNat
 | _=>none
def Q26{α:Type}(f:List Value→Option (α×List Value)):Nat→List Value→Option (List α×List Value)
 | 0,cs=>some ([],cs)
 | n+1,cs=>match f cs with
  | some (y,r)=>match Q26 f n r with
   | some (ys,r')=>some (y::ys,r')
   | none=>none
  | none=>none
def Qfj:Ty→List Value→Option (AV×List Value)
 | .arr n e,cs=>match Q26 (fun cs=>match Qfj e cs with
   | some (x,r)=>(match asD [] x e with
    | some y=>some (y,r)
    | none=>none)
   | none=>none) n cs with
  | some (l,r)=>some (.d (.arr n e) l,r)
  | none=>none
 | .st fs,cs=>match Qfj fs cs with
  | some (l,r)=>bif l.isVal then some (.ag (.cons l .nil),r)else some (.ag l,r)
  | none=>none
 | .pr f g,cs=>match Qfj f cs with
  | some (x,r)=>match Qfj g r with
   | some (l,r')=>bif l.isVal then some (.cons x (.cons l .nil),r')else some (.cons x l,r')
   | none=>none
  | none=>none
 | .rose fs,cs=>match Qfj fs cs with
  | some (l,.slice none 0 0::r)=>bif Q23 l then some (.ag (Jns l (.cons .ns .nil)),r)else none
  | _=>none
 | .unit,cs=>some (.nil,cs)
 | _,v::cs=>match Qm6 v with
  | some x=>some (x,cs)
  | none=>none
 | _,[]=>none
def Ou(ty:Ty)(z:Value):Option AV:=match Qfj ty (Qu z)with
 | some (x,[])=>some x
 | _=>none
def Vt(S:St)(cur:Vz):List (Nat×Operand)→Option (List (Nat×AV))
 | []=>some []
 | (i,x)::xs=>match ev S cur x,Vt S cur xs with
  | some v,some r=>some ((i,v)::r)
  | _,_=>none
def Yy:TypeDesc→Option TypeId
 | .slice e=>some e
 | _=>none
def Sf:(t:Ty)→t.De→Option (List Value)
 | .int k,n=>some [.int k n]
 | .bool,b=>some [.bool b]
 | .str,s=>some [Yp s]
 | .unit,_=>some []
 | .pr f r,x=>match Sf f x.1,Sf r x.2 with
  | some a,some b=>some (a++b)
  | _,_=>none
 | .st fs,x=>Sf fs x
 | _,_=>none
def Kj:AV→Option (List Value)
 | .d t x=>Sf t x
 | .ag l=>Kj l
 | .nil=>some []
 | .cons x r=>match Kj x,Kj r with
  | some a,some b=>some (a++b)
  | _,_=>none
 | _=>none
def Jej:BinOp→Option Bool
 | .eql=>some false
 | .neq=>some true
 | _=>none
def Jut:AV→Option Bool
 | .np=>some true
 | .p _ _=>some false
 | .e _ _=>some false
 | .a _ _=>some false
 | _=>none
def Juu:AV→Option Bool
 | .nm=>some true
 | .m _=>some false
 | _=>none
def Juv:AV→Option Bool
 | .nf=>some true
 | .f _ _=>some false
 | _=>none
def Juw:AV→Bool
 | .np=>true
 | _=>false
def Jux:AV→Bool
 | .nm=>true
 | _=>false
def Juy:AV→Bool
 | .nf=>true
 | _=>false
def Jso(T:Tab)(op:BinOp)(t:TypeId)(x y:AV):Option Bool:=match Jej op,Qk T t with
 | some neg,some te=>match te.d with
  | .pointer _=>bif Juw y then(match Jut x with
   | some b=>some (bif neg then !b else b)
   | none=>none)else none
  | .map _ _=>bif Jux y then(match Juu x with
   | some b=>some (bif neg then !b else b)
   | none=>none)else none
  | .func _ _ _=>bif Juy y then(match Juv x with
   | some b=>some (bif neg then !b else b)
   | none=>none)else none
  | _=>none
 | _,_=>none
def Qjr:Value→Bool
 | .agg _=>true
 | _=>false
theorem Qne{t:Ty}{v:Value}(h:t.agg=Qjr v):(rt t).val (Qu v)=v:=by
 cases v<;>simp_all [Qjr,RT.val,Dj,Qu]
def Jnu:Option Ob→Option (Σ k v:Ty,List (k.De×v.De))
 | some (.map k v xs)=>some ⟨k,v,xs⟩
 | _=>none
def asLs(M:List (Nat×Ob))(u:Ty):List (Nat×AV)→Nat→Option (List u.De)
 | [],_=>some []
 | (i,v)::l,j=>bif Nat.beq i j&&(u.agg==v.isAgg)then(match asD M v u,asLs M u l (j+1)with
  | some x,some xs=>some (x::xs)
  | _,_=>none)else none
def Qle(Y:TX)(S:St)(cur:Vz):Op→Option AV
 | .move x | .assign x=>ev S cur x
 | .pick c a b=>match ev S cur c with
  | some (.d .bool v)=>Jib v (ev S (Jba cur c true) a) (ev S (Jba cur c false) b)
  | _=>none
 | .binOp op t x y _=>match ev S cur x,ev S cur y with
  | some x,some y=>match lit x,lit y with
   | some u,some v=>match Qrm Y.T op t u v with
    | some r=>Ja9 r
    | none=>none
   | _,_=>match Jso Y.T op t x y with
    | some b=>some (.d .bool b)
    | none=>match Jej op,Qk Y.T t,Kj x,Kj y with
    | some neg,some ⟨_,.struct ⟨fs⟩,_,_,_⟩,some us,some vs=>bif Tl fs&&x.isAgg&&y.isAgg then(match Qrr Y.T fs us vs with
     | some r=>some (.d .bool (bif neg then !r else r))
     | none=>none)else none
    | _,_,_,_=>none
  | _,_=>none
 | .unOp op _ x=>match ev S cur x with
  | some x=>match lit x with
   | some u=>match Jhx op u with
    | some r=>Ja9 r
    | none=>none
   | none=>none
  | none=>none
 | .convert s t x=>match Qk Y.T s,Qk Y.T t,ev S cur x with
  | some ⟨_,.int _,_,_,_⟩,some ⟨_,.int k,_,_,_⟩,some (.d (.int _) n)=>some (.d (.int k) (k.wrap n))
  | _,_,_=>none
 | .field s x f=>match Qk Y.T s,ev S cur x with
  | some ⟨_,.struct fs,_,_,_⟩,some x=>match fs[f]? with
   | some fd=>match nav [.f f fd.offset] x,Qk Y.T fd.type with
    | some y,some e=>bif Nat.beq e.size y.size&&(Gn e.d==y.isAgg)&&x.isAgg&&y.isVal&&(y.isAgg||Nat.beq y.size 1)then some y else none
    | _,_=>none
   | none=>none
  | _,_=>none
 | .fieldAddr s x f=>match Qk Y.T s,ev S cur x with
  | some ⟨_,.struct fs,_,_,_⟩,some x=>match Qrn Y.T fs f with
   | some off=>match x with
    | .p id path=>some (.p id (path++[.f f off]))
    | .e id path=>some (.e id (path++[.f f off]))
    | .a t y=>match nav [.f f off] (.d t y)with
     | some (.d u z)=>some (.a u z)
     | _=>none
    | _=>none
   | none=>none
  | _,_=>none
 | .load t x=>match Qk Y.T t,ev S cur x with
  | some e,some (.p id path)=>match Qh S.mem id with
   | some (.var _ c)=>match nav path c with
    | some y=>bif Nat.beq e.size y.size&&(Gn e.d==y.isAgg)&&y.isVal&&(y.isAgg||Nat.beq y.size 1)then some y else none
    | none=>none
   | _=>none
  | some e,some (.a t y)=>bif Nat.beq e.size t.size&&(Gn e.d==t.agg)then some (.d t y)else none
  | _,_=>none
 | .extract x i=>match ev S cur x with
  | some (.tp l)=>nth l i
  | _=>none
 | .call { callee:=.builtin .len,args:=⟨[x]⟩,argTypes:=⟨[t]⟩ }=>match Qk Y.T t,ev S cur x with
  | some e,some x=>match e.d with
   | .slice _=>match x with
    | .d .str _=>none
    | x=>match Q25 S.mem x with
     | some n=>some (.d (.int .i64) n)
     | none=>none
   | .string=>match x with
    | .d .str l=>some (.d (.int .i64) l.length)
    | _=>none
   | .map _ _=>match x with
    | .m id=>match Jnu (Qh S.mem id)with
     | some ⟨_,_,xs⟩=>some (.d (.int .i64) xs.length)
     | none=>none
    | .nm=>some (.d (.int .i64) (0:Nat))
    | _=>none
   | _=>none
  | _,_=>none
 | .call { callee:=.builtin .max,args:=⟨[x,y]⟩,argTypes:=_ }=>match ev S cur x,ev S cur y with
  | some x,some y=>match W9 x,W9 y with
   | some (k,a),some (_,b)=>some (.d (.int k) (if b>a then b else a))
   | _,_=>none
  | _,_=>none
 | .call { callee:=.builtin .min,args:=⟨[x,y]⟩,argTypes:=_ }=>match ev S cur x,ev S cur y with
  | some x,some y=>match W9 x,W9 y with
   | some (k,a),some (_,b)=>some (.d (.int k) (if b<a then b else a))
   | _,_=>none
  | _,_=>none
 | .call { callee:=.builtin .min,args:=⟨[x,y,x3]⟩,argTypes:=_ }=>match ev S cur x,ev S cur y,ev S cur x3 with
  | some x,some y,some x3=>match W9 x,W9 y,W9 x3 with
   | some (k,a),some (_,b),some (_,c)=>some (.d (.int k) (if c<(if b<a then b else a)then c else(if b<a then b else a)))
   | _,_,_=>none
  | _,_,_=>none
 | .build t ⟨parts⟩=>match Qk Y.T t,Jv Y.tys t with
  | some ⟨_,.struct ⟨fs⟩,z,_,_⟩,some ty=>match Ou ty z,Qk0 Y.T fs,Vt S cur parts with
   | some (.ag l),some ps,some vs=>match fillP ps l vs with
    | some l'=>some (.ag l')
    | none=>none
   | _,_,_=>none
  | some ⟨_,.array _ e,z,_,_⟩,some (.arr m u)=>match parts with
   | []=>match Qk Y.T e,Ou (.arr m u) z with
    | some _,some x=>bif x.isAgg then some x else none
    | _,_=>none
   | _::_=>match Qk Y.T e,Vt S cur parts with
    | some ee,some vs=>match asLs S.mem u vs 0 with
     | some xs=>bif Nat.beq ee.size u.size&&Nat.beq xs.length m&&Nat.beq (Qu z).length (m*u.size)then some (.d (.arr m u) xs)else none
     | none=>none
    | _,_=>none
  | _,_=>none
 | .nilCheck x=>match ev S cur x with
  | some (.p id path)=>some (.p id path)
  | some (.e id path)=>some (.e id path)
  | some (.a t y)=>some (.a t y)
  | some (.f fn caps)=>some (.f fn caps)
  | _=>none
 | .makeFunc (.func f) ⟨[]⟩ ⟨caps⟩=>match evs S cur caps with
  | some l=>some (.f f l)
  | none=>none
 | .lookup t x ix c=>match Qk Y.T t,ev S cur x,ev S cur ix with
  | some te,some (.m id),some iv=>match te.d,Jnu (Qh S.mem id)with
   | .map kt et,some ⟨k,v,xs⟩=>match Qk Y.T kt,Qk Y.T et,asD [] iv k with
    | some tk,some tz,some key=>match Ou v tz.z with
     | some za=>match asD [] za v with
      | some z=>bif Y6 Y.T k tk.d&&(k.agg==iv.isAgg)&&(v.agg==Qjr tz.z)then some (match c with
       | true=>.tp (.cons (.d v ((Qg key xs).getD z)) (.cons (.d .bool (Qg key xs).isSome) .nil))
       | false=>.d v ((Qg key xs).getD z))else none
      | none=>none
     | none=>none
    | _,_,_=>none
   | _,_=>none
  | _,_,_=>none
 | _=>none
where
 fillP (ps:List (Nat×Nat)) (l:AV):List (Nat×AV)→Option AV
 | []=>some l
 | (i,x)::r=>match ps[i]? with
  | some (off,size)=>match Uu (fun c=>bif Qld c x then some x else none) l i with
   | some (l',o)=>bif Nat.beq o off&&Nat.beq x.size size then fillP ps l' r else none
   | none=>none
  | none=>none
section
variable {β:Nat→Nat} {ρ:Nat→Value} {ok:Ok} {w:World}
theorem Q8l{x:AV}{v:Value}(h:lit x=some v){cs:List Value}(hc:cr β ρ ok w false x cs):x.val cs=v:=by
 unfold lit at h
 split at h<;>first | (simp at h; done) | skip
 all_goals
  simp only[Option.some.injEq]at h
  subst h
  have hc':cs=_:=hc
  subst hc'
  rfl
theorem Q27{x:AV}{v:Value}(h:Ja9 v=some x):∃cs,v=x.val cs∧cr β ρ ok w false x cs:=by
 unfold Ja9 at h
 split at h<;>first | (simp at h; done) | skip
 all_goals
  simp only[Option.some.injEq]at h
  subst h
  exact⟨_,rfl,rfl⟩
theorem Jic:∀{l:AV} {k:Nat} {x:AV} {vs:List Value},nth l k=some x→cr β ρ ok w true l vs→∃cs,vs[k]?=some (x.val cs)∧cr β ρ ok w false x cs
 | .cons x r,0,y,vs,h,⟨c1,vs',h1,h2,h3⟩=>by
  simp[nth]at h; grind
 | .cons x r,k+1,y,vs,h,⟨c1,vs',h1,h2,h3⟩=>by
  subst h1
  obtain⟨c2,h4,h5⟩:=Jic (l:=r) (k:=k) (x:=y) (by grind [nth]) h3
  grind
 | .d ..,_,_,_,h,_=>by simp[nth]at h
 | .p ..,_,_,_,h,_=>by simp[nth]at h
 | .e ..,_,_,_,h,_=>by simp[nth]at h
 | .s ..,_,_,_,h,_=>by simp[nth]at h
 | .m ..,_,_,_,h,_=>by simp[nth]at h
 | .b ..,_,_,_,h,_=>by simp[nth]at h
 | .w ..,_,_,_,h,_=>by simp[nth]at h
 | .a ..,_,_,_,h,_=>by simp[nth]at h
 | .z,_,_,_,h,_=>by simp[nth]at h
 | .ns,_,_,_,h,_=>by simp[nth]at h
 | .np,_,_,_,h,_=>by simp[nth]at h
 | .nm,_,_,_,h,_=>by simp[nth]at h
 | .nf,_,_,_,h,_=>by simp[nth]at h
 | .f ..,_,_,_,h,_=>by simp[nth]at h
 | .ag ..,_,_,_,h,_=>by simp[nth]at h
 | .tp ..,_,_,_,h,_=>by simp[nth]at h
 | .nil,_,_,_,h,_=>by simp[nth]at h
theorem Is{x:AV}{k:IntKind}{n:Int}(h:W9 x=some (k,n)):x=.d (.int k) n:=by
 unfold W9 at h
 grind
theorem Jnv{M:List (Nat×Ob)}(hM:∀id o,Qh M id=some o→(Qv β ρ id o).p ok w){x:AV}{n:Nat}{cs:List Value}(h:Q25 M x=some n)(hs:∀l,x≠.d .str l)(hc:cr β ρ ok w false x cs) :
  ∃A c,x.val cs=.slice A n c:=by
 cases x with
 | d t y =>
  cases t<;>simp[Q25]at h
  ·grind
  ·subst h
   obtain⟨v,rfl,A,m,c,rfl,rfl,_⟩:=hc
   exact⟨A,c,rfl⟩
 | s id =>
  simp only[Q25]at h
  obtain⟨⟨v,rfl,hz⟩,A,m,c,hv⟩:=hc
  suffices hm:m=n by
   subst hm
   rcases hz with rfl | ⟨h0,A',rfl⟩
   ·exact⟨A,c,hv⟩
   ·rw[hv]at h0
    injection h0 with _ h1
    exact⟨A',0,by rw[h1]; rfl⟩
  split at h<;>first | (simp at h; done) | skip
  ·rename_i ho
   simp at h; subst h
   have:=(hM _ _ ho).1
   rw[hv]at this
   exact this
  ·rename_i ho
   simp at h; subst h
   have:=(hM _ _ ho).1
   rw[hv]at this
   grind [Qm0]
 | ns=>simp[Q25]at h; subst h; have:cs=_:=hc; subst this; exact⟨_,_,rfl⟩
 | w id j m=>simp[Q25]at h; subst h; obtain⟨A,c,rfl,_⟩:=hc; exact⟨_,_,rfl⟩
 | z=>simp[Q25]at h; subst h; obtain⟨A,rfl⟩:=hc; exact⟨_,_,rfl⟩
 | _=>simp[Q25]at h
theorem Q28{τ:Type}{r:RT τ}{f:List Value→Option (τ×List Value)}(hf:∀{cs r':List Value} {y:τ},f cs=some (y,r')→∃c1,cs=c1++r'∧r.rep ok w y c1) :
  ∀{n:Nat} {cs r':List Value} {ys:List τ},Q26 f n cs=some (ys,r')→∃c1,cs=c1++r'∧ys.length=n∧Wb r ok w ys c1
 | 0,cs,r',ys,h=>by simp[Q26]at h; obtain⟨rfl,rfl⟩:=h; exact⟨[],rfl,rfl,rfl⟩
 | n+1,cs,r',ys,h=>by
  simp only[Q26]at h
  split at h
  ·rename_i y r1 h1
   split at h
   ·rename_i ys' r2 h2
    simp at h; obtain⟨rfl,rfl⟩:=h
    obtain⟨c1,rfl,p1⟩:=hf h1
    obtain⟨c2,rfl,p2,p3⟩:=Q28 hf h2
    exact⟨c1++c2,by simp,by simp[p2],c1,c2,rfl,p1,p3⟩
   ·cases h
  ·cases h
theorem Qhn:∀{ty:Ty} {cs r:List Value} {x:AV},Qfj ty cs=some (x,r)→∃c1,cs=c1++r∧cr β ρ ok w false x c1
 | .st fs,cs,r,x,h=>by
  simp only[Qfj]at h
  split at h
  ·rename_i l r' hl
   obtain⟨c1,h1,h2⟩:=Qhn hl
   cases hv:l.isVal with
   | true =>
    rw[hv]at h
    simp at h; obtain⟨rfl,rfl⟩:=h
    exact⟨c1,h1,c1,[],by simp,h2,rfl⟩
   | false =>
    rw[hv]at h
    simp at h; obtain⟨rfl,rfl⟩:=h
    exact⟨c1,h1,h2⟩
  ·cases h
 | .rose fs,cs,r,x,h=>by
  simp only[Qfj]at h
  split at h
  ·rename_i l r' hl
   cases hb:Q23 l with
   | false=>rw[hb]at h; cases h
   | true =>
    rw[hb]at h
    simp at h; obtain⟨rfl,rfl⟩:=h
    obtain⟨c1,h1,h2⟩:=Qhn hl
    refine⟨c1++[.slice none 0 0],by rw[h1]; simp,Qzb hb h2 ?_⟩
    exact⟨[.slice none 0 0],[],rfl,rfl,rfl⟩
  ·cases h
 | .pr f g,cs,r,x,h=>by
  simp only[Qfj]at h
  split at h
  ·rename_i y r1 h1
   split at h
   ·rename_i l r2 h2
    obtain⟨c1,rfl,hc1⟩:=Qhn h1
    obtain⟨c2,rfl,hc2⟩:=Qhn h2
    cases hv:l.isVal with
    | true =>
     rw[hv]at h
     simp at h; obtain⟨rfl,rfl⟩:=h
     exact⟨c1++c2,by simp,c1,c2,rfl,hc1,c2,[],by simp,hc2,rfl⟩
    | false =>
     rw[hv]at h
     simp at h; obtain⟨rfl,rfl⟩:=h
     exact⟨c1++c2,by simp,c1,c2,rfl,hc1,hc2⟩
   ·cases h
  ·cases h
 | .unit,cs,r,x,h=>by
  simp[Qfj]at h; obtain⟨rfl,rfl⟩:=h
  exact⟨[],rfl,rfl⟩
 | .int k,cs,r,x,h=>nest1 (by cases cs<;>(grind [Qfj]))
 | .bool,cs,r,x,h=>nest1 (by cases cs<;>(grind [Qfj]))
 | .str,cs,r,x,h=>nest1 (by cases cs<;>(grind [Qfj]))
 | .sl e,cs,r,x,h=>nest1 (by cases cs<;>(grind [Qfj]))
 | .ref,cs,r,x,h=>nest1 (by cases cs<;>(grind [Qfj]))
 | .arr n e,cs,r,x,h=>by
  simp only[Qfj]at h
  split at h
  ·rename_i l r' hl
   simp at h; obtain⟨rfl,rfl⟩:=h
   obtain⟨c1,h1,h2,h3⟩:=Q28 (r:=rt e) (ok:=ok) (w:=w) (fun {cs r' y} hf=>by
    split at hf
    ·rename_i x r1 hx
     split at hf
     ·rename_i y' hy
      simp at hf; obtain⟨rfl,rfl⟩:=hf
      obtain⟨c1,p1,p2⟩:=Qhn hx
      grind [K8,Qh]
     ·cases hf
    ·cases hf) hl
   exact⟨c1,h1,h2,h3⟩
  ·cases h
where
 nest1 {cs r:List Value} {x:AV} (h:(match cs with
  | v::cs=>match Qm6 v with
   | some x=>some (x,cs)
   | none=>none
  | []=>none)=some (x,r)):∃c1,cs=c1++r∧cr β ρ ok w false x c1:=by
  cases cs with
  | nil=>cases h
  | cons v cs =>
   simp only at h
   split at h
   ·rename_i y hy
    simp at h; obtain⟨rfl,rfl⟩:=h
    exact⟨[v],rfl,(Qm7 hy).1⟩
   ·cases h
theorem Dm{ty:Ty}{z:Value}{x:AV}(h:Ou ty z=some x):cr β ρ ok w false x (Qu z):=by
 unfold Ou at h
 split at h
 ·rename_i y hy
  simp at h; subst h
  obtain⟨c1,h1,h2⟩:=Qhn hy
  rw[h1,QH]; exact h2
 ·cases h
inductive Jek{α β:Type}(R:α→β→Prop):List α→List β→Prop
 | nil:Jek R [] []
 | cons {a:α} {b:β} {l:List α} {m:List β} (h:R a b) (t:Jek R l m):Jek R (a::l) (b::m)
theorem Q29(ps:List (Nat×Nat)):∀{vs:List (Nat×AV)} {us:List (Nat×Value)} {l l':AV} {cs:List Value},Qle.fillP ps l vs=some l' →
  cr β ρ ok w false l cs→Jek (fun(p:Nat×AV) (q:Nat×Value)=>p.1=q.1∧∃c,q.2=p.2.val c∧cr β ρ ok w false p.2 c) vs us →
  ∃cs',Sa (fun i=>ps[i]?) cs us=some cs'∧cr β ρ ok w false l' cs'
 | [],_,l,l',cs,h,hc,.nil=>by simp[Qle.fillP]at h; subst h; exact⟨cs,rfl,hc⟩
 | (i,x)::vs,_,l,l',cs,h,hc,@Jek.cons _ _ _ _ q _ us hq hr=>by
  obtain⟨j,v⟩:=q
  obtain⟨rfl,c,hv,hcx⟩:=hq
  simp only at hv hcx
  simp only[Qle.fillP]at h
  split at h
  ·rename_i off size hp
   split at h
   ·rename_i l1 o hu
    cases hb:(Nat.beq o off&&Nat.beq x.size size)with
    | false=>rw[hb]at h; cases h
    | true =>
     rw[hb]at h
     simp only[QQ]at hb
     have e1:=Nat.eq_of_beq_eq_true hb.1
     have e2:=Nat.eq_of_beq_eq_true hb.2
     subst e1; subst e2
     simp only[cond_true]at h
     have hg:∀{c0 c':AV} {cs0:List Value},(fun c0=>bif Qld c0 x then some x else none) c0=some c'→cr β ρ ok w false c0 cs0 →
       cr β ρ ok w false c' (cs0.take 0++c++cs0.drop (0+c.length))∧0+c.length≤cs0.length:=by
      intro c0 c' cs0 h1 h2
      have:=Qco (β:=β) (ρ:=ρ) (ok:=ok) (w:=w) (new:=x) (ds:=c) hcx (ps:=[]) (cur:=c0) (av':=c') (by grind [Qpv]) h2
      grind [Yt]
     have hx:x.inMem=true∧x.isVal=true:=by
      have:∃c0,Qld c0 x=true:=by
       clear hr hc hp h hb hg
       induction l generalizing i l1 o with
       | cons y r _ ihr =>
        cases i with
        | zero =>
         grind [Uu,Qld]
        | succ i =>
         grind [Uu]
       | _=>simp[Uu]at hu
      obtain⟨c0,hc0⟩:=this
      simp_all [Qld,QQ]
     obtain⟨h3,h4⟩:=Qnc (off:=0) (ds:=c) hg hu hc
     have hcl:Qu v=c:=by rw[hv]; grind [Se]
     have hlen:=Zr hcx
     obtain⟨cs',h5,h6⟩:=Q29 ps h h3 hr
     refine⟨cs',?_,h6⟩
     simp only[Sa,hp,hcl]
     have hb':(Nat.beq c.length x.size&&Nat.ble (o+c.length) cs.length)=true:=by
      simp_all
     rw[hb']
     simp_all [cond_true,Q2i]
   ·cases h
  ·cases h
end
end Gx

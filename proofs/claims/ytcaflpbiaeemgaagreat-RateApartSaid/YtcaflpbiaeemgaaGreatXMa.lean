/- Maps of data: what the model does with them. -/
import Derived.Test.YtcaflpbiaeemgaaGreatGRows
import Derived.Test.YtcaflpbiaeemgaaGreatGCore
import Derived.MapKept
set_option linter.unusedVariables false
set_option linter.unusedSimpArgs false
namespace Gx
open Go Go.RowKit Gd
def Rj:Ty→Bool
 | .int _=>true
 | .bool=>true
 | .str=>true
 | _=>false
def Qft:Ty→Bool
 | .pr a r=>Rj a&&Qft r
 | .unit=>true
 | t=>Rj t
def Qh9:Ty→Bool
 | .st fs=>Qft fs
 | t=>Rj t
def eqK:(t:Ty)→t.De→t.De→Bool
 | .int _,a,b=>a==b
 | .bool,a,b=>a==b
 | .str,a,b=>a==b
 | .pr f r,a,b=>eqK f a.1 b.1&&eqK r a.2 b.2
 | .unit,_,_=>true
 | .st fs,a,b=>eqK fs a b
 | _,_,_=>false
def Qz{k:Ty}{ν:Type}(key:k.De):List (k.De×ν)→Option ν
 | []=>none
 | x::l=>bif eqK k key x.1 then some x.2 else Qz key l
def Va{k:Ty}{ν:Type}(key:k.De)(v:ν):List (k.De×ν)→List (k.De×ν)
 | []=>[(key,v)]
 | x::l=>bif eqK k key x.1 then(key,v)::l else x::Va key v l
def Gb:(t:Ty)→t.De→List Value
 | .int k,n=>[.int k n]
 | .bool,b=>[.bool b]
 | .str,s=>[Yw s]
 | .pr f r,x=>Gb f x.1++Gb r x.2
 | .st fs,x=>Gb fs x
 | _,_=>[]
def Vt:(t:Ty)→t.De→Value
 | .int k,n=>.int k n
 | .bool,b=>.bool b
 | .str,s=>Yw s
 | .st fs,x=>.agg (Gb fs x).toArray
 | _,_=>undef
theorem Qja{t:Ty}(ht:Rj t=true){ok:Ok}{w:World}{x:t.De}{cs:List Value}:(rt t).rep ok w x cs↔cs=Gb t x:=by
 cases t<;>simp[Rj]at ht<;>exact Iff.rfl
theorem Qpt:∀{t:Ty},Qft t=true→∀{ok:Ok} {w:World} {x:t.De} {cs:List Value},(rt t).rep ok w x cs↔cs=Gb t x
 | .pr f r,ht,ok,w,x,cs=>by
  simp only[Qft,QQ]at ht;constructor
  ·rintro⟨c1,c2,rfl,h1,h2⟩
   rw[(Qja ht.1).1 h1,(Qpt ht.2).1 h2]; rfl
  ·rintro rfl
   exact⟨_,_,rfl,(Qja ht.1).2 rfl,(Qpt ht.2).2 rfl⟩
 | .unit,ht,ok,w,x,cs=>Iff.rfl
 | .int _,ht,ok,w,x,cs=>Qja ht
 | .bool,ht,ok,w,x,cs=>Qja ht
 | .str,ht,ok,w,x,cs=>Qja ht
 | .sl _,ht,_,_,_,_=>by simp[Qft,Rj]at ht
 | .arr _ _,ht,_,_,_,_=>by simp[Qft,Rj]at ht
 | .st _,ht,_,_,_,_=>by simp[Qft,Rj]at ht
theorem Jbh{t:Ty}(ht:Qh9 t=true){ok:Ok}{w:World}{x:t.De}{v:Value}:isV (rt t) ok w x v↔v=Vt t x:=by
 cases t with
 | int k=>exact Jy3
 | bool=>exact Qw0
 | str=>exact Jy4
 | st fs =>
  constructor
  ·rintro⟨cs,h,rfl⟩
   rw[(Qpt ht).1 h]; rfl
  ·rintro rfl
   exact⟨_,(Qpt ht).2 rfl,rfl⟩
 | _=>simp[Qh9,Rj]at ht
theorem O9{t:Ty}(ht:Qh9 t=true){ok:Ok}{w:World}{x:t.De}{v:Value}(h:isV (rt t) ok w x v):v=Vt t x:=(Jbh ht).1 h
theorem Jkw{t:Ty}(ht:Qh9 t=true){ok:Ok}{w:World}(x:t.De):isV (rt t) ok w x (Vt t x):=(Jbh ht).2 rfl
theorem Qfu{t:Ty}(ht:Rj t=true){x y:t.De}:eqK t x y=true↔x=y:=by
 cases t<;>simp[Rj]at ht<;>simp[eqK]
theorem Jkx:∀{t:Ty},Qft t=true→∀{x y:t.De},eqK t x y=true↔x=y
 | .pr f r,ht,x,y=>by
  simp only[Qft,QQ]at ht;obtain⟨x1,x2⟩:=x;obtain⟨y1,y2⟩:=y;simp only[eqK,QQ,Qfu ht.1,Jkx ht.2,Prod.mk.injEq]
 | .unit,ht,x,y=>by simp[eqK]
 | .int _,ht,x,y=>Qfu ht
 | .bool,ht,x,y=>Qfu ht
 | .str,ht,x,y=>Qfu ht
 | .sl _,ht,_,_=>by simp[Qft,Rj]at ht
 | .arr _ _,ht,_,_=>by simp[Qft,Rj]at ht
 | .st _,ht,_,_=>by simp[Qft,Rj]at ht
theorem Gk{t:Ty}(ht:Qh9 t=true){x y:t.De}:eqK t x y=true↔x=y:=by
 cases t with
 | st fs=>exact Jkx (t:=fs) ht
 | int k=>exact Qfu (t:=.int k) rfl
 | bool=>exact Qfu (t:=.bool) rfl
 | str=>exact Qfu (t:=.str) rfl
 | _=>simp[Qh9,Rj]at ht
def Hs:Ty→TypeDesc→Bool
 | .int k,.int k'=>Qdz k k'
 | .bool,.bool=>true
 | .str,.string=>true
 | _,_=>false
def Jo6(T:Tab)(f:Field)(t:Ty)(i:Nat):Bool:=f.name != "_" && Nat.beq f.offset i&&(match Qo T f.type with
 | some e=>Hs t e.d
 | none=>false)
def Fw(T:Tab):List Field→Ty→Nat→Bool
 | [],.unit,_=>true
 | [f],t,i=>Jo6 T f t i
 | f::g::fs,.pr a r,i=>Jo6 T f a i&&Fw T (g::fs) r (i+1)
 | _,_,_=>false
def V6(T:Tab):Ty→TypeDesc→Bool
 | .st fs,.struct ⟨fds⟩=>Fw T fds fs 0
 | t,d=>Hs t d
theorem Nz{t:Ty}{d:TypeDesc}(h:Hs t d=true):Rj t=true:=by
 cases t<;>cases d<;>simp[Hs]at h<;>rfl
theorem Oy{T:Tab}{f:Field}{t:Ty}{i:Nat}(h:Jo6 T f t i=true):(f.name != "_")=true∧f.offset=i∧∃e,Qo T f.type=some e∧Hs t e.d=true:=by
 simp only[Jo6,QQ]at h;grind [Nat.eq_of_beq_eq_true]
theorem Qty{T:Tab}:∀{fds:List Field} {t:Ty} {i:Nat},Fw T fds t i=true→Qft t=true
 | [],t,i,h=>by cases t<;>simp[Fw]at h; rfl
 | [f],t,i,h=>by
  simp only[Fw]at h;obtain⟨_,_,e,_,h3⟩:=Oy h;have:=Nz h3;cases t<;>simp[Rj]at this<;>rfl
 | f::g::fs,t,i,h=>by
  cases t<;>simp only[Fw,QQ]at h
  all_goals first | (cases h; done) | skip
  obtain⟨_,_,e,_,h3⟩:=Oy h.1;simp only[Qft,QQ];exact⟨Nz h3,Qty h.2⟩
theorem Uw{T:Tab}{t:Ty}{d:TypeDesc}(h:V6 T t d=true):Qh9 t=true:=by
 cases t with
 | st fs =>
  cases d<;>simp[V6,Hs]at h;rename_i fds;obtain⟨fds⟩:=fds;exact Qty h
 | _=>cases d<;>simp[V6,Hs]at h<;>rfl
theorem Tv{t:Ty}(h:Rj t=true)(x:t.De):Gb t x=[Vt t x]:=by
 cases t<;>simp[Rj]at h<;>rfl
section
variable {P:Program} {T:Tab}
theorem Jbi(hT:Jg P T){f:Field}{t:Ty}{i:Nat}(h:Jo6 T f t i=true){fs:List Field}{p1 p2 r1 r2:List Value}{x y:t.De}(h1:p1.length=i)(h2:p2.length=i){q:Bool}
  (hq:Qw8 T fs (p1++Gb t x++r1) (p2++Gb t y++r2)=some q):Qw8 T (f::fs) (p1++Gb t x++r1) (p2++Gb t y++r2)=some (eqK t x y&&q):=by
 obtain⟨_,ho,e,he,hs⟩:=Oy h;obtain⟨e1,e2,e3,e4,e5⟩:=e
 have g1:(p1++Gb t x++r1)[f.offset]?=some (Vt t x):=by
  rw[Tv (Nz hs),ho,←h1]; simp
 have g2:(p2++Gb t y++r2)[f.offset]?=some (Vt t y):=by
  rw[Tv (Nz hs),ho,←h2]; simp
 unfold Qw8;rw[he,g1,g2,hq];cases t<;>cases e2<;>simp[Hs]at hs
 ·rename_i k k'
  simp only[Vt];rw[show Qdz k k=true from by cases k<;>rfl];rfl
 ·rfl
 ·rfl
theorem Jbj(hT:Jg P T):∀{fds:List Field} {t:Ty} {i:Nat},Fw T fds t i=true→∀{p1 p2:List Value} {x y:t.De},p1.length=i→p2.length=i →
  Qw8 T fds (p1++Gb t x) (p2++Gb t y)=some (eqK t x y)∧Qcq fds=true
 | [],t,i,h,p1,p2,x,y,h1,h2=>by
  cases t<;>simp[Fw]at h;exact⟨rfl,rfl⟩
 | [f],t,i,h,p1,p2,x,y,h1,h2=>by
  simp only[Fw]at h;have hb:Qcq [f]=true:=by simp only[Qcq,XW,List.all_nil,Bool.and_true]; exact(Oy h).1
  refine⟨?_,hb⟩;have:=Jbi hT h (fs:=[]) (r1:=[]) (r2:=[]) (x:=x) (y:=y) h1 h2 rfl;grind
 | f::g::fs,t,i,h,p1,p2,x,y,h1,h2=>by
  cases t<;>simp only[Fw,QQ]at h
  all_goals first | (cases h; done) | skip
  rename_i a r;obtain⟨x1,x2⟩:=x;obtain⟨y1,y2⟩:=y;have hs:=Nz (Oy h.1).2.2.choose_spec.2;have l1:(Gb a x1).length=1:=by rw[Tv hs]; rfl
  have l2:(Gb a y1).length=1:=by rw[Tv hs]; rfl
  obtain⟨q1,q2⟩:=Jbj hT h.2 (p1:=p1++Gb a x1) (p2:=p2++Gb a y1) (x:=x2) (y:=y2) (by simp[l1,h1]) (by simp[l2,h2]);refine⟨?_,?_⟩
  ·have:=Jbi hT h.1 (fs:=g::fs) (r1:=Gb r x2) (r2:=Gb r y2) (x:=x1) (y:=y1) h1 h2 q1
   grind [Gb,eqK,List.append_assoc]
  ·simp only[Qcq,XW,QQ]at q2 ⊢
   grind [Oy]
theorem Qnz(hT:Jg P T){kt:TypeId}{te:TE}(ht:Qo T kt=some te){t:Ty}(h:V6 T t te.d=true)(x y:t.De)(w:World):(Op.equal kt (Vt t x) (Vt t y)).run P w=.ok (eqK t x y) w:=by
 have hu:=(J0 hT ht).2;cases t with
 | st fs =>
  obtain⟨e1,e2,e3,e4,e5⟩:=te;cases e2<;>simp[V6,Hs]at h;rename_i fds;obtain⟨fds⟩:=fds;have hf:P.fieldsOf kt=⟨fds⟩:=by simp[Program.fieldsOf,hu]
  have:=run_equalIn_struct (P:=P) w 9999 kt (Gb fs x).toArray (Gb fs y).toArray (by rw[hf,hu]) (Ja0 hT ht).1;rw[hf]at this;show(Op.equalIn 10000 kt _ _).run P w=_;simp only[Vt];rw[this];obtain⟨q1,q2⟩:=Jbj hT h (p1:=[]) (p2:=[]) (x:=x) (y:=y) rfl rfl;grind [eqK,Q6n]
 | int k =>
  obtain⟨e1,e2,e3,e4,e5⟩:=te;cases e2<;>simp[V6,Hs]at h;exact run_equalIn_int w 9999 kt k _ x y hu
 | bool =>
  obtain⟨e1,e2,e3,e4,e5⟩:=te;cases e2<;>simp[V6,Hs]at h;exact run_equalIn_bool' w 9999 kt x y hu
 | str =>
  obtain⟨e1,e2,e3,e4,e5⟩:=te;cases e2<;>simp[V6,Hs]at h;show(Op.equalIn 10000 kt _ _).run P w=_;simp only[Vt,Yw];rw[run_equalIn_string w 9999 kt ⟨⟨x⟩⟩ ⟨⟨y⟩⟩ hu];rw[show(ByteArray.mk ⟨x⟩).toList=x from ByteArray.toList_mk x,show(ByteArray.mk ⟨y⟩).toList=y from ByteArray.toList_mk y];rfl
 | _=>cases te with | mk e1 e2 e3 e4 e5=>cases e2<;>simp[V6,Hs]at h
theorem Tw(hT:Jg P T){kt:TypeId}{te:TE}(ht:Qo T kt=some te){t:Ty}(h:V6 T t te.d=true)(key:t.De)(w:World){ν:Type}{s:RT ν}{ok:Ok}:∀{xs:List (t.De×ν)} {es:List MapEntry} (i:Nat),Ri (rt t) s ok w xs es →
  (Qz key xs=none∧(Instr.findAsking kt (Vt t key) es i).run P w=.ok none w∧(Instr.findNow te.d (Vt t key) es i=some none∨Instr.findNow te.d (Vt t key) es i=none)) ∨
  (∃(j:Nat) (e:MapEntry) (y:ν),Qz key xs=some y∧(Instr.findAsking kt (Vt t key) es i).run P w=.ok (some (i+j,e.val)) w∧(Instr.findNow te.d (Vt t key) es i=some (some (i+j,e.val))∨Instr.findNow te.d (Vt t key) es i=none)∧es[j]?=some e∧e.key=Vt t key∧isV s ok w y e.val)
 | [],es,i,hp=>by
  have:es=[]:=hp;subst this;exact .inl ⟨rfl,rfl,.inl rfl⟩
 | x::xs,es,i,hp=>by
  obtain⟨e,es',rfl,h1,h2,h3⟩:=hp;have hk:=O9 (Uw h) h1;have heq:=Qnz hT ht h key x.1 w
  have hsn:Instr.sameNow te.d (Vt t key) e.key=some (eqK t key x.1)∨Instr.sameNow te.d (Vt t key) e.key=none:=by
   rw[hk];cases t with
   | st fs=>exact .inr (by cases te with | mk e1 e2 e3 e4 e5=>cases e2<;>rfl)
   | int k =>
    obtain⟨e1,e2,e3,e4,e5⟩:=te;cases e2<;>simp[V6,Hs]at h;grind [Instr.sameNow,Vt,eqK]
   | bool =>
    grind [V6,Hs,Instr.sameNow,Vt,eqK]
   | str =>
    obtain⟨e1,e2,e3,e4,e5⟩:=te;cases e2<;>simp[V6,Hs]at h;refine .inl ?_;simp only[Instr.sameNow,Vt,eqK,Yw];congr 1;rw[Bool.eq_iff_iff,MapKept.bytes_beq];simp
   | _=>cases te with | mk e1 e2 e3 e4 e5=>cases e2<;>simp[V6,Hs]at h
  simp only[Qz,Instr.findNow,Instr.findAsking,Sem.run_bind,hk,heq,Result.andThen_ok];rw[hk]at hsn;cases he:eqK t key x.1 with
  | true =>
   have:=(Gk (Uw h)).1 he;refine .inr ⟨0,e,x.2,rfl,by simp,?_,rfl,by rw[hk,this],h2⟩;rcases hsn with hsn | hsn<;>rw[hsn]
   ·rw[he]; exact .inl rfl
   ·exact .inr rfl
  | false =>
   rcases Tw hT ht h key w (i+1) h3 with⟨q1,q2,q3⟩ | ⟨j,e',y,q1,q2,q3,q4,q5,q6⟩
   ·grind
   ·have ea:i+1+j=i+(j+1):=by omega
    rw[ea]at q2 q3;refine .inr ⟨j+1,e',y,q1,by simpa using q2,?_,q4,q5,q6⟩;rcases hsn with hsn | hsn<;>rw[hsn]
    ·rw[he]; exact q3
    ·exact .inr rfl
theorem Qpu(hT:Jg P T){kt:TypeId}{te:TE}(ht:Qo T kt=some te){t:Ty}(h:V6 T t te.d=true)(key:t.De)(w:World){ν:Type}{s:RT ν}{ok:Ok}{xs:List (t.De×ν)}{es:List MapEntry}(hp:Ri (rt t) s ok w xs es) :
  (Qz key xs=none∧(Instr.findKey kt (Vt t key) es).run P w=.ok none w) ∨
  (∃(j:Nat) (e:MapEntry) (y:ν),Qz key xs=some y∧(Instr.findKey kt (Vt t key) es).run P w=.ok (some (j,e.val)) w∧es[j]?=some e∧e.key=Vt t key∧isV s ok w y e.val):=by
 have hu:=(J0 hT ht).2;rcases Tw hT ht h key w 0 hp with⟨q1,q2,q3⟩ | ⟨j,e,y,q1,q2,q3,q4,q5,q6⟩
 ·refine .inl ⟨q1,?_⟩
  rcases q3 with q3 | q3
  ·exact MapKept.run_findKey hu q3
  simp_all [Instr.findKey,run_underlying,Result.andThen]
 ·rw[QW]at q2 q3
  refine .inr ⟨j,e,y,q1,?_,q4,q5,q6⟩;rcases q3 with q3 | q3
  ·exact MapKept.run_findKey hu q3
  simp_all [Instr.findKey,run_underlying,Result.andThen]
theorem Qpv(hT:Jg P T){f:Field}{t:Ty}{i:Nat}(h:Jo6 T f t i=true){p r:List Value}{x:t.De}(h1:p.length=i)(w:World)(e:Bool)(n:Nat) :
  (part f.type (p++Gb t x++r).toArray f.offset).run P w=.ok (Vt t x) w∧(Instr.checkKey e (n+1) f.type (Vt t x)).run P w=.ok () w:=by
 obtain⟨_,ho,te,he,hs⟩:=Oy h;have hu:=(J0 hT he).2
 have g1:(p++Gb t x++r)[f.offset]?=some (Vt t x):=by
  rw[Tv (Nz hs),ho,←h1]; simp
 refine⟨Qny hT he ?_ g1,?_⟩
 ·obtain⟨e1,e2,e3,e4,e5⟩:=te
  cases t<;>cases e2<;>simp[Hs]at hs<;>rfl
 ·refine MapKept.run_checkKey hu ?_ e n
  obtain⟨e1,e2,e3,e4,e5⟩:=te;cases t<;>cases e2<;>simp[Hs]at hs
  ·rename_i a b
   have:=O6 hs;exact this
  ·trivial
  ·trivial
theorem Qhl(hT:Jg P T)(w:World)(e:Bool)(n:Nat){body:Field→PUnit→Sem (ForInStep PUnit)}{cs:List Value}
  (hbody:∀(f:Field) (v:Value),f.name ≠ "_" → (part f.type cs.toArray f.offset).run P w=.ok v w→(Instr.checkKey e (n+1) f.type v).run P w=.ok () w→(body f ⟨⟩).run P w=.ok (ForInStep.yield ⟨⟩) w):∀{fds:List Field} {t:Ty} {i:Nat},Fw T fds t i=true→∀{p:List Value} {x:t.De},p.length=i→cs=p++Gb t x →
  (forIn fds PUnit.unit body).run P w=.ok ⟨⟩ w
 | [],t,i,h,p,x,h1,hc=>by simp
 | [f],t,i,h,p,x,h1,hc=>by
  simp only[Fw]at h;have hn:f.name ≠ "_" := by grind [Oy]
  obtain⟨q1,q2⟩:=Qpv hT h (r:=[]) (x:=x) h1 w e n;rw[QH,←hc]at q1;simp_all
 | f::g::fs,t,i,h,p,x,h1,hc=>by
  cases t<;>simp only[Fw,QQ]at h
  all_goals first | (cases h; done) | skip
  rename_i a r;obtain⟨x1,x2⟩:=x;have hs:=Nz (Oy h.1).2.2.choose_spec.2;have l1:(Gb a x1).length=1:=by rw[Tv hs]; rfl
  have hn:f.name ≠ "_" := by grind [Oy]
  obtain⟨q1,q2⟩:=Qpv hT h.1 (r:=Gb r x2) (x:=x1) h1 w e n;have hc':cs=p++Gb a x1++Gb r x2:=by rw[hc]; simp[Gb]
  rw[←hc']at q1;have ih:=Qhl hT w e n hbody h.2 (p:=p++Gb a x1) (x:=x2) (by simp[l1,h1]) hc';rw[List.forIn_cons];simp_all
theorem Cf(hT:Jg P T){kt:TypeId}{te:TE}(ht:Qo T kt=some te){t:Ty}(h:V6 T t te.d=true)(x:t.De)(w:World)(e:Bool):(Instr.checkKey e 10000 kt (Vt t x)).run P w=.ok () w:=by
 have hu:=(J0 hT ht).2;cases t with
 | st fs =>
  obtain⟨e1,e2,e3,e4,e5⟩:=te;cases e2<;>simp[V6,Hs]at h;rename_i fds;obtain⟨fds⟩:=fds;unfold Instr.checkKey;simp only[Sem.run_bind,run_underlying hu,Result.andThen,Vt];simp only[List.forIn_toArray];rw[Qhl hT w e 9998 (cs:=Gb fs x) (fun f v hn h1 h2=>by simp_all) h (p:=[]) (x:=x) rfl rfl];rfl
 | int k =>
  obtain⟨e1,e2,e3,e4,e5⟩:=te;cases e2<;>simp[V6,Hs]at h;exact MapKept.run_checkKey hu (show MapKept.IsKey (.int _) (.int k x)from O6 h) e 9999
 | bool =>
  obtain⟨e1,e2,e3,e4,e5⟩:=te;cases e2<;>simp[V6,Hs]at h;exact MapKept.run_checkKey hu (show MapKept.IsKey .bool (.bool x)from trivial) e 9999
 | str =>
  obtain⟨e1,e2,e3,e4,e5⟩:=te;cases e2<;>simp[V6,Hs]at h;exact MapKept.run_checkKey hu (show MapKept.IsKey .string (Yw x)from trivial) e 9999
 | _=>cases te with | mk e1 e2 e3 e4 e5=>cases e2<;>simp[V6,Hs]at h
theorem Cg{t:Ty}(h:Rj t=true)(x:t.De)(n:Nat):Instr.sameBits n (Vt t x) (Vt t x)=true:=by
 cases t<;>simp[Rj]at h<;>cases n<;>simp[Instr.sameBits,Vt,Yw]
 all_goals rw[MapKept.bytes_beq]
theorem Qxi{n:Nat}:∀{t:Ty},Qft t=true→∀(x:t.De),((Gb t x).zip (Gb t x)).all (fun(x,y)=>Instr.sameBits n x y)=true
 | .pr f r,ht,x=>by
  simp only[Qft,QQ]at ht;have ih:=Qxi (n:=n) ht.2 x.2;simp only[Gb,Tv ht.1,List.singleton_append,List.zip_cons_cons,XW,Cg ht.1,ih,KK]
 | .unit,ht,x=>rfl
 | .int k,ht,x=>by have:=Cg (t:=.int k) rfl x n; simp_all [Gb,Vt]
 | .bool,ht,x=>by have:=Cg (t:=.bool) rfl x n; simp_all [Gb,Vt]
 | .str,ht,x=>by have:=Cg (t:=.str) rfl x n; simp_all [Gb,Vt]
 | .sl _,ht,_=>by simp[Qft,Rj]at ht
 | .arr _ _,ht,_=>by simp[Qft,Rj]at ht
 | .st _,ht,_=>by simp[Qft,Rj]at ht
theorem Jo7{t:Ty}(h:Qh9 t=true)(x:t.De)(w:World):(Instr.keyThatStays (Vt t x) (Vt t x)).run P w=.ok (Vt t x) w:=by
 have:Instr.sameBits 10000 (Vt t x) (Vt t x)=true:=by
  cases t with
  | st fs =>
   have:=Qxi (n:=9999) h x;grind [Vt,Instr.sameBits]
  | int k=>exact Cg (t:=.int k) rfl x _
  | bool=>exact Cg (t:=.bool) rfl x _
  | str=>exact Cg (t:=.str) rfl x _
  | _=>simp[Qh9,Rj]at h
 simp[Instr.keyThatStays,this]
theorem Qxj(hT:Jg P T){t kt et:TypeId}{te tk tz:TE}(ht:Qo T t=some te)(htd:te.d=.map kt et)(hk:Qo T kt=some tk)(hz:Qo T et=some tz)
  {k:Ty} {ν:Type} {s:RT ν} (hd:V6 T k tk.d=true) {ok:Ok} {w:World} {g:Nat} {es:Array MapEntry} {clock:Nat} (hg:w.heap[g]?=some (.map es clock)) {xs:List (k.De×ν)} (hp:Ri (rt k) s ok w xs es.toList)
  (key:k.De) {z:ν} (hzv:isV s ok w z tz.z) (c:Bool) :
  ∃v,(Instr.lookup t (.map (some g)) (Vt k key) c).run P w=.ok (if c=true then .tuple #[v,.bool (Qz key xs).isSome]else v) w∧isV s ok w ((Qz key xs).getD z) v ∧
   (Qz key xs=none∧v=tz.z∨∃(j:Nat) (e:MapEntry),es.toList[j]?=some e∧e.key=Vt k key∧v=e.val):=by
 have hu:=(J0 hT ht).2;rw[htd]at hu;have hzr:(zeroValue et).run P w=.ok tz.z w:=Ze hT w hz;rcases Qpu hT hk hd key w hp with⟨q1,q2⟩ | ⟨j,e,y,q1,q2,q3,q4,q5⟩
 ·refine⟨tz.z,?_,by rw[q1]; exact hzv,.inl ⟨q1,rfl⟩⟩
  simp[Instr.lookup,run_underlying hu,MapKept.run_getObj_map hg,Cf hT hk hd,q2,hzr,Result.andThen,q1]
 ·refine⟨e.val,?_,by rw[q1]; exact q5,.inr ⟨j,e,q3,q4,rfl⟩⟩
  simp[Instr.lookup,run_underlying hu,MapKept.run_getObj_map hg,Cf hT hk hd,q2,Result.andThen,q1]
theorem Q1e(hT:Jg P T){t kt et:TypeId}{te tk tz:TE}(ht:Qo T t=some te)(htd:te.d=.map kt et)(hk:Qo T kt=some tk)(hz:Qo T et=some tz)
  {k:Ty} (hd:V6 T k tk.d=true) {w:World} (key:k.De) (c:Bool) :
  (Instr.lookup t (.map none) (Vt k key) c).run P w=.ok (if c=true then .tuple #[tz.z,.bool false]else tz.z) w:=by
 have hu:=(J0 hT ht).2;rw[htd]at hu;have hzr:(zeroValue et).run P w=.ok tz.z w:=Ze hT w hz;rcases Qpu (ok:=fun _ _=>True) hT hk hd key w (s:=Q2v) (xs:=[]) (es:=[]) rfl with⟨q1,q2⟩ | ⟨j,e,y,q1,q2,q3,q4,q5⟩
 ·simp[Instr.lookup,run_underlying hu,Cf hT hk hd,q2,hzr,Result.andThen]
 ·simp at q3
theorem Jky(hT:Jg P T){kt:TypeId}{te:TE}(ht:Qo T kt=some te){k:Ty}(h:V6 T k te.d=true)(key:k.De){ν:Type}{s:RT ν}{ok:Ok}{w:World}{y:ν}{v:Value}(hv:isV s ok w y v):∀{xs:List (k.De×ν)} {es:List MapEntry},Ri (rt k) s ok w xs es →
  (Qz key xs=none∧∀c,Ri (rt k) s ok w (Va key y xs) (es++[⟨Vt k key,v,c⟩])) ∨
  (∃(j:Nat) (e:MapEntry),(∀i,(Instr.findAsking kt (Vt k key) es i).run P w=.ok (some (i+j,e.val)) w)∧es[j]?=some e∧e.key=Vt k key∧Ri (rt k) s ok w (Va key y xs) (es.modify j fun e=>{ e with key:=Vt k key,val:=v }))
 | [],es,hp=>by
  have:es=[]:=hp;subst this;exact .inl ⟨rfl,fun c=>⟨_,[],rfl,Jkw (Uw h) key,hv,rfl⟩⟩
 | x::xs,es,hp=>by
  obtain⟨e,es',rfl,h1,h2,h3⟩:=hp;have hk:=O9 (Uw h) h1;have heq:=Qnz hT ht h key x.1 w;simp only[Va,Qz,Instr.findAsking,Sem.run_bind,hk,heq,Result.andThen_ok];cases he:eqK k key x.1 with
  | true =>
   have:=(Gk (Uw h)).1 he;exact .inr ⟨0,e,by simp,rfl,by rw[hk,this],⟨_,es',rfl,Jkw (Uw h) key,hv,h3⟩⟩
  | false =>
   rcases Jky hT ht h key hv h3 with⟨q1,q2⟩ | ⟨j,e',q2,q3,q4,q5⟩
   ·exact .inl ⟨q1,fun c=>⟨e,_,rfl,h1,h2,q2 c⟩⟩
   ·exact .inr ⟨j+1,e',fun i=>by rw[show i+(j+1)=i+1+j by omega]; grind,q3,q4,⟨e,_,rfl,h1,h2,q5⟩⟩
def Qjb(es:Array MapEntry)(clock:Nat):Prop:=(es.toList.map MapEntry.born).Nodup∧∀e∈es.toList,e.born<clock
theorem Qlt{k:Ty}{ν:Type}(hk:Qh9 k=true)(key:k.De)(y:ν):∀{xs:List (k.De×ν)},(xs.map Prod.fst).Nodup→((Va key y xs).map Prod.fst).Nodup∧∀z∈(Va key y xs).map Prod.fst,z=key∨z∈xs.map Prod.fst
 | [],_=>⟨by simp[Va],by simp[Va]⟩
 | x::xs,h=>by
  simp only[Va];have h1:=JJ.1 h;cases he:eqK k key x.1 with
  | true =>
   have:=(Gk hk).1 he;grind
  | false =>
   obtain⟨h2,h3⟩:=Qlt hk key y h1.2;refine⟨?_,fun z hz=>?_⟩
   ·simp only[cond_false,JQ,JJ]
    refine⟨fun hm=>?_,h2⟩;rcases h3 _ hm with hm | hm
    ·rw[hm,(Gk hk).2 rfl]at he; cases he
    ·exact h1.1 hm
   grind
theorem Qpw(hT:Jg P T){t kt et:TypeId}{te tk:TE}(ht:Qo T t=some te)(htd:te.d=.map kt et)(hk:Qo T kt=some tk)
  {k:Ty} (hd:V6 T k tk.d=true) {w:World} {g:Nat} {es:Array MapEntry} {clock:Nat} (hg:w.heap[g]?=some (.map es clock)) (key:k.De) {v:Value} :
  ((Instr.findKey kt (Vt k key) es.toList).run P w=.ok none w→(Instr.mapUpdate t (.map (some g)) (Vt k key) v).run P w=.ok () { w with heap:=w.heap.setIfInBounds g (.map (es.push ⟨Vt k key,v,clock⟩) (clock+1)) }) ∧
  (∀j e,(Instr.findKey kt (Vt k key) es.toList).run P w=.ok (some (j,e.val)) w→es.toList[j]?=some e→e.key=Vt k key →
   (Instr.mapUpdate t (.map (some g)) (Vt k key) v).run P w=.ok () { w with heap:=w.heap.setIfInBounds g (.map (es.modify j fun e=>{ e with key:=Vt k key,val:=v }) clock) }):=by
 have hu:=(J0 hT ht).2;rw[htd]at hu;refine⟨fun q=>?_,fun j e q2 q3 q4=>?_⟩
 ·simp[Instr.mapUpdate,run_underlying hu,MapKept.run_getObj_map hg,Cf hT hk hd,q,MapKept.run_setObj_map _ hg,Result.andThen]
 ·have hj:es[j]?=some e:=by simpa using q3
  simp[Instr.mapUpdate,run_underlying hu,MapKept.run_getObj_map hg,Cf hT hk hd,q2,hj,q4,Jo7 (Uw hd),MapKept.run_setObj_map _ hg,Result.andThen]
theorem Jh3{es:Array MapEntry}{clock:Nat}(hst:Qjb es clock)(kv v:Value):Qjb (es.push ⟨kv,v,clock⟩) (clock+1):=by
 refine⟨?_,fun e he=>?_⟩
 ·simp only[Array.toList_push,QC,JQ,ZC]
  refine List.nodup_append.2 ⟨hst.1,by simp,fun a ha b hb=>?_⟩;obtain⟨e,he,rfl⟩:=QK.1 ha;simp at hb; subst hb;exact Nat.ne_of_lt (hst.2 e he)
 ·simp only[Array.toList_push,QZ,QO]at he
  rcases he with he | rfl
  ·exact Nat.lt_succ_of_lt (hst.2 e he)
  grind
theorem Q6q{es:Array MapEntry}{clock:Nat}(hst:Qjb es clock)(kv v:Value)(j:Nat):Qjb (es.modify j fun e=>{ e with key:=kv,val:=v }) clock:=by
 have hmap:∀(l:List MapEntry) (j:Nat),(l.modify j fun e=>{ e with key:=kv,val:=v }).map MapEntry.born=l.map MapEntry.born:=by
  intro l
  induction l with
  | nil=>grind
  | cons x l ih=>grind
 refine⟨?_,fun e he=>?_⟩
 ·rw[Array.toList_modify,hmap]; exact hst.1
 ·have hb:e.born∈(es.toList.modify j fun e=>{ e with key:=kv,val:=v }).map MapEntry.born:=QK.2 ⟨e,by simpa using he,rfl⟩
  rw[hmap]at hb;obtain⟨e',he',hbe⟩:=QK.1 hb;rw[←hbe]; exact hst.2 e' he'
theorem Qn0(hT:Jg P T){kt:TypeId}{te:TE}(ht:Qo T kt=some te){t:Ty}(h:V6 T t te.d=true)(key:t.De)(w:World){ν:Type}{s:RT ν}{ok:Ok}{xs:List (t.De×ν)}{es:List MapEntry}(hp:Ri (rt t) s ok w xs es)
  {r:Option (Nat×Value)} (hr:(Instr.findAsking kt (Vt t key) es 0).run P w=.ok r w):(Instr.findKey kt (Vt t key) es).run P w=.ok r w:=by
 have hu:=(J0 hT ht).2;rcases Tw hT ht h key w 0 hp with⟨q1,q2,q3⟩ | ⟨j,e,y,q1,q2,q3,q4,q5,q6⟩
 ·rw[hr]at q2; injection q2 with q2; subst q2
  rcases q3 with q3 | q3
  ·exact MapKept.run_findKey hu q3
  simp_all [Instr.findKey,run_underlying,Result.andThen]
 ·rw[hr]at q2; injection q2 with q2; subst q2
  rcases q3 with q3 | q3
  ·exact MapKept.run_findKey hu q3
  simp_all [Instr.findKey,run_underlying,Result.andThen]
theorem Qna(hT:Jg P T){t kt et:TypeId}{te tk:TE}(ht:Qo T t=some te)(htd:te.d=.map kt et)(hk:Qo T kt=some tk)
  {k:Ty} {ν:Type} {s:RT ν} (hd:V6 T k tk.d=true) {ok:Ok} {w:World} {g:Nat} {es:Array MapEntry} {clock:Nat} (hg:w.heap[g]?=some (.map es clock)) {xs:List (k.De×ν)} (hp:Ri (rt k) s ok w xs es.toList) (hst:Qjb es clock)
  (key:k.De) {y:ν} {v:Value} (hv:isV s ok w y v) :
  ∃es' clock',(Instr.mapUpdate t (.map (some g)) (Vt k key) v).run P w=.ok () { w with heap:=w.heap.setIfInBounds g (.map es' clock') }∧Ri (rt k) s ok w (Va key y xs) es'.toList∧Qjb es' clock':=by
 rcases Jky hT hk hd key hv hp with⟨q1,q2⟩ | ⟨j,e,q2,q3,q4,q5⟩
 ·rcases Qpu hT hk hd key w hp with⟨r1,r2⟩ | ⟨j,e,y',r1,_⟩
  ·exact⟨_,_,(Qpw hT ht htd hk hd hg key).1 r2,by grind,Jh3 hst _ _⟩
  grind
 ·have h2:=q2 0
  rw[QW]at h2;exact⟨_,_,(Qpw hT ht htd hk hd hg key).2 j e (Qn0 hT hk hd key w hp h2) q3 q4,by simpa using q5,Q6q hst _ _ _⟩
end
end Gx

/- Parts of values; values as data. -/
namespace Gx
open Go Go.RowKit Gd
def mkD:(t:Ty)→t.De→AV
 | .ref,_=>.ns
 | t,x=>.d t x
def exF:(fs:Ty)→fs.De→AV
 | .pr f r,x=>.cons (mkD f x.1) (exF r x.2)
 | .unit,_=>.nil
 | .int k,x=>.cons (.d (.int k) x) .nil
 | .bool,x=>.cons (.d .bool x) .nil
 | .str,x=>.cons (.d .str x) .nil
 | .sl e,x=>.cons (.d (.sl e) x) .nil
 | .arr n e,x=>.cons (.d (.arr n e) x) .nil
 | .st fs,x=>.cons (.d (.st fs) x) .nil
 | .ref,x=>.cons .ns .nil
 | .rose fs,x=>.cons (.d (.rose fs) x) .nil
def Jzg:AV→AV→AV
 | .cons x r,m=>.cons x (Jzg r m)
 | .nil,m=>m
 | x,_=>x
def Jbk:AV→Bool
 | .cons _ r=>Jbk r
 | .nil=>true
 | _=>false
@[reducible] def Jtd:Ty→Ty→Ty
 | .pr f g,u=>.pr f (Jtd g u)
 | .int k,u=>.pr (.int k) u
 | .bool,u=>.pr .bool u
 | .str,u=>.pr .str u
 | .sl e,u=>.pr (.sl e) u
 | .arr n e,u=>.pr (.arr n e) u
 | .st fs,u=>.pr (.st fs) u
 | .ref,u=>.pr .ref u
 | .rose fs,u=>.pr (.rose fs) u
 | .unit,u=>.pr .unit u
def Jzh:(fs u:Ty)→(Jtd fs u).De→fs.De×u.De
 | .pr f g,u,x=>match Jzh g u x.2 with
  | (y,z)=>((x.1,y),z)
 | .int _,_,x=>x
 | .bool,_,x=>x
 | .str,_,x=>x
 | .sl _,_,x=>x
 | .arr _ _,_,x=>x
 | .st _,_,x=>x
 | .ref,_,x=>x
 | .rose _,_,x=>x
 | .unit,_,x=>x
def Qfv:AV→Option AV
 | .d (.st fs) x=>some (exF fs x)
 | .d (.rose fs) x=>some (Jzg (exF fs x.x) (.cons (.d (.sl (.rose fs)) x.ks) .nil))
 | .ag l=>some l
 | _=>none
def kid:AV→Nat→Option (AV×Nat)
 | .cons x _,0=>some (x,0)
 | .cons x r,k+1=>match kid r k with
  | some (y,o)=>some (y,x.size+o)
  | none=>none
 | _,_=>none
def nav:List PS→AV→Option AV
 | [],x=>some x
 | .f k off::ps,x=>match Qfv x with
  | some l=>match kid l k with
   | some (y,o)=>bif Nat.beq o off then nav ps y else none
   | none=>none
  | none=>none
 | .i _ _::_,_=>none
def Zh(g:AV→Option AV):AV→Nat→Option (AV×Nat)
 | .cons x r,0=>match g x with
  | some y=>some (.cons y r,0)
  | none=>none
 | .cons x r,k+1=>match Zh g r k with
  | some (r',o)=>some (.cons x r',x.size+o)
  | none=>none
 | _,_=>none
def Qpx(cur new:AV):Bool:=Nat.beq new.size cur.size&&new.inMem&&new.isVal&&cur.isVal
def Qu0:List PS→AV→AV→Option AV
 | [],cur,new=>bif Qpx cur new then some new else none
 | .f k off::ps,cur,new=>match Qfv cur with
  | some l=>match Zh (fun c=>Qu0 ps c new) l k with
   | some (l',o)=>bif Nat.beq o off then some (.ag l')else none
   | none=>none
  | none=>none
 | .i _ _::_,_,_=>none
def asD(M:List (Nat×Ob)):AV→(t:Ty)→Option t.De
 | .d t x,u=>Ty.cast t u x
 | .ns,.sl _=>some []
 | .z,.sl _=>some []
 | .ns,.ref=>some ()
 | .s id,.sl e=>match Qk M id with
  | some (.tail _ t xs)=>Ty.cast (.sl t) (.sl e) xs
  | _=>none
 | .ag l,.st fs=>asD M l fs
 | .ag l,.rose fs=>match asD M l (Jtd fs (.sl (.rose fs)))with
  | some x=>match Jzh fs (.sl (.rose fs)) x with
   | (a,ks)=>some (.mk a ks)
  | none=>none
 | .nil,.unit=>some ()
 | .cons x r,.pr f g=>match asD M x f,asD M r g with
  | some a,some b=>some (a,b)
  | _,_=>none
 | .cons x .nil,.int k=>asD M x (.int k)
 | .cons x .nil,.bool=>asD M x .bool
 | .cons x .nil,.str=>asD M x .str
 | .cons x .nil,.sl e=>asD M x (.sl e)
 | .cons x .nil,.arr n e=>asD M x (.arr n e)
 | .cons x .nil,.st fs=>asD M x (.st fs)
 | .cons x .nil,.rose fs=>asD M x (.rose fs)
 | .cons x .nil,.ref=>asD M x .ref
 | _,_=>none
section
variable {β:Nat→Nat} {ρ:Nat→Value} {ok:Ok} {w:World}
theorem J5x{t:Ty}{x:t.De}{cs:List Value}(h:(rt t).rep ok w x cs):cr β ρ ok w false (mkD t x) cs:=by cases t<;>exact h
theorem Jh4:∀{fs:Ty} {x:fs.De} {cs:List Value},(rt fs).rep ok w x cs→cr β ρ ok w false (exF fs x) cs
 | .pr f r,x,cs,⟨c1,c2,h,h1,h2⟩=>⟨c1,c2,h,J5x h1,Jh4 h2⟩
 | .unit,_,cs,h=>h
 | .int k,x,cs,h=>⟨cs,[],by simp,h,rfl⟩
 | .bool,x,cs,h=>⟨cs,[],by simp,h,rfl⟩
 | .str,x,cs,h=>⟨cs,[],by simp,h,rfl⟩
 | .sl e,x,cs,h=>⟨cs,[],by simp,h,rfl⟩
 | .arr n e,x,cs,h=>⟨cs,[],by simp,h,rfl⟩
 | .st fs,x,cs,h=>⟨cs,[],by simp,h,rfl⟩
 | .ref,x,cs,h=>⟨cs,[],by simp,h,rfl⟩
 | .rose fs,x,cs,h=>⟨cs,[],by simp,h,rfl⟩
theorem Jbl:∀(fs:Ty) (x:fs.De),Jbk (exF fs x)=true
 | .pr f r,x=>Jbl r x.2
 | .unit,_=>rfl
 | .int k,x=>rfl
 | .bool,x=>rfl
 | .str,x=>rfl
 | .sl e,x=>rfl
 | .arr n e,x=>rfl
 | .st fs,x=>rfl
 | .ref,x=>rfl
 | .rose fs,x=>rfl
theorem Q6r:∀{l m:AV} {c1 c2:List Value},Jbk l=true→cr β ρ ok w false l c1→cr β ρ ok w false m c2→cr β ρ ok w false (Jzg l m) (c1++c2)
 | .cons x r,m,c1,c2,hl,⟨d1,d2,e,h1,h2⟩,hm=>⟨d1,d2++c2,by rw[e,List.append_assoc],h1,Q6r (l:=r) hl h2 hm⟩
 | .nil,m,c1,c2,_,h,hm=>by
  have h:c1=[]:=h;subst h; exact hm
theorem Jkz:∀{fs u:Ty} {x:(Jtd fs u).De} {cs:List Value},(rt (Jtd fs u)).rep ok w x cs→∃c1 c2,cs=c1++c2∧(rt fs).rep ok w (Jzh fs u x).1 c1∧(rt u).rep ok w (Jzh fs u x).2 c2
 | .pr f g,u,x,cs,⟨c1,c2,e,h1,h2⟩=>by
  obtain⟨d1,d2,e2,h3,h4⟩:=Jkz (fs:=g) (u:=u) h2;exact⟨c1++d1,d2,by rw[e,e2,List.append_assoc],⟨c1,d1,rfl,h1,h3⟩,h4⟩
 | .int _,_,x,cs,h=>h
 | .bool,_,x,cs,h=>h
 | .str,_,x,cs,h=>h
 | .sl _,_,x,cs,h=>h
 | .arr _ _,_,x,cs,h=>h
 | .st _,_,x,cs,h=>h
 | .ref,_,x,cs,h=>h
 | .rose _,_,x,cs,h=>h
 | .unit,_,x,cs,h=>h
theorem Qrv{x l:AV}{cs:List Value}(h:Qfv x=some l)(hc:cr β ρ ok w false x cs):cr β ρ ok w false l cs:=by
 unfold Qfv at h;split at h
 ·simp at h; subst h; exact Jh4 hc
 ·simp at h; subst h
  obtain⟨c1,c2,rfl,h1,h2⟩:=Jo4 hc;exact Q6r (Jbl _ _) (Jh4 h1) ⟨c2,[],by simp,h2,rfl⟩
 ·simp at h; subst h; exact hc
 ·cases h
theorem Jte:∀{l:AV} {k:Nat} {y:AV} {o:Nat} {cs:List Value},kid l k=some (y,o)→cr β ρ ok w false l cs →
  cr β ρ ok w false y ((cs.drop o).take y.size)∧o+y.size≤cs.length
 | .cons x r,0,y,o,cs,h,⟨c1,c2,e,h1,h2⟩=>by
  simp[kid]at h;obtain⟨rfl,rfl⟩:=h;grind [Kk,List.take_left]
 | .cons x r,k+1,y,o,cs,h,⟨c1,c2,e,h1,h2⟩=>by
  simp only[kid]at h;split at h
  ·rename_i y' o' hk
   simp at h;obtain⟨rfl,rfl⟩:=h;obtain⟨h3,h4⟩:=Jte hk h2;grind [Kk,List.length_append,List.drop_drop,List.drop_left]
  ·cases h
 | .d ..,_,_,_,_,h,_=>by simp[kid]at h
 | .p ..,_,_,_,_,h,_=>by simp[kid]at h
 | .e ..,_,_,_,_,h,_=>by simp[kid]at h
 | .s ..,_,_,_,_,h,_=>by simp[kid]at h
 | .m ..,_,_,_,_,h,_=>by simp[kid]at h
 | .b ..,_,_,_,_,h,_=>by simp[kid]at h
 | .w ..,_,_,_,_,h,_=>by simp[kid]at h
 | .a ..,_,_,_,_,h,_=>by simp[kid]at h
 | .z,_,_,_,_,h,_=>by simp[kid]at h
 | .ns,_,_,_,_,h,_=>by simp[kid]at h
 | .np,_,_,_,_,h,_=>by simp[kid]at h
 | .nm,_,_,_,_,h,_=>by simp[kid]at h
 | .nf,_,_,_,_,h,_=>by simp[kid]at h
 | .f ..,_,_,_,_,h,_=>by simp[kid]at h
 | .ag ..,_,_,_,_,h,_=>by simp[kid]at h
 | .tp ..,_,_,_,_,h,_=>by simp[kid]at h
 | .nil,_,_,_,_,h,_=>by simp[kid]at h
theorem Qn1:∀{ps:List PS} {x y:AV} {cs:List Value},nav ps x=some y→cr β ρ ok w false x cs →
  cr β ρ ok w false y ((cs.drop (Yx ps)).take y.size)∧Yx ps+y.size≤cs.length
 | [],x,y,cs,h,hc=>by
  grind [nav,Kk,Yx,List.take_of_length_le]
 | .f k off::ps,x,y,cs,h,hc=>by
  simp only[nav]at h;split at h
  ·rename_i l hl
   split at h
   ·rename_i y' o hk
    cases hb:Nat.beq o off with
    | false=>rw[hb]at h; cases h
    | true =>
     rw[hb]at h;simp only[cond_true]at h;have:=Nat.eq_of_beq_eq_true hb;subst this;obtain⟨h1,h2⟩:=Jte hk (Qrv hl hc);obtain⟨h3,h4⟩:=Qn1 h h1;have hl:=Kk h1;rw[hl]at h4;grind [Yx,PS.off,List.drop_take,List.drop_drop,Nat.min_eq_left]
   ·cases h
  ·cases h
 | .i _ _::_,_,_,_,h,_=>by simp[nav]at h
theorem Qrw{g:AV→Option AV}{off:Nat}{ds:List Value}
  (hg:∀{c c':AV} {cs:List Value},g c=some c'→cr β ρ ok w false c cs→cr β ρ ok w false c' (cs.take off++ds++cs.drop (off+ds.length))∧off+ds.length≤cs.length) :
  ∀{l l':AV} {k o:Nat} {cs:List Value},Zh g l k=some (l',o)→cr β ρ ok w false l cs →
   cr β ρ ok w false l' (cs.take (o+off)++ds++cs.drop (o+off+ds.length))∧o+off+ds.length≤cs.length
 | .cons x r,l',0,o,cs,h,⟨c1,c2,e,h1,h2⟩=>by
  simp only[Zh]at h;split at h
  ·rename_i y hy
   simp at h;obtain⟨rfl,rfl⟩:=h;obtain⟨h3,h4⟩:=hg hy h1;subst e;refine⟨⟨_,c2,?_,h3,h2⟩,by rw[List.length_append]; omega⟩;rw[QW,JT (by omega),List.drop_append_of_le_length (by omega)];grind
  ·cases h
 | .cons x r,l',k+1,o,cs,h,⟨c1,c2,e,h1,h2⟩=>by
  simp only[Zh]at h;split at h
  ·rename_i r' o' hr
   simp at h;obtain⟨rfl,rfl⟩:=h;obtain⟨h3,h4⟩:=Qrw hg hr h2;subst e;have hl:=Kk h1;refine⟨⟨c1,_,?_,h1,h3⟩,by rw[List.length_append,hl]; omega⟩;have e1:x.size+o'+off=c1.length+(o'+off):=by rw[hl]; omega
   rw[e1,XC,List.take_of_length_le (by omega),JR];grind [List.append_assoc,Nat.add_assoc,List.drop_drop,List.drop_left]
  ·cases h
 | .d ..,_,_,_,_,h,_=>by simp[Zh]at h
 | .p ..,_,_,_,_,h,_=>by simp[Zh]at h
 | .e ..,_,_,_,_,h,_=>by simp[Zh]at h
 | .s ..,_,_,_,_,h,_=>by simp[Zh]at h
 | .m ..,_,_,_,_,h,_=>by simp[Zh]at h
 | .b ..,_,_,_,_,h,_=>by simp[Zh]at h
 | .w ..,_,_,_,_,h,_=>by simp[Zh]at h
 | .a ..,_,_,_,_,h,_=>by simp[Zh]at h
 | .z,_,_,_,_,h,_=>by simp[Zh]at h
 | .ns,_,_,_,_,h,_=>by simp[Zh]at h
 | .np,_,_,_,_,h,_=>by simp[Zh]at h
 | .nm,_,_,_,_,h,_=>by simp[Zh]at h
 | .nf,_,_,_,_,h,_=>by simp[Zh]at h
 | .f ..,_,_,_,_,h,_=>by simp[Zh]at h
 | .ag ..,_,_,_,_,h,_=>by simp[Zh]at h
 | .tp ..,_,_,_,_,h,_=>by simp[Zh]at h
 | .nil,_,_,_,_,h,_=>by simp[Zh]at h
theorem Qfw{new:AV}{ds:List Value}(hn:cr β ρ ok w false new ds):∀{ps:List PS} {cur av':AV} {cs:List Value},Qu0 ps cur new=some av'→cr β ρ ok w false cur cs →
  cr β ρ ok w false av' (cs.take (Yx ps)++ds++cs.drop (Yx ps+ds.length))∧Yx ps+ds.length≤cs.length
 | [],cur,av',cs,h,hc=>by
  simp only[Qu0]at h;cases hb:Qpx cur new with
  | false=>rw[hb]at h; cases h
  | true =>
   rw[hb]at h;simp at h; subst h;simp only[Qpx,QQ]at hb;have h1:=Nat.eq_of_beq_eq_true hb.1.1.1;have h2:=Kk hn;have h3:=Kk hc;simp_all [Yx,ZJ,QE,QW,JM,QH]
 | .f k off::ps,cur,av',cs,h,hc=>by
  simp only[Qu0]at h;split at h
  ·rename_i l hl
   split at h
   ·rename_i l' o hk
    cases hb:Nat.beq o off with
    | false=>rw[hb]at h; cases h
    | true =>
     rw[hb]at h;simp only[cond_true,Option.some.injEq]at h;have:=Nat.eq_of_beq_eq_true hb;subst this; subst h;have:=Qrw (off:=Yx ps) (ds:=ds) (fun {c c' cs'} hg hcc=>Qfw hn (ps:=ps) hg hcc) hk (Qrv hl hc);exact this
   ·cases h
  ·cases h
 | .i _ _::_,_,_,_,h,_=>by simp[Qu0]at h
theorem Qrx{τ:Type}{r:RT τ}{A:Option Addr}{c:Nat}:Jaw r ok w [] (.slice A 0 c):=⟨A,0,c,rfl,rfl,QN _,fun h=>absurd h (by omega)⟩
theorem Q6s{τ:Type}{r:RT τ}{xs:List τ}{v u:Value}(hz:zal v u)(h:isV (rSl r) ok w xs u):isV (rSl r) ok w xs v:=by
 rcases hz with rfl | ⟨h0,A,rfl⟩
 ·exact h
 grind [Qrm,List.length_eq_zero_iff,Xv,Qrx]
theorem Gl{M:List (Nat×Ob)}(hM:∀id o,Qk M id=some o→(Jb β ρ id o).p ok w) :
  ∀{x:AV} {t:Ty} {y:t.De} {cs:List Value},asD M x t=some y→cr β ρ ok w false x cs→(rt t).rep ok w y cs
 | .d t x,u,y,cs,h,hc=>by
  obtain⟨rfl,rfl⟩:=Ty.cast_ok (by simpa only[asD]using h);exact hc
 | .ns,u,y,cs,h,hc=>by
  cases u<;>simp[asD]at h
  ·subst h
   exact⟨_,hc,Qrx⟩
  ·exact hc
 | .z,u,y,cs,h,⟨A,hc⟩=>by
  cases u<;>simp[asD]at h;subst h;exact⟨_,hc,Qrx⟩
 | .s id,u,y,cs,h,hc=>by
  cases u<;>simp[asD]at h;rename_i e;split at h
  ·rename_i e' t xs ho
   obtain⟨he,rfl⟩:=Ty.cast_ok h;injection he with he
   subst he;have:=(hM _ _ ho).1;obtain⟨⟨v,hv,hz⟩,_⟩:=hc;exact⟨_,hv,Xv.1 (Q6s hz this)⟩
  ·cases h
 | .ag l,u,y,cs,h,hc=>by
  cases u<;>simp only[asD]at h<;>first | (cases h; done) | skip
  ·rename_i fs
   exact Gl hM (x:=l) (t:=fs) h hc
  ·rename_i fs
   split at h
   ·rename_i y hy
    simp at h; subst h;obtain⟨c1,c2,rfl,h1,h2⟩:=Jkz (Gl hM (x:=l) hy hc);exact Jbc h1 h2
   ·cases h
 | .nil,u,y,cs,h,hc=>by
  cases u<;>simp[asD]at h;exact hc
 | .cons x r,u,y,cs,h,⟨c1,c2,e,h1,h2⟩=>by
  have key:∀{v:Ty} {z:v.De},r=.nil→asD M x v=some z→(rt v).rep ok w z cs:=by
   intro v z hr hx;subst hr;have:c2=[]:=h2;subst this; subst e;rw[QH];exact Gl hM hx h1
  cases u with
  | pr f g =>
   simp only[asD]at h;split at h
   ·rename_i a b ha hb
    simp at h; subst h;exact⟨c1,c2,e,Gl hM ha h1,Gl hM hb h2⟩
   ·cases h
  | unit=>simp[asD]at h
  | int k=>cases r<;>simp[asD]at h; exact key rfl h
  | bool=>cases r<;>simp[asD]at h; exact key rfl h
  | str=>cases r<;>simp[asD]at h; exact key rfl h
  | sl e=>cases r<;>simp[asD]at h; exact key rfl h
  | arr n e=>cases r<;>simp[asD]at h; exact key rfl h
  | st fs=>cases r<;>simp[asD]at h; exact key rfl h
  | ref=>cases r<;>simp[asD]at h; exact key rfl h
  | rose fs=>cases r<;>simp only[asD]at h<;>first | (cases h; done) | exact key rfl h
 | .p ..,u,_,_,h,_=>by cases u<;>simp[asD]at h
 | .e ..,u,_,_,h,_=>by cases u<;>simp[asD]at h
 | .m ..,u,_,_,h,_=>by cases u<;>simp[asD]at h
 | .b ..,u,_,_,h,_=>by cases u<;>simp[asD]at h
 | .w ..,u,_,_,h,_=>by cases u<;>simp[asD]at h
 | .a ..,u,_,_,h,_=>by cases u<;>simp[asD]at h
 | .np,u,_,_,h,_=>by cases u<;>simp[asD]at h
 | .nm,u,_,_,h,_=>by cases u<;>simp[asD]at h
 | .nf,u,_,_,h,_=>by cases u<;>simp[asD]at h
 | .f ..,u,_,_,h,_=>by cases u<;>simp[asD]at h
 | .tp ..,u,_,_,h,_=>by cases u<;>simp[asD]at h
end
end Gx

/- The quiet operations. -/
namespace Gx
open Go Go.RowKit Gd
structure TX where
 T:Tab
 tys:List (Nat×Ty)
 gl:List (Nat×Σ t:Ty,t.De)
def lit:AV→Option Value
 | .d (.int k) n=>some (.int k n)
 | .d .bool b=>some (.bool b)
 | .d .str l=>some (Yw l)
 | _=>none
def Jk0:Value→Option AV
 | .int k n=>some (.d (.int k) n)
 | .bool b=>some (.d .bool b)
 | .string ⟨⟨l⟩⟩=>some (.d .str l)
 | _=>none
def nth:AV→Nat→Option AV
 | .cons x _,0=>some x
 | .cons _ r,k+1=>nth r k
 | _,_=>none
def evs(S:St)(cur:V5):List Operand→Option AV
 | []=>some .nil
 | x::xs=>match ev S cur x,evs S cur xs with
  | some v,some r=>some (.cons v r)
  | _,_=>none
def Jtf(c:Bool)(x y:Option AV):Option AV :=
 match x,y with
 | some (.d .bool p),some (.d .bool q)=>some (.d .bool (bif c then p else q))
 | some (.d (.int k) p),some (.d (.int k') q)=>bif Qdz k k' then some (.d (.int k) (bif c then p else q))else none
 | _,_=>match c with
  | true=>x
  | false=>y
def Jk1(cur:V5)(c:Operand)(b:Bool):V5:=match c with
 | .tmp t=>(t,b)::cur
 | _=>cur
def G9:AV→Option (IntKind×Int)
 | .d (.int k) n=>some (k,n)
 | _=>none
def Jbm(M:List (Nat×Ob)):AV→Option Nat
 | .d (.sl _) xs=>some xs.length
 | .d .str l=>some l.length
 | .ns=>some 0
 | .z=>some 0
 | .s id=>match Qk M id with
  | some (.row _ _ xs)=>some xs.length
  | some (.tail _ _ xs)=>some xs.length
  | _=>none
 | .w _ _ n=>some n.toNat
 | _=>none
def Jbn{α:Type}(f:List Value→Option (α×List Value)):Nat→List Value→Option (List α×List Value)
 | 0,cs=>some ([],cs)
 | n+1,cs=>match f cs with
  | some (y,r)=>match Jbn f n r with
   | some (ys,r')=>some (y::ys,r')
   | none=>none
  | none=>none
def Qjc:Ty→List Value→Option (AV×List Value)
 | .arr n e,cs=>match Jbn (fun cs=>match Qjc e cs with
   | some (x,r)=>(match asD [] x e with
    | some y=>some (y,r)
    | none=>none)
   | none=>none) n cs with
  | some (l,r)=>some (.d (.arr n e) l,r)
  | none=>none
 | .st fs,cs=>match Qjc fs cs with
  | some (l,r)=>bif l.isVal then some (.ag (.cons l .nil),r)else some (.ag l,r)
  | none=>none
 | .pr f g,cs=>match Qjc f cs with
  | some (x,r)=>match Qjc g r with
   | some (l,r')=>bif l.isVal then some (.cons x (.cons l .nil),r')else some (.cons x l,r')
   | none=>none
  | none=>none
 | .rose fs,cs=>match Qjc fs cs with
  | some (l,.slice none 0 0::r)=>bif Jbk l then some (.ag (Jzg l (.cons .ns .nil)),r)else none
  | _=>none
 | .unit,cs=>some (.nil,cs)
 | _,v::cs=>match Qrt v with
  | some x=>some (x,cs)
  | none=>none
 | _,[]=>none
def Qfx(ty:Ty)(z:Value):Option AV:=match Qjc ty (Q4 z)with
 | some (x,[])=>some x
 | _=>none
def Vz(S:St)(cur:V5):List (Nat×Operand)→Option (List (Nat×AV))
 | []=>some []
 | (i,x)::xs=>match ev S cur x,Vz S cur xs with
  | some v,some r=>some ((i,v)::r)
  | _,_=>none
def Vj:TypeDesc→Option TypeId
 | .slice e=>some e
 | _=>none
def Qby:(t:Ty)→t.De→Option (List Value)
 | .int k,n=>some [.int k n]
 | .bool,b=>some [.bool b]
 | .str,s=>some [Yw s]
 | .unit,_=>some []
 | .pr f r,x=>match Qby f x.1,Qby r x.2 with
  | some a,some b=>some (a++b)
  | _,_=>none
 | .st fs,x=>Qby fs x
 | _,_=>none
def K5:AV→Option (List Value)
 | .d t x=>Qby t x
 | .ag l=>K5 l
 | .nil=>some []
 | .cons x r=>match K5 x,K5 r with
  | some a,some b=>some (a++b)
  | _,_=>none
 | _=>none
def Jo8:BinOp→Option Bool
 | .eql=>some false
 | .neq=>some true
 | _=>none
def J7r:AV→Option Bool
 | .np=>some true
 | .p _ _=>some false
 | .e _ _=>some false
 | .a _ _=>some false
 | _=>none
def J7s:AV→Option Bool
 | .nm=>some true
 | .m _=>some false
 | _=>none
def J7t:AV→Option Bool
 | .nf=>some true
 | .f _ _=>some false
 | _=>none
def J7u:AV→Bool
 | .np=>true
 | _=>false
def J7v:AV→Bool
 | .nm=>true
 | _=>false
def J7w:AV→Bool
 | .nf=>true
 | _=>false
def J5y(T:Tab)(op:BinOp)(t:TypeId)(x y:AV):Option Bool:=match Jo8 op,Qo T t with
 | some neg,some te=>match te.d with
  | .pointer _=>bif J7u y then(match J7r x with
   | some b=>some (bif neg then !b else b)
   | none=>none)else none
  | .map _ _=>bif J7v y then(match J7s x with
   | some b=>some (bif neg then !b else b)
   | none=>none)else none
  | .func _ _ _=>bif J7w y then(match J7t x with
   | some b=>some (bif neg then !b else b)
   | none=>none)else none
  | _=>none
 | _,_=>none
def Qxk:Value→Bool
 | .agg _=>true
 | _=>false
theorem Q21{t:Ty}{v:Value}(h:t.agg=Qxk v):(rt t).val (Q4 v)=v:=by
 cases v<;>simp_all [Qxk,RT.val,Tq,Q4]
def Jzi:Option Ob→Option (Σ k v:Ty,List (k.De×v.De))
 | some (.map k v xs)=>some ⟨k,v,xs⟩
 | _=>none
def asLs(M:List (Nat×Ob))(u:Ty):List (Nat×AV)→Nat→Option (List u.De)
 | [],_=>some []
 | (i,v)::l,j=>bif Nat.beq i j&&(u.agg==v.isAgg)then(match asD M v u,asLs M u l (j+1)with
  | some x,some xs=>some (x::xs)
  | _,_=>none)else none
def Qpy(Y:TX)(S:St)(cur:V5):Op→Option AV
 | .move x | .assign x=>ev S cur x
 | .pick c a b=>match ev S cur c with
  | some (.d .bool v)=>Jtf v (ev S (Jk1 cur c true) a) (ev S (Jk1 cur c false) b)
  | _=>none
 | .binOp op t x y _=>match ev S cur x,ev S cur y with
  | some x,some y=>match lit x,lit y with
   | some u,some v=>match Qw3 Y.T op t u v with
    | some r=>Jk0 r
    | none=>none
   | _,_=>match J5y Y.T op t x y with
    | some b=>some (.d .bool b)
    | none=>match Jo8 op,Qo Y.T t,K5 x,K5 y with
    | some neg,some ⟨_,.struct ⟨fs⟩,_,_,_⟩,some us,some vs=>bif Qcq fs&&x.isAgg&&y.isAgg then(match Qw8 Y.T fs us vs with
     | some r=>some (.d .bool (bif neg then !r else r))
     | none=>none)else none
    | _,_,_,_=>none
  | _,_=>none
 | .unOp op _ x=>match ev S cur x with
  | some x=>match lit x with
   | some u=>match Js1 op u with
    | some r=>Jk0 r
    | none=>none
   | none=>none
  | none=>none
 | .convert s t x=>match Qo Y.T s,Qo Y.T t,ev S cur x with
  | some ⟨_,.int _,_,_,_⟩,some ⟨_,.int k,_,_,_⟩,some (.d (.int _) n)=>some (.d (.int k) (k.wrap n))
  | _,_,_=>none
 | .field s x f=>match Qo Y.T s,ev S cur x with
  | some ⟨_,.struct fs,_,_,_⟩,some x=>match fs[f]? with
   | some fd=>match nav [.f f fd.offset] x,Qo Y.T fd.type with
    | some y,some e=>bif Nat.beq e.size y.size&&(Hk e.d==y.isAgg)&&x.isAgg&&y.isVal&&(y.isAgg||Nat.beq y.size 1)then some y else none
    | _,_=>none
   | none=>none
  | _,_=>none
 | .fieldAddr s x f=>match Qo Y.T s,ev S cur x with
  | some ⟨_,.struct fs,_,_,_⟩,some x=>match Qw4 Y.T fs f with
   | some off=>match x with
    | .p id path=>some (.p id (path++[.f f off]))
    | .e id path=>some (.e id (path++[.f f off]))
    | .a t y=>match nav [.f f off] (.d t y)with
     | some (.d u z)=>some (.a u z)
     | _=>none
    | _=>none
   | none=>none
  | _,_=>none
 | .load t x=>match Qo Y.T t,ev S cur x with
  | some e,some (.p id path)=>match Qk S.mem id with
   | some (.var _ c)=>match nav path c with
    | some y=>bif Nat.beq e.size y.size&&(Hk e.d==y.isAgg)&&y.isVal&&(y.isAgg||Nat.beq y.size 1)then some y else none
    | none=>none
   | _=>none
  | some e,some (.a t y)=>bif Nat.beq e.size t.size&&(Hk e.d==t.agg)then some (.d t y)else none
  | _,_=>none
 | .extract x i=>match ev S cur x with
  | some (.tp l)=>nth l i
  | _=>none
 | .call { callee:=.builtin .len,args:=⟨[x]⟩,argTypes:=⟨[t]⟩ }=>match Qo Y.T t,ev S cur x with
  | some e,some x=>match e.d with
   | .slice _=>match x with
    | .d .str _=>none
    | x=>match Jbm S.mem x with
     | some n=>some (.d (.int .i64) n)
     | none=>none
   | .string=>match x with
    | .d .str l=>some (.d (.int .i64) l.length)
    | _=>none
   | .map _ _=>match x with
    | .m id=>match Jzi (Qk S.mem id)with
     | some ⟨_,_,xs⟩=>some (.d (.int .i64) xs.length)
     | none=>none
    | .nm=>some (.d (.int .i64) (0:Nat))
    | _=>none
   | _=>none
  | _,_=>none
 | .call { callee:=.builtin .max,args:=⟨[x,y]⟩,argTypes:=_ }=>match ev S cur x,ev S cur y with
  | some x,some y=>match G9 x,G9 y with
   | some (k,a),some (_,b)=>some (.d (.int k) (if b>a then b else a))
   | _,_=>none
  | _,_=>none
 | .call { callee:=.builtin .min,args:=⟨[x,y]⟩,argTypes:=_ }=>match ev S cur x,ev S cur y with
  | some x,some y=>match G9 x,G9 y with
   | some (k,a),some (_,b)=>some (.d (.int k) (if b<a then b else a))
   | _,_=>none
  | _,_=>none
 | .call { callee:=.builtin .min,args:=⟨[x,y,x3]⟩,argTypes:=_ }=>match ev S cur x,ev S cur y,ev S cur x3 with
  | some x,some y,some x3=>match G9 x,G9 y,G9 x3 with
   | some (k,a),some (_,b),some (_,c)=>some (.d (.int k) (if c<(if b<a then b else a)then c else(if b<a then b else a)))
   | _,_,_=>none
  | _,_,_=>none
 | .build t ⟨parts⟩=>match Qo Y.T t,Jy Y.tys t with
  | some ⟨_,.struct ⟨fs⟩,z,_,_⟩,some ty=>match Qfx ty z,Qpj Y.T fs,Vz S cur parts with
   | some (.ag l),some ps,some vs=>match fillP ps l vs with
    | some l'=>some (.ag l')
    | none=>none
   | _,_,_=>none
  | some ⟨_,.array _ e,z,_,_⟩,some (.arr m u)=>match parts with
   | []=>match Qo Y.T e,Qfx (.arr m u) z with
    | some _,some x=>bif x.isAgg then some x else none
    | _,_=>none
   | _::_=>match Qo Y.T e,Vz S cur parts with
    | some ee,some vs=>match asLs S.mem u vs 0 with
     | some xs=>bif Nat.beq ee.size u.size&&Nat.beq xs.length m&&Nat.beq (Q4 z).length (m*u.size)then some (.d (.arr m u) xs)else none
     | none=>none
    | _,_=>none
  | _,_=>none
 | .nilCheck x=>match ev S cur x with
  | some (.p id path)=>some (.p id path)
  | some (.e id path)=>some (.e id path)
  | some (.a t y)=>some (.a t y)
  | some (.f fn caps)=>some (.f fn caps)
  | _=>none
 | .makeFunc (.func f) ⟨[]⟩ ⟨caps⟩=>match evs S cur caps with
  | some l=>some (.f f l)
  | none=>none
 | .lookup t x ix c=>match Qo Y.T t,ev S cur x,ev S cur ix with
  | some te,some (.m id),some iv=>match te.d,Jzi (Qk S.mem id)with
   | .map kt et,some ⟨k,v,xs⟩=>match Qo Y.T kt,Qo Y.T et,asD [] iv k with
    | some tk,some tz,some key=>match Qfx v tz.z with
     | some za=>match asD [] za v with
      | some z=>bif V6 Y.T k tk.d&&(k.agg==iv.isAgg)&&(v.agg==Qxk tz.z)then some (match c with
       | true=>.tp (.cons (.d v ((Qz key xs).getD z)) (.cons (.d .bool (Qz key xs).isSome) .nil))
       | false=>.d v ((Qz key xs).getD z))else none
      | none=>none
     | none=>none
    | _,_,_=>none
   | _,_=>none
  | _,_,_=>none
 | _=>none
where
 fillP (ps:List (Nat×Nat)) (l:AV):List (Nat×AV)→Option AV
 | []=>some l
 | (i,x)::r=>match ps[i]? with
  | some (off,size)=>match Zh (fun c=>bif Qpx c x then some x else none) l i with
   | some (l',o)=>bif Nat.beq o off&&Nat.beq x.size size then fillP ps l' r else none
   | none=>none
  | none=>none
section
variable {β:Nat→Nat} {ρ:Nat→Value} {ok:Ok} {w:World}
theorem Jh5{x:AV}{v:Value}(h:lit x=some v){cs:List Value}(hc:cr β ρ ok w false x cs):x.val cs=v:=by
 unfold lit at h;split at h<;>first | (simp at h; done) | skip
 all_goals
  simp only[Option.some.injEq]at h;subst h;have hc':cs=_:=hc;subst hc';rfl
theorem Jbo{x:AV}{v:Value}(h:Jk0 v=some x):∃cs,v=x.val cs∧cr β ρ ok w false x cs:=by
 unfold Jk0 at h;split at h<;>first | (simp at h; done) | skip
 all_goals
  simp only[Option.some.injEq]at h;subst h;exact⟨_,rfl,rfl⟩
theorem Jtg:∀{l:AV} {k:Nat} {x:AV} {vs:List Value},nth l k=some x→cr β ρ ok w true l vs→∃cs,vs[k]?=some (x.val cs)∧cr β ρ ok w false x cs
 | .cons x r,0,y,vs,h,⟨c1,vs',h1,h2,h3⟩=>by
  simp[nth]at h; grind
 | .cons x r,k+1,y,vs,h,⟨c1,vs',h1,h2,h3⟩=>by
  subst h1;obtain⟨c2,h4,h5⟩:=Jtg (l:=r) (k:=k) (x:=y) (by grind [nth]) h3;grind
 | .d ..,_,_,_,h,_=>by simp[nth]at h
 | .p ..,_,_,_,h,_=>by simp[nth]at h
 | .e ..,_,_,_,h,_=>by simp[nth]at h
 | .s ..,_,_,_,h,_=>by simp[nth]at h
 | .m ..,_,_,_,h,_=>by simp[nth]at h
 | .b ..,_,_,_,h,_=>by simp[nth]at h
 | .w ..,_,_,_,h,_=>by simp[nth]at h
 | .a ..,_,_,_,h,_=>by simp[nth]at h
 | .z,_,_,_,h,_=>by simp[nth]at h
 | .ns,_,_,_,h,_=>by simp[nth]at h
 | .np,_,_,_,h,_=>by simp[nth]at h
 | .nm,_,_,_,h,_=>by simp[nth]at h
 | .nf,_,_,_,h,_=>by simp[nth]at h
 | .f ..,_,_,_,h,_=>by simp[nth]at h
 | .ag ..,_,_,_,h,_=>by simp[nth]at h
 | .tp ..,_,_,_,h,_=>by simp[nth]at h
 | .nil,_,_,_,h,_=>by simp[nth]at h
theorem Pa{x:AV}{k:IntKind}{n:Int}(h:G9 x=some (k,n)):x=.d (.int k) n:=by
 unfold G9 at h;grind
theorem Jzj{M:List (Nat×Ob)}(hM:∀id o,Qk M id=some o→(Jb β ρ id o).p ok w){x:AV}{n:Nat}{cs:List Value}(h:Jbm M x=some n)(hs:∀l,x≠.d .str l)(hc:cr β ρ ok w false x cs) :
  ∃A c,x.val cs=.slice A n c:=by
 cases x with
 | d t y =>
  cases t<;>simp[Jbm]at h
  ·grind
  ·subst h
   obtain⟨v,rfl,A,m,c,rfl,rfl,_⟩:=hc;exact⟨A,c,rfl⟩
 | s id =>
  simp only[Jbm]at h;obtain⟨⟨v,rfl,hz⟩,A,m,c,hv⟩:=hc
  suffices hm:m=n by
   subst hm;rcases hz with rfl | ⟨h0,A',rfl⟩
   ·exact⟨A,c,hv⟩
   ·rw[hv]at h0
    injection h0 with _ h1
    exact⟨A',0,by rw[h1]; rfl⟩
  split at h<;>first | (simp at h; done) | skip
  ·rename_i ho
   simp at h; subst h;have:=(hM _ _ ho).1;rw[hv]at this;exact this
  ·rename_i ho
   simp at h; subst h;have:=(hM _ _ ho).1;rw[hv]at this;grind [Qrm]
 | ns=>simp[Jbm]at h; subst h; have:cs=_:=hc; subst this; exact⟨_,_,rfl⟩
 | w id j m=>simp[Jbm]at h; subst h; obtain⟨A,c,rfl,_⟩:=hc; exact⟨_,_,rfl⟩
 | z=>simp[Jbm]at h; subst h; obtain⟨A,rfl⟩:=hc; exact⟨_,_,rfl⟩
 | _=>simp[Jbm]at h
theorem Jbp{τ:Type}{r:RT τ}{f:List Value→Option (τ×List Value)}(hf:∀{cs r':List Value} {y:τ},f cs=some (y,r')→∃c1,cs=c1++r'∧r.rep ok w y c1) :
  ∀{n:Nat} {cs r':List Value} {ys:List τ},Jbn f n cs=some (ys,r')→∃c1,cs=c1++r'∧ys.length=n∧Ga r ok w ys c1
 | 0,cs,r',ys,h=>by simp[Jbn]at h; obtain⟨rfl,rfl⟩:=h; exact⟨[],rfl,rfl,rfl⟩
 | n+1,cs,r',ys,h=>by
  simp only[Jbn]at h;split at h
  ·rename_i y r1 h1
   split at h
   ·rename_i ys' r2 h2
    simp at h; obtain⟨rfl,rfl⟩:=h;obtain⟨c1,rfl,p1⟩:=hf h1;obtain⟨c2,rfl,p2,p3⟩:=Jbp hf h2;exact⟨c1++c2,by simp,by simp[p2],c1,c2,rfl,p1,p3⟩
   ·cases h
  ·cases h
theorem Qlu:∀{ty:Ty} {cs r:List Value} {x:AV},Qjc ty cs=some (x,r)→∃c1,cs=c1++r∧cr β ρ ok w false x c1
 | .st fs,cs,r,x,h=>by
  simp only[Qjc]at h;split at h
  ·rename_i l r' hl
   obtain⟨c1,h1,h2⟩:=Qlu hl;cases hv:l.isVal with
   | true =>
    rw[hv]at h;simp at h; obtain⟨rfl,rfl⟩:=h;exact⟨c1,h1,c1,[],by simp,h2,rfl⟩
   | false =>
    rw[hv]at h;simp at h; obtain⟨rfl,rfl⟩:=h;exact⟨c1,h1,h2⟩
  ·cases h
 | .rose fs,cs,r,x,h=>by
  simp only[Qjc]at h;split at h
  ·rename_i l r' hl
   cases hb:Jbk l with
   | false=>rw[hb]at h; cases h
   | true =>
    rw[hb]at h;simp at h; obtain⟨rfl,rfl⟩:=h;obtain⟨c1,h1,h2⟩:=Qlu hl;refine⟨c1++[.slice none 0 0],by rw[h1]; simp,Q6r hb h2 ?_⟩;exact⟨[.slice none 0 0],[],rfl,rfl,rfl⟩
  ·cases h
 | .pr f g,cs,r,x,h=>by
  simp only[Qjc]at h;split at h
  ·rename_i y r1 h1
   split at h
   ·rename_i l r2 h2
    obtain⟨c1,rfl,hc1⟩:=Qlu h1;obtain⟨c2,rfl,hc2⟩:=Qlu h2;cases hv:l.isVal with
    | true =>
     rw[hv]at h;simp at h; obtain⟨rfl,rfl⟩:=h;exact⟨c1++c2,by simp,c1,c2,rfl,hc1,c2,[],by simp,hc2,rfl⟩
    | false =>
     rw[hv]at h;simp at h; obtain⟨rfl,rfl⟩:=h;exact⟨c1++c2,by simp,c1,c2,rfl,hc1,hc2⟩
   ·cases h
  ·cases h
 | .unit,cs,r,x,h=>by
  simp[Qjc]at h; obtain⟨rfl,rfl⟩:=h;exact⟨[],rfl,rfl⟩
 | .int k,cs,r,x,h=>nest1 (by cases cs<;>(grind [Qjc]))
 | .bool,cs,r,x,h=>nest1 (by cases cs<;>(grind [Qjc]))
 | .str,cs,r,x,h=>nest1 (by cases cs<;>(grind [Qjc]))
 | .sl e,cs,r,x,h=>nest1 (by cases cs<;>(grind [Qjc]))
 | .ref,cs,r,x,h=>nest1 (by cases cs<;>(grind [Qjc]))
 | .arr n e,cs,r,x,h=>by
  simp only[Qjc]at h;split at h
  ·rename_i l r' hl
   simp at h; obtain⟨rfl,rfl⟩:=h
   obtain⟨c1,h1,h2,h3⟩:=Jbp (r:=rt e) (ok:=ok) (w:=w) (fun {cs r' y} hf=>by
    split at hf
    ·rename_i x r1 hx
     split at hf
     ·rename_i y' hy
      simp at hf; obtain⟨rfl,rfl⟩:=hf;obtain⟨c1,p1,p2⟩:=Qlu hx;grind [Gl,Qk]
     ·cases hf
    ·cases hf) hl
   exact⟨c1,h1,h2,h3⟩
  ·cases h
where
 nest1 {cs r:List Value} {x:AV} (h:(match cs with
  | v::cs=>match Qrt v with
   | some x=>some (x,cs)
   | none=>none
  | []=>none)=some (x,r)):∃c1,cs=c1++r∧cr β ρ ok w false x c1:=by
  cases cs with
  | nil=>cases h
  | cons v cs =>
   simp only at h;split at h
   ·rename_i y hy
    simp at h; obtain⟨rfl,rfl⟩:=h;exact⟨[v],rfl,(Qru hy).1⟩
   ·cases h
theorem Ti{ty:Ty}{z:Value}{x:AV}(h:Qfx ty z=some x):cr β ρ ok w false x (Q4 z):=by
 unfold Qfx at h;split at h
 ·rename_i y hy
  simp at h; subst h;obtain⟨c1,h1,h2⟩:=Qlu hy;rw[h1,QH]; exact h2
 ·cases h
inductive Jo9{α β:Type}(R:α→β→Prop):List α→List β→Prop
 | nil:Jo9 R [] []
 | cons {a:α} {b:β} {l:List α} {m:List β} (h:R a b) (t:Jo9 R l m):Jo9 R (a::l) (b::m)
theorem Jbq(ps:List (Nat×Nat)):∀{vs:List (Nat×AV)} {us:List (Nat×Value)} {l l':AV} {cs:List Value},Qpy.fillP ps l vs=some l' →
  cr β ρ ok w false l cs→Jo9 (fun(p:Nat×AV) (q:Nat×Value)=>p.1=q.1∧∃c,q.2=p.2.val c∧cr β ρ ok w false p.2 c) vs us →
  ∃cs',Qbt (fun i=>ps[i]?) cs us=some cs'∧cr β ρ ok w false l' cs'
 | [],_,l,l',cs,h,hc,.nil=>by simp[Qpy.fillP]at h; subst h; exact⟨cs,rfl,hc⟩
 | (i,x)::vs,_,l,l',cs,h,hc,@Jo9.cons _ _ _ _ q _ us hq hr=>by
  obtain⟨j,v⟩:=q;obtain⟨rfl,c,hv,hcx⟩:=hq;simp only at hv hcx;simp only[Qpy.fillP]at h;split at h
  ·rename_i off size hp
   split at h
   ·rename_i l1 o hu
    cases hb:(Nat.beq o off&&Nat.beq x.size size)with
    | false=>rw[hb]at h; cases h
    | true =>
     rw[hb]at h;simp only[QQ]at hb;have e1:=Nat.eq_of_beq_eq_true hb.1;have e2:=Nat.eq_of_beq_eq_true hb.2;subst e1; subst e2;simp only[cond_true]at h
     have hg:∀{c0 c':AV} {cs0:List Value},(fun c0=>bif Qpx c0 x then some x else none) c0=some c'→cr β ρ ok w false c0 cs0 →
       cr β ρ ok w false c' (cs0.take 0++c++cs0.drop (0+c.length))∧0+c.length≤cs0.length:=by
      intro c0 c' cs0 h1 h2;have:=Qfw (β:=β) (ρ:=ρ) (ok:=ok) (w:=w) (new:=x) (ds:=c) hcx (ps:=[]) (cur:=c0) (av':=c') (by grind [Qu0]) h2;grind [Yx]
     have hx:x.inMem=true∧x.isVal=true:=by
      have:∃c0,Qpx c0 x=true:=by
       clear hr hc hp h hb hg
       induction l generalizing i l1 o with
       | cons y r _ ihr =>
        cases i with
        | zero =>
         grind [Zh,Qpx]
        | succ i =>
         grind [Zh]
       | _=>simp[Zh]at hu
      obtain⟨c0,hc0⟩:=this;simp_all [Qpx,QQ]
     obtain⟨h3,h4⟩:=Qrw (off:=0) (ds:=c) hg hu hc;have hcl:Q4 v=c:=by rw[hv]; grind [Qbw]
     have hlen:=Kk hcx;obtain⟨cs',h5,h6⟩:=Jbq ps h h3 hr;refine⟨cs',?_,h6⟩;simp only[Qbt,hp,hcl]
     have hb':(Nat.beq c.length x.size&&Nat.ble (o+c.length) cs.length)=true:=by
      simp_all
     rw[hb'];simp_all [cond_true,Ja1]
   ·cases h
  ·cases h
end
end Gx

/- The quiet operations are what the model does. -/
namespace Gx
open Go Go.RowKit Gd
theorem Qbz:∀(p q:List PS),Yx (p++q)=Yx p+Yx q
 | [],q=>by simp[Yx]
 | x::p,q=>by simp[Yx,Qbz p q]; omega
def N0(β:Nat→Nat)(ρ:Nat→Value)(ok:Ok)(S:St)(a:Act)(w:World):Prop :=
 (∀e∈S.env,(enD β ρ a e).p ok w)∧∀id o,Qk S.mem id=some o→(Jb β ρ id o).p ok w
theorem Rel.toW{X:Cx}{β:Nat→Nat}{ρ:Nat→Value}{S:St}{a:Act}{w:World}(h:Rel X β ρ S a w):N0 β ρ (okR X β ρ S.mem w) S a w:=⟨fun _ he=>h.en he,fun _ _ ho=>(h.ob ho).1⟩
theorem N0.ev{β:Nat→Nat}{ρ:Nat→Value}{ok:Ok}{S:St}{a:Act}{w:World}(h:N0 β ρ ok S a w){cur:V5}(hc:J6 a cur){x:Operand}{v:AV}(hx:ev S cur x=some v) :
  ∃cs,a.eval x=v.val cs∧cr β ρ ok w false v cs:=by
 cases x with
 | tmp t =>
  simp only[Gx.ev]at hx;split at hx
  ·rename_i e he
   cases hb:Q6o e.cs cur with
   | false=>rw[hb]at hx; cases hx
   | true =>
    rw[hb]at hx;simp at hx; subst hx;have hr:=Jbg he a;obtain⟨hm,rfl⟩:=Kl he;obtain⟨cs,h1,h2⟩:=(h.1 _ hm).1 (Qls hb hc);rw[hr]at h1;exact⟨cs,by simp[Act.eval,h1],h2⟩
  ·cases hx
 | const v =>
  obtain⟨cs,h1,h2⟩:=Qxh (β:=β) (ρ:=ρ) (ok:=ok) (w:=w) hx;exact⟨cs,h1,h2⟩
 | func f =>
  simp[Gx.ev]at hx; subst hx;exact⟨[.func (.func f) #[] #[]],rfl,[],rfl,rfl⟩
 | global g =>
  simp only[Gx.ev]at hx;split at hx
  ·rename_i e he
   cases hb:Q6o e.cs cur with
   | false=>rw[hb]at hx; cases hx
   | true =>
    rw[hb]at hx;simp at hx; subst hx;obtain⟨hm,ht⟩:=Qrs he;obtain⟨cs,h1,h2⟩:=(h.1 _ hm).1 (Qls hb hc);rw[ht,Jh2]at h1;exact⟨cs,Option.some.inj h1,h2⟩
  ·cases hx
section
variable {P:Program} {Y:TX} {X:Cx} {β:Nat→Nat} {ρ:Nat→Value} {S:St} {a:Act} {w:World} {cur:V5} {ok:Ok}
theorem N0.evs(h:N0 β ρ ok S a w)(hc:J6 a cur):∀{xs:List Operand} {l:AV},evs S cur xs=some l→cr β ρ (ok) w true l (xs.map a.eval)
 | [],l,hl=>by simp[Gx.evs]at hl; subst hl; rfl
 | x::xs,l,hl=>by
  simp only[Gx.evs]at hl;split at hl
  ·rename_i v r hv hr
   simp at hl; subst hl;obtain⟨cs,h1,h2⟩:=h.ev hc hv;exact⟨cs,xs.map a.eval,by rw[JQ,h1],h2,h.evs hc hr⟩
  ·cases hl
theorem N0.evParts(h:N0 β ρ ok S a w)(hc:J6 a cur):∀{xs:List (Nat×Operand)} {l:List (Nat×AV)},Vz S cur xs=some l →
  Jo9 (fun(p:Nat×AV) (q:Nat×Value)=>p.1=q.1∧∃c,q.2=p.2.val c∧cr β ρ (ok) w false p.2 c) l (xs.map fun p=>(p.1,a.eval p.2))
 | [],l,hl=>by simp[Vz]at hl; subst hl; exact .nil
 | (i,x)::xs,l,hl=>by
  simp only[Vz]at hl;split at hl
  ·rename_i v r hv hr
   simp at hl; subst hl;obtain⟨cs,h1,h2⟩:=h.ev hc hv;exact .cons ⟨rfl,cs,h1,h2⟩ (h.evParts hc hr)
  ·cases hl
theorem bvT{α:Type}{b:Bool}{x:Option α}{y:α}(h:(bif b then x else none)=some y):b=true∧x=some y:=by
 grind
theorem bEq{a b:Bool}(h:(a==b)=true):a=b:=by simpa using h
theorem N0.mm(h:N0 β ρ ok S a w):∀id o,Qk S.mem id=some o→(Jb β ρ id o).p (ok) w:=h.2
theorem N0.asD(h:N0 β ρ ok S a w)(hc:J6 a cur){x:Operand}{v:AV}{t:Ty}{y:t.De}(hx:Gx.ev S cur x=some v)(hd:Gx.asD S.mem v t=some y)(ht:t.agg=v.isAgg) :
  isV (rt t) (ok) w y (a.eval x):=by
 obtain⟨cs,h1,h2⟩:=h.ev hc hx;refine⟨cs,Gl h.mm hd h2,?_⟩;rw[h1,AV.val,RT.val,Tq,ht];cases v.isAgg<;>rfl
theorem N0.asLs(h:N0 β ρ ok S a w)(hc:J6 a cur){u:Ty}:∀{ps:List (Nat×Operand)} {vs:List (Nat×AV)} {xs:List u.De} {j:Nat},Vz S cur ps=some vs→Gx.asLs S.mem u vs j=some xs →
  ∃us:List Value,ps.map (fun p=>(p.1,a.eval p.2))=(List.range' j us.length).zip us∧Q1c (rt u) ok w xs us∧us.length=xs.length
 | [],vs,xs,j,he,hx=>by
  simp[Vz]at he; subst he;simp[Gx.asLs]at hx; subst hx;exact⟨[],rfl,trivial,rfl⟩
 | (i,x)::ps,vs,xs,j,he,hx=>by
  simp only[Vz]at he;split at he
  ·rename_i v l hv hl
   simp at he; subst he;simp only[Gx.asLs]at hx;obtain⟨hb,hx⟩:=bvT hx;simp only[QQ]at hb;have:=Nat.eq_of_beq_eq_true hb.1;subst this;split at hx
   ·rename_i y ys hy hys
    simp at hx; subst hx;obtain⟨us,q1,q2,q3⟩:=N0.asLs h hc (u:=u) (ps:=ps) hl hys;have hiv:=h.asD hc hv hy (bEq hb.2);refine⟨a.eval x::us,?_,⟨hiv,q2⟩,by simp[q3]⟩;grind [List.length_cons,List.range'_succ,List.zip_cons_cons]
   ·cases hx
  ·cases he
theorem Qry{τ:Type}{r:RT τ}{ok:Ok}{w:World}:∀{xs:List τ} {us:List Value},Q1c r ok w xs us→∀v∈us,(Q4 v).length=r.size
 | [],[],_,v,hv=>by cases hv
 | x::xs,y::us,h,v,hv=>by
  rcases QX.1 hv with rfl | hv
  ·rw[r.len (Nw h.1)]
  ·exact Qry h.2 v hv
 | [],_::_,h,_,_=>h.elim
 | _::_,[],h,_,_=>h.elim
theorem Qxl{τ:Type}{r:RT τ}{ok:Ok}{w:World}:∀{xs:List τ} {us:List Value},Q1c r ok w xs us→Ga r ok w xs (us.flatMap Q4)
 | [],[],_=>rfl
 | x::xs,y::us,h=>⟨Q4 y,us.flatMap Q4,by simp,Nw h.1,Qxl h.2⟩
 | [],_::_,h=>h.elim
 | _::_,[],h=>h.elim
theorem Jbr{s:Nat}:∀(vs:List Value) (j:Nat) (cs:List Value),(∀v∈vs,(Q4 v).length=s)→(j+vs.length)*s≤cs.length →
  Qbt (Qi2 s) cs ((List.range' j vs.length).zip vs)=some (cs.take (j*s)++vs.flatMap Q4++cs.drop ((j+vs.length)*s))
 | [],j,cs,_,_=>by simp[Qbt]
 | v::vs,j,cs,hv,hl=>by
  have h1:=hv v (.head _);simp only[List.length_cons]at hl ⊢;have e0:(j+(vs.length+1))*s=j*s+s+vs.length*s:=by rw[Nat.add_mul,Nat.add_mul]; omega
  rw[e0]at hl;simp only[List.range'_succ,List.zip_cons_cons,Qbt,Qi2,h1]
  have hb:(Nat.beq s s&&Nat.ble (j*s+s) cs.length)=true:=by
   simp only[QQ];grind [Nat.beq_refl,Nat.ble_eq_true_of_le]
  simp only[hb,cond_true];have hlay:(Ja1 cs (j*s) (Q4 v)).length=cs.length:=by grind [Ja1]
  have e1:(j+1+vs.length)*s=j*s+s+vs.length*s:=by rw[Nat.add_mul,Nat.add_mul]; omega
  have e2:(j+1)*s=j*s+s:=by rw[Nat.add_mul]; omega
  have:=Jbr vs (j+1) (Ja1 cs (j*s) (Q4 v)) (fun u hu=>hv u (.tail _ hu)) (by rw[hlay,e1]; omega);rw[this,e1,e2,e0];simp only[Ja1,JI];have hA:(cs.take (j*s)++Q4 v).length=j*s+s:=by grind
  congr 1;rw[JT (by rw[hA]; omega),List.take_of_length_le (by rw[hA]; omega)];rw[List.drop_append,hA,JM (by rw[hA]; omega),QE,h1,List.drop_drop];simp_all
theorem Qtz{a:Act}{cur:V5}(hc:J6 a cur){c:Operand}{b:Bool}(hb:a.eval c=.bool b):J6 a (Jk1 cur c b):=by
 unfold Jk1;split
 ·rename_i t
  intro x hx;rcases QX.1 hx with rfl | hx
  ·simp only[Act.eval]at hb
   simp only;rw[QP]at hb;grind [undef]
  ·exact hc x hx
 ·exact hc
theorem Jth{c:Bool}{x y:Option AV}{v:AV}{β:Nat→Nat}{ρ:Nat→Value}{ok:Ok}{w:World}{u1 u2:Value}
  (hx:c=true→∀v,x=some v→∃cs,u1=v.val cs∧cr β ρ ok w false v cs) (hy:c=false→∀v,y=some v→∃cs,u2=v.val cs∧cr β ρ ok w false v cs)
  (h:Jtf c x y=some v):∃cs,(if c=true then u1 else u2)=v.val cs∧cr β ρ ok w false v cs:=by
 unfold Jtf at h;split at h
 ·grind
 ·rename_i k p k' q
  cases hk:Qdz k k' with
  | false=>rw[hk]at h; cases h
  | true =>
   rw[hk]at h;have:=O6 hk;grind
 grind
theorem Ii(hT:Jg P Y.T){t:TypeId}{e:TE}(he:Qo Y.T t=some e){b o:Nat}{y:AV}{cs:List Value}(hs:e.size=cs.length)(ha:Hk e.d=y.isAgg)(h1:y.isAgg=false→cs.length=1)
  (hc:∀(j:Nat) u,cs[j]?=some u→w.cell? ⟨b,o+j,none⟩=some u):(Instr.loadAt t (.pointer (some ⟨b,o,none⟩))).run P w=.ok (y.val cs) w:=by
 have:=Qpi hT w he b o cs hs.symm (fun h=>h1 (by rw[←ha,h])) hc;grind [Instr.loadAt,Instr.sureAddr,Sem.run_bind,Sem.run_pure,Result.andThen_ok,AV.val]
theorem Qpz{ok:Ok}{w:World}:∀{t:Ty} {x:t.De} {vs cs:List Value},Qby t x=some vs→(rt t).rep ok w x cs→cs=vs
 | .int k,x,vs,cs,h,hc=>by simp[Qby]at h; subst h; exact hc
 | .bool,x,vs,cs,h,hc=>by simp[Qby]at h; subst h; exact hc
 | .str,x,vs,cs,h,hc=>by simp[Qby]at h; subst h; exact hc
 | .unit,x,vs,cs,h,hc=>by simp[Qby]at h; subst h; exact hc
 | .pr f r,x,vs,cs,h,hc=>by
  obtain⟨c1,c2,rfl,h1,h2⟩:=hc;simp only[Qby]at h;split at h
  ·rename_i p q hp hq
   simp at h; subst h;rw[Qpz hp h1,Qpz hq h2]
  ·cases h
 | .st fs,x,vs,cs,h,hc=>Qpz (t:=fs) h hc
 | .sl e,x,vs,cs,h,hc=>by simp[Qby]at h
 | .arr n e,x,vs,cs,h,hc=>by simp[Qby]at h
 | .ref,x,vs,cs,h,hc=>by simp[Qby]at h
 | .rose fs,x,vs,cs,h,hc=>by simp[Qby]at h
theorem Qd4:∀{x:AV} {vs cs:List Value},K5 x=some vs→cr β ρ ok w false x cs→cs=vs
 | .d t x,vs,cs,h,hc=>Qpz h hc
 | .ag l,vs,cs,h,hc=>Qd4 (x:=l) h hc
 | .nil,vs,cs,h,hc=>by simp[K5]at h; subst h; exact hc
 | .cons x r,vs,cs,h,hc=>by
  obtain⟨c1,c2,rfl,h1,h2⟩:=hc;simp only[K5]at h;split at h
  ·rename_i p q hp hq
   simp at h; subst h;rw[Qd4 hp h1,Qd4 hq h2]
  ·cases h
 | .p ..,vs,cs,h,hc=>by simp[K5]at h
 | .e ..,vs,cs,h,hc=>by simp[K5]at h
 | .s ..,vs,cs,h,hc=>by simp[K5]at h
 | .m ..,vs,cs,h,hc=>by simp[K5]at h
 | .b ..,vs,cs,h,hc=>by simp[K5]at h
 | .w ..,vs,cs,h,hc=>by simp[K5]at h
 | .a ..,vs,cs,h,hc=>by simp[K5]at h
 | .z,vs,cs,h,hc=>by simp[K5]at h
 | .ns,vs,cs,h,hc=>by simp[K5]at h
 | .np,vs,cs,h,hc=>by simp[K5]at h
 | .nm,vs,cs,h,hc=>by simp[K5]at h
 | .nf,vs,cs,h,hc=>by simp[K5]at h
 | .f ..,vs,cs,h,hc=>by simp[K5]at h
 | .tp ..,vs,cs,h,hc=>by simp[K5]at h
theorem Jti{T:Tab}(hT:Jg P T){op:BinOp}{t:TypeId}{x y:Operand}{yt:TypeId}{neg:Bool}{us vs:List Value}{fs:List Field}{t1:TypeId}{z1:Value}{s1 b1:Nat}
  (hneg:Jo8 op=some neg) (ht:Qo T t=some ⟨t1,.struct ⟨fs⟩,z1,s1,b1⟩) (hbl:Qcq fs=true) {r:Bool} (hr:Qw8 T fs us vs=some r) {a:Act}
  (hx:a.eval x=.agg us.toArray) (hy:a.eval y=.agg vs.toArray):(execOp a.eval ⟨none,.binOp op t x y yt,0, "",#[],none⟩).run P w=.ok (.value (.bool (bif neg then !r else r))) w:=by
 have hu:=(J0 hT ht).2;obtain⟨hst,heg⟩:=Ja0 hT ht;have hf:P.fieldsOf t=⟨fs⟩:=by simp[Program.fieldsOf,hu]
 have heq:(Op.equal t (.agg ⟨us⟩) (.agg ⟨vs⟩)).run P w=.ok r w:=by
  have:=run_equalIn_struct (P:=P) w 9999 t ⟨us⟩ ⟨vs⟩ (by rw[hf,hu]) hst;rw[hf]at this;show(Op.equalIn 10000 t _ _).run P w=_;rw[this];grind [Q6n]
 unfold Jo8 at hneg;split at hneg
 ·simp_all [execOp,eqGuard,binOp]
 ·simp_all [execOp,eqGuard,binOp]
 ·cases hneg
theorem Jk2{M:List (Nat×Ob)}(hM:∀id o,Qk M id=some o→(Jb β ρ id o).p ok w){id:Nat}{k v:Ty}{xs:List (k.De×v.De)}(h:Jzi (Qk M id)=some ⟨k,v,xs⟩) :
  ∃es clock,w.heap[β id]?=some (.map es clock)∧Ri (rt k) (rt v) ok w xs es.toList:=by
 unfold Jzi at h;split at h
 ·rename_i k' v' xs' ho
  simp at h;obtain⟨rfl,h⟩:=h;have h:=eq_of_heq h;injection h with h1 h2
  subst h1;have h2:=eq_of_heq h2;subst h2;obtain⟨es,clock,q1,q2,_⟩:=hM _ _ ho;grind
 ·cases h
theorem Jzk{op:BinOp}{neg:Bool}(h:Jo8 op=some neg):op=bif neg then .neq else .eql:=by
 cases op<;>simp[Jo8]at h<;>subst h<;>rfl
theorem Jzl{t el:TypeId}{q:Option Addr}(hu:(underlying t).run P w=.ok (.pointer el) w):(Op.equal t (.pointer q) (.pointer none)).run P w=.ok q.isNone w:=by
 show(Op.equalIn (9999+1) t _ _).run P w=_;rw[Op.equalIn];cases q<;>simp[Sem.run_bind,hu]
theorem Jzm{t k el:TypeId}{q:Option Nat}(hu:(underlying t).run P w=.ok (.map k el) w):(Op.equal t (.map q) (.map none)).run P w=.ok q.isNone w:=by
 show(Op.equalIn (9999+1) t _ _).run P w=_;rw[Op.equalIn];cases q<;>simp[Sem.run_bind,hu]
theorem Jk3{t:TypeId}{p r:Array TypeId}{v:Bool}(hu:(underlying t).run P w=.ok (.func p r v) w){x:Value}{b:Bool}(hx:(x=.nilFunc∧b=true)∨(∃f c s,x=.func f c s)∧b=false):(Op.equal t x .nilFunc).run P w=.ok b w:=by
 show(Op.equalIn (9999+1) t _ _).run P w=_;rw[Op.equalIn];rcases hx with⟨rfl,rfl⟩ | ⟨⟨f,c,s,rfl⟩,rfl⟩<;>simp[Sem.run_bind,hu]
theorem Jzn(hT:Jg P Y.T){op:BinOp}{t yt:TypeId}{X1 Y1:Operand}{x y:AV}{b:Bool}{c1 c2:List Value}(h:J5y Y.T op t x y=some b)(hx:cr β ρ ok w false x c1)(hy:cr β ρ ok w false y c2)
  (h1:a.eval X1=x.val c1) (h2:a.eval Y1=y.val c2) :
  (execOp a.eval ⟨none,.binOp op t X1 Y1 yt,0, "",#[],none⟩).run P w=.ok (.value (.bool b)) w:=by
 unfold J5y at h;split at h
 ·rename_i neg te hneg hte
  have hop:=Jzk hneg;have hu:=J7 hT w hte;split at h
  ·rename_i el hd
   obtain⟨hb,h⟩:=bvT h;have hyn:y=.np:=by cases y<;>simp[J7u]at hb; rfl
   subst hyn;have hy':c2=[.pointer none]:=hy;subst hy';have h2':a.eval Y1=.pointer none:=h2;split at h
   ·rename_i bb hbb
    injection h with h; subst h
    have key:∃q,a.eval X1=.pointer q∧bb=q.isNone:=by
     cases x<;>simp[J7r]at hbb<;>subst hbb
     ·have hx':c1=_:=hx
      subst hx'; exact⟨_,h1,rfl⟩
     ·obtain⟨g,_,hx'⟩:=hx
      subst hx'; exact⟨_,h1,rfl⟩
     ·obtain⟨v,hx',hv⟩:=hx
      obtain⟨b0,o0,c0,rfl,_⟩:=hv;subst hx'; exact⟨_,h1,rfl⟩
     ·have hx':c1=_:=hx
      grind
    obtain⟨q,hq,hbq⟩:=key;subst hbq;rw[hd]at hu;have hr:=Jzl (P:=P) (w:=w) (q:=q) hu;unfold execOp;cases neg<;>subst hop<;>simp[hq,h2',eqGuard,binOp,hr]
   ·cases h
  ·rename_i kt et hd
   obtain⟨hb,h⟩:=bvT h;have hyn:y=.nm:=by cases y<;>simp[J7v]at hb; rfl
   subst hyn;have hy':c2=[.map none]:=hy;subst hy';have h2':a.eval Y1=.map none:=h2;split at h
   ·rename_i bb hbb
    injection h with h; subst h
    have key:∃q,a.eval X1=.map q∧bb=q.isNone:=by
     cases x<;>simp[J7s]at hbb<;>subst hbb
     ·have hx':c1=_:=hx
      subst hx'; exact⟨_,h1,rfl⟩
     ·have hx':c1=_:=hx
      grind
    obtain⟨q,hq,hbq⟩:=key;subst hbq;rw[hd]at hu;have hr:=Jzm (P:=P) (w:=w) (q:=q) hu;unfold execOp;cases neg<;>subst hop<;>simp[hq,h2',eqGuard,binOp,hr]
   ·cases h
  ·rename_i p1 p2 p3 hd
   obtain⟨hb,h⟩:=bvT h;have hyn:y=.nf:=by cases y<;>simp[J7w]at hb; rfl
   subst hyn;have hy':c2=[.nilFunc]:=hy;subst hy';have h2':a.eval Y1=.nilFunc:=h2;split at h
   ·rename_i bb hbb
    injection h with h; subst h
    rw[hd]at hu;cases x<;>simp[J7t]at hbb<;>subst hbb
    ·have hx':c1=_:=hx
     subst hx';have h1':a.eval X1=.nilFunc:=h1;have hr:=Jk3 (P:=P) (w:=w) hu (.inl ⟨rfl,rfl⟩);unfold execOp;cases neg<;>subst hop<;>simp[h1',h2',eqGuard,binOp,hr]
    ·rename_i f0 cp0
     obtain⟨vs,hx',_⟩:=hx;subst hx';have h1':a.eval X1=.func (.func f0) #[] vs.toArray:=h1;have hr:=Jk3 (P:=P) (w:=w) hu (x:=.func (.func f0) #[] vs.toArray) (b:=false) (.inr ⟨⟨_,_,_,rfl⟩,rfl⟩);unfold execOp;cases neg<;>subst hop<;>simp[h1',h2',eqGuard,binOp,hr]
   ·cases h
  ·cases h
 ·cases h
theorem Qp0(hT:Jg P Y.T)(h:N0 β ρ ok S a w)(hc:J6 a cur){o:Oper}{x:AV}(hv:Qpy Y S cur o.op=some x) :
  ∃cs,(execOp a.eval o).run P w=.ok (.value (x.val cs)) w∧cr β ρ (ok) w false x cs:=by
 have hM:∀id o,Qk S.mem id=some o→(Jb β ρ id o).p (ok) w:=h.2;unfold execOp;generalize o.op=op at hv;unfold Qpy at hv;split at hv
 ·
  obtain⟨cs,h1,h2⟩:=h.ev hc hv;exact⟨cs,by simp_all,h2⟩
 ·obtain⟨cs,h1,h2⟩:=h.ev hc hv
  exact⟨cs,by simp_all,h2⟩
 ·
  rename_i c p q;split at hv
  ·rename_i v hcv
   obtain⟨cs0,h1,h2⟩:=h.ev hc hcv;have h2':cs0=[.bool v]:=h2;subst h2';have hb:a.eval c=.bool v:=h1
   obtain⟨cs,h3,h4⟩:=Jth (u1:=a.eval p) (u2:=a.eval q)
    (fun e u hu=>h.ev (Qtz hc (hb.trans (by rw[e]))) hu) (fun e u hu=>h.ev (Qtz hc (hb.trans (by rw[e]))) hu) hv
   refine⟨cs,?_,h4⟩;simp only[hb];rw[←h3];cases v<;>simp[asBool]
  ·cases hv
 ·
  split at hv
  ·rename_i x1 x2 hx1 hx2
   split at hv
   ·rename_i u v hu hw
    split at hv
    ·rename_i r hr
     obtain⟨c1,h1,h2⟩:=h.ev hc hx1;obtain⟨c2,h3,h4⟩:=h.ev hc hx2;rw[Jh5 hu h2]at h1;rw[Jh5 hw h4]at h3;obtain⟨cs,h5,h6⟩:=Jbo (β:=β) (ρ:=ρ) (ok:=ok) (w:=w) hv;refine⟨cs,?_,h6⟩;simp only[h1,h3];rw[←h5];simp[Q6j hr,Jov hT hr]
    ·cases hv
   ·split at hv
    ·rename_i b hb
     simp at hv; subst hv;obtain⟨c1,h1,h2⟩:=h.ev hc hx1;obtain⟨c2,h3,h4⟩:=h.ev hc hx2;exact⟨[.bool b],Jzn (yt:=0) hT hb h2 h4 h1 h3,rfl⟩
    split at hv
    ·rename_i neg t1 fs z1 s1 b1 us vs hneg ht hus hvs
     cases hb:(Qcq fs&&x1.isAgg&&x2.isAgg)with
     | false=>rw[hb]at hv; cases hv
     | true =>
     rw[hb]at hv;simp only[cond_true]at hv;simp only[QQ]at hb;split at hv
     ·rename_i r hr
      simp at hv; subst hv;obtain⟨c1,h1,h2⟩:=h.ev hc hx1;obtain⟨c2,h3,h4⟩:=h.ev hc hx2;have e1:=Qd4 hus h2;have e2:=Qd4 hvs h4;subst e1; subst e2;have f1:x1.val c1=.agg c1.toArray:=by grind [AV.val]
      have f2:x2.val c2=.agg c2.toArray:=by grind [AV.val]
      rw[f1]at h1; rw[f2]at h3;exact⟨[.bool (bif neg then !r else r)],Jti hT (yt:=0) hneg ht hb.1.1 hr h1 h3,rfl⟩
     ·cases hv
    ·cases hv
  ·cases hv
 ·
  split at hv
  ·rename_i x1 hx1
   split at hv
   ·rename_i u hu
    split at hv
    ·rename_i r hr
     obtain⟨c1,h1,h2⟩:=h.ev hc hx1;rw[Jh5 hu h2]at h1;simp_all [Jbo,Js2]
    ·cases hv
   ·cases hv
  ·cases hv
 ·
  split at hv
  ·rename_i _ _ _ _ k _ _ _ _ n hs ht hx
   simp at hv; subst hv;obtain⟨c1,h1,h2⟩:=h.ev hc hx;have h2':c1=_:=h2;subst h2';refine⟨[.int k (k.wrap n)],?_,rfl⟩;have h1':a.eval _=.int _ n:=h1;simp[convert,J7 hT w hs,J7 hT w ht,h1',Conv.intToInt,AV.val,AV.isAgg,Ty.agg]
  ·cases hv
 ·
  rename_i sT xo fI;split at hv
  ·rename_i fs _ _ _ x1 hs hx
   split at hv
   ·rename_i fd hf
    split at hv
    ·rename_i y e hn he
     cases hb:(Nat.beq e.size y.size&&(Hk e.d==y.isAgg)&&x1.isAgg&&y.isVal&&(y.isAgg||Nat.beq y.size 1))with
     | false=>rw[hb]at hv; cases hv
     | true =>
      rw[hb]at hv;simp at hv; subst hv;simp only[QQ]at hb;obtain⟨⟨⟨⟨b1,b2⟩,b3⟩,b4⟩,b5⟩:=hb;have b1:=Nat.eq_of_beq_eq_true b1;have b2:=bEq b2;obtain⟨c1,h1,h2⟩:=h.ev hc hx;obtain⟨h3,h4⟩:=Qn1 hn h2;have hoff:∀k,Yx [PS.f k fd.offset]=fd.offset:=fun k=>by simp[Yx,PS.off]
      rw[hoff]at h3 h4;refine⟨_,?_,h3⟩;have h1':a.eval xo=.agg c1.toArray:=by rw[h1]; simp[AV.val,b3]
      simp only[h1']
      have hpart:(part fd.type c1.toArray fd.offset).run P w=.ok (y.val ((c1.drop fd.offset).take y.size)) w:=by
       grind [Qw2,AV.val,Nat.eq_of_beq_eq_true,List.drop_eq_getElem_cons,List.getElem?_eq_getElem]
      simp[Instr.field,J7 hT w hs,hf,asAgg,hpart]
    ·cases hv
   ·cases hv
  ·cases hv
 ·
  rename_i sT xo fI;split at hv
  ·rename_i fs _ _ _ x1 hs hx
   split at hv
   ·rename_i off hfo
    obtain⟨fd,hfd,rfl,e,he,hne⟩:=Ja2 hfo;obtain⟨c1,h1,h2⟩:=h.ev hc hx
    have key:∀b o,a.eval xo=.pointer (some ⟨b,o,none⟩)→(Instr.fieldAt sT (a.eval xo) fI).run P w=.ok (.pointer (some ⟨b,o+fd.offset,none⟩)) w:=fun b o he'=>by
     rw[he'];simp[Instr.fieldAt,J7 hT w hs,hfd,Instr.sureAddr,fieldPlace,Addr.add_lit,Yn hT w he,hne]
    split at hv
    ·rename_i id path
     simp at hv; subst hv;have h2':c1=_:=h2;subst h2';refine⟨[.pointer (some ⟨β id,Yx path+fd.offset,none⟩)],?_,?_⟩
     ·dsimp only
      simp only[Sem.run_bind];rw[key _ _ h1];rfl
     ·show [_]=[_]
      rw[Qbz];simp[Yx,PS.off]
    ·rename_i id path
     simp at hv; subst hv;obtain⟨g,hg,rfl⟩:=h2;refine⟨[.pointer (some ⟨g,Yx path+fd.offset,none⟩)],?_,g,hg,?_⟩
     ·dsimp only
      simp only[Sem.run_bind];rw[key _ _ h1];rfl
     simp[Qbz,Yx,PS.off]
    ·rename_i t y
     split at hv
     ·rename_i u z hn
      simp at hv; subst hv;obtain⟨v,rfl,b,o',cs,rfl,hr,hcl⟩:=h2;obtain⟨h3,h4⟩:=Qn1 (β:=β) (ρ:=ρ) hn hr;have hoff:∀k,Yx [PS.f k fd.offset]=fd.offset:=fun k=>by simp[Yx,PS.off]
      rw[hoff]at h3 h4;refine⟨[.pointer (some ⟨b,o'+fd.offset,none⟩)],?_,_,rfl,b,_,_,rfl,h3,?_⟩
      ·dsimp only
       simp only[Sem.run_bind];rw[key _ _ h1];rfl
      ·intro j q hj
       have hjl:j<(AV.d u z).size:=by
        have:=(List.getElem?_eq_some_iff.1 hj).1;grind
       rw[List.getElem?_take_of_lt hjl,JV]at hj;have:=hcl _ _ hj;rw[←Nat.add_assoc]at this;exact this
     ·cases hv
    ·cases hv
   ·cases hv
  ·cases hv
 ·
  split at hv
  ·rename_i e id path he hx
   split at hv
   ·rename_i tid c ho
    split at hv
    ·rename_i y hn
     cases hb:(Nat.beq e.size y.size&&(Hk e.d==y.isAgg)&&y.isVal&&(y.isAgg||Nat.beq y.size 1))with
     | false=>rw[hb]at hv; cases hv
     | true =>
      rw[hb]at hv;simp at hv; subst hv;simp only[QQ]at hb;obtain⟨⟨⟨b1,b2⟩,b3⟩,b4⟩:=hb;have b1:=Nat.eq_of_beq_eq_true b1;have b2:=bEq b2;obtain⟨c1,h1,h2⟩:=h.ev hc hx;have h2':c1=_:=h2;subst h2';obtain⟨cs,hh,hcr⟩:=hM _ _ ho;obtain⟨h3,h4⟩:=Qn1 hn hcr;have hlen:=Kk h3;refine⟨_,?_,h3⟩;have h1':a.eval _=.pointer (some ⟨β id,Yx path,none⟩):=h1;simp only[h1',Sem.run_bind]
      rw[Ii hT he (y:=y) (cs:=(cs.drop (Yx path)).take y.size) (by rw[hlen]; exact b1) b2 (fun ha=>by
       rw[ha]at b4
       rw[hlen]; grind [Nat.eq_of_beq_eq_true]) (fun j u hu=>by
        grind [List.getElem?_eq_some_iff,List.getElem?_take_of_lt,World.cell?])]
      rfl
    ·cases hv
   ·cases hv
  ·rename_i e t y he hx
   cases hb:(Nat.beq e.size t.size&&(Hk e.d==t.agg))with
   | false=>rw[hb]at hv; cases hv
   | true =>
    rw[hb]at hv;simp at hv; subst hv;simp only[QQ]at hb;have b1:=Nat.eq_of_beq_eq_true hb.1;have b2:=bEq hb.2;obtain⟨c1,h1,h2⟩:=h.ev hc hx;obtain⟨v,rfl,b,o',cs,rfl,hr,hcl⟩:=h2;have hlen:cs.length=t.size:=by rw[(rt t).len hr,Jo]
    refine⟨cs,?_,hr⟩;have h1':a.eval _=.pointer (some ⟨b,o',none⟩):=h1;simp only[h1',Sem.run_bind];rw[Ii hT he (y:=.d t y) (cs:=cs) (by rw[hlen,b1]) b2 (fun ha=>by rw[hlen]; exact Jta ha) (fun j u hu=>(hcl j u hu).2)];rfl
  ·cases hv
 ·
  split at hv
  ·rename_i l hx
   obtain⟨c1,h1,vs,rfl,hl⟩:=h.ev hc hx;obtain⟨cs,h3,h4⟩:=Jtg hv hl;refine⟨cs,?_,h4⟩;have h1':a.eval _=.tuple vs.toArray:=h1;simp[h1',Instr.extract,h3]
  ·cases hv
 ·
  split at hv
  ·rename_i e x1 he hx
   obtain⟨c1,h1,h2⟩:=h.ev hc hx;split at hv
   ·rename_i hd
    split at hv
    ·cases hv
    ·rename_i hns
     split at hv
     ·rename_i n hn
      simp at hv; subst hv;obtain⟨A,c,hval⟩:=Jzj hM hn hns h2;refine⟨[.int .i64 n],?_,rfl⟩;rw[hval]at h1;simp[resolve,invoke,builtin,Builtin.len_,J7 hT w he,hd,h1,goInt,AV.val,AV.isAgg,Ty.agg]
     ·cases hv
   ·rename_i hd
    split at hv
    ·rename_i l
     simp at hv; subst hv;have h2':c1=_:=h2;subst h2';refine⟨[.int .i64 l.length],?_,rfl⟩;have h1':a.eval _=Yw l:=h1;simp[resolve,invoke,builtin,Builtin.len_,J7 hT w he,hd,h1',goInt,AV.val,AV.isAgg,Ty.agg,Yw,Js3]
    ·cases hv
   ·rename_i kt et hd
    split at hv
    ·rename_i id
     split at hv
     ·rename_i k v xs hm
      simp at hv; subst hv;obtain⟨es,clock,q1,q2⟩:=Jk2 hM hm;have h2':c1=_:=h2;subst h2';have h1':a.eval _=.map (some (β id)):=h1
      have hlen:es.size=xs.length:=by
       have:∀{xs:List (k.De×v.De)} {es:List MapEntry},Ri (rt k) (rt v) ok w xs es→es.length=xs.length:=by
        intro xs
        induction xs with
        | nil=>intro es h; rw[show es=[]from h]; rfl
        | cons x xs ih=>rintro es ⟨e,es',rfl,_,_,h⟩; simp[ih h]
       rw[←this q2]; simp
      refine⟨[.int .i64 xs.length],?_,rfl⟩;simp[resolve,invoke,builtin,Builtin.len_,J7 hT w he,hd,h1',goInt,AV.val,AV.isAgg,Ty.agg,MapKept.run_getObj_map q1,hlen]
     ·cases hv
    ·simp at hv; subst hv
     have h2':c1=_:=h2;subst h2';have h1':a.eval _=.map none:=h1;refine⟨[.int .i64 0],?_,rfl⟩;simp[resolve,invoke,builtin,Builtin.len_,J7 hT w he,hd,h1',goInt,AV.val,AV.isAgg,Ty.agg]
    ·cases hv
   ·cases hv
  ·cases hv
 ·
  split at hv
  ·rename_i x1 x2 hx1 hx2
   split at hv
   ·rename_i k p _ q hi1 hi2
    simp at hv; subst hv;have e1:=Pa hi1;have e2:=Pa hi2;subst e1; subst e2;obtain⟨c1,h1,h2⟩:=h.ev hc hx1;obtain⟨c2,h3,h4⟩:=h.ev hc hx2;have h2':c1=_:=h2;have h4':c2=_:=h4;subst h2'; subst h4';refine⟨[.int k (if q>p then q else p)],?_,rfl⟩;have h1':a.eval _=.int k p:=h1;have h3':a.eval _=.int _ q:=h3;simp[resolve,invoke,builtin,Builtin.max_,Builtin.max2,h1',h3',AV.val,AV.isAgg,Ty.agg]
   ·cases hv
  ·cases hv
 ·
  split at hv
  ·rename_i x1 x2 hx1 hx2
   split at hv
   ·rename_i k p _ q hi1 hi2
    simp at hv; subst hv;have e1:=Pa hi1;have e2:=Pa hi2;subst e1; subst e2;obtain⟨c1,h1,h2⟩:=h.ev hc hx1;obtain⟨c2,h3,h4⟩:=h.ev hc hx2;have h2':c1=_:=h2;have h4':c2=_:=h4;subst h2'; subst h4';refine⟨[.int k (if q<p then q else p)],?_,rfl⟩;have h1':a.eval _=.int k p:=h1;have h3':a.eval _=.int _ q:=h3;simp[resolve,invoke,builtin,Builtin.min_,Builtin.min2,h1',h3',AV.val,AV.isAgg,Ty.agg]
   ·cases hv
  ·cases hv
 ·
  split at hv
  ·rename_i x1 x2 x3 hx1 hx2 hx3
   split at hv
   ·rename_i k p _ q _ r hi1 hi2 hi3
    simp at hv; subst hv;have e1:=Pa hi1;have e2:=Pa hi2;have e3:=Pa hi3;subst e1; subst e2; subst e3;obtain⟨c1,h1,h2⟩:=h.ev hc hx1;obtain⟨c2,h3,h4⟩:=h.ev hc hx2;obtain⟨c3,h5,h6⟩:=h.ev hc hx3;have h2':c1=_:=h2;have h4':c2=_:=h4;have h6':c3=_:=h6;subst h2'; subst h4'; subst h6';refine⟨[.int k (if r<(if q<p then q else p)then r else(if q<p then q else p))],?_,rfl⟩;have h1':a.eval _=.int k p:=h1;have h3':a.eval _=.int _ q:=h3;have h5':a.eval _=.int _ r:=h5;simp[resolve,invoke,builtin,Builtin.min_,Builtin.min2,h1',h3',h5',AV.val,AV.isAgg,Ty.agg]
   ·cases hv
  ·cases hv
 ·
  rename_i tT parts;split at hv
  ·rename_i _ fs z _ _ ty hs hty
   split at hv
   ·rename_i l ps vs hz hp hvs
    split at hv
    ·rename_i l' hl'
     simp at hv; subst hv;have hpl:=Qw5 hT hp;have hpr:=run_places (P:=P) w fs ps hpl;obtain⟨cs',h5,h6⟩:=Jbq ps hl' (Ti (x:=.ag l) hz) (h.evParts hc hvs);have hf:=Qd0 _ h5;refine⟨cs',?_,h6⟩;simp only[Instr.build,Sem.run_bind,Ze hT w hs,J7 hT w hs,Result.andThen_ok];simp only[ZZ,Sem.run_map,bind_pure_comp,hpr,Result.andThen_ok];simp_all [Instr.fill,Uk,Nat,Operand,AV.val,AV.isAgg]
    ·cases hv
   ·cases hv
  ·rename_i _ _ e z _ _ m u hs hty
   split at hv
   ·split at hv
    ·rename_i ee x he hz
     obtain⟨hb,hv⟩:=bvT hv;simp at hv; subst hv;refine⟨Q4 z,?_,Ti hz⟩;simp only[Instr.build,Sem.run_bind,Ze hT w hs,J7 hT w hs,Yn hT w he,Result.andThen_ok];simp[Instr.fill,AV.val,hb,Uk]
    ·cases hv
   ·rename_i p0 ps0
    generalize p0::ps0=parts at *;split at hv
    ·rename_i ee vs he hvs
     split at hv
     ·rename_i xs hxs
      obtain⟨hb,hv⟩:=bvT hv;simp only[QQ]at hb;simp at hv; subst hv;have hsz:=Nat.eq_of_beq_eq_true hb.1.1;have hxl:=Nat.eq_of_beq_eq_true hb.1.2;have hzl:=Nat.eq_of_beq_eq_true hb.2;obtain⟨us,q1,q2,q3⟩:=h.asLs hc hvs hxs;have hcl:=Qry q2;rw[Jo]at hcl;have hfill:=Jbr us 0 (Q4 z) hcl (by rw[hzl,QW,q3,hxl]; grind);rw[←q1]at hfill;simp only[ZQ,ZJ,QE,QW]at hfill;rw[JM (by rw[hzl,q3,hxl]; grind),QH]at hfill;have hf:=Qd0 _ hfill;rw[←hsz,Uk]at hf;refine⟨us.flatMap Q4,?_,hxl,Qxl q2⟩;have hm:((Array.mk parts).map fun(x:Nat×Operand)=>(x.1,a.eval x.2)).toList=parts.map fun p=>(p.1,a.eval p.2):=by simp
      simp only[Instr.build,Sem.run_bind,Ze hT w hs,J7 hT w hs,Yn hT w he,Result.andThen_ok]
      have hf':Instr.fill (fun i=>some (i*ee.size,ee.size)) z.cells (parts.map fun p=>(p.1,a.eval p.2))=some (us.flatMap Q4).toArray:=by
       have:(parts.map fun p=>(p.1,a.eval p.2))=List.map (fun p=>(p.fst,a.eval p.snd)) parts:=rfl;show Instr.fill (Qi2 ee.size) z.cells _=_;simpa using hf
      rw[hm,hf'];simp[AV.val,AV.isAgg,Ty.agg]
     ·cases hv
    ·cases hv
  ·cases hv
 ·
  rename_i x;split at hv
  ·rename_i id path hx
   simp at hv; subst hv;obtain⟨c1,h1,h2⟩:=h.ev hc hx;refine⟨c1,?_,h2⟩;have h2':c1=_:=h2;subst h2';have h1':a.eval x=.pointer (some ⟨β id,Yx path,none⟩):=h1;simp[h1',AV.val,AV.isAgg]
  ·rename_i id path hx
   simp at hv; subst hv;obtain⟨c1,h1,g,h2,h3⟩:=h.ev hc hx;refine⟨c1,?_,g,h2,h3⟩;simp_all [Yx,AV.val,AV.isAgg]
  ·rename_i t y hx
   simp at hv; subst hv;obtain⟨c1,h1,v1,h2,h3⟩:=h.ev hc hx;refine⟨c1,?_,v1,h2,h3⟩;obtain⟨b,o,c,rfl,_⟩:=h3;simp_all [AV.val,AV.isAgg]
  ·rename_i fn caps hx
   simp at hv; subst hv;obtain⟨c1,h1,vs,h2,h3⟩:=h.ev hc hx;refine⟨c1,?_,vs,h2,h3⟩;simp_all [AV.val,AV.isAgg]
  ·cases hv
 ·
  rename_i f caps;split at hv
  ·rename_i l hl
   simp at hv; subst hv;refine⟨[.func (.func f) #[] (caps.map a.eval).toArray],?_,_,rfl,h.evs hc hl⟩;simp[Instr.makeFunc,AV.val,AV.isAgg]
  ·cases hv
 ·
  rename_i t x ix c;split at hv
  ·rename_i te id iv hte hx hix
   split at hv
   ·rename_i kt et k v xs htd hmo
    split at hv
    ·rename_i tk tz key htk htz hkey
     split at hv
     ·rename_i za hza
      split at hv
      ·rename_i z hz
       cases hb:(V6 Y.T k tk.d&&(k.agg==iv.isAgg)&&(v.agg==Qxk tz.z))with
       | false=>rw[hb]at hv; cases hv
       | true =>
       rw[hb]at hv;simp only[cond_true,Option.some.injEq]at hv;simp only[QQ]at hb;obtain⟨c1,h1,h2⟩:=h.ev hc hx;have h2':c1=[.map (some (β id))]:=h2;subst h2';have h1':a.eval x=.map (some (β id)):=h1;obtain⟨c3,h3,h4⟩:=h.ev hc hix
       have hkr:isV (rt k) ok w key (a.eval ix):=by
        refine⟨c3,Gl (M:=[]) (β:=β) (ρ:=ρ) (by simp[Qk]) hkey h4,?_⟩;rw[h3]; simp only[AV.val,RT.val,Tq,bEq hb.1.2]; cases iv.isAgg<;>rfl
       obtain⟨es,clock,hg,hp⟩:=Jk2 hM hmo;have hzv:isV (rt v) ok w z tz.z:=⟨Q4 tz.z,Gl (M:=[]) (β:=β) (ρ:=ρ) (by simp[Qk]) hz (Ti hza),(Q21 (bEq hb.2)).symm⟩
       obtain⟨u,hrun,hu,_⟩:=Qxj hT hte htd htk htz hb.1.1 hg hp key hzv c;rw[←O9 (Uw hb.1.1) hkr]at hrun;obtain⟨cu,hu1,hu2⟩:=hu;have hvu:(AV.d v ((Qz key xs).getD z)).val cu=u:=by rw[hu2]; grind [AV.val,RT.val,Tq,AV.isAgg]
       cases c with
       | true =>
        simp only at hv; subst hv;refine⟨[.tuple #[u,.bool (Qz key xs).isSome]],?_,[u,.bool (Qz key xs).isSome],rfl,cu,[.bool (Qz key xs).isSome],by rw[hvu],hu1,[.bool (Qz key xs).isSome],[],rfl,rfl,rfl⟩;simp_all [if_true,AV.val,AV.isAgg]
       | false =>
        simp only at hv; subst hv;refine⟨cu,?_,hu1⟩;rw[hvu];simp only[h1'];simp only[QG,if_false]at hrun;simp[hrun]
      ·cases hv
     ·cases hv
    ·cases hv
   ·cases hv
  ·cases hv
 ·cases hv
end
end Gx

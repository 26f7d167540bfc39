/- Maps of data: what the model does with them. -/
import Derived.Test.YtfkpgpibpnghiaaGreatGRows
import Derived.Test.YtfkpgpibpnghiaaGreatGCore
import Derived.MapKept
namespace Gx
open Go Go.RowKit Gd
set_option linter.unusedVariables false
set_option linter.unusedSimpArgs false
def Ds:Ty→Bool
 | .int _=>true
 | .bool=>true
 | .str=>true
 | _=>false
def So:Ty→Bool
 | .pr a r=>Ds a&&So r
 | .unit=>true
 | t=>Ds t
def Qa5:Ty→Bool
 | .st fs=>So fs
 | t=>Ds t
def eqK:(t:Ty)→t.De→t.De→Bool
 | .int _,a,b=>a==b
 | .bool,a,b=>a==b
 | .str,a,b=>a==b
 | .pr f r,a,b=>eqK f a.1 b.1&&eqK r a.2 b.2
 | .unit,_,_=>true
 | .st fs,a,b=>eqK fs a b
 | _,_,_=>false
def Qw{k:Ty}{ν:Type}(key:k.De):List (k.De×ν)→Option ν
 | []=>none
 | x::l=>bif eqK k key x.1 then some x.2 else Qw key l
def Yu{k:Ty}{ν:Type}(key:k.De)(v:ν):List (k.De×ν)→List (k.De×ν)
 | []=>[(key,v)]
 | x::l=>bif eqK k key x.1 then(key,v)::l else x::Yu key v l
def Kv:(t:Ty)→t.De→List Value
 | .int k,n=>[.int k n]
 | .bool,b=>[.bool b]
 | .str,s=>[Yg s]
 | .pr f r,x=>Kv f x.1++Kv r x.2
 | .st fs,x=>Kv fs x
 | _,_=>[]
def Yw:(t:Ty)→t.De→Value
 | .int k,n=>.int k n
 | .bool,b=>.bool b
 | .str,s=>Yg s
 | .st fs,x=>.agg (Kv fs x).toArray
 | _,_=>undef
theorem Qbq{t:Ty}(ht:Ds t=true){ok:Ok}{w:World}{x:t.De}{cs:List Value}:(rt t).rep ok w x cs↔cs=Kv t x:=by
 cases t<;>simp[Ds]at ht<;>exact Iff.rfl
theorem Qhg:∀{t:Ty},So t=true→∀{ok:Ok} {w:World} {x:t.De} {cs:List Value},(rt t).rep ok w x cs↔cs=Kv t x
 | .pr f r,ht,ok,w,x,cs=>by
  simp only[So,QQ]at ht
  constructor
  ·rintro⟨c1,c2,rfl,h1,h2⟩
   rw[(Qbq ht.1).1 h1,(Qhg ht.2).1 h2]; rfl
  ·rintro rfl
   exact⟨_,_,rfl,(Qbq ht.1).2 rfl,(Qhg ht.2).2 rfl⟩
 | .unit,ht,ok,w,x,cs=>Iff.rfl
 | .int _,ht,ok,w,x,cs=>Qbq ht
 | .bool,ht,ok,w,x,cs=>Qbq ht
 | .str,ht,ok,w,x,cs=>Qbq ht
 | .sl _,ht,_,_,_,_=>by simp[So,Ds]at ht
 | .arr _ _,ht,_,_,_,_=>by simp[So,Ds]at ht
 | .st _,ht,_,_,_,_=>by simp[So,Ds]at ht
theorem Qyu{t:Ty}(ht:Qa5 t=true){ok:Ok}{w:World}{x:t.De}{v:Value}:isV (rt t) ok w x v↔v=Yw t x:=by
 cases t with
 | int k=>exact Jii
 | bool=>exact Qog
 | str=>exact Jij
 | st fs =>
  constructor
  ·rintro⟨cs,h,rfl⟩
   rw[(Qhg ht).1 h]; rfl
  ·rintro rfl
   exact⟨_,(Qhg ht).2 rfl,rfl⟩
 | _=>simp[Qa5,Ds]at ht
theorem Cq{t:Ty}(ht:Qa5 t=true){ok:Ok}{w:World}{x:t.De}{v:Value}(h:isV (rt t) ok w x v):v=Yw t x:=(Qyu ht).1 h
theorem Q6n{t:Ty}(ht:Qa5 t=true){ok:Ok}{w:World}(x:t.De):isV (rt t) ok w x (Yw t x):=(Qyu ht).2 rfl
theorem Sp{t:Ty}(ht:Ds t=true){x y:t.De}:eqK t x y=true↔x=y:=by
 cases t<;>simp[Ds]at ht<;>simp[eqK]
theorem Q6o:∀{t:Ty},So t=true→∀{x y:t.De},eqK t x y=true↔x=y
 | .pr f r,ht,x,y=>by
  simp only[So,QQ]at ht
  obtain⟨x1,x2⟩:=x
  obtain⟨y1,y2⟩:=y
  simp only[eqK,QQ,Sp ht.1,Q6o ht.2,Prod.mk.injEq]
 | .unit,ht,x,y=>by simp[eqK]
 | .int _,ht,x,y=>Sp ht
 | .bool,ht,x,y=>Sp ht
 | .str,ht,x,y=>Sp ht
 | .sl _,ht,_,_=>by simp[So,Ds]at ht
 | .arr _ _,ht,_,_=>by simp[So,Ds]at ht
 | .st _,ht,_,_=>by simp[So,Ds]at ht
theorem K3{t:Ty}(ht:Qa5 t=true){x y:t.De}:eqK t x y=true↔x=y:=by
 cases t with
 | st fs=>exact Q6o (t:=fs) ht
 | int k=>exact Sp (t:=.int k) rfl
 | bool=>exact Sp (t:=.bool) rfl
 | str=>exact Sp (t:=.str) rfl
 | _=>simp[Qa5,Ds]at ht
def X5:Ty→TypeDesc→Bool
 | .int k,.int k'=>Pw k k'
 | .bool,.bool=>true
 | .str,.string=>true
 | _,_=>false
def Q9t(T:Tab)(f:Field)(t:Ty)(i:Nat):Bool:=f.name != "_" && Nat.beq f.offset i&&(match Qh T f.type with
 | some e=>X5 t e.d
 | none=>false)
def Gj(T:Tab):List Field→Ty→Nat→Bool
 | [],.unit,_=>true
 | [f],t,i=>Q9t T f t i
 | f::g::fs,.pr a r,i=>Q9t T f a i&&Gj T (g::fs) r (i+1)
 | _,_,_=>false
def Y5(T:Tab):Ty→TypeDesc→Bool
 | .st fs,.struct ⟨fds⟩=>Gj T fds fs 0
 | t,d=>X5 t d
theorem Bq{t:Ty}{d:TypeDesc}(h:X5 t d=true):Ds t=true:=by
 cases t<;>cases d<;>simp[X5]at h<;>rfl
theorem Cj{T:Tab}{f:Field}{t:Ty}{i:Nat}(h:Q9t T f t i=true):(f.name != "_")=true∧f.offset=i∧∃e,Qh T f.type=some e∧X5 t e.d=true:=by
 simp only[Q9t,QQ]at h
 grind [Nat.eq_of_beq_eq_true]
theorem Qli{T:Tab}:∀{fds:List Field} {t:Ty} {i:Nat},Gj T fds t i=true→So t=true
 | [],t,i,h=>by cases t<;>simp[Gj]at h; rfl
 | [f],t,i,h=>by
  simp only[Gj]at h
  obtain⟨_,_,e,_,h3⟩:=Cj h
  have:=Bq h3
  cases t<;>simp[Ds]at this<;>rfl
 | f::g::fs,t,i,h=>by
  cases t<;>simp only[Gj,QQ]at h
  all_goals first | (cases h; done) | skip
  obtain⟨_,_,e,_,h3⟩:=Cj h.1
  simp only[So,QQ]
  exact⟨Bq h3,Qli h.2⟩
theorem Vp{T:Tab}{t:Ty}{d:TypeDesc}(h:Y5 T t d=true):Qa5 t=true:=by
 cases t with
 | st fs =>
  cases d<;>simp[Y5,X5]at h
  rename_i fds
  obtain⟨fds⟩:=fds
  exact Qli h
 | _=>cases d<;>simp[Y5,X5]at h<;>rfl
theorem Lh{t:Ty}(h:Ds t=true)(x:t.De):Kv t x=[Yw t x]:=by
 cases t<;>simp[Ds]at h<;>rfl
section
variable {P:Program} {T:Tab}
theorem Qyv(hT:Q6 P T){f:Field}{t:Ty}{i:Nat}(h:Q9t T f t i=true){fs:List Field}{p1 p2 r1 r2:List Value}{x y:t.De}(h1:p1.length=i)(h2:p2.length=i){q:Bool}
  (hq:Qoo T fs (p1++Kv t x++r1) (p2++Kv t y++r2)=some q):Qoo T (f::fs) (p1++Kv t x++r1) (p2++Kv t y++r2)=some (eqK t x y&&q):=by
 obtain⟨_,ho,e,he,hs⟩:=Cj h
 obtain⟨e1,e2,e3,e4,e5⟩:=e
 have g1:(p1++Kv t x++r1)[f.offset]?=some (Yw t x):=by
  rw[Lh (Bq hs),ho,←h1]; simp
 have g2:(p2++Kv t y++r2)[f.offset]?=some (Yw t y):=by
  rw[Lh (Bq hs),ho,←h2]; simp
 unfold Qoo
 rw[he,g1,g2,hq]
 cases t<;>cases e2<;>simp[X5]at hs
 ·rename_i k k'
  simp only[Yw]
  rw[show Pw k k=true from by cases k<;>rfl]
  rfl
 ·rfl
 ·rfl
theorem Qyw(hT:Q6 P T):∀{fds:List Field} {t:Ty} {i:Nat},Gj T fds t i=true→∀{p1 p2:List Value} {x y:t.De},p1.length=i→p2.length=i →
  Qoo T fds (p1++Kv t x) (p2++Kv t y)=some (eqK t x y)∧Og fds=true
 | [],t,i,h,p1,p2,x,y,h1,h2=>by
  cases t<;>simp[Gj]at h
  exact⟨rfl,rfl⟩
 | [f],t,i,h,p1,p2,x,y,h1,h2=>by
  simp only[Gj]at h
  have hb:Og [f]=true:=by simp only[Og,XX,List.all_nil,Bool.and_true]; exact(Cj h).1
  refine⟨?_,hb⟩
  have:=Qyv hT h (fs:=[]) (r1:=[]) (r2:=[]) (x:=x) (y:=y) h1 h2 rfl
  grind
 | f::g::fs,t,i,h,p1,p2,x,y,h1,h2=>by
  cases t<;>simp only[Gj,QQ]at h
  all_goals first | (cases h; done) | skip
  rename_i a r
  obtain⟨x1,x2⟩:=x
  obtain⟨y1,y2⟩:=y
  have hs:=Bq (Cj h.1).2.2.choose_spec.2
  have l1:(Kv a x1).length=1:=by rw[Lh hs]; rfl
  have l2:(Kv a y1).length=1:=by rw[Lh hs]; rfl
  obtain⟨q1,q2⟩:=Qyw hT h.2 (p1:=p1++Kv a x1) (p2:=p2++Kv a y1) (x:=x2) (y:=y2) (by simp[l1,h1]) (by simp[l2,h2])
  refine⟨?_,?_⟩
  ·have:=Qyv hT h.1 (fs:=g::fs) (r1:=Kv r x2) (r2:=Kv r y2) (x:=x1) (y:=y1) h1 h2 q1
   grind [Kv,eqK,List.append_assoc]
  ·simp only[Og,XX,QQ]at q2 ⊢
   grind [Cj]
theorem Qfq(hT:Q6 P T){kt:TypeId}{te:TE}(ht:Qh T kt=some te){t:Ty}(h:Y5 T t te.d=true)(x y:t.De)(w:World):(Op.equal kt (Yw t x) (Yw t y)).run P w=.ok (eqK t x y) w:=by
 have hu:=(Jq hT ht).2
 cases t with
 | st fs =>
  obtain⟨e1,e2,e3,e4,e5⟩:=te
  cases e2<;>simp[Y5,X5]at h
  rename_i fds
  obtain⟨fds⟩:=fds
  have hf:P.fieldsOf kt=⟨fds⟩:=by simp[Program.fieldsOf,hu]
  have:=run_equalIn_struct (P:=P) w 9999 kt (Kv fs x).toArray (Kv fs y).toArray (by rw[hf,hu]) (Qye hT ht).1
  rw[hf]at this
  show(Op.equalIn 10000 kt _ _).run P w=_
  simp only[Yw]
  rw[this]
  obtain⟨q1,q2⟩:=Qyw hT h (p1:=[]) (p2:=[]) (x:=x) (y:=y) rfl rfl
  grind [eqK,Qvq]
 | int k =>
  obtain⟨e1,e2,e3,e4,e5⟩:=te
  cases e2<;>simp[Y5,X5]at h
  exact run_equalIn_int w 9999 kt k _ x y hu
 | bool =>
  obtain⟨e1,e2,e3,e4,e5⟩:=te
  cases e2<;>simp[Y5,X5]at h
  exact run_equalIn_bool' w 9999 kt x y hu
 | str =>
  obtain⟨e1,e2,e3,e4,e5⟩:=te
  cases e2<;>simp[Y5,X5]at h
  show(Op.equalIn 10000 kt _ _).run P w=_
  simp only[Yw,Yg]
  rw[run_equalIn_string w 9999 kt ⟨⟨x⟩⟩ ⟨⟨y⟩⟩ hu]
  rw[show(ByteArray.mk ⟨x⟩).toList=x from ByteArray.toList_mk x,show(ByteArray.mk ⟨y⟩).toList=y from ByteArray.toList_mk y]
  rfl
 | _=>cases te with | mk e1 e2 e3 e4 e5=>cases e2<;>simp[Y5,X5]at h
theorem Li(hT:Q6 P T){kt:TypeId}{te:TE}(ht:Qh T kt=some te){t:Ty}(h:Y5 T t te.d=true)(key:t.De)(w:World){ν:Type}{s:RT ν}{ok:Ok}:∀{xs:List (t.De×ν)} {es:List MapEntry} (i:Nat),Dr (rt t) s ok w xs es →
  (Qw key xs=none∧(Instr.findAsking kt (Yw t key) es i).run P w=.ok none w∧(Instr.findNow te.d (Yw t key) es i=some none∨Instr.findNow te.d (Yw t key) es i=none)) ∨
  (∃(j:Nat) (e:MapEntry) (y:ν),Qw key xs=some y∧(Instr.findAsking kt (Yw t key) es i).run P w=.ok (some (i+j,e.val)) w∧(Instr.findNow te.d (Yw t key) es i=some (some (i+j,e.val))∨Instr.findNow te.d (Yw t key) es i=none)∧es[j]?=some e∧e.key=Yw t key∧isV s ok w y e.val)
 | [],es,i,hp=>by
  have:es=[]:=hp
  subst this
  exact .inl ⟨rfl,rfl,.inl rfl⟩
 | x::xs,es,i,hp=>by
  obtain⟨e,es',rfl,h1,h2,h3⟩:=hp
  have hk:=Cq (Vp h) h1
  have heq:=Qfq hT ht h key x.1 w
  have qt:Instr.sameNow te.d (Yw t key) e.key=some (eqK t key x.1)∨Instr.sameNow te.d (Yw t key) e.key=none:=by
   rw[hk]
   cases t with
   | st fs=>exact .inr (by cases te with | mk e1 e2 e3 e4 e5=>cases e2<;>rfl)
   | int k =>
    obtain⟨e1,e2,e3,e4,e5⟩:=te
    cases e2<;>simp[Y5,X5]at h
    grind [Instr.sameNow,Yw,eqK]
   | bool =>
    grind [Y5,X5,Instr.sameNow,Yw,eqK]
   | str =>
    obtain⟨e1,e2,e3,e4,e5⟩:=te
    cases e2<;>simp[Y5,X5]at h
    refine .inl ?_
    simp only[Instr.sameNow,Yw,eqK,Yg]
    congr 1
    rw[Bool.eq_iff_iff,MapKept.bytes_beq]
    simp
   | _=>cases te with | mk e1 e2 e3 e4 e5=>cases e2<;>simp[Y5,X5]at h
  simp only[Qw,Instr.findNow,Instr.findAsking,Sem.run_bind,hk,heq,Result.andThen_ok]
  rw[hk]at qt
  cases he:eqK t key x.1 with
  | true =>
   have:=(K3 (Vp h)).1 he
   refine .inr ⟨0,e,x.2,rfl,by simp,?_,rfl,by rw[hk,this],h2⟩
   rcases qt with qt | qt<;>rw[qt]
   ·rw[he]; exact .inl rfl
   ·exact .inr rfl
  | false =>
   rcases Li hT ht h key w (i+1) h3 with⟨q1,q2,q3⟩ | ⟨j,e',y,q1,q2,q3,q4,q5,q6⟩
   ·grind
   ·have ea:i+1+j=i+(j+1):=by omega
    rw[ea]at q2 q3
    refine .inr ⟨j+1,e',y,q1,by simpa using q2,?_,q4,q5,q6⟩
    rcases qt with qt | qt<;>rw[qt]
    ·rw[he]; exact q3
    ·exact .inr rfl
theorem Qhh(hT:Q6 P T){kt:TypeId}{te:TE}(ht:Qh T kt=some te){t:Ty}(h:Y5 T t te.d=true)(key:t.De)(w:World){ν:Type}{s:RT ν}{ok:Ok}{xs:List (t.De×ν)}{es:List MapEntry}(hp:Dr (rt t) s ok w xs es) :
  (Qw key xs=none∧(Instr.findKey kt (Yw t key) es).run P w=.ok none w) ∨
  (∃(j:Nat) (e:MapEntry) (y:ν),Qw key xs=some y∧(Instr.findKey kt (Yw t key) es).run P w=.ok (some (j,e.val)) w∧es[j]?=some e∧e.key=Yw t key∧isV s ok w y e.val):=by
 have hu:=(Jq hT ht).2
 rcases Li hT ht h key w 0 hp with⟨q1,q2,q3⟩ | ⟨j,e,y,q1,q2,q3,q4,q5,q6⟩
 ·refine .inl ⟨q1,?_⟩
  rcases q3 with q3 | q3
  ·exact MapKept.run_findKey hu q3
  simp_all [Instr.findKey,run_underlying,Result.andThen]
 ·rw[QV]at q2 q3
  refine .inr ⟨j,e,y,q1,?_,q4,q5,q6⟩
  rcases q3 with q3 | q3
  ·exact MapKept.run_findKey hu q3
  simp_all [Instr.findKey,run_underlying,Result.andThen]
theorem Qhi(hT:Q6 P T){f:Field}{t:Ty}{i:Nat}(h:Q9t T f t i=true){p r:List Value}{x:t.De}(h1:p.length=i)(w:World)(e:Bool)(n:Nat) :
  (part f.type (p++Kv t x++r).toArray f.offset).run P w=.ok (Yw t x) w∧(Instr.checkKey e (n+1) f.type (Yw t x)).run P w=.ok () w:=by
 obtain⟨_,ho,te,he,hs⟩:=Cj h
 have hu:=(Jq hT he).2
 have g1:(p++Kv t x++r)[f.offset]?=some (Yw t x):=by
  rw[Lh (Bq hs),ho,←h1]; simp
 refine⟨Qfp hT he ?_ g1,?_⟩
 ·obtain⟨e1,e2,e3,e4,e5⟩:=te
  cases t<;>cases e2<;>simp[X5]at hs<;>rfl
 ·refine MapKept.run_checkKey hu ?_ e n
  obtain⟨e1,e2,e3,e4,e5⟩:=te
  cases t<;>cases e2<;>simp[X5]at hs
  ·rename_i a b
   have:=Cn hs
   exact this
  ·trivial
  ·trivial
theorem Qaf(hT:Q6 P T)(w:World)(e:Bool)(n:Nat){body:Field→PUnit→Sem (ForInStep PUnit)}{cs:List Value}
  (i7:∀(f:Field) (v:Value),f.name ≠ "_" → (part f.type cs.toArray f.offset).run P w=.ok v w→(Instr.checkKey e (n+1) f.type v).run P w=.ok () w→(body f ⟨⟩).run P w=.ok (ForInStep.yield ⟨⟩) w):∀{fds:List Field} {t:Ty} {i:Nat},Gj T fds t i=true→∀{p:List Value} {x:t.De},p.length=i→cs=p++Kv t x →
  (forIn fds PUnit.unit body).run P w=.ok ⟨⟩ w
 | [],t,i,h,p,x,h1,hc=>by simp
 | [f],t,i,h,p,x,h1,hc=>by
  simp only[Gj]at h
  have hn:f.name ≠ "_" := by grind [Cj]
  obtain⟨q1,q2⟩:=Qhi hT h (r:=[]) (x:=x) h1 w e n
  rw[QH,←hc]at q1
  simp_all
 | f::g::fs,t,i,h,p,x,h1,hc=>by
  cases t<;>simp only[Gj,QQ]at h
  all_goals first | (cases h; done) | skip
  rename_i a r
  obtain⟨x1,x2⟩:=x
  have hs:=Bq (Cj h.1).2.2.choose_spec.2
  have l1:(Kv a x1).length=1:=by rw[Lh hs]; rfl
  have hn:f.name ≠ "_" := by grind [Cj]
  obtain⟨q1,q2⟩:=Qhi hT h.1 (r:=Kv r x2) (x:=x1) h1 w e n
  have y8:cs=p++Kv a x1++Kv r x2:=by rw[hc]; simp[Kv]
  rw[←y8]at q1
  have ih:=Qaf hT w e n i7 h.2 (p:=p++Kv a x1) (x:=x2) (by simp[l1,h1]) y8
  rw[List.forIn_cons]
  simp_all
theorem H1(hT:Q6 P T){kt:TypeId}{te:TE}(ht:Qh T kt=some te){t:Ty}(h:Y5 T t te.d=true)(x:t.De)(w:World)(e:Bool):(Instr.checkKey e 10000 kt (Yw t x)).run P w=.ok () w:=by
 have hu:=(Jq hT ht).2
 cases t with
 | st fs =>
  obtain⟨e1,e2,e3,e4,e5⟩:=te
  cases e2<;>simp[Y5,X5]at h
  rename_i fds
  obtain⟨fds⟩:=fds
  unfold Instr.checkKey
  simp only[Sem.run_bind,run_underlying hu,Result.andThen,Yw]
  simp only[List.forIn_toArray]
  rw[Qaf hT w e 9998 (cs:=Kv fs x) (fun f v hn h1 h2=>by simp_all) h (p:=[]) (x:=x) rfl rfl]
  rfl
 | int k =>
  obtain⟨e1,e2,e3,e4,e5⟩:=te
  cases e2<;>simp[Y5,X5]at h
  exact MapKept.run_checkKey hu (show MapKept.IsKey (.int _) (.int k x)from Cn h) e 9999
 | bool =>
  obtain⟨e1,e2,e3,e4,e5⟩:=te
  cases e2<;>simp[Y5,X5]at h
  exact MapKept.run_checkKey hu (show MapKept.IsKey .bool (.bool x)from trivial) e 9999
 | str =>
  obtain⟨e1,e2,e3,e4,e5⟩:=te
  cases e2<;>simp[Y5,X5]at h
  exact MapKept.run_checkKey hu (show MapKept.IsKey .string (Yg x)from trivial) e 9999
 | _=>cases te with | mk e1 e2 e3 e4 e5=>cases e2<;>simp[Y5,X5]at h
theorem H2{t:Ty}(h:Ds t=true)(x:t.De)(n:Nat):Instr.sameBits n (Yw t x) (Yw t x)=true:=by
 cases t<;>simp[Ds]at h<;>cases n<;>simp[Instr.sameBits,Yw,Yg]
 all_goals rw[MapKept.bytes_beq]
theorem Qoy{n:Nat}:∀{t:Ty},So t=true→∀(x:t.De),((Kv t x).zip (Kv t x)).all (fun(x,y)=>Instr.sameBits n x y)=true
 | .pr f r,ht,x=>by
  simp only[So,QQ]at ht
  have ih:=Qoy (n:=n) ht.2 x.2
  simp only[Kv,Lh ht.1,List.singleton_append,List.zip_cons_cons,XX,H2 ht.1,ih,Bool.and_self]
 | .unit,ht,x=>rfl
 | .int k,ht,x=>by have:=H2 (t:=.int k) rfl x n; simp_all [Kv,Yw]
 | .bool,ht,x=>by have:=H2 (t:=.bool) rfl x n; simp_all [Kv,Yw]
 | .str,ht,x=>by have:=H2 (t:=.str) rfl x n; simp_all [Kv,Yw]
 | .sl _,ht,_=>by simp[So,Ds]at ht
 | .arr _ _,ht,_=>by simp[So,Ds]at ht
 | .st _,ht,_=>by simp[So,Ds]at ht
theorem Q9u{t:Ty}(h:Qa5 t=true)(x:t.De)(w:World):(Instr.keyThatStays (Yw t x) (Yw t x)).run P w=.ok (Yw t x) w:=by
 have:Instr.sameBits 10000 (Yw t x) (Yw t x)=true:=by
  cases t with
  | st fs =>
   have:=Qoy (n:=9999) h x
   grind [Yw,Instr.sameBits]
  | int k=>exact H2 (t:=.int k) rfl x _
  | bool=>exact H2 (t:=.bool) rfl x _
  | str=>exact H2 (t:=.str) rfl x _
  | _=>simp[Qa5,Ds]at h
 simp[Instr.keyThatStays,this]
theorem Qoz(hT:Q6 P T){t kt et:TypeId}{te tk tz:TE}(ht:Qh T t=some te)(kr:te.d=.map kt et)(hk:Qh T kt=some tk)(hz:Qh T et=some tz)
  {k:Ty} {ν:Type} {s:RT ν} (hd:Y5 T k tk.d=true) {ok:Ok} {w:World} {g:Nat} {es:Array MapEntry} {clock:Nat} (hg:w.heap[g]?=some (.map es clock)) {xs:List (k.De×ν)} (hp:Dr (rt k) s ok w xs es.toList)
  (key:k.De) {z:ν} (hzv:isV s ok w z tz.z) (c:Bool) :
  ∃v,(Instr.lookup t (.map (some g)) (Yw k key) c).run P w=.ok (if c=true then .tuple #[v,.bool (Qw key xs).isSome]else v) w∧isV s ok w ((Qw key xs).getD z) v ∧
   (Qw key xs=none∧v=tz.z∨∃(j:Nat) (e:MapEntry),es.toList[j]?=some e∧e.key=Yw k key∧v=e.val):=by
 have hu:=(Jq hT ht).2
 rw[kr]at hu
 have hzr:(zeroValue et).run P w=.ok tz.z w:=Vx hT w hz
 rcases Qhh hT hk hd key w hp with⟨q1,q2⟩ | ⟨j,e,y,q1,q2,q3,q4,q5⟩
 ·refine⟨tz.z,?_,by rw[q1]; exact hzv,.inl ⟨q1,rfl⟩⟩
  simp[Instr.lookup,run_underlying hu,MapKept.run_getObj_map hg,H1 hT hk hd,q2,hzr,Result.andThen,q1]
 ·refine⟨e.val,?_,by rw[q1]; exact q5,.inr ⟨j,e,q3,q4,rfl⟩⟩
  simp[Instr.lookup,run_underlying hu,MapKept.run_getObj_map hg,H1 hT hk hd,q2,Result.andThen,q1]
theorem Qr2(hT:Q6 P T){t kt et:TypeId}{te tk tz:TE}(ht:Qh T t=some te)(kr:te.d=.map kt et)(hk:Qh T kt=some tk)(hz:Qh T et=some tz)
  {k:Ty} (hd:Y5 T k tk.d=true) {w:World} (key:k.De) (c:Bool) :
  (Instr.lookup t (.map none) (Yw k key) c).run P w=.ok (if c=true then .tuple #[tz.z,.bool false]else tz.z) w:=by
 have hu:=(Jq hT ht).2
 rw[kr]at hu
 have hzr:(zeroValue et).run P w=.ok tz.z w:=Vx hT w hz
 rcases Qhh (ok:=fun _ _=>True) hT hk hd key w (s:=Qsv) (xs:=[]) (es:=[]) rfl with⟨q1,q2⟩ | ⟨j,e,y,q1,q2,q3,q4,q5⟩
 ·simp[Instr.lookup,run_underlying hu,H1 hT hk hd,q2,hzr,Result.andThen]
 ·simp at q3
theorem Q6p(hT:Q6 P T){kt:TypeId}{te:TE}(ht:Qh T kt=some te){k:Ty}(h:Y5 T k te.d=true)(key:k.De){ν:Type}{s:RT ν}{ok:Ok}{w:World}{y:ν}{v:Value}(hv:isV s ok w y v):∀{xs:List (k.De×ν)} {es:List MapEntry},Dr (rt k) s ok w xs es →
  (Qw key xs=none∧∀c,Dr (rt k) s ok w (Yu key y xs) (es++[⟨Yw k key,v,c⟩])) ∨
  (∃(j:Nat) (e:MapEntry),(∀i,(Instr.findAsking kt (Yw k key) es i).run P w=.ok (some (i+j,e.val)) w)∧es[j]?=some e∧e.key=Yw k key∧Dr (rt k) s ok w (Yu key y xs) (es.modify j fun e=>{ e with key:=Yw k key,val:=v }))
 | [],es,hp=>by
  have:es=[]:=hp
  subst this
  exact .inl ⟨rfl,fun c=>⟨_,[],rfl,Q6n (Vp h) key,hv,rfl⟩⟩
 | x::xs,es,hp=>by
  obtain⟨e,es',rfl,h1,h2,h3⟩:=hp
  have hk:=Cq (Vp h) h1
  have heq:=Qfq hT ht h key x.1 w
  simp only[Yu,Qw,Instr.findAsking,Sem.run_bind,hk,heq,Result.andThen_ok]
  cases he:eqK k key x.1 with
  | true =>
   have:=(K3 (Vp h)).1 he
   exact .inr ⟨0,e,by simp,rfl,by rw[hk,this],⟨_,es',rfl,Q6n (Vp h) key,hv,h3⟩⟩
  | false =>
   rcases Q6p hT ht h key hv h3 with⟨q1,q2⟩ | ⟨j,e',q2,q3,q4,q5⟩
   ·exact .inl ⟨q1,fun c=>⟨e,_,rfl,h1,h2,q2 c⟩⟩
   ·exact .inr ⟨j+1,e',fun i=>by rw[show i+(j+1)=i+1+j by omega]; grind,q3,q4,⟨e,_,rfl,h1,h2,q5⟩⟩
def Qbr(es:Array MapEntry)(clock:Nat):Prop:=(es.toList.map MapEntry.born).Nodup∧∀e∈es.toList,e.born<clock
theorem Qdv{k:Ty}{ν:Type}(hk:Qa5 k=true)(key:k.De)(y:ν):∀{xs:List (k.De×ν)},(xs.map Prod.fst).Nodup→((Yu key y xs).map Prod.fst).Nodup∧∀z∈(Yu key y xs).map Prod.fst,z=key∨z∈xs.map Prod.fst
 | [],_=>⟨by simp[Yu],by simp[Yu]⟩
 | x::xs,h=>by
  simp only[Yu]
  have h1:=QT.1 h
  cases he:eqK k key x.1 with
  | true =>
   have:=(K3 hk).1 he
   grind
  | false =>
   obtain⟨h2,h3⟩:=Qdv hk key y h1.2
   refine⟨?_,fun z hz=>?_⟩
   ·simp only[cond_false,QP,QT]
    refine⟨fun hm=>?_,h2⟩
    rcases h3 _ hm with hm | hm
    ·rw[hm,(K3 hk).2 rfl]at he; cases he
    ·exact h1.1 hm
   grind
theorem Qhj(hT:Q6 P T){t kt et:TypeId}{te tk:TE}(ht:Qh T t=some te)(kr:te.d=.map kt et)(hk:Qh T kt=some tk)
  {k:Ty} (hd:Y5 T k tk.d=true) {w:World} {g:Nat} {es:Array MapEntry} {clock:Nat} (hg:w.heap[g]?=some (.map es clock)) (key:k.De) {v:Value} :
  ((Instr.findKey kt (Yw k key) es.toList).run P w=.ok none w→(Instr.mapUpdate t (.map (some g)) (Yw k key) v).run P w=.ok () { w with heap:=w.heap.setIfInBounds g (.map (es.push ⟨Yw k key,v,clock⟩) (clock+1)) }) ∧
  (∀j e,(Instr.findKey kt (Yw k key) es.toList).run P w=.ok (some (j,e.val)) w→es.toList[j]?=some e→e.key=Yw k key →
   (Instr.mapUpdate t (.map (some g)) (Yw k key) v).run P w=.ok () { w with heap:=w.heap.setIfInBounds g (.map (es.modify j fun e=>{ e with key:=Yw k key,val:=v }) clock) }):=by
 have hu:=(Jq hT ht).2
 rw[kr]at hu
 refine⟨fun q=>?_,fun j e q2 q3 q4=>?_⟩
 ·simp[Instr.mapUpdate,run_underlying hu,MapKept.run_getObj_map hg,H1 hT hk hd,q,MapKept.run_setObj_map _ hg,Result.andThen]
 ·have hj:es[j]?=some e:=by simpa using q3
  simp[Instr.mapUpdate,run_underlying hu,MapKept.run_getObj_map hg,H1 hT hk hd,q2,hj,q4,Q9u (Vp hd),MapKept.run_setObj_map _ hg,Result.andThen]
theorem Q32{es:Array MapEntry}{clock:Nat}(zj:Qbr es clock)(kv v:Value):Qbr (es.push ⟨kv,v,clock⟩) (clock+1):=by
 refine⟨?_,fun e he=>?_⟩
 ·simp only[Array.toList_push,QB,QP,ZY]
  refine List.nodup_append.2 ⟨zj.1,by simp,fun a ha b hb=>?_⟩
  obtain⟨e,he,rfl⟩:=QZ.1 ha
  simp at hb; subst hb
  exact Nat.ne_of_lt (zj.2 e he)
 ·simp only[Array.toList_push,QX,JW]at he
  rcases he with he | rfl
  ·exact Nat.lt_succ_of_lt (zj.2 e he)
  grind
theorem Qvu{es:Array MapEntry}{clock:Nat}(zj:Qbr es clock)(kv v:Value)(j:Nat):Qbr (es.modify j fun e=>{ e with key:=kv,val:=v }) clock:=by
 have sq:∀(l:List MapEntry) (j:Nat),(l.modify j fun e=>{ e with key:=kv,val:=v }).map MapEntry.born=l.map MapEntry.born:=by
  intro l
  induction l with
  | nil=>grind
  | cons x l ih=>grind
 refine⟨?_,fun e he=>?_⟩
 ·rw[Array.toList_modify,sq]; exact zj.1
 ·have hb:e.born∈(es.toList.modify j fun e=>{ e with key:=kv,val:=v }).map MapEntry.born:=QZ.2 ⟨e,by simpa using he,rfl⟩
  rw[sq]at hb
  obtain⟨e',qu,hbe⟩:=QZ.1 hb
  rw[←hbe]; exact zj.2 e' qu
theorem Qfr(hT:Q6 P T){kt:TypeId}{te:TE}(ht:Qh T kt=some te){t:Ty}(h:Y5 T t te.d=true)(key:t.De)(w:World){ν:Type}{s:RT ν}{ok:Ok}{xs:List (t.De×ν)}{es:List MapEntry}(hp:Dr (rt t) s ok w xs es)
  {r:Option (Nat×Value)} (hr:(Instr.findAsking kt (Yw t key) es 0).run P w=.ok r w):(Instr.findKey kt (Yw t key) es).run P w=.ok r w:=by
 have hu:=(Jq hT ht).2
 rcases Li hT ht h key w 0 hp with⟨q1,q2,q3⟩ | ⟨j,e,y,q1,q2,q3,q4,q5,q6⟩
 ·rw[hr]at q2; injection q2 with q2; subst q2
  rcases q3 with q3 | q3
  ·exact MapKept.run_findKey hu q3
  simp_all [Instr.findKey,run_underlying,Result.andThen]
 ·rw[hr]at q2; injection q2 with q2; subst q2
  rcases q3 with q3 | q3
  ·exact MapKept.run_findKey hu q3
  simp_all [Instr.findKey,run_underlying,Result.andThen]
theorem Qe1(hT:Q6 P T){t kt et:TypeId}{te tk:TE}(ht:Qh T t=some te)(kr:te.d=.map kt et)(hk:Qh T kt=some tk)
  {k:Ty} {ν:Type} {s:RT ν} (hd:Y5 T k tk.d=true) {ok:Ok} {w:World} {g:Nat} {es:Array MapEntry} {clock:Nat} (hg:w.heap[g]?=some (.map es clock)) {xs:List (k.De×ν)} (hp:Dr (rt k) s ok w xs es.toList) (zj:Qbr es clock)
  (key:k.De) {y:ν} {v:Value} (hv:isV s ok w y v) :
  ∃es' clock',(Instr.mapUpdate t (.map (some g)) (Yw k key) v).run P w=.ok () { w with heap:=w.heap.setIfInBounds g (.map es' clock') }∧Dr (rt k) s ok w (Yu key y xs) es'.toList∧Qbr es' clock':=by
 rcases Q6p hT hk hd key hv hp with⟨q1,q2⟩ | ⟨j,e,q2,q3,q4,q5⟩
 ·rcases Qhh hT hk hd key w hp with⟨r1,r2⟩ | ⟨j,e,y',r1,_⟩
  ·exact⟨_,_,(Qhj hT ht kr hk hd hg key).1 r2,by grind,Q32 zj _ _⟩
  grind
 ·have h2:=q2 0
  rw[QV]at h2
  exact⟨_,_,(Qhj hT ht kr hk hd hg key).2 j e (Qfr hT hk hd key w hp h2) q3 q4,by simpa using q5,Qvu zj _ _ _⟩
end
end Gx

/- Parts of values; values as data. -/
namespace Gx
open Go Go.RowKit Gd
set_option linter.unusedVariables false
set_option linter.unusedSimpArgs false
def exF:(fs:Ty)→fs.De→AV
 | .pr f r,x=>.cons (.d f x.1) (exF r x.2)
 | .unit,_=>.nil
 | .int k,x=>.cons (.d (.int k) x) .nil
 | .bool,x=>.cons (.d .bool x) .nil
 | .str,x=>.cons (.d .str x) .nil
 | .sl e,x=>.cons (.d (.sl e) x) .nil
 | .arr n e,x=>.cons (.d (.arr n e) x) .nil
 | .st fs,x=>.cons (.d (.st fs) x) .nil
 | .ref,x=>.cons (.d .ref x) .nil
 | .rose fs,x=>.cons (.d (.rose fs) x) .nil
def Jiw:AV→AV→AV
 | .cons x r,m=>.cons x (Jiw r m)
 | .nil,m=>m
 | x,_=>x
def Qyx:AV→Bool
 | .cons _ r=>Qyx r
 | .nil=>true
 | _=>false
@[reducible] def Jdz:Ty→Ty→Ty
 | .pr f g,u=>.pr f (Jdz g u)
 | .int k,u=>.pr (.int k) u
 | .bool,u=>.pr .bool u
 | .str,u=>.pr .str u
 | .sl e,u=>.pr (.sl e) u
 | .arr n e,u=>.pr (.arr n e) u
 | .st fs,u=>.pr (.st fs) u
 | .ref,u=>.pr .ref u
 | .rose fs,u=>.pr (.rose fs) u
 | .unit,u=>.pr .unit u
def Jix:(fs u:Ty)→(Jdz fs u).De→fs.De×u.De
 | .pr f g,u,x=>match Jix g u x.2 with
  | (y,z)=>((x.1,y),z)
 | .int _,_,x=>x
 | .bool,_,x=>x
 | .str,_,x=>x
 | .sl _,_,x=>x
 | .arr _ _,_,x=>x
 | .st _,_,x=>x
 | .ref,_,x=>x
 | .rose _,_,x=>x
 | .unit,_,x=>x
def Sq:AV→Option AV
 | .d (.st fs) x=>some (exF fs x)
 | .d (.rose fs) x=>some (Jiw (exF fs x.x) (.cons (.d (.sl (.rose fs)) x.ks) .nil))
 | .ag l=>some l
 | _=>none
def kid:AV→Nat→Option (AV×Nat)
 | .cons x _,0=>some (x,0)
 | .cons x r,k+1=>match kid r k with
  | some (y,o)=>some (y,x.size+o)
  | none=>none
 | _,_=>none
def nav:List PS→AV→Option AV
 | [],x=>some x
 | .f k off::ps,x=>match Sq x with
  | some l=>match kid l k with
   | some (y,o)=>bif Nat.beq o off then nav ps y else none
   | none=>none
  | none=>none
 | .i _ _::_,_=>none
def Vz(g:AV→Option AV):AV→Nat→Option (AV×Nat)
 | .cons x r,0=>match g x with
  | some y=>some (.cons y r,0)
  | none=>none
 | .cons x r,k+1=>match Vz g r k with
  | some (r',o)=>some (.cons x r',x.size+o)
  | none=>none
 | _,_=>none
def Qhk(cur new:AV):Bool:=Nat.beq new.size cur.size&&new.inMem&&new.isVal&&cur.isVal
def Qmk:List PS→AV→AV→Option AV
 | [],cur,new=>bif Qhk cur new then some new else none
 | .f k off::ps,cur,new=>match Sq cur with
  | some l=>match Vz (fun c=>Qmk ps c new) l k with
   | some (l',o)=>bif Nat.beq o off then some (.ag l')else none
   | none=>none
  | none=>none
 | .i _ _::_,_,_=>none
def asD(M:List (Nat×Ob)):AV→(t:Ty)→Option t.De
 | .d t x,u=>Ty.cast t u x
 | .ns,.sl _=>some []
 | .z,.sl _=>some []
 | .s id,.sl e=>match Qe M id with
  | some (.tail _ t xs)=>Ty.cast (.sl t) (.sl e) xs
  | _=>none
 | .ag l,.st fs=>asD M l fs
 | .ag l,.rose fs=>match asD M l (Jdz fs (.sl (.rose fs)))with
  | some x=>match Jix fs (.sl (.rose fs)) x with
   | (a,ks)=>some (.mk a ks)
  | none=>none
 | .nil,.unit=>some ()
 | .cons x r,.pr f g=>match asD M x f,asD M r g with
  | some a,some b=>some (a,b)
  | _,_=>none
 | .cons x .nil,.int k=>asD M x (.int k)
 | .cons x .nil,.bool=>asD M x .bool
 | .cons x .nil,.str=>asD M x .str
 | .cons x .nil,.sl e=>asD M x (.sl e)
 | .cons x .nil,.arr n e=>asD M x (.arr n e)
 | .cons x .nil,.st fs=>asD M x (.st fs)
 | .cons x .nil,.rose fs=>asD M x (.rose fs)
 | _,_=>none
section
variable {β:Nat→Nat} {ρ:Nat→Value} {ok:Ok} {w:World}
theorem Q33:∀{fs:Ty} {x:fs.De} {cs:List Value},(rt fs).rep ok w x cs→cr β ρ ok w false (exF fs x) cs
 | .pr f r,x,cs,⟨c1,c2,h,h1,h2⟩=>⟨c1,c2,h,h1,Q33 h2⟩
 | .unit,_,cs,h=>h
 | .int k,x,cs,h=>⟨cs,[],by simp,h,rfl⟩
 | .bool,x,cs,h=>⟨cs,[],by simp,h,rfl⟩
 | .str,x,cs,h=>⟨cs,[],by simp,h,rfl⟩
 | .sl e,x,cs,h=>⟨cs,[],by simp,h,rfl⟩
 | .arr n e,x,cs,h=>⟨cs,[],by simp,h,rfl⟩
 | .st fs,x,cs,h=>⟨cs,[],by simp,h,rfl⟩
 | .ref,x,cs,h=>h.elim
 | .rose fs,x,cs,h=>⟨cs,[],by simp,h,rfl⟩
theorem Qyy:∀(fs:Ty) (x:fs.De),Qyx (exF fs x)=true
 | .pr f r,x=>Qyy r x.2
 | .unit,_=>rfl
 | .int k,x=>rfl
 | .bool,x=>rfl
 | .str,x=>rfl
 | .sl e,x=>rfl
 | .arr n e,x=>rfl
 | .st fs,x=>rfl
 | .ref,x=>rfl
 | .rose fs,x=>rfl
theorem Qvv:∀{l m:AV} {c1 c2:List Value},Qyx l=true→cr β ρ ok w false l c1→cr β ρ ok w false m c2→cr β ρ ok w false (Jiw l m) (c1++c2)
 | .cons x r,m,c1,c2,hl,⟨d1,d2,e,h1,h2⟩,hm=>⟨d1,d2++c2,by rw[e,List.append_assoc],h1,Qvv (l:=r) hl h2 hm⟩
 | .nil,m,c1,c2,_,h,hm=>by
  have h:c1=[]:=h
  subst h; exact hm
theorem Q6q:∀{fs u:Ty} {x:(Jdz fs u).De} {cs:List Value},(rt (Jdz fs u)).rep ok w x cs→∃c1 c2,cs=c1++c2∧(rt fs).rep ok w (Jix fs u x).1 c1∧(rt u).rep ok w (Jix fs u x).2 c2
 | .pr f g,u,x,cs,⟨c1,c2,e,h1,h2⟩=>by
  obtain⟨d1,d2,e2,h3,h4⟩:=Q6q (fs:=g) (u:=u) h2
  exact⟨c1++d1,d2,by rw[e,e2,List.append_assoc],⟨c1,d1,rfl,h1,h3⟩,h4⟩
 | .int _,_,x,cs,h=>h
 | .bool,_,x,cs,h=>h
 | .str,_,x,cs,h=>h
 | .sl _,_,x,cs,h=>h
 | .arr _ _,_,x,cs,h=>h
 | .st _,_,x,cs,h=>h
 | .ref,_,x,cs,h=>h
 | .rose _,_,x,cs,h=>h
 | .unit,_,x,cs,h=>h
theorem Qji{x l:AV}{cs:List Value}(h:Sq x=some l)(hc:cr β ρ ok w false x cs):cr β ρ ok w false l cs:=by
 unfold Sq at h
 split at h
 ·simp at h; subst h; exact Q33 hc
 ·simp at h; subst h
  obtain⟨c1,c2,rfl,h1,h2⟩:=Q9r hc
  exact Qvv (Qyy _ _) (Q33 h1) ⟨c2,[],by simp,h2,rfl⟩
 ·simp at h; subst h; exact hc
 ·cases h
theorem Jd0:∀{l:AV} {k:Nat} {y:AV} {o:Nat} {cs:List Value},kid l k=some (y,o)→cr β ρ ok w false l cs →
  cr β ρ ok w false y ((cs.drop o).take y.size)∧o+y.size≤cs.length
 | .cons x r,0,y,o,cs,h,⟨c1,c2,e,h1,h2⟩=>by
  simp[kid]at h
  obtain⟨rfl,rfl⟩:=h
  grind [Ux,List.take_left]
 | .cons x r,k+1,y,o,cs,h,⟨c1,c2,e,h1,h2⟩=>by
  simp only[kid]at h
  split at h
  ·rename_i y' o' hk
   simp at h
   obtain⟨rfl,rfl⟩:=h
   obtain⟨h3,h4⟩:=Jd0 hk h2
   grind [Ux,List.length_append,List.drop_drop,List.drop_left]
  ·cases h
 | .d ..,_,_,_,_,h,_=>by simp[kid]at h
 | .p ..,_,_,_,_,h,_=>by simp[kid]at h
 | .e ..,_,_,_,_,h,_=>by simp[kid]at h
 | .s ..,_,_,_,_,h,_=>by simp[kid]at h
 | .m ..,_,_,_,_,h,_=>by simp[kid]at h
 | .b ..,_,_,_,_,h,_=>by simp[kid]at h
 | .w ..,_,_,_,_,h,_=>by simp[kid]at h
 | .a ..,_,_,_,_,h,_=>by simp[kid]at h
 | .z,_,_,_,_,h,_=>by simp[kid]at h
 | .ns,_,_,_,_,h,_=>by simp[kid]at h
 | .np,_,_,_,_,h,_=>by simp[kid]at h
 | .nm,_,_,_,_,h,_=>by simp[kid]at h
 | .nf,_,_,_,_,h,_=>by simp[kid]at h
 | .f ..,_,_,_,_,h,_=>by simp[kid]at h
 | .ag ..,_,_,_,_,h,_=>by simp[kid]at h
 | .tp ..,_,_,_,_,h,_=>by simp[kid]at h
 | .nil,_,_,_,_,h,_=>by simp[kid]at h
theorem Qfs:∀{ps:List PS} {x y:AV} {cs:List Value},nav ps x=some y→cr β ρ ok w false x cs →
  cr β ρ ok w false y ((cs.drop (Yi ps)).take y.size)∧Yi ps+y.size≤cs.length
 | [],x,y,cs,h,hc=>by
  grind [nav,Ux,Yi,List.take_of_length_le]
 | .f k off::ps,x,y,cs,h,hc=>by
  simp only[nav]at h
  split at h
  ·rename_i l hl
   split at h
   ·rename_i y' o hk
    cases hb:Nat.beq o off with
    | false=>rw[hb]at h; cases h
    | true =>
     rw[hb]at h
     simp only[cond_true]at h
     have:=Nat.eq_of_beq_eq_true hb
     subst this
     obtain⟨h1,h2⟩:=Jd0 hk (Qji hl hc)
     obtain⟨h3,h4⟩:=Qfs h h1
     have hl:=Ux h1
     rw[hl]at h4
     grind [Yi,PS.off,List.drop_take,List.drop_drop,Nat.min_eq_left]
   ·cases h
  ·cases h
 | .i _ _::_,_,_,_,h,_=>by simp[nav]at h
theorem Qjj{g:AV→Option AV}{off:Nat}{ds:List Value}
  (hg:∀{c c':AV} {cs:List Value},g c=some c'→cr β ρ ok w false c cs→cr β ρ ok w false c' (cs.take off++ds++cs.drop (off+ds.length))∧off+ds.length≤cs.length) :
  ∀{l l':AV} {k o:Nat} {cs:List Value},Vz g l k=some (l',o)→cr β ρ ok w false l cs →
   cr β ρ ok w false l' (cs.take (o+off)++ds++cs.drop (o+off+ds.length))∧o+off+ds.length≤cs.length
 | .cons x r,l',0,o,cs,h,⟨c1,c2,e,h1,h2⟩=>by
  simp only[Vz]at h
  split at h
  ·rename_i y hy
   simp at h
   obtain⟨rfl,rfl⟩:=h
   obtain⟨h3,h4⟩:=hg hy h1
   subst e
   refine⟨⟨_,c2,?_,h3,h2⟩,by rw[List.length_append]; omega⟩
   rw[QV,JO (by omega),List.drop_append_of_le_length (by omega)]
   grind
  ·cases h
 | .cons x r,l',k+1,o,cs,h,⟨c1,c2,e,h1,h2⟩=>by
  simp only[Vz]at h
  split at h
  ·rename_i r' o' hr
   simp at h
   obtain⟨rfl,rfl⟩:=h
   obtain⟨h3,h4⟩:=Qjj hg hr h2
   subst e
   have hl:=Ux h1
   refine⟨⟨c1,_,?_,h1,h3⟩,by rw[List.length_append,hl]; omega⟩
   have e1:x.size+o'+off=c1.length+(o'+off):=by rw[hl]; omega
   rw[e1,XG,List.take_of_length_le (by omega),JM]
   grind [List.append_assoc,Nat.add_assoc,List.drop_drop,List.drop_left]
  ·cases h
 | .d ..,_,_,_,_,h,_=>by simp[Vz]at h
 | .p ..,_,_,_,_,h,_=>by simp[Vz]at h
 | .e ..,_,_,_,_,h,_=>by simp[Vz]at h
 | .s ..,_,_,_,_,h,_=>by simp[Vz]at h
 | .m ..,_,_,_,_,h,_=>by simp[Vz]at h
 | .b ..,_,_,_,_,h,_=>by simp[Vz]at h
 | .w ..,_,_,_,_,h,_=>by simp[Vz]at h
 | .a ..,_,_,_,_,h,_=>by simp[Vz]at h
 | .z,_,_,_,_,h,_=>by simp[Vz]at h
 | .ns,_,_,_,_,h,_=>by simp[Vz]at h
 | .np,_,_,_,_,h,_=>by simp[Vz]at h
 | .nm,_,_,_,_,h,_=>by simp[Vz]at h
 | .nf,_,_,_,_,h,_=>by simp[Vz]at h
 | .f ..,_,_,_,_,h,_=>by simp[Vz]at h
 | .ag ..,_,_,_,_,h,_=>by simp[Vz]at h
 | .tp ..,_,_,_,_,h,_=>by simp[Vz]at h
 | .nil,_,_,_,_,h,_=>by simp[Vz]at h
theorem Sr{new:AV}{ds:List Value}(hn:cr β ρ ok w false new ds):∀{ps:List PS} {cur av':AV} {cs:List Value},Qmk ps cur new=some av'→cr β ρ ok w false cur cs →
  cr β ρ ok w false av' (cs.take (Yi ps)++ds++cs.drop (Yi ps+ds.length))∧Yi ps+ds.length≤cs.length
 | [],cur,av',cs,h,hc=>by
  simp only[Qmk]at h
  cases hb:Qhk cur new with
  | false=>rw[hb]at h; cases h
  | true =>
   rw[hb]at h
   simp at h; subst h
   simp only[Qhk,QQ]at hb
   have h1:=Nat.eq_of_beq_eq_true hb.1.1.1
   have h2:=Ux hn
   have h3:=Ux hc
   simp_all [Yi,XM,QU,QV,JR,QH]
 | .f k off::ps,cur,av',cs,h,hc=>by
  simp only[Qmk]at h
  split at h
  ·rename_i l hl
   split at h
   ·rename_i l' o hk
    cases hb:Nat.beq o off with
    | false=>rw[hb]at h; cases h
    | true =>
     rw[hb]at h
     simp only[cond_true,Option.some.injEq]at h
     have:=Nat.eq_of_beq_eq_true hb
     subst this; subst h
     have:=Qjj (off:=Yi ps) (ds:=ds) (fun {c c' cs'} hg yc=>Sr hn (ps:=ps) hg yc) hk (Qji hl hc)
     exact this
   ·cases h
  ·cases h
 | .i _ _::_,_,_,_,h,_=>by simp[Qmk]at h
theorem Qjk{τ:Type}{r:RT τ}{A:Option Addr}{c:Nat}:Qya r ok w [] (.slice A 0 c):=⟨A,0,c,rfl,rfl,QM _,fun h=>absurd h (by omega)⟩
theorem Qvw{τ:Type}{r:RT τ}{xs:List τ}{v u:Value}(hz:zal v u)(h:isV (rSl r) ok w xs u):isV (rSl r) ok w xs v:=by
 rcases hz with rfl | ⟨h0,A,rfl⟩
 ·exact h
 grind [Qi9,List.length_eq_zero_iff,Zu,Qjk]
theorem K4{M:List (Nat×Ob)}(hM:∀id o,Qe M id=some o→(Q0 β ρ id o).p ok w) :
  ∀{x:AV} {t:Ty} {y:t.De} {cs:List Value},asD M x t=some y→cr β ρ ok w false x cs→(rt t).rep ok w y cs
 | .d t x,u,y,cs,h,hc=>by
  obtain⟨rfl,rfl⟩:=Ty.cast_ok (by simpa only[asD]using h)
  exact hc
 | .ns,u,y,cs,h,hc=>by
  cases u<;>simp[asD]at h
  subst h
  exact⟨_,hc,Qjk⟩
 | .z,u,y,cs,h,⟨A,hc⟩=>by
  cases u<;>simp[asD]at h
  subst h
  exact⟨_,hc,Qjk⟩
 | .s id,u,y,cs,h,hc=>by
  cases u<;>simp[asD]at h
  rename_i e
  split at h
  ·rename_i e' t xs ho
   obtain⟨he,rfl⟩:=Ty.cast_ok h
   injection he with he
   subst he
   have:=(hM _ _ ho).1
   obtain⟨⟨v,hv,hz⟩,_⟩:=hc
   exact⟨_,hv,Zu.1 (Qvw hz this)⟩
  ·cases h
 | .ag l,u,y,cs,h,hc=>by
  cases u<;>simp only[asD]at h<;>first | (cases h; done) | skip
  ·rename_i fs
   exact K4 hM (x:=l) (t:=fs) h hc
  ·rename_i fs
   split at h
   ·rename_i y hy
    simp at h; subst h
    obtain⟨c1,c2,rfl,h1,h2⟩:=Q6q (K4 hM (x:=l) hy hc)
    exact Qyp h1 h2
   ·cases h
 | .nil,u,y,cs,h,hc=>by
  cases u<;>simp[asD]at h
  exact hc
 | .cons x r,u,y,cs,h,⟨c1,c2,e,h1,h2⟩=>by
  have key:∀{v:Ty} {z:v.De},r=.nil→asD M x v=some z→(rt v).rep ok w z cs:=by
   intro v z hr hx
   subst hr
   have:c2=[]:=h2
   subst this; subst e
   rw[QH]
   exact K4 hM hx h1
  cases u with
  | pr f g =>
   simp only[asD]at h
   split at h
   ·rename_i a b ha hb
    simp at h; subst h
    exact⟨c1,c2,e,K4 hM ha h1,K4 hM hb h2⟩
   ·cases h
  | unit=>simp[asD]at h
  | int k=>cases r<;>simp[asD]at h; exact key rfl h
  | bool=>cases r<;>simp[asD]at h; exact key rfl h
  | str=>cases r<;>simp[asD]at h; exact key rfl h
  | sl e=>cases r<;>simp[asD]at h; exact key rfl h
  | arr n e=>cases r<;>simp[asD]at h; exact key rfl h
  | st fs=>cases r<;>simp[asD]at h; exact key rfl h
  | ref=>cases r<;>simp[asD]at h
  | rose fs=>cases r<;>simp only[asD]at h<;>first | (cases h; done) | exact key rfl h
 | .p ..,u,_,_,h,_=>by cases u<;>simp[asD]at h
 | .e ..,u,_,_,h,_=>by cases u<;>simp[asD]at h
 | .m ..,u,_,_,h,_=>by cases u<;>simp[asD]at h
 | .b ..,u,_,_,h,_=>by cases u<;>simp[asD]at h
 | .w ..,u,_,_,h,_=>by cases u<;>simp[asD]at h
 | .a ..,u,_,_,h,_=>by cases u<;>simp[asD]at h
 | .np,u,_,_,h,_=>by cases u<;>simp[asD]at h
 | .nm,u,_,_,h,_=>by cases u<;>simp[asD]at h
 | .nf,u,_,_,h,_=>by cases u<;>simp[asD]at h
 | .f ..,u,_,_,h,_=>by cases u<;>simp[asD]at h
 | .tp ..,u,_,_,h,_=>by cases u<;>simp[asD]at h
end
end Gx

/- The quiet operations. -/
namespace Gx
open Go Go.RowKit Gd
set_option linter.unusedVariables false
set_option linter.unusedSimpArgs false
structure TX where
 T:Tab
 tys:List (Nat×Ty)
 gl:List (Nat×Σ t:Ty,t.De)
def lit:AV→Option Value
 | .d (.int k) n=>some (.int k n)
 | .d .bool b=>some (.bool b)
 | .d .str l=>some (Yg l)
 | _=>none
def Q6r:Value→Option AV
 | .int k n=>some (.d (.int k) n)
 | .bool b=>some (.d .bool b)
 | .string ⟨⟨l⟩⟩=>some (.d .str l)
 | _=>none
def nth:AV→Nat→Option AV
 | .cons x _,0=>some x
 | .cons _ r,k+1=>nth r k
 | _,_=>none
def evs(S:St)(cur:Y4):List Operand→Option AV
 | []=>some .nil
 | x::xs=>match ev S cur x,evs S cur xs with
  | some v,some r=>some (.cons v r)
  | _,_=>none
def Jd1(c:Bool)(x y:Option AV):Option AV :=
 match x,y with
 | some (.d .bool p),some (.d .bool q)=>some (.d .bool (bif c then p else q))
 | some (.d (.int k) p),some (.d (.int k') q)=>bif Pw k k' then some (.d (.int k) (bif c then p else q))else none
 | _,_=>match c with
  | true=>x
  | false=>y
def Q6s(cur:Y4)(c:Operand)(b:Bool):Y4:=match c with
 | .tmp t=>(t,b)::cur
 | _=>cur
def Xi:AV→Option (IntKind×Int)
 | .d (.int k) n=>some (k,n)
 | _=>none
def Qyz(M:List (Nat×Ob)):AV→Option Nat
 | .d (.sl _) xs=>some xs.length
 | .d .str l=>some l.length
 | .ns=>some 0
 | .z=>some 0
 | .s id=>match Qe M id with
  | some (.row _ _ xs)=>some xs.length
  | some (.tail _ _ xs)=>some xs.length
  | _=>none
 | .w _ _ n=>some n.toNat
 | _=>none
def Qy0{α:Type}(f:List Value→Option (α×List Value)):Nat→List Value→Option (List α×List Value)
 | 0,cs=>some ([],cs)
 | n+1,cs=>match f cs with
  | some (y,r)=>match Qy0 f n r with
   | some (ys,r')=>some (y::ys,r')
   | none=>none
  | none=>none
def Qbs:Ty→List Value→Option (AV×List Value)
 | .arr n e,cs=>match Qy0 (fun cs=>match Qbs e cs with
   | some (x,r)=>(match asD [] x e with
    | some y=>some (y,r)
    | none=>none)
   | none=>none) n cs with
  | some (l,r)=>some (.d (.arr n e) l,r)
  | none=>none
 | .st fs,cs=>match Qbs fs cs with
  | some (l,r)=>bif l.isVal then some (.ag (.cons l .nil),r)else some (.ag l,r)
  | none=>none
 | .pr f g,cs=>match Qbs f cs with
  | some (x,r)=>match Qbs g r with
   | some (l,r')=>bif l.isVal then some (.cons x (.cons l .nil),r')else some (.cons x l,r')
   | none=>none
  | none=>none
 | .rose fs,cs=>match Qbs fs cs with
  | some (l,.slice none 0 0::r)=>bif Qyx l then some (.ag (Jiw l (.cons .ns .nil)),r)else none
  | _=>none
 | .unit,cs=>some (.nil,cs)
 | _,v::cs=>match Qjg v with
  | some x=>some (x,cs)
  | none=>none
 | _,[]=>none
def Ss(ty:Ty)(z:Value):Option AV:=match Qbs ty (Qu z)with
 | some (x,[])=>some x
 | _=>none
def Y0(S:St)(cur:Y4):List (Nat×Operand)→Option (List (Nat×AV))
 | []=>some []
 | (i,x)::xs=>match ev S cur x,Y0 S cur xs with
  | some v,some r=>some ((i,v)::r)
  | _,_=>none
def Ys:TypeDesc→Option TypeId
 | .slice e=>some e
 | _=>none
def Nn:(t:Ty)→t.De→Option (List Value)
 | .int k,n=>some [.int k n]
 | .bool,b=>some [.bool b]
 | .str,s=>some [Yg s]
 | .unit,_=>some []
 | .pr f r,x=>match Nn f x.1,Nn r x.2 with
  | some a,some b=>some (a++b)
  | _,_=>none
 | .st fs,x=>Nn fs x
 | _,_=>none
def Zc:AV→Option (List Value)
 | .d t x=>Nn t x
 | .ag l=>Zc l
 | .nil=>some []
 | .cons x r=>match Zc x,Zc r with
  | some a,some b=>some (a++b)
  | _,_=>none
 | _=>none
def Q9v:BinOp→Option Bool
 | .eql=>some false
 | .neq=>some true
 | _=>none
def Jo7:AV→Option Bool
 | .np=>some true
 | .p _ _=>some false
 | .e _ _=>some false
 | .a _ _=>some false
 | _=>none
def Jo8:AV→Option Bool
 | .nm=>some true
 | .m _=>some false
 | _=>none
def Jo9:AV→Option Bool
 | .nf=>some true
 | .f _ _=>some false
 | _=>none
def Jpa:AV→Bool
 | .np=>true
 | _=>false
def Jpb:AV→Bool
 | .nm=>true
 | _=>false
def Jpc:AV→Bool
 | .nf=>true
 | _=>false
def Jnp(T:Tab)(op:BinOp)(t:TypeId)(x y:AV):Option Bool:=match Q9v op,Qh T t with
 | some neg,some te=>match te.d with
  | .pointer _=>bif Jpa y then(match Jo7 x with
   | some b=>some (bif neg then !b else b)
   | none=>none)else none
  | .map _ _=>bif Jpb y then(match Jo8 x with
   | some b=>some (bif neg then !b else b)
   | none=>none)else none
  | .func _ _ _=>bif Jpc y then(match Jo9 x with
   | some b=>some (bif neg then !b else b)
   | none=>none)else none
  | _=>none
 | _,_=>none
def Qo0:Value→Bool
 | .agg _=>true
 | _=>false
theorem Qs1{t:Ty}{v:Value}(h:t.agg=Qo0 v):(rt t).val (Qu v)=v:=by
 cases v<;>simp_all [Qo0,RT.val,Ld,Qu]
def Jiy:Option Ob→Option (Σ k v:Ty,List (k.De×v.De))
 | some (.map k v xs)=>some ⟨k,v,xs⟩
 | _=>none
def asLs(M:List (Nat×Ob))(u:Ty):List (Nat×AV)→Nat→Option (List u.De)
 | [],_=>some []
 | (i,v)::l,j=>bif Nat.beq i j&&(u.agg==v.isAgg)then(match asD M v u,asLs M u l (j+1)with
  | some x,some xs=>some (x::xs)
  | _,_=>none)else none
def Qhl(Y:TX)(S:St)(cur:Y4):Op→Option AV
 | .move x | .assign x=>ev S cur x
 | .pick c a b=>match ev S cur c with
  | some (.d .bool v)=>Jd1 v (ev S (Q6s cur c true) a) (ev S (Q6s cur c false) b)
  | _=>none
 | .binOp op t x y _=>match ev S cur x,ev S cur y with
  | some x,some y=>match lit x,lit y with
   | some u,some v=>match Qoj Y.T op t u v with
    | some r=>Q6r r
    | none=>none
   | _,_=>match Jnp Y.T op t x y with
    | some b=>some (.d .bool b)
    | none=>match Q9v op,Qh Y.T t,Zc x,Zc y with
    | some neg,some ⟨_,.struct ⟨fs⟩,_,_,_⟩,some us,some vs=>bif Og fs&&x.isAgg&&y.isAgg then(match Qoo Y.T fs us vs with
     | some r=>some (.d .bool (bif neg then !r else r))
     | none=>none)else none
    | _,_,_,_=>none
  | _,_=>none
 | .unOp op _ x=>match ev S cur x with
  | some x=>match lit x with
   | some u=>match Jdn op u with
    | some r=>Q6r r
    | none=>none
   | none=>none
  | none=>none
 | .convert s t x=>match Qh Y.T s,Qh Y.T t,ev S cur x with
  | some ⟨_,.int _,_,_,_⟩,some ⟨_,.int k,_,_,_⟩,some (.d (.int _) n)=>some (.d (.int k) (k.wrap n))
  | _,_,_=>none
 | .field s x f=>match Qh Y.T s,ev S cur x with
  | some ⟨_,.struct fs,_,_,_⟩,some x=>match fs[f]? with
   | some fd=>match nav [.f f fd.offset] x,Qh Y.T fd.type with
    | some y,some e=>bif Nat.beq e.size y.size&&(Xu e.d==y.isAgg)&&x.isAgg&&y.isVal&&(y.isAgg||Nat.beq y.size 1)then some y else none
    | _,_=>none
   | none=>none
  | _,_=>none
 | .fieldAddr s x f=>match Qh Y.T s,ev S cur x with
  | some ⟨_,.struct fs,_,_,_⟩,some x=>match Qok Y.T fs f with
   | some off=>match x with
    | .p id path=>some (.p id (path++[.f f off]))
    | .e id path=>some (.e id (path++[.f f off]))
    | .a t y=>match nav [.f f off] (.d t y)with
     | some (.d u z)=>some (.a u z)
     | _=>none
    | _=>none
   | none=>none
  | _,_=>none
 | .load t x=>match Qh Y.T t,ev S cur x with
  | some e,some (.p id path)=>match Qe S.mem id with
   | some (.var _ c)=>match nav path c with
    | some y=>bif Nat.beq e.size y.size&&(Xu e.d==y.isAgg)&&y.isVal&&(y.isAgg||Nat.beq y.size 1)then some y else none
    | none=>none
   | _=>none
  | some e,some (.a t y)=>bif Nat.beq e.size t.size&&(Xu e.d==t.agg)then some (.d t y)else none
  | _,_=>none
 | .extract x i=>match ev S cur x with
  | some (.tp l)=>nth l i
  | _=>none
 | .call { callee:=.builtin .len,args:=⟨[x]⟩,argTypes:=⟨[t]⟩ }=>match Qh Y.T t,ev S cur x with
  | some e,some x=>match e.d with
   | .slice _=>match x with
    | .d .str _=>none
    | x=>match Qyz S.mem x with
     | some n=>some (.d (.int .i64) n)
     | none=>none
   | .string=>match x with
    | .d .str l=>some (.d (.int .i64) l.length)
    | _=>none
   | .map _ _=>match x with
    | .m id=>match Jiy (Qe S.mem id)with
     | some ⟨_,_,xs⟩=>some (.d (.int .i64) xs.length)
     | none=>none
    | .nm=>some (.d (.int .i64) (0:Nat))
    | _=>none
   | _=>none
  | _,_=>none
 | .call { callee:=.builtin .max,args:=⟨[x,y]⟩,argTypes:=_ }=>match ev S cur x,ev S cur y with
  | some x,some y=>match Xi x,Xi y with
   | some (k,a),some (_,b)=>some (.d (.int k) (if b>a then b else a))
   | _,_=>none
  | _,_=>none
 | .call { callee:=.builtin .min,args:=⟨[x,y]⟩,argTypes:=_ }=>match ev S cur x,ev S cur y with
  | some x,some y=>match Xi x,Xi y with
   | some (k,a),some (_,b)=>some (.d (.int k) (if b<a then b else a))
   | _,_=>none
  | _,_=>none
 | .call { callee:=.builtin .min,args:=⟨[x,y,x3]⟩,argTypes:=_ }=>match ev S cur x,ev S cur y,ev S cur x3 with
  | some x,some y,some x3=>match Xi x,Xi y,Xi x3 with
   | some (k,a),some (_,b),some (_,c)=>some (.d (.int k) (if c<(if b<a then b else a)then c else(if b<a then b else a)))
   | _,_,_=>none
  | _,_,_=>none
 | .build t ⟨parts⟩=>match Qh Y.T t,Jp Y.tys t with
  | some ⟨_,.struct ⟨fs⟩,z,_,_⟩,some ty=>match Ss ty z,Qg6 Y.T fs,Y0 S cur parts with
   | some (.ag l),some ps,some vs=>match fillP ps l vs with
    | some l'=>some (.ag l')
    | none=>none
   | _,_,_=>none
  | some ⟨_,.array _ e,z,_,_⟩,some (.arr m u)=>match parts with
   | []=>match Qh Y.T e,Ss (.arr m u) z with
    | some _,some x=>bif x.isAgg then some x else none
    | _,_=>none
   | _::_=>match Qh Y.T e,Y0 S cur parts with
    | some ee,some vs=>match asLs S.mem u vs 0 with
     | some xs=>bif Nat.beq ee.size u.size&&Nat.beq xs.length m&&Nat.beq (Qu z).length (m*u.size)then some (.d (.arr m u) xs)else none
     | none=>none
    | _,_=>none
  | _,_=>none
 | .nilCheck x=>match ev S cur x with
  | some (.p id path)=>some (.p id path)
  | some (.e id path)=>some (.e id path)
  | some (.a t y)=>some (.a t y)
  | some (.f fn caps)=>some (.f fn caps)
  | _=>none
 | .makeFunc (.func f) ⟨[]⟩ ⟨caps⟩=>match evs S cur caps with
  | some l=>some (.f f l)
  | none=>none
 | .lookup t x ix c=>match Qh Y.T t,ev S cur x,ev S cur ix with
  | some te,some (.m id),some iv=>match te.d,Jiy (Qe S.mem id)with
   | .map kt et,some ⟨k,v,xs⟩=>match Qh Y.T kt,Qh Y.T et,asD [] iv k with
    | some tk,some tz,some key=>match Ss v tz.z with
     | some za=>match asD [] za v with
      | some z=>bif Y5 Y.T k tk.d&&(k.agg==iv.isAgg)&&(v.agg==Qo0 tz.z)then some (match c with
       | true=>.tp (.cons (.d v ((Qw key xs).getD z)) (.cons (.d .bool (Qw key xs).isSome) .nil))
       | false=>.d v ((Qw key xs).getD z))else none
      | none=>none
     | none=>none
    | _,_,_=>none
   | _,_=>none
  | _,_,_=>none
 | _=>none
where
 fillP (ps:List (Nat×Nat)) (l:AV):List (Nat×AV)→Option AV
 | []=>some l
 | (i,x)::r=>match ps[i]? with
  | some (off,size)=>match Vz (fun c=>bif Qhk c x then some x else none) l i with
   | some (l',o)=>bif Nat.beq o off&&Nat.beq x.size size then fillP ps l' r else none
   | none=>none
  | none=>none
section
variable {β:Nat→Nat} {ρ:Nat→Value} {ok:Ok} {w:World}
theorem Q34{x:AV}{v:Value}(h:lit x=some v){cs:List Value}(hc:cr β ρ ok w false x cs):x.val cs=v:=by
 unfold lit at h
 split at h<;>first | (simp at h; done) | skip
 all_goals
  simp only[Option.some.injEq]at h
  subst h
  have y8:cs=_:=hc
  subst y8
  rfl
theorem Qy1{x:AV}{v:Value}(h:Q6r v=some x):∃cs,v=x.val cs∧cr β ρ ok w false x cs:=by
 unfold Q6r at h
 split at h<;>first | (simp at h; done) | skip
 all_goals
  simp only[Option.some.injEq]at h
  subst h
  exact⟨_,rfl,rfl⟩
theorem Jd2:∀{l:AV} {k:Nat} {x:AV} {vs:List Value},nth l k=some x→cr β ρ ok w true l vs→∃cs,vs[k]?=some (x.val cs)∧cr β ρ ok w false x cs
 | .cons x r,0,y,vs,h,⟨c1,vs',h1,h2,h3⟩=>by
  simp[nth]at h; grind
 | .cons x r,k+1,y,vs,h,⟨c1,vs',h1,h2,h3⟩=>by
  subst h1
  obtain⟨c2,h4,h5⟩:=Jd2 (l:=r) (k:=k) (x:=y) (by grind [nth]) h3
  grind
 | .d ..,_,_,_,h,_=>by simp[nth]at h
 | .p ..,_,_,_,h,_=>by simp[nth]at h
 | .e ..,_,_,_,h,_=>by simp[nth]at h
 | .s ..,_,_,_,h,_=>by simp[nth]at h
 | .m ..,_,_,_,h,_=>by simp[nth]at h
 | .b ..,_,_,_,h,_=>by simp[nth]at h
 | .w ..,_,_,_,h,_=>by simp[nth]at h
 | .a ..,_,_,_,h,_=>by simp[nth]at h
 | .z,_,_,_,h,_=>by simp[nth]at h
 | .ns,_,_,_,h,_=>by simp[nth]at h
 | .np,_,_,_,h,_=>by simp[nth]at h
 | .nm,_,_,_,h,_=>by simp[nth]at h
 | .nf,_,_,_,h,_=>by simp[nth]at h
 | .f ..,_,_,_,h,_=>by simp[nth]at h
 | .ag ..,_,_,_,h,_=>by simp[nth]at h
 | .tp ..,_,_,_,h,_=>by simp[nth]at h
 | .nil,_,_,_,h,_=>by simp[nth]at h
theorem Cr{x:AV}{k:IntKind}{n:Int}(h:Xi x=some (k,n)):x=.d (.int k) n:=by
 unfold Xi at h
 grind
theorem Jiz{M:List (Nat×Ob)}(hM:∀id o,Qe M id=some o→(Q0 β ρ id o).p ok w){x:AV}{n:Nat}{cs:List Value}(h:Qyz M x=some n)(hs:∀l,x≠.d .str l)(hc:cr β ρ ok w false x cs) :
  ∃A c,x.val cs=.slice A n c:=by
 cases x with
 | d t y =>
  cases t<;>simp[Qyz]at h
  ·grind
  ·subst h
   obtain⟨v,rfl,A,m,c,rfl,rfl,_⟩:=hc
   exact⟨A,c,rfl⟩
 | s id =>
  simp only[Qyz]at h
  obtain⟨⟨v,rfl,hz⟩,A,m,c,hv⟩:=hc
  suffices hm:m=n by
   subst hm
   rcases hz with rfl | ⟨h0,A',rfl⟩
   ·exact⟨A,c,hv⟩
   ·rw[hv]at h0
    injection h0 with _ h1
    exact⟨A',0,by rw[h1]; rfl⟩
  split at h<;>first | (simp at h; done) | skip
  ·rename_i ho
   simp at h; subst h
   have:=(hM _ _ ho).1
   rw[hv]at this
   exact this
  ·rename_i ho
   simp at h; subst h
   have:=(hM _ _ ho).1
   rw[hv]at this
   grind [Qi9]
 | ns=>simp[Qyz]at h; subst h; have:cs=_:=hc; subst this; exact⟨_,_,rfl⟩
 | w id j m=>simp[Qyz]at h; subst h; obtain⟨A,c,rfl,_⟩:=hc; exact⟨_,_,rfl⟩
 | z=>simp[Qyz]at h; subst h; obtain⟨A,rfl⟩:=hc; exact⟨_,_,rfl⟩
 | _=>simp[Qyz]at h
theorem Qy2{τ:Type}{r:RT τ}{f:List Value→Option (τ×List Value)}(hf:∀{cs r':List Value} {y:τ},f cs=some (y,r')→∃c1,cs=c1++r'∧r.rep ok w y c1) :
  ∀{n:Nat} {cs r':List Value} {ys:List τ},Qy0 f n cs=some (ys,r')→∃c1,cs=c1++r'∧ys.length=n∧Ku r ok w ys c1
 | 0,cs,r',ys,h=>by simp[Qy0]at h; obtain⟨rfl,rfl⟩:=h; exact⟨[],rfl,rfl,rfl⟩
 | n+1,cs,r',ys,h=>by
  simp only[Qy0]at h
  split at h
  ·rename_i y r1 h1
   split at h
   ·rename_i ys' r2 h2
    simp at h; obtain⟨rfl,rfl⟩:=h
    obtain⟨c1,rfl,p1⟩:=hf h1
    obtain⟨c2,rfl,p2,p3⟩:=Qy2 hf h2
    exact⟨c1++c2,by simp,by simp[p2],c1,c2,rfl,p1,p3⟩
   ·cases h
  ·cases h
theorem Qdw:∀{ty:Ty} {cs r:List Value} {x:AV},Qbs ty cs=some (x,r)→∃c1,cs=c1++r∧cr β ρ ok w false x c1
 | .st fs,cs,r,x,h=>by
  simp only[Qbs]at h
  split at h
  ·rename_i l r' hl
   obtain⟨c1,h1,h2⟩:=Qdw hl
   cases hv:l.isVal with
   | true =>
    rw[hv]at h
    simp at h; obtain⟨rfl,rfl⟩:=h
    exact⟨c1,h1,c1,[],by simp,h2,rfl⟩
   | false =>
    rw[hv]at h
    simp at h; obtain⟨rfl,rfl⟩:=h
    exact⟨c1,h1,h2⟩
  ·cases h
 | .rose fs,cs,r,x,h=>by
  simp only[Qbs]at h
  split at h
  ·rename_i l r' hl
   cases hb:Qyx l with
   | false=>rw[hb]at h; cases h
   | true =>
    rw[hb]at h
    simp at h; obtain⟨rfl,rfl⟩:=h
    obtain⟨c1,h1,h2⟩:=Qdw hl
    refine⟨c1++[.slice none 0 0],by rw[h1]; simp,Qvv hb h2 ?_⟩
    exact⟨[.slice none 0 0],[],rfl,rfl,rfl⟩
  ·cases h
 | .pr f g,cs,r,x,h=>by
  simp only[Qbs]at h
  split at h
  ·rename_i y r1 h1
   split at h
   ·rename_i l r2 h2
    obtain⟨c1,rfl,py⟩:=Qdw h1
    obtain⟨c2,rfl,pz⟩:=Qdw h2
    cases hv:l.isVal with
    | true =>
     rw[hv]at h
     simp at h; obtain⟨rfl,rfl⟩:=h
     exact⟨c1++c2,by simp,c1,c2,rfl,py,c2,[],by simp,pz,rfl⟩
    | false =>
     rw[hv]at h
     simp at h; obtain⟨rfl,rfl⟩:=h
     exact⟨c1++c2,by simp,c1,c2,rfl,py,pz⟩
   ·cases h
  ·cases h
 | .unit,cs,r,x,h=>by
  simp[Qbs]at h; obtain⟨rfl,rfl⟩:=h
  exact⟨[],rfl,rfl⟩
 | .int k,cs,r,x,h=>nest1 (by cases cs<;>(grind [Qbs]))
 | .bool,cs,r,x,h=>nest1 (by cases cs<;>(grind [Qbs]))
 | .str,cs,r,x,h=>nest1 (by cases cs<;>(grind [Qbs]))
 | .sl e,cs,r,x,h=>nest1 (by cases cs<;>(grind [Qbs]))
 | .ref,cs,r,x,h=>nest1 (by cases cs<;>(grind [Qbs]))
 | .arr n e,cs,r,x,h=>by
  simp only[Qbs]at h
  split at h
  ·rename_i l r' hl
   simp at h; obtain⟨rfl,rfl⟩:=h
   obtain⟨c1,h1,h2,h3⟩:=Qy2 (r:=rt e) (ok:=ok) (w:=w) (fun {cs r' y} hf=>by
    split at hf
    ·rename_i x r1 hx
     split at hf
     ·rename_i y' hy
      simp at hf; obtain⟨rfl,rfl⟩:=hf
      obtain⟨c1,p1,p2⟩:=Qdw hx
      grind [K4,Qe]
     ·cases hf
    ·cases hf) hl
   exact⟨c1,h1,h2,h3⟩
  ·cases h
where
 nest1 {cs r:List Value} {x:AV} (h:(match cs with
  | v::cs=>match Qjg v with
   | some x=>some (x,cs)
   | none=>none
  | []=>none)=some (x,r)):∃c1,cs=c1++r∧cr β ρ ok w false x c1:=by
  cases cs with
  | nil=>cases h
  | cons v cs =>
   simp only at h
   split at h
   ·rename_i y hy
    simp at h; obtain⟨rfl,rfl⟩:=h
    exact⟨[v],rfl,(Qjh hy).1⟩
   ·cases h
theorem I7{ty:Ty}{z:Value}{x:AV}(h:Ss ty z=some x):cr β ρ ok w false x (Qu z):=by
 unfold Ss at h
 split at h
 ·rename_i y hy
  simp at h; subst h
  obtain⟨c1,h1,h2⟩:=Qdw hy
  rw[h1,QH]; exact h2
 ·cases h
inductive Q9w{α β:Type}(R:α→β→Prop):List α→List β→Prop
 | nil:Q9w R [] []
 | cons {a:α} {b:β} {l:List α} {m:List β} (h:R a b) (t:Q9w R l m):Q9w R (a::l) (b::m)
theorem Qy3(ps:List (Nat×Nat)):∀{vs:List (Nat×AV)} {us:List (Nat×Value)} {l l':AV} {cs:List Value},Qhl.fillP ps l vs=some l' →
  cr β ρ ok w false l cs→Q9w (fun(p:Nat×AV) (q:Nat×Value)=>p.1=q.1∧∃c,q.2=p.2.val c∧cr β ρ ok w false p.2 c) vs us →
  ∃cs',Ni (fun i=>ps[i]?) cs us=some cs'∧cr β ρ ok w false l' cs'
 | [],_,l,l',cs,h,hc,.nil=>by simp[Qhl.fillP]at h; subst h; exact⟨cs,rfl,hc⟩
 | (i,x)::vs,_,l,l',cs,h,hc,@Q9w.cons _ _ _ _ q _ us hq hr=>by
  obtain⟨j,v⟩:=q
  obtain⟨rfl,c,hv,hcx⟩:=hq
  simp only at hv hcx
  simp only[Qhl.fillP]at h
  split at h
  ·rename_i off size hp
   split at h
   ·rename_i l1 o hu
    cases hb:(Nat.beq o off&&Nat.beq x.size size)with
    | false=>rw[hb]at h; cases h
    | true =>
     rw[hb]at h
     simp only[QQ]at hb
     have e1:=Nat.eq_of_beq_eq_true hb.1
     have e2:=Nat.eq_of_beq_eq_true hb.2
     subst e1; subst e2
     simp only[cond_true]at h
     have hg:∀{c0 c':AV} {cs0:List Value},(fun c0=>bif Qhk c0 x then some x else none) c0=some c'→cr β ρ ok w false c0 cs0 →
       cr β ρ ok w false c' (cs0.take 0++c++cs0.drop (0+c.length))∧0+c.length≤cs0.length:=by
      intro c0 c' cs0 h1 h2
      have:=Sr (β:=β) (ρ:=ρ) (ok:=ok) (w:=w) (new:=x) (ds:=c) hcx (ps:=[]) (cur:=c0) (av':=c') (by grind [Qmk]) h2
      grind [Yi]
     have hx:x.inMem=true∧x.isVal=true:=by
      have:∃c0,Qhk c0 x=true:=by
       clear hr hc hp h hb hg
       induction l generalizing i l1 o with
       | cons y r _ ihr =>
        cases i with
        | zero =>
         grind [Vz,Qhk]
        | succ i =>
         grind [Vz]
       | _=>simp[Vz]at hu
      obtain⟨c0,ma⟩:=this
      simp_all [Qhk,QQ]
     obtain⟨h3,h4⟩:=Qjj (off:=0) (ds:=c) hg hu hc
     have xg:Qu v=c:=by rw[hv]; grind [Nl]
     have hlen:=Ux hcx
     obtain⟨cs',h5,h6⟩:=Qy3 ps h h3 hr
     refine⟨cs',?_,h6⟩
     simp only[Ni,hp,xg]
     have yu:(Nat.beq c.length x.size&&Nat.ble (o+c.length) cs.length)=true:=by
      simp_all
     rw[yu]
     simp_all [cond_true,Qyf]
   ·cases h
  ·cases h
end
end Gx

/- The quiet operations are what the model does. -/
namespace Gx
open Go Go.RowKit Gd
set_option linter.unusedVariables false
set_option linter.unusedSimpArgs false
theorem No:∀(p q:List PS),Yi (p++q)=Yi p+Yi q
 | [],q=>by simp[Yi]
 | x::p,q=>by simp[Yi,No p q]; omega
def Br(β:Nat→Nat)(ρ:Nat→Value)(ok:Ok)(S:St)(a:Act)(w:World):Prop :=
 (∀e∈S.env,(enD β ρ a e).p ok w)∧∀id o,Qe S.mem id=some o→(Q0 β ρ id o).p ok w
theorem Rel.toW{X:Cx}{β:Nat→Nat}{ρ:Nat→Value}{S:St}{a:Act}{w:World}(h:Rel X β ρ S a w):Br β ρ (okR X β ρ S.mem w) S a w:=⟨fun _ he=>h.en he,fun _ _ ho=>(h.ob ho).1⟩
theorem Br.ev{β:Nat→Nat}{ρ:Nat→Value}{ok:Ok}{S:St}{a:Act}{w:World}(h:Br β ρ ok S a w){cur:Y4}(hc:Js a cur){x:Operand}{v:AV}(hx:ev S cur x=some v) :
  ∃cs,a.eval x=v.val cs∧cr β ρ ok w false v cs:=by
 cases x with
 | tmp t =>
  simp only[Gx.ev]at hx
  split at hx
  ·rename_i e he
   cases hb:Qvs e.cs cur with
   | false=>rw[hb]at hx; cases hx
   | true =>
    rw[hb]at hx
    simp at hx; subst hx
    have hr:=Qyt he a
    obtain⟨hm,rfl⟩:=Uy he
    obtain⟨cs,h1,h2⟩:=(h.1 _ hm).1 (Qdu hb hc)
    rw[hr]at h1
    exact⟨cs,by simp[Act.eval,h1],h2⟩
  ·cases hx
 | const v =>
  obtain⟨cs,h1,h2⟩:=Qox (β:=β) (ρ:=ρ) (ok:=ok) (w:=w) hx
  exact⟨cs,h1,h2⟩
 | func f =>
  simp[Gx.ev]at hx; subst hx
  exact⟨[.func (.func f) #[] #[]],rfl,[],rfl,rfl⟩
 | global g =>
  simp only[Gx.ev]at hx
  split at hx
  ·rename_i e he
   cases hb:Qvs e.cs cur with
   | false=>rw[hb]at hx; cases hx
   | true =>
    rw[hb]at hx
    simp at hx; subst hx
    obtain⟨hm,ht⟩:=Qjf he
    obtain⟨cs,h1,h2⟩:=(h.1 _ hm).1 (Qdu hb hc)
    rw[ht,Q31]at h1
    exact⟨cs,Option.some.inj h1,h2⟩
  ·cases hx
section
variable {P:Program} {Y:TX} {X:Cx} {β:Nat→Nat} {ρ:Nat→Value} {S:St} {a:Act} {w:World} {cur:Y4} {ok:Ok}
theorem Br.evs(h:Br β ρ ok S a w)(hc:Js a cur):∀{xs:List Operand} {l:AV},evs S cur xs=some l→cr β ρ (ok) w true l (xs.map a.eval)
 | [],l,hl=>by simp[Gx.evs]at hl; subst hl; rfl
 | x::xs,l,hl=>by
  simp only[Gx.evs]at hl
  split at hl
  ·rename_i v r hv hr
   simp at hl; subst hl
   obtain⟨cs,h1,h2⟩:=h.ev hc hv
   exact⟨cs,xs.map a.eval,by rw[QP,h1],h2,h.evs hc hr⟩
  ·cases hl
theorem Br.evParts(h:Br β ρ ok S a w)(hc:Js a cur):∀{xs:List (Nat×Operand)} {l:List (Nat×AV)},Y0 S cur xs=some l →
  Q9w (fun(p:Nat×AV) (q:Nat×Value)=>p.1=q.1∧∃c,q.2=p.2.val c∧cr β ρ (ok) w false p.2 c) l (xs.map fun p=>(p.1,a.eval p.2))
 | [],l,hl=>by simp[Y0]at hl; subst hl; exact .nil
 | (i,x)::xs,l,hl=>by
  simp only[Y0]at hl
  split at hl
  ·rename_i v r hv hr
   simp at hl; subst hl
   obtain⟨cs,h1,h2⟩:=h.ev hc hv
   exact .cons ⟨rfl,cs,h1,h2⟩ (h.evParts hc hr)
  ·cases hl
theorem bvT{α:Type}{b:Bool}{x:Option α}{y:α}(h:(bif b then x else none)=some y):b=true∧x=some y:=by
 grind
theorem bEq{a b:Bool}(h:(a==b)=true):a=b:=by simpa using h
theorem Br.mm(h:Br β ρ ok S a w):∀id o,Qe S.mem id=some o→(Q0 β ρ id o).p (ok) w:=h.2
theorem Br.asD(h:Br β ρ ok S a w)(hc:Js a cur){x:Operand}{v:AV}{t:Ty}{y:t.De}(hx:Gx.ev S cur x=some v)(hd:Gx.asD S.mem v t=some y)(ht:t.agg=v.isAgg) :
  isV (rt t) (ok) w y (a.eval x):=by
 obtain⟨cs,h1,h2⟩:=h.ev hc hx
 refine⟨cs,K4 h.mm hd h2,?_⟩
 rw[h1,AV.val,RT.val,Ld,ht]
 cases v.isAgg<;>rfl
theorem Br.asLs(h:Br β ρ ok S a w)(hc:Js a cur){u:Ty}:∀{ps:List (Nat×Operand)} {vs:List (Nat×AV)} {xs:List u.De} {j:Nat},Y0 S cur ps=some vs→Gx.asLs S.mem u vs j=some xs →
  ∃us:List Value,ps.map (fun p=>(p.1,a.eval p.2))=(List.range' j us.length).zip us∧Qr0 (rt u) ok w xs us∧us.length=xs.length
 | [],vs,xs,j,he,hx=>by
  simp[Y0]at he; subst he
  simp[Gx.asLs]at hx; subst hx
  exact⟨[],rfl,trivial,rfl⟩
 | (i,x)::ps,vs,xs,j,he,hx=>by
  simp only[Y0]at he
  split at he
  ·rename_i v l hv hl
   simp at he; subst he
   simp only[Gx.asLs]at hx
   obtain⟨hb,hx⟩:=bvT hx
   simp only[QQ]at hb
   have:=Nat.eq_of_beq_eq_true hb.1
   subst this
   split at hx
   ·rename_i y ys hy zu
    simp at hx; subst hx
    obtain⟨us,q1,q2,q3⟩:=Br.asLs h hc (u:=u) (ps:=ps) hl zu
    have p7:=h.asD hc hv hy (bEq hb.2)
    refine⟨a.eval x::us,?_,⟨p7,q2⟩,by simp[q3]⟩
    grind [List.length_cons,List.range'_succ,List.zip_cons_cons]
   ·cases hx
  ·cases he
theorem Qjl{τ:Type}{r:RT τ}{ok:Ok}{w:World}:∀{xs:List τ} {us:List Value},Qr0 r ok w xs us→∀v∈us,(Qu v).length=r.size
 | [],[],_,v,hv=>by cases hv
 | x::xs,y::us,h,v,hv=>by
  rcases QJ.1 hv with rfl | hv
  ·rw[r.len (Bo h.1)]
  ·exact Qjl h.2 v hv
 | [],_::_,h,_,_=>h.elim
 | _::_,[],h,_,_=>h.elim
theorem Qo1{τ:Type}{r:RT τ}{ok:Ok}{w:World}:∀{xs:List τ} {us:List Value},Qr0 r ok w xs us→Ku r ok w xs (us.flatMap Qu)
 | [],[],_=>rfl
 | x::xs,y::us,h=>⟨Qu y,us.flatMap Qu,by simp,Bo h.1,Qo1 h.2⟩
 | [],_::_,h=>h.elim
 | _::_,[],h=>h.elim
theorem Qy4{s:Nat}:∀(vs:List Value) (j:Nat) (cs:List Value),(∀v∈vs,(Qu v).length=s)→(j+vs.length)*s≤cs.length →
  Ni (Qbi s) cs ((List.range' j vs.length).zip vs)=some (cs.take (j*s)++vs.flatMap Qu++cs.drop ((j+vs.length)*s))
 | [],j,cs,_,_=>by simp[Ni]
 | v::vs,j,cs,hv,hl=>by
  have h1:=hv v (.head _)
  simp only[List.length_cons]at hl ⊢
  have e0:(j+(vs.length+1))*s=j*s+s+vs.length*s:=by rw[Nat.add_mul,Nat.add_mul]; omega
  rw[e0]at hl
  simp only[List.range'_succ,List.zip_cons_cons,Ni,Qbi,h1]
  have hb:(Nat.beq s s&&Nat.ble (j*s+s) cs.length)=true:=by
   simp only[QQ]
   grind [Nat.beq_refl,Nat.ble_eq_true_of_le]
  simp only[hb,cond_true]
  have hlay:(Qyf cs (j*s) (Qu v)).length=cs.length:=by grind [Qyf]
  have e1:(j+1+vs.length)*s=j*s+s+vs.length*s:=by rw[Nat.add_mul,Nat.add_mul]; omega
  have e2:(j+1)*s=j*s+s:=by rw[Nat.add_mul]; omega
  have:=Qy4 vs (j+1) (Qyf cs (j*s) (Qu v)) (fun u hu=>hv u (.tail _ hu)) (by rw[hlay,e1]; omega)
  rw[this,e1,e2,e0]
  simp only[Qyf,JA]
  have hA:(cs.take (j*s)++Qu v).length=j*s+s:=by grind
  congr 1
  rw[JO (by rw[hA]; omega),List.take_of_length_le (by rw[hA]; omega)]
  rw[List.drop_append,hA,JR (by rw[hA]; omega),QU,h1,List.drop_drop]
  simp_all
theorem Qlj{a:Act}{cur:Y4}(hc:Js a cur){c:Operand}{b:Bool}(hb:a.eval c=.bool b):Js a (Q6s cur c b):=by
 unfold Q6s
 split
 ·rename_i t
  intro x hx
  rcases QJ.1 hx with rfl | hx
  ·simp only[Act.eval]at hb
   simp only
   rw[QN]at hb
   grind [undef]
  ·exact hc x hx
 ·exact hc
theorem Jd3{c:Bool}{x y:Option AV}{v:AV}{β:Nat→Nat}{ρ:Nat→Value}{ok:Ok}{w:World}{u1 u2:Value}
  (hx:c=true→∀v,x=some v→∃cs,u1=v.val cs∧cr β ρ ok w false v cs) (hy:c=false→∀v,y=some v→∃cs,u2=v.val cs∧cr β ρ ok w false v cs)
  (h:Jd1 c x y=some v):∃cs,(if c=true then u1 else u2)=v.val cs∧cr β ρ ok w false v cs:=by
 unfold Jd1 at h
 split at h
 ·grind
 ·rename_i k p k' q
  cases hk:Pw k k' with
  | false=>rw[hk]at h; cases h
  | true =>
   rw[hk]at h
   have:=Cn hk
   grind
 grind
theorem Fi(hT:Q6 P Y.T){t:TypeId}{e:TE}(he:Qh Y.T t=some e){b o:Nat}{y:AV}{cs:List Value}(hs:e.size=cs.length)(ha:Xu e.d=y.isAgg)(h1:y.isAgg=false→cs.length=1)
  (hc:∀(j:Nat) u,cs[j]?=some u→w.cell? ⟨b,o+j,none⟩=some u):(Instr.loadAt t (.pointer (some ⟨b,o,none⟩))).run P w=.ok (y.val cs) w:=by
 have:=Qg5 hT w he b o cs hs.symm (fun h=>h1 (by rw[←ha,h])) hc
 grind [Instr.loadAt,Instr.sureAddr,Sem.run_bind,Sem.run_pure,Result.andThen_ok,AV.val]
theorem Qhm{ok:Ok}{w:World}:∀{t:Ty} {x:t.De} {vs cs:List Value},Nn t x=some vs→(rt t).rep ok w x cs→cs=vs
 | .int k,x,vs,cs,h,hc=>by simp[Nn]at h; subst h; exact hc
 | .bool,x,vs,cs,h,hc=>by simp[Nn]at h; subst h; exact hc
 | .str,x,vs,cs,h,hc=>by simp[Nn]at h; subst h; exact hc
 | .unit,x,vs,cs,h,hc=>by simp[Nn]at h; subst h; exact hc
 | .pr f r,x,vs,cs,h,hc=>by
  obtain⟨c1,c2,rfl,h1,h2⟩:=hc
  simp only[Nn]at h
  split at h
  ·rename_i p q hp hq
   simp at h; subst h
   rw[Qhm hp h1,Qhm hq h2]
  ·cases h
 | .st fs,x,vs,cs,h,hc=>Qhm (t:=fs) h hc
 | .sl e,x,vs,cs,h,hc=>by simp[Nn]at h
 | .arr n e,x,vs,cs,h,hc=>by simp[Nn]at h
 | .ref,x,vs,cs,h,hc=>by simp[Nn]at h
 | .rose fs,x,vs,cs,h,hc=>by simp[Nn]at h
theorem P1:∀{x:AV} {vs cs:List Value},Zc x=some vs→cr β ρ ok w false x cs→cs=vs
 | .d t x,vs,cs,h,hc=>Qhm h hc
 | .ag l,vs,cs,h,hc=>P1 (x:=l) h hc
 | .nil,vs,cs,h,hc=>by simp[Zc]at h; subst h; exact hc
 | .cons x r,vs,cs,h,hc=>by
  obtain⟨c1,c2,rfl,h1,h2⟩:=hc
  simp only[Zc]at h
  split at h
  ·rename_i p q hp hq
   simp at h; subst h
   rw[P1 hp h1,P1 hq h2]
  ·cases h
 | .p ..,vs,cs,h,hc=>by simp[Zc]at h
 | .e ..,vs,cs,h,hc=>by simp[Zc]at h
 | .s ..,vs,cs,h,hc=>by simp[Zc]at h
 | .m ..,vs,cs,h,hc=>by simp[Zc]at h
 | .b ..,vs,cs,h,hc=>by simp[Zc]at h
 | .w ..,vs,cs,h,hc=>by simp[Zc]at h
 | .a ..,vs,cs,h,hc=>by simp[Zc]at h
 | .z,vs,cs,h,hc=>by simp[Zc]at h
 | .ns,vs,cs,h,hc=>by simp[Zc]at h
 | .np,vs,cs,h,hc=>by simp[Zc]at h
 | .nm,vs,cs,h,hc=>by simp[Zc]at h
 | .nf,vs,cs,h,hc=>by simp[Zc]at h
 | .f ..,vs,cs,h,hc=>by simp[Zc]at h
 | .tp ..,vs,cs,h,hc=>by simp[Zc]at h
theorem Jd4{T:Tab}(hT:Q6 P T){op:BinOp}{t:TypeId}{x y:Operand}{yt:TypeId}{neg:Bool}{us vs:List Value}{fs:List Field}{t1:TypeId}{z1:Value}{s1 b1:Nat}
  (wv:Q9v op=some neg) (ht:Qh T t=some ⟨t1,.struct ⟨fs⟩,z1,s1,b1⟩) (wh:Og fs=true) {r:Bool} (hr:Qoo T fs us vs=some r) {a:Act}
  (hx:a.eval x=.agg us.toArray) (hy:a.eval y=.agg vs.toArray):(execOp a.eval ⟨none,.binOp op t x y yt,0, "",#[],none⟩).run P w=.ok (.value (.bool (bif neg then !r else r))) w:=by
 have hu:=(Jq hT ht).2
 obtain⟨zj,heg⟩:=Qye hT ht
 have hf:P.fieldsOf t=⟨fs⟩:=by simp[Program.fieldsOf,hu]
 have heq:(Op.equal t (.agg ⟨us⟩) (.agg ⟨vs⟩)).run P w=.ok r w:=by
  have:=run_equalIn_struct (P:=P) w 9999 t ⟨us⟩ ⟨vs⟩ (by rw[hf,hu]) zj
  rw[hf]at this
  show(Op.equalIn 10000 t _ _).run P w=_
  rw[this]
  grind [Qvq]
 unfold Q9v at wv
 split at wv
 ·simp_all [execOp,eqGuard,binOp]
 ·simp_all [execOp,eqGuard,binOp]
 ·cases wv
theorem Q6t{M:List (Nat×Ob)}(hM:∀id o,Qe M id=some o→(Q0 β ρ id o).p ok w){id:Nat}{k v:Ty}{xs:List (k.De×v.De)}(h:Jiy (Qe M id)=some ⟨k,v,xs⟩) :
  ∃es clock,w.heap[β id]?=some (.map es clock)∧Dr (rt k) (rt v) ok w xs es.toList:=by
 unfold Jiy at h
 split at h
 ·rename_i k' v' xs' ho
  simp at h
  obtain⟨rfl,h⟩:=h
  have h:=eq_of_heq h
  injection h with h1 h2
  subst h1
  have h2:=eq_of_heq h2
  subst h2
  obtain⟨es,clock,q1,q2,_⟩:=hM _ _ ho
  grind
 ·cases h
theorem Ji0{op:BinOp}{neg:Bool}(h:Q9v op=some neg):op=bif neg then .neq else .eql:=by
 cases op<;>simp[Q9v]at h<;>subst h<;>rfl
theorem Ji1{t el:TypeId}{q:Option Addr}(hu:(underlying t).run P w=.ok (.pointer el) w):(Op.equal t (.pointer q) (.pointer none)).run P w=.ok q.isNone w:=by
 show(Op.equalIn (9999+1) t _ _).run P w=_
 rw[Op.equalIn]
 cases q<;>simp[Sem.run_bind,hu]
theorem Ji2{t k el:TypeId}{q:Option Nat}(hu:(underlying t).run P w=.ok (.map k el) w):(Op.equal t (.map q) (.map none)).run P w=.ok q.isNone w:=by
 show(Op.equalIn (9999+1) t _ _).run P w=_
 rw[Op.equalIn]
 cases q<;>simp[Sem.run_bind,hu]
theorem Q6u{t:TypeId}{p r:Array TypeId}{v:Bool}(hu:(underlying t).run P w=.ok (.func p r v) w){x:Value}{b:Bool}(hx:(x=.nilFunc∧b=true)∨(∃f c s,x=.func f c s)∧b=false):(Op.equal t x .nilFunc).run P w=.ok b w:=by
 show(Op.equalIn (9999+1) t _ _).run P w=_
 rw[Op.equalIn]
 rcases hx with⟨rfl,rfl⟩ | ⟨⟨f,c,s,rfl⟩,rfl⟩<;>simp[Sem.run_bind,hu]
theorem Ji3(hT:Q6 P Y.T){op:BinOp}{t yt:TypeId}{X1 Y1:Operand}{x y:AV}{b:Bool}{c1 c2:List Value}(h:Jnp Y.T op t x y=some b)(hx:cr β ρ ok w false x c1)(hy:cr β ρ ok w false y c2)
  (h1:a.eval X1=x.val c1) (h2:a.eval Y1=y.val c2) :
  (execOp a.eval ⟨none,.binOp op t X1 Y1 yt,0, "",#[],none⟩).run P w=.ok (.value (.bool b)) w:=by
 unfold Jnp at h
 split at h
 ·rename_i neg te wv ku
  have ko:=Ji0 wv
  have hu:=Ju hT w ku
  split at h
  ·rename_i el hd
   obtain⟨hb,h⟩:=bvT h
   have fa:y=.np:=by cases y<;>simp[Jpa]at hb; rfl
   subst fa
   have qv:c2=[.pointer none]:=hy
   subst qv
   have zb:a.eval Y1=.pointer none:=h2
   split at h
   ·rename_i bb ue
    injection h with h; subst h
    have key:∃q,a.eval X1=.pointer q∧bb=q.isNone:=by
     cases x<;>simp[Jo7]at ue<;>subst ue
     ·have wq:c1=_:=hx
      subst wq; exact⟨_,h1,rfl⟩
     ·obtain⟨g,_,wq⟩:=hx
      subst wq; exact⟨_,h1,rfl⟩
     ·obtain⟨v,wq,hv⟩:=hx
      obtain⟨b0,o0,c0,rfl,_⟩:=hv
      subst wq; exact⟨_,h1,rfl⟩
     ·have wq:c1=_:=hx
      grind
    obtain⟨q,hq,hbq⟩:=key
    subst hbq
    rw[hd]at hu
    have hr:=Ji1 (P:=P) (w:=w) (q:=q) hu
    unfold execOp
    cases neg<;>subst ko<;>simp[hq,zb,eqGuard,binOp,hr]
   ·cases h
  ·rename_i kt et hd
   obtain⟨hb,h⟩:=bvT h
   have fa:y=.nm:=by cases y<;>simp[Jpb]at hb; rfl
   subst fa
   have qv:c2=[.map none]:=hy
   subst qv
   have zb:a.eval Y1=.map none:=h2
   split at h
   ·rename_i bb ue
    injection h with h; subst h
    have key:∃q,a.eval X1=.map q∧bb=q.isNone:=by
     cases x<;>simp[Jo8]at ue<;>subst ue
     ·have wq:c1=_:=hx
      subst wq; exact⟨_,h1,rfl⟩
     ·have wq:c1=_:=hx
      grind
    obtain⟨q,hq,hbq⟩:=key
    subst hbq
    rw[hd]at hu
    have hr:=Ji2 (P:=P) (w:=w) (q:=q) hu
    unfold execOp
    cases neg<;>subst ko<;>simp[hq,zb,eqGuard,binOp,hr]
   ·cases h
  ·rename_i p1 p2 p3 hd
   obtain⟨hb,h⟩:=bvT h
   have fa:y=.nf:=by cases y<;>simp[Jpc]at hb; rfl
   subst fa
   have qv:c2=[.nilFunc]:=hy
   subst qv
   have zb:a.eval Y1=.nilFunc:=h2
   split at h
   ·rename_i bb ue
    injection h with h; subst h
    rw[hd]at hu
    cases x<;>simp[Jo9]at ue<;>subst ue
    ·have wq:c1=_:=hx
     subst wq
     have k8:a.eval X1=.nilFunc:=h1
     have hr:=Q6u (P:=P) (w:=w) hu (.inl ⟨rfl,rfl⟩)
     unfold execOp
     cases neg<;>subst ko<;>simp[k8,zb,eqGuard,binOp,hr]
    ·rename_i f0 cp0
     obtain⟨vs,wq,_⟩:=hx
     subst wq
     have k8:a.eval X1=.func (.func f0) #[] vs.toArray:=h1
     have hr:=Q6u (P:=P) (w:=w) hu (x:=.func (.func f0) #[] vs.toArray) (b:=false) (.inr ⟨⟨_,_,_,rfl⟩,rfl⟩)
     unfold execOp
     cases neg<;>subst ko<;>simp[k8,zb,eqGuard,binOp,hr]
   ·cases h
  ·cases h
 ·cases h
theorem Qhn(hT:Q6 P Y.T)(h:Br β ρ ok S a w)(hc:Js a cur){o:Oper}{x:AV}(hv:Qhl Y S cur o.op=some x) :
  ∃cs,(execOp a.eval o).run P w=.ok (.value (x.val cs)) w∧cr β ρ (ok) w false x cs:=by
 have hM:∀id o,Qe S.mem id=some o→(Q0 β ρ id o).p (ok) w:=h.2
 unfold execOp
 generalize o.op=op at hv
 unfold Qhl at hv
 split at hv
 ·
  obtain⟨cs,h1,h2⟩:=h.ev hc hv
  exact⟨cs,by simp_all,h2⟩
 ·obtain⟨cs,h1,h2⟩:=h.ev hc hv
  exact⟨cs,by simp_all,h2⟩
 ·
  rename_i c p q
  split at hv
  ·rename_i v wm
   obtain⟨cs0,h1,h2⟩:=h.ev hc wm
   have zb:cs0=[.bool v]:=h2
   subst zb
   have hb:a.eval c=.bool v:=h1
   obtain⟨cs,h3,h4⟩:=Jd3 (u1:=a.eval p) (u2:=a.eval q)
    (fun e u hu=>h.ev (Qlj hc (hb.trans (by rw[e]))) hu) (fun e u hu=>h.ev (Qlj hc (hb.trans (by rw[e]))) hu) hv
   refine⟨cs,?_,h4⟩
   simp only[hb]
   rw[←h3]
   cases v<;>simp[asBool]
  ·cases hv
 ·
  split at hv
  ·rename_i x1 x2 xy qw
   split at hv
   ·rename_i u v hu hw
    split at hv
    ·rename_i r hr
     obtain⟨c1,h1,h2⟩:=h.ev hc xy
     obtain⟨c2,h3,h4⟩:=h.ev hc qw
     rw[Q34 hu h2]at h1
     rw[Q34 hw h4]at h3
     obtain⟨cs,h5,h6⟩:=Qy1 (β:=β) (ρ:=ρ) (ok:=ok) (w:=w) hv
     refine⟨cs,?_,h6⟩
     simp only[h1,h3]
     rw[←h5]
     simp[Qvm hr,Q9h hT hr]
    ·cases hv
   ·split at hv
    ·rename_i b hb
     simp at hv; subst hv
     obtain⟨c1,h1,h2⟩:=h.ev hc xy
     obtain⟨c2,h3,h4⟩:=h.ev hc qw
     exact⟨[.bool b],Ji3 (yt:=0) hT hb h2 h4 h1 h3,rfl⟩
    split at hv
    ·rename_i neg t1 fs z1 s1 b1 us vs wv ht sr uf
     cases hb:(Og fs&&x1.isAgg&&x2.isAgg)with
     | false=>rw[hb]at hv; cases hv
     | true =>
     rw[hb]at hv
     simp only[cond_true]at hv
     simp only[QQ]at hb
     split at hv
     ·rename_i r hr
      simp at hv; subst hv
      obtain⟨c1,h1,h2⟩:=h.ev hc xy
      obtain⟨c2,h3,h4⟩:=h.ev hc qw
      have e1:=P1 sr h2
      have e2:=P1 uf h4
      subst e1; subst e2
      have f1:x1.val c1=.agg c1.toArray:=by grind [AV.val]
      have f2:x2.val c2=.agg c2.toArray:=by grind [AV.val]
      rw[f1]at h1; rw[f2]at h3
      exact⟨[.bool (bif neg then !r else r)],Jd4 hT (yt:=0) wv ht hb.1.1 hr h1 h3,rfl⟩
     ·cases hv
    ·cases hv
  ·cases hv
 ·
  split at hv
  ·rename_i x1 xy
   split at hv
   ·rename_i u hu
    split at hv
    ·rename_i r hr
     obtain⟨c1,h1,h2⟩:=h.ev hc xy
     rw[Q34 hu h2]at h1
     simp_all [Qy1,Jdo]
    ·cases hv
   ·cases hv
  ·cases hv
 ·
  split at hv
  ·rename_i _ _ _ _ k _ _ _ _ n hs ht hx
   simp at hv; subst hv
   obtain⟨c1,h1,h2⟩:=h.ev hc hx
   have zb:c1=_:=h2
   subst zb
   refine⟨[.int k (k.wrap n)],?_,rfl⟩
   have k8:a.eval _=.int _ n:=h1
   simp[convert,Ju hT w hs,Ju hT w ht,k8,Conv.intToInt,AV.val,AV.isAgg,Ty.agg]
  ·cases hv
 ·
  rename_i sT xo fI
  split at hv
  ·rename_i fs _ _ _ x1 hs hx
   split at hv
   ·rename_i fd hf
    split at hv
    ·rename_i y e hn he
     cases hb:(Nat.beq e.size y.size&&(Xu e.d==y.isAgg)&&x1.isAgg&&y.isVal&&(y.isAgg||Nat.beq y.size 1))with
     | false=>rw[hb]at hv; cases hv
     | true =>
      rw[hb]at hv
      simp at hv; subst hv
      simp only[QQ]at hb
      obtain⟨⟨⟨⟨b1,b2⟩,b3⟩,b4⟩,b5⟩:=hb
      have b1:=Nat.eq_of_beq_eq_true b1
      have b2:=bEq b2
      obtain⟨c1,h1,h2⟩:=h.ev hc hx
      obtain⟨h3,h4⟩:=Qfs hn h2
      have z7:∀k,Yi [PS.f k fd.offset]=fd.offset:=fun k=>by simp[Yi,PS.off]
      rw[z7]at h3 h4
      refine⟨_,?_,h3⟩
      have k8:a.eval xo=.agg c1.toArray:=by rw[h1]; simp[AV.val,b3]
      simp only[k8]
      have vi:(part fd.type c1.toArray fd.offset).run P w=.ok (y.val ((c1.drop fd.offset).take y.size)) w:=by
       grind [Qoi,AV.val,Nat.eq_of_beq_eq_true,List.drop_eq_getElem_cons,List.getElem?_eq_getElem]
      simp[Instr.field,Ju hT w hs,hf,asAgg,vi]
    ·cases hv
   ·cases hv
  ·cases hv
 ·
  rename_i sT xo fI
  split at hv
  ·rename_i fs _ _ _ x1 hs hx
   split at hv
   ·rename_i off hfo
    obtain⟨fd,hfd,rfl,e,he,zk⟩:=Qyg hfo
    obtain⟨c1,h1,h2⟩:=h.ev hc hx
    have key:∀b o,a.eval xo=.pointer (some ⟨b,o,none⟩)→(Instr.fieldAt sT (a.eval xo) fI).run P w=.ok (.pointer (some ⟨b,o+fd.offset,none⟩)) w:=fun b o qu=>by
     rw[qu]
     simp[Instr.fieldAt,Ju hT w hs,hfd,Instr.sureAddr,fieldPlace,Addr.add_lit,J5 hT w he,zk]
    split at hv
    ·rename_i id path
     simp at hv; subst hv
     have zb:c1=_:=h2
     subst zb
     refine⟨[.pointer (some ⟨β id,Yi path+fd.offset,none⟩)],?_,?_⟩
     ·dsimp only
      simp only[Sem.run_bind]
      rw[key _ _ h1]
      rfl
     ·show [_]=[_]
      rw[No]
      simp[Yi,PS.off]
    ·rename_i id path
     simp at hv; subst hv
     obtain⟨g,hg,rfl⟩:=h2
     refine⟨[.pointer (some ⟨g,Yi path+fd.offset,none⟩)],?_,g,hg,?_⟩
     ·dsimp only
      simp only[Sem.run_bind]
      rw[key _ _ h1]
      rfl
     simp[No,Yi,PS.off]
    ·rename_i t y
     split at hv
     ·rename_i u z hn
      simp at hv; subst hv
      obtain⟨v,rfl,b,o',cs,rfl,hr,xg⟩:=h2
      obtain⟨h3,h4⟩:=Qfs (β:=β) (ρ:=ρ) hn hr
      have z7:∀k,Yi [PS.f k fd.offset]=fd.offset:=fun k=>by simp[Yi,PS.off]
      rw[z7]at h3 h4
      refine⟨[.pointer (some ⟨b,o'+fd.offset,none⟩)],?_,_,rfl,b,_,_,rfl,h3,?_⟩
      ·dsimp only
       simp only[Sem.run_bind]
       rw[key _ _ h1]
       rfl
      ·intro j q hj
       have tr:j<(AV.d u z).size:=by
        have:=(List.getElem?_eq_some_iff.1 hj).1
        grind
       rw[List.getElem?_take_of_lt tr,JX]at hj
       have:=xg _ _ hj
       rw[←Nat.add_assoc]at this
       exact this
     ·cases hv
    ·cases hv
   ·cases hv
  ·cases hv
 ·
  split at hv
  ·rename_i e id path he hx
   split at hv
   ·rename_i tid c ho
    split at hv
    ·rename_i y hn
     cases hb:(Nat.beq e.size y.size&&(Xu e.d==y.isAgg)&&y.isVal&&(y.isAgg||Nat.beq y.size 1))with
     | false=>rw[hb]at hv; cases hv
     | true =>
      rw[hb]at hv
      simp at hv; subst hv
      simp only[QQ]at hb
      obtain⟨⟨⟨b1,b2⟩,b3⟩,b4⟩:=hb
      have b1:=Nat.eq_of_beq_eq_true b1
      have b2:=bEq b2
      obtain⟨c1,h1,h2⟩:=h.ev hc hx
      have zb:c1=_:=h2
      subst zb
      obtain⟨cs,hh,tt⟩:=hM _ _ ho
      obtain⟨h3,h4⟩:=Qfs hn tt
      have hlen:=Ux h3
      refine⟨_,?_,h3⟩
      have k8:a.eval _=.pointer (some ⟨β id,Yi path,none⟩):=h1
      simp only[k8,Sem.run_bind]
      rw[Fi hT he (y:=y) (cs:=(cs.drop (Yi path)).take y.size) (by rw[hlen]; exact b1) b2 (fun ha=>by
       rw[ha]at b4
       rw[hlen]; grind [Nat.eq_of_beq_eq_true]) (fun j u hu=>by
        grind [List.getElem?_eq_some_iff,List.getElem?_take_of_lt,World.cell?])]
      rfl
    ·cases hv
   ·cases hv
  ·rename_i e t y he hx
   cases hb:(Nat.beq e.size t.size&&(Xu e.d==t.agg))with
   | false=>rw[hb]at hv; cases hv
   | true =>
    rw[hb]at hv
    simp at hv; subst hv
    simp only[QQ]at hb
    have b1:=Nat.eq_of_beq_eq_true hb.1
    have b2:=bEq hb.2
    obtain⟨c1,h1,h2⟩:=h.ev hc hx
    obtain⟨v,rfl,b,o',cs,rfl,hr,xg⟩:=h2
    have hlen:cs.length=t.size:=by rw[(rt t).len hr,Jf]
    refine⟨cs,?_,hr⟩
    have k8:a.eval _=.pointer (some ⟨b,o',none⟩):=h1
    simp only[k8,Sem.run_bind]
    rw[Fi hT he (y:=.d t y) (cs:=cs) (by rw[hlen,b1]) b2 (fun ha=>by rw[hlen]; exact Jdw ha) (fun j u hu=>(xg j u hu).2)]
    rfl
  ·cases hv
 ·
  split at hv
  ·rename_i l hx
   obtain⟨c1,h1,vs,rfl,hl⟩:=h.ev hc hx
   obtain⟨cs,h3,h4⟩:=Jd2 hv hl
   refine⟨cs,?_,h4⟩
   have k8:a.eval _=.tuple vs.toArray:=h1
   simp[k8,Instr.extract,h3]
  ·cases hv
 ·
  split at hv
  ·rename_i e x1 he hx
   obtain⟨c1,h1,h2⟩:=h.ev hc hx
   split at hv
   ·rename_i hd
    split at hv
    ·cases hv
    ·rename_i hns
     split at hv
     ·rename_i n hn
      simp at hv; subst hv
      obtain⟨A,c,yg⟩:=Jiz hM hn hns h2
      refine⟨[.int .i64 n],?_,rfl⟩
      rw[yg]at h1
      simp[resolve,invoke,builtin,Builtin.len_,Ju hT w he,hd,h1,goInt,AV.val,AV.isAgg,Ty.agg]
     ·cases hv
   ·rename_i hd
    split at hv
    ·rename_i l
     simp at hv; subst hv
     have zb:c1=_:=h2
     subst zb
     refine⟨[.int .i64 l.length],?_,rfl⟩
     have k8:a.eval _=Yg l:=h1
     simp[resolve,invoke,builtin,Builtin.len_,Ju hT w he,hd,k8,goInt,AV.val,AV.isAgg,Ty.agg,Yg,Jdp]
    ·cases hv
   ·rename_i kt et hd
    split at hv
    ·rename_i id
     split at hv
     ·rename_i k v xs hm
      simp at hv; subst hv
      obtain⟨es,clock,q1,q2⟩:=Q6t hM hm
      have zb:c1=_:=h2
      subst zb
      have k8:a.eval _=.map (some (β id)):=h1
      have hlen:es.size=xs.length:=by
       have:∀{xs:List (k.De×v.De)} {es:List MapEntry},Dr (rt k) (rt v) ok w xs es→es.length=xs.length:=by
        intro xs
        induction xs with
        | nil=>intro es h; rw[show es=[]from h]; rfl
        | cons x xs ih=>rintro es ⟨e,es',rfl,_,_,h⟩; simp[ih h]
       rw[←this q2]; simp
      refine⟨[.int .i64 xs.length],?_,rfl⟩
      simp[resolve,invoke,builtin,Builtin.len_,Ju hT w he,hd,k8,goInt,AV.val,AV.isAgg,Ty.agg,MapKept.run_getObj_map q1,hlen]
     ·cases hv
    ·simp at hv; subst hv
     have zb:c1=_:=h2
     subst zb
     have k8:a.eval _=.map none:=h1
     refine⟨[.int .i64 0],?_,rfl⟩
     simp[resolve,invoke,builtin,Builtin.len_,Ju hT w he,hd,k8,goInt,AV.val,AV.isAgg,Ty.agg]
    ·cases hv
   ·cases hv
  ·cases hv
 ·
  split at hv
  ·rename_i x1 x2 xy qw
   split at hv
   ·rename_i k p _ q mn mo
    simp at hv; subst hv
    have e1:=Cr mn
    have e2:=Cr mo
    subst e1; subst e2
    obtain⟨c1,h1,h2⟩:=h.ev hc xy
    obtain⟨c2,h3,h4⟩:=h.ev hc qw
    have zb:c1=_:=h2
    have qx:c2=_:=h4
    subst zb; subst qx
    refine⟨[.int k (if q>p then q else p)],?_,rfl⟩
    have k8:a.eval _=.int k p:=h1
    have u5:a.eval _=.int _ q:=h3
    simp[resolve,invoke,builtin,Builtin.max_,Builtin.max2,k8,u5,AV.val,AV.isAgg,Ty.agg]
   ·cases hv
  ·cases hv
 ·
  split at hv
  ·rename_i x1 x2 xy qw
   split at hv
   ·rename_i k p _ q mn mo
    simp at hv; subst hv
    have e1:=Cr mn
    have e2:=Cr mo
    subst e1; subst e2
    obtain⟨c1,h1,h2⟩:=h.ev hc xy
    obtain⟨c2,h3,h4⟩:=h.ev hc qw
    have zb:c1=_:=h2
    have qx:c2=_:=h4
    subst zb; subst qx
    refine⟨[.int k (if q<p then q else p)],?_,rfl⟩
    have k8:a.eval _=.int k p:=h1
    have u5:a.eval _=.int _ q:=h3
    simp[resolve,invoke,builtin,Builtin.min_,Builtin.min2,k8,u5,AV.val,AV.isAgg,Ty.agg]
   ·cases hv
  ·cases hv
 ·
  split at hv
  ·rename_i x1 x2 x3 xy qw hx3
   split at hv
   ·rename_i k p _ q _ r mn mo hi3
    simp at hv; subst hv
    have e1:=Cr mn
    have e2:=Cr mo
    have e3:=Cr hi3
    subst e1; subst e2; subst e3
    obtain⟨c1,h1,h2⟩:=h.ev hc xy
    obtain⟨c2,h3,h4⟩:=h.ev hc qw
    obtain⟨c3,h5,h6⟩:=h.ev hc hx3
    have zb:c1=_:=h2
    have qx:c2=_:=h4
    have h6':c3=_:=h6
    subst zb; subst qx; subst h6'
    refine⟨[.int k (if r<(if q<p then q else p)then r else(if q<p then q else p))],?_,rfl⟩
    have k8:a.eval _=.int k p:=h1
    have u5:a.eval _=.int _ q:=h3
    have h5':a.eval _=.int _ r:=h5
    simp[resolve,invoke,builtin,Builtin.min_,Builtin.min2,k8,u5,h5',AV.val,AV.isAgg,Ty.agg]
   ·cases hv
  ·cases hv
 ·
  rename_i tT parts
  split at hv
  ·rename_i _ fs z _ _ ty hs hty
   split at hv
   ·rename_i l ps vs hz hp uf
    split at hv
    ·rename_i l' mf
     simp at hv; subst hv
     have mq:=Qol hT hp
     have hpr:=run_places (P:=P) w fs ps mq
     obtain⟨cs',h5,h6⟩:=Qy3 ps mf (I7 (x:=.ag l) hz) (h.evParts hc uf)
     have hf:=Px _ h5
     refine⟨cs',?_,h6⟩
     simp only[Instr.build,Sem.run_bind,Vx hT w hs,Ju hT w hs,Result.andThen_ok]
     simp only[XP,Sem.run_map,bind_pure_comp,hpr,Result.andThen_ok]
     simp_all [Instr.fill,Vk,Nat,Operand,AV.val,AV.isAgg]
    ·cases hv
   ·cases hv
  ·rename_i _ _ e z _ _ m u hs hty
   split at hv
   ·split at hv
    ·rename_i ee x he hz
     obtain⟨hb,hv⟩:=bvT hv
     simp at hv; subst hv
     refine⟨Qu z,?_,I7 hz⟩
     simp only[Instr.build,Sem.run_bind,Vx hT w hs,Ju hT w hs,J5 hT w he,Result.andThen_ok]
     simp[Instr.fill,AV.val,hb,Vk]
    ·cases hv
   ·rename_i p0 ps0
    generalize p0::ps0=parts at *
    split at hv
    ·rename_i ee vs he uf
     split at hv
     ·rename_i xs xp
      obtain⟨hb,hv⟩:=bvT hv
      simp only[QQ]at hb
      simp at hv; subst hv
      have kg:=Nat.eq_of_beq_eq_true hb.1.1
      have xm:=Nat.eq_of_beq_eq_true hb.1.2
      have xa:=Nat.eq_of_beq_eq_true hb.2
      obtain⟨us,q1,q2,q3⟩:=h.asLs hc uf xp
      have xg:=Qjl q2
      rw[Jf]at xg
      have zt:=Qy4 us 0 (Qu z) xg (by rw[xa,QV,q3,xm]; grind)
      rw[←q1]at zt
      simp only[XI,XM,QU,QV]at zt
      rw[JR (by rw[xa,q3,xm]; grind),QH]at zt
      have hf:=Px _ zt
      rw[←kg,Vk]at hf
      refine⟨us.flatMap Qu,?_,xm,Qo1 q2⟩
      have hm:((Array.mk parts).map fun(x:Nat×Operand)=>(x.1,a.eval x.2)).toList=parts.map fun p=>(p.1,a.eval p.2):=by simp
      simp only[Instr.build,Sem.run_bind,Vx hT w hs,Ju hT w hs,J5 hT w he,Result.andThen_ok]
      have hf':Instr.fill (fun i=>some (i*ee.size,ee.size)) z.cells (parts.map fun p=>(p.1,a.eval p.2))=some (us.flatMap Qu).toArray:=by
       have:(parts.map fun p=>(p.1,a.eval p.2))=List.map (fun p=>(p.fst,a.eval p.snd)) parts:=rfl
       show Instr.fill (Qbi ee.size) z.cells _=_
       simpa using hf
      rw[hm,hf']
      simp[AV.val,AV.isAgg,Ty.agg]
     ·cases hv
    ·cases hv
  ·cases hv
 ·
  rename_i x
  split at hv
  ·rename_i id path hx
   simp at hv; subst hv
   obtain⟨c1,h1,h2⟩:=h.ev hc hx
   refine⟨c1,?_,h2⟩
   have zb:c1=_:=h2
   subst zb
   have k8:a.eval x=.pointer (some ⟨β id,Yi path,none⟩):=h1
   simp[k8,AV.val,AV.isAgg]
  ·rename_i id path hx
   simp at hv; subst hv
   obtain⟨c1,h1,g,h2,h3⟩:=h.ev hc hx
   refine⟨c1,?_,g,h2,h3⟩
   simp_all [Yi,AV.val,AV.isAgg]
  ·rename_i t y hx
   simp at hv; subst hv
   obtain⟨c1,h1,v1,h2,h3⟩:=h.ev hc hx
   refine⟨c1,?_,v1,h2,h3⟩
   obtain⟨b,o,c,rfl,_⟩:=h3
   simp_all [AV.val,AV.isAgg]
  ·rename_i fn caps hx
   simp at hv; subst hv
   obtain⟨c1,h1,vs,h2,h3⟩:=h.ev hc hx
   refine⟨c1,?_,vs,h2,h3⟩
   simp_all [AV.val,AV.isAgg]
  ·cases hv
 ·
  rename_i f caps
  split at hv
  ·rename_i l hl
   simp at hv; subst hv
   refine⟨[.func (.func f) #[] (caps.map a.eval).toArray],?_,_,rfl,h.evs hc hl⟩
   simp[Instr.makeFunc,AV.val,AV.isAgg]
  ·cases hv
 ·
  rename_i t x ix c
  split at hv
  ·rename_i te id iv ku hx hix
   split at hv
   ·rename_i kt et k v xs kr ug
    split at hv
    ·rename_i tk tz key xz fb yi
     split at hv
     ·rename_i za mr
      split at hv
      ·rename_i z hz
       cases hb:(Y5 Y.T k tk.d&&(k.agg==iv.isAgg)&&(v.agg==Qo0 tz.z))with
       | false=>rw[hb]at hv; cases hv
       | true =>
       rw[hb]at hv
       simp only[cond_true,Option.some.injEq]at hv
       simp only[QQ]at hb
       obtain⟨c1,h1,h2⟩:=h.ev hc hx
       have zb:c1=[.map (some (β id))]:=h2
       subst zb
       have k8:a.eval x=.map (some (β id)):=h1
       obtain⟨c3,h3,h4⟩:=h.ev hc hix
       have mu:isV (rt k) ok w key (a.eval ix):=by
        refine⟨c3,K4 (M:=[]) (β:=β) (ρ:=ρ) (by simp[Qe]) yi h4,?_⟩
        rw[h3]; simp only[AV.val,RT.val,Ld,bEq hb.1.2]; cases iv.isAgg<;>rfl
       obtain⟨es,clock,hg,hp⟩:=Q6t hM ug
       have hzv:isV (rt v) ok w z tz.z:=⟨Qu tz.z,K4 (M:=[]) (β:=β) (ρ:=ρ) (by simp[Qe]) hz (I7 mr),(Qs1 (bEq hb.2)).symm⟩
       obtain⟨u,ka,hu,_⟩:=Qoz hT ku kr xz fb hb.1.1 hg hp key hzv c
       rw[←Cq (Vp hb.1.1) mu]at ka
       obtain⟨cu,hu1,hu2⟩:=hu
       have hvu:(AV.d v ((Qw key xs).getD z)).val cu=u:=by rw[hu2]; grind [AV.val,RT.val,Ld,AV.isAgg]
       cases c with
       | true =>
        simp only at hv; subst hv
        refine⟨[.tuple #[u,.bool (Qw key xs).isSome]],?_,[u,.bool (Qw key xs).isSome],rfl,cu,[.bool (Qw key xs).isSome],by rw[hvu],hu1,[.bool (Qw key xs).isSome],[],rfl,rfl,rfl⟩
        simp_all [if_true,AV.val,AV.isAgg]
       | false =>
        simp only at hv; subst hv
        refine⟨cu,?_,hu1⟩
        rw[hvu]
        simp only[k8]
        simp only[JH,if_false]at ka
        simp[ka]
      ·cases hv
     ·cases hv
    ·cases hv
   ·cases hv
  ·cases hv
 ·cases hv
end
end Gx

/- Maps of data: what the model does with them. -/
import Derived.Test.YtjjpjagokgfbdaaGreatGRows
import Derived.Test.YtjjpjagokgfbdaaGreatGCore
import Derived.MapKept
namespace Gx
open Go Go.RowKit Gd
set_option linter.unusedVariables false
set_option linter.unusedSimpArgs false
def Ia:Ty→Bool
 | .int _=>true
 | .bool=>true
 | .str=>true
 | _=>false
def Tr:Ty→Bool
 | .pr a r=>Ia a&&Tr r
 | .unit=>true
 | t=>Ia t
def Tt:Ty→Bool
 | .st fs=>Tr fs
 | t=>Ia t
def eqK:(t:Ty)→t.De→t.De→Bool
 | .int _,a,b=>a==b
 | .bool,a,b=>a==b
 | .str,a,b=>a==b
 | .pr f r,a,b=>eqK f a.1 b.1&&eqK r a.2 b.2
 | .unit,_,_=>true
 | .st fs,a,b=>eqK fs a b
 | _,_,_=>false
def Qr{k:Ty}{ν:Type}(key:k.De):List (k.De×ν)→Option ν
 | []=>none
 | x::l=>bif eqK k key x.1 then some x.2 else Qr key l
def Ya{k:Ty}{ν:Type}(key:k.De)(v:ν):List (k.De×ν)→List (k.De×ν)
 | []=>[(key,v)]
 | x::l=>bif eqK k key x.1 then(key,v)::l else x::Ya key v l
def K1:(t:Ty)→t.De→List Value
 | .int k,n=>[.int k n]
 | .bool,b=>[.bool b]
 | .str,s=>[Ye s]
 | .pr f r,x=>K1 f x.1++K1 r x.2
 | .st fs,x=>K1 fs x
 | _,_=>[]
def Yf:(t:Ty)→t.De→Value
 | .int k,n=>.int k n
 | .bool,b=>.bool b
 | .str,s=>Ye s
 | .st fs,x=>.agg (K1 fs x).toArray
 | _,_=>undef
theorem Qco{t:Ty}(ht:Ia t=true){ok:Ok}{w:World}{x:t.De}{cs:List Value}:(rt t).rep ok w x cs↔cs=K1 t x:=by
 cases t<;>simp[Ia]at ht<;>exact Iff.rfl
theorem Qh7:∀{t:Ty},Tr t=true→∀{ok:Ok} {w:World} {x:t.De} {cs:List Value},(rt t).rep ok w x cs↔cs=K1 t x
 | .pr f r,ht,ok,w,x,cs=>by
  simp only[Tr,QQ]at ht
  constructor
  ·rintro⟨c1,c2,rfl,h1,h2⟩
   rw[(Qco ht.1).1 h1,(Qh7 ht.2).1 h2]; rfl
  ·rintro rfl
   exact⟨_,_,rfl,(Qco ht.1).2 rfl,(Qh7 ht.2).2 rfl⟩
 | .unit,ht,ok,w,x,cs=>Iff.rfl
 | .int _,ht,ok,w,x,cs=>Qco ht
 | .bool,ht,ok,w,x,cs=>Qco ht
 | .str,ht,ok,w,x,cs=>Qco ht
 | .sl _,ht,_,_,_,_=>by simp[Tr,Ia]at ht
 | .arr _ _,ht,_,_,_,_=>by simp[Tr,Ia]at ht
 | .st _,ht,_,_,_,_=>by simp[Tr,Ia]at ht
theorem Q0d{t:Ty}(ht:Tt t=true){ok:Ok}{w:World}{x:t.De}{v:Value}:isV (rt t) ok w x v↔v=Yf t x:=by
 cases t with
 | int k=>exact Jj0
 | bool=>exact Qpg
 | str=>exact Jj1
 | st fs =>
  constructor
  ·rintro⟨cs,h,rfl⟩
   rw[(Qh7 ht).1 h]; rfl
  ·rintro rfl
   exact⟨_,(Qh7 ht).2 rfl,rfl⟩
 | _=>simp[Tt,Ia]at ht
theorem Ga{t:Ty}(ht:Tt t=true){ok:Ok}{w:World}{x:t.De}{v:Value}(h:isV (rt t) ok w x v):v=Yf t x:=(Q0d ht).1 h
theorem Qwz{t:Ty}(ht:Tt t=true){ok:Ok}{w:World}(x:t.De):isV (rt t) ok w x (Yf t x):=(Q0d ht).2 rfl
theorem Tu{t:Ty}(ht:Ia t=true){x y:t.De}:eqK t x y=true↔x=y:=by
 cases t<;>simp[Ia]at ht<;>simp[eqK]
theorem Q76:∀{t:Ty},Tr t=true→∀{x y:t.De},eqK t x y=true↔x=y
 | .pr f r,ht,x,y=>by
  simp only[Tr,QQ]at ht
  obtain⟨x1,x2⟩:=x
  obtain⟨y1,y2⟩:=y
  simp only[eqK,QQ,Tu ht.1,Q76 ht.2,Prod.mk.injEq]
 | .unit,ht,x,y=>by simp[eqK]
 | .int _,ht,x,y=>Tu ht
 | .bool,ht,x,y=>Tu ht
 | .str,ht,x,y=>Tu ht
 | .sl _,ht,_,_=>by simp[Tr,Ia]at ht
 | .arr _ _,ht,_,_=>by simp[Tr,Ia]at ht
 | .st _,ht,_,_=>by simp[Tr,Ia]at ht
theorem Zf{t:Ty}(ht:Tt t=true){x y:t.De}:eqK t x y=true↔x=y:=by
 cases t with
 | st fs=>exact Q76 (t:=fs) ht
 | int k=>exact Tu (t:=.int k) rfl
 | bool=>exact Tu (t:=.bool) rfl
 | str=>exact Tu (t:=.str) rfl
 | _=>simp[Tt,Ia]at ht
def Wh:Ty→TypeDesc→Bool
 | .int k,.int k'=>Rk k k'
 | .bool,.bool=>true
 | .str,.string=>true
 | _,_=>false
def Ja5(T:Tab)(f:Field)(t:Ty)(i:Nat):Bool:=f.name != "_" && Nat.beq f.offset i&&(match Qh T f.type with
 | some e=>Wh t e.d
 | none=>false)
def Gz(T:Tab):List Field→Ty→Nat→Bool
 | [],.unit,_=>true
 | [f],t,i=>Ja5 T f t i
 | f::g::fs,.pr a r,i=>Ja5 T f a i&&Gz T (g::fs) r (i+1)
 | _,_,_=>false
def Yu(T:Tab):Ty→TypeDesc→Bool
 | .st fs,.struct ⟨fds⟩=>Gz T fds fs 0
 | t,d=>Wh t d
theorem B9{t:Ty}{d:TypeDesc}(h:Wh t d=true):Ia t=true:=by
 cases t<;>cases d<;>simp[Wh]at h<;>rfl
theorem C0{T:Tab}{f:Field}{t:Ty}{i:Nat}(h:Ja5 T f t i=true):(f.name != "_")=true∧f.offset=i∧∃e,Qh T f.type=some e∧Wh t e.d=true:=by
 simp only[Ja5,QQ]at h
 refine⟨h.1.1,QJ h.1.2,?_⟩
 have h2:=h.2
 split at h2
 ·exact⟨_,by assumption,h2⟩
 ·cases h2
theorem Ql7{T:Tab}:∀{fds:List Field} {t:Ty} {i:Nat},Gz T fds t i=true→Tr t=true
 | [],t,i,h=>by cases t<;>simp[Gz]at h; rfl
 | [f],t,i,h=>by
  simp only[Gz]at h
  obtain⟨_,_,e,_,h3⟩:=C0 h
  have:=B9 h3
  cases t<;>simp[Ia]at this<;>rfl
 | f::g::fs,t,i,h=>by
  cases t<;>simp only[Gz,QQ]at h
  all_goals first | (cases h; done) | skip
  obtain⟨_,_,e,_,h3⟩:=C0 h.1
  simp only[Tr,QQ]
  exact⟨B9 h3,Ql7 h.2⟩
theorem Jy{T:Tab}{t:Ty}{d:TypeDesc}(h:Yu T t d=true):Tt t=true:=by
 cases t with
 | st fs =>
  cases d<;>simp[Yu,Wh]at h
  rename_i fds
  obtain⟨fds⟩:=fds
  exact Ql7 h
 | _=>cases d<;>simp[Yu,Wh]at h<;>rfl
theorem L1{t:Ty}(h:Ia t=true)(x:t.De):K1 t x=[Yf t x]:=by
 cases t<;>simp[Ia]at h<;>rfl
section
variable {P:Program} {T:Tab}
theorem Q0e(hT:Q4 P T){f:Field}{t:Ty}{i:Nat}(h:Ja5 T f t i=true){fs:List Field}{p1 p2 r1 r2:List Value}{x y:t.De}(h1:p1.length=i)(h2:p2.length=i){q:Bool}
  (hq:Qpn T fs (p1++K1 t x++r1) (p2++K1 t y++r2)=some q):Qpn T (f::fs) (p1++K1 t x++r1) (p2++K1 t y++r2)=some (eqK t x y&&q):=by
 obtain⟨_,ho,e,he,hs⟩:=C0 h
 obtain⟨e1,e2,e3,e4,e5⟩:=e
 have g1:(p1++K1 t x++r1)[f.offset]?=some (Yf t x):=by
  rw[L1 (B9 hs),ho,←h1]; simp
 have g2:(p2++K1 t y++r2)[f.offset]?=some (Yf t y):=by
  rw[L1 (B9 hs),ho,←h2]; simp
 unfold Qpn
 rw[he,g1,g2,hq]
 cases t<;>cases e2<;>simp[Wh]at hs
 ·rename_i k k'
  simp only[Yf]
  rw[show Rk k k=true from by cases k<;>rfl]
  rfl
 ·rfl
 ·rfl
theorem Q0f(hT:Q4 P T):∀{fds:List Field} {t:Ty} {i:Nat},Gz T fds t i=true→∀{p1 p2:List Value} {x y:t.De},p1.length=i→p2.length=i →
  Qpn T fds (p1++K1 t x) (p2++K1 t y)=some (eqK t x y)∧O5 fds=true
 | [],t,i,h,p1,p2,x,y,h1,h2=>by
  cases t<;>simp[Gz]at h
  exact⟨rfl,rfl⟩
 | [f],t,i,h,p1,p2,x,y,h1,h2=>by
  simp only[Gz]at h
  have hb:O5 [f]=true:=by simp only[O5,ZT,List.all_nil,Bool.and_true]; exact(C0 h).1
  refine⟨?_,hb⟩
  have:=Q0e hT h (fs:=[]) (r1:=[]) (r2:=[]) (x:=x) (y:=y) h1 h2 rfl
  simpa using this
 | f::g::fs,t,i,h,p1,p2,x,y,h1,h2=>by
  cases t<;>simp only[Gz,QQ]at h
  all_goals first | (cases h; done) | skip
  rename_i a r
  obtain⟨x1,x2⟩:=x
  obtain⟨y1,y2⟩:=y
  have hs:=B9 (C0 h.1).2.2.choose_spec.2
  have l1:(K1 a x1).length=1:=by rw[L1 hs]; rfl
  have l2:(K1 a y1).length=1:=by rw[L1 hs]; rfl
  obtain⟨q1,q2⟩:=Q0f hT h.2 (p1:=p1++K1 a x1) (p2:=p2++K1 a y1) (x:=x2) (y:=y2) (by simp[l1,h1]) (by simp[l2,h2])
  refine⟨?_,?_⟩
  ·have:=Q0e hT h.1 (fs:=g::fs) (r1:=K1 r x2) (r2:=K1 r y2) (x:=x1) (y:=y1) h1 h2 q1
   simp only[K1,eqK]; simpa[QH]using this
  ·simp only[O5,ZT,QQ]at q2 ⊢
   exact⟨(C0 h.1).1,q2⟩
theorem L2(hT:Q4 P T){kt:TypeId}{te:TE}(ht:Qh T kt=some te){t:Ty}(h:Yu T t te.d=true)(x y:t.De)(w:World):(Op.equal kt (Yf t x) (Yf t y)).run P w=.ok (eqK t x y) w:=by
 have hu:=(Jm hT ht).2
 cases t with
 | st fs =>
  obtain⟨e1,e2,e3,e4,e5⟩:=te
  cases e2<;>simp[Yu,Wh]at h
  rename_i fds
  obtain⟨fds⟩:=fds
  have hf:P.fieldsOf kt=⟨fds⟩:=by simp[Program.fieldsOf,hu]
  have:=run_equalIn_struct (P:=P) w 9999 kt (K1 fs x).toArray (K1 fs y).toArray (by rw[hf,hu]) (Qzx hT ht).1
  rw[hf]at this
  show(Op.equalIn 10000 kt _ _).run P w=_
  simp only[Yf]
  rw[this]
  obtain⟨q1,q2⟩:=Q0f hT h (p1:=[]) (p2:=[]) (x:=x) (y:=y) rfl rfl
  simp only[eqK]
  exact Qwv hT 9998 q2 (by simpa using q1)
 | int k =>
  obtain⟨e1,e2,e3,e4,e5⟩:=te
  cases e2<;>simp[Yu,Wh]at h
  exact run_equalIn_int w 9999 kt k _ x y hu
 | bool =>
  obtain⟨e1,e2,e3,e4,e5⟩:=te
  cases e2<;>simp[Yu,Wh]at h
  exact run_equalIn_bool' w 9999 kt x y hu
 | str =>
  obtain⟨e1,e2,e3,e4,e5⟩:=te
  cases e2<;>simp[Yu,Wh]at h
  show(Op.equalIn 10000 kt _ _).run P w=_
  simp only[Yf,Ye]
  rw[run_equalIn_string w 9999 kt ⟨⟨x⟩⟩ ⟨⟨y⟩⟩ hu]
  rw[show(ByteArray.mk ⟨x⟩).toList=x from ByteArray.toList_mk x,show(ByteArray.mk ⟨y⟩).toList=y from ByteArray.toList_mk y]
  rfl
 | _=>cases te with | mk e1 e2 e3 e4 e5=>cases e2<;>simp[Yu,Wh]at h
theorem L3(hT:Q4 P T){kt:TypeId}{te:TE}(ht:Qh T kt=some te){t:Ty}(h:Yu T t te.d=true)(key:t.De)(w:World){ν:Type}{s:RT ν}{ok:Ok}:∀{xs:List (t.De×ν)} {es:List MapEntry} (i:Nat),Xq (rt t) s ok w xs es →
  (Qr key xs=none∧(Instr.findAsking kt (Yf t key) es i).run P w=.ok none w∧(Instr.findNow te.d (Yf t key) es i=some none∨Instr.findNow te.d (Yf t key) es i=none)) ∨
  (∃(j:Nat) (e:MapEntry) (y:ν),Qr key xs=some y∧(Instr.findAsking kt (Yf t key) es i).run P w=.ok (some (i+j,e.val)) w∧(Instr.findNow te.d (Yf t key) es i=some (some (i+j,e.val))∨Instr.findNow te.d (Yf t key) es i=none)∧es[j]?=some e∧e.key=Yf t key∧isV s ok w y e.val)
 | [],es,i,hp=>by
  have:es=[]:=hp
  subst this
  exact .inl ⟨rfl,rfl,.inl rfl⟩
 | x::xs,es,i,hp=>by
  obtain⟨e,es',rfl,h1,h2,h3⟩:=hp
  have hk:=Ga (Jy h) h1
  have heq:=L2 hT ht h key x.1 w
  have tw:Instr.sameNow te.d (Yf t key) e.key=some (eqK t key x.1)∨Instr.sameNow te.d (Yf t key) e.key=none:=by
   rw[hk]
   cases t with
   | st fs=>exact .inr (by cases te with | mk e1 e2 e3 e4 e5=>cases e2<;>rfl)
   | int k =>
    obtain⟨e1,e2,e3,e4,e5⟩:=te
    cases e2<;>simp[Yu,Wh]at h
    exact .inl (by simp[Instr.sameNow,Yf,eqK])
   | bool =>
    obtain⟨e1,e2,e3,e4,e5⟩:=te
    cases e2<;>simp[Yu,Wh]at h
    exact .inl (by simp[Instr.sameNow,Yf,eqK])
   | str =>
    obtain⟨e1,e2,e3,e4,e5⟩:=te
    cases e2<;>simp[Yu,Wh]at h
    refine .inl ?_
    simp only[Instr.sameNow,Yf,eqK,Ye]
    congr 1
    rw[VL,MapKept.bytes_beq]
    simp
   | _=>cases te with | mk e1 e2 e3 e4 e5=>cases e2<;>simp[Yu,Wh]at h
  simp only[Qr,Instr.findNow,Instr.findAsking,Sem.run_bind,hk,heq,Result.andThen_ok]
  rw[hk]at tw
  cases he:eqK t key x.1 with
  | true =>
   have:=(Zf (Jy h)).1 he
   refine .inr ⟨0,e,x.2,rfl,by simp,?_,rfl,by rw[hk,this],h2⟩
   rcases tw with tw | tw<;>rw[tw]
   ·rw[he]; exact .inl rfl
   ·exact .inr rfl
  | false =>
   rcases L3 hT ht h key w (i+1) h3 with⟨q1,q2,q3⟩ | ⟨j,e',y,q1,q2,q3,q4,q5,q6⟩
   ·refine .inl ⟨q1,by simpa using q2,?_⟩
    rcases tw with tw | tw<;>rw[tw]
    ·rw[he]; exact q3
    ·exact .inr rfl
   ·have ea:i+1+j=i+(j+1):=by omega
    rw[ea]at q2 q3
    refine .inr ⟨j+1,e',y,q1,by simpa using q2,?_,q4,q5,q6⟩
    rcases tw with tw | tw<;>rw[tw]
    ·rw[he]; exact q3
    ·exact .inr rfl
theorem Rr(hT:Q4 P T){kt:TypeId}{te:TE}(ht:Qh T kt=some te){t:Ty}(h:Yu T t te.d=true)(key:t.De)(w:World){ν:Type}{s:RT ν}{ok:Ok}{xs:List (t.De×ν)}{es:List MapEntry}(hp:Xq (rt t) s ok w xs es) :
  (Qr key xs=none∧(Instr.findKey kt (Yf t key) es).run P w=.ok none w) ∨
  (∃(j:Nat) (e:MapEntry) (y:ν),Qr key xs=some y∧(Instr.findKey kt (Yf t key) es).run P w=.ok (some (j,e.val)) w∧es[j]?=some e∧e.key=Yf t key∧isV s ok w y e.val):=by
 have hu:=(Jm hT ht).2
 rcases L3 hT ht h key w 0 hp with⟨q1,q2,q3⟩ | ⟨j,e,y,q1,q2,q3,q4,q5,q6⟩
 ·refine .inl ⟨q1,?_⟩
  rcases q3 with q3 | q3
  ·exact MapKept.run_findKey hu q3
  ·simp[Instr.findKey,run_underlying hu,Result.andThen,q3,q2]
 ·rw[QE]at q2 q3
  refine .inr ⟨j,e,y,q1,?_,q4,q5,q6⟩
  rcases q3 with q3 | q3
  ·exact MapKept.run_findKey hu q3
  ·simp[Instr.findKey,run_underlying hu,Result.andThen,q3,q2]
theorem Qh8(hT:Q4 P T){f:Field}{t:Ty}{i:Nat}(h:Ja5 T f t i=true){p r:List Value}{x:t.De}(h1:p.length=i)(w:World)(e:Bool)(n:Nat) :
  (part f.type (p++K1 t x++r).toArray f.offset).run P w=.ok (Yf t x) w∧(Instr.checkKey e (n+1) f.type (Yf t x)).run P w=.ok () w:=by
 obtain⟨_,ho,te,he,hs⟩:=C0 h
 have hu:=(Jm hT he).2
 have g1:(p++K1 t x++r)[f.offset]?=some (Yf t x):=by
  rw[L1 (B9 hs),ho,←h1]; simp
 refine⟨Qgh hT he ?_ g1,?_⟩
 ·obtain⟨e1,e2,e3,e4,e5⟩:=te
  cases t<;>cases e2<;>simp[Wh]at hs<;>rfl
 ·refine MapKept.run_checkKey hu ?_ e n
  obtain⟨e1,e2,e3,e4,e5⟩:=te
  cases t<;>cases e2<;>simp[Wh]at hs
  ·rename_i a b
   have:=C4 hs
   exact this
  ·trivial
  ·trivial
theorem Qbd(hT:Q4 P T)(w:World)(e:Bool)(n:Nat){body:Field→PUnit→Sem (ForInStep PUnit)}{cs:List Value}
  (wo:∀(f:Field) (v:Value),f.name ≠ "_" → (part f.type cs.toArray f.offset).run P w=.ok v w→(Instr.checkKey e (n+1) f.type v).run P w=.ok () w→(body f ⟨⟩).run P w=.ok (ForInStep.yield ⟨⟩) w):∀{fds:List Field} {t:Ty} {i:Nat},Gz T fds t i=true→∀{p:List Value} {x:t.De},p.length=i→cs=p++K1 t x →
  (forIn fds PUnit.unit body).run P w=.ok ⟨⟩ w
 | [],t,i,h,p,x,h1,hc=>by simp
 | [f],t,i,h,p,x,h1,hc=>by
  simp only[Gz]at h
  have hn:f.name ≠ "_" := by simpa using(C0 h).1
  obtain⟨q1,q2⟩:=Qh8 hT h (r:=[]) (x:=x) h1 w e n
  rw[QR,←hc]at q1
  simp[wo f _ hn q1 q2,Result.andThen]
 | f::g::fs,t,i,h,p,x,h1,hc=>by
  cases t<;>simp only[Gz,QQ]at h
  all_goals first | (cases h; done) | skip
  rename_i a r
  obtain⟨x1,x2⟩:=x
  have hs:=B9 (C0 h.1).2.2.choose_spec.2
  have l1:(K1 a x1).length=1:=by rw[L1 hs]; rfl
  have hn:f.name ≠ "_" := by simpa using(C0 h.1).1
  obtain⟨q1,q2⟩:=Qh8 hT h.1 (r:=K1 r x2) (x:=x1) h1 w e n
  have yp:cs=p++K1 a x1++K1 r x2:=by rw[hc]; simp[K1]
  rw[←yp]at q1
  have ih:=Qbd hT w e n wo h.2 (p:=p++K1 a x1) (x:=x2) (by simp[l1,h1]) yp
  rw[List.forIn_cons]
  simp only[Sem.run_bind,wo f _ hn q1 q2,Result.andThen]
  exact ih
theorem Xb(hT:Q4 P T){kt:TypeId}{te:TE}(ht:Qh T kt=some te){t:Ty}(h:Yu T t te.d=true)(x:t.De)(w:World)(e:Bool):(Instr.checkKey e 10000 kt (Yf t x)).run P w=.ok () w:=by
 have hu:=(Jm hT ht).2
 cases t with
 | st fs =>
  obtain⟨e1,e2,e3,e4,e5⟩:=te
  cases e2<;>simp[Yu,Wh]at h
  rename_i fds
  obtain⟨fds⟩:=fds
  unfold Instr.checkKey
  simp only[Sem.run_bind,run_underlying hu,Result.andThen,Yf]
  simp only[List.forIn_toArray]
  rw[Qbd hT w e 9998 (cs:=K1 fs x) (fun f v hn h1 h2=>by simp[hn,h1,h2,Result.andThen]) h (p:=[]) (x:=x) rfl rfl]
  rfl
 | int k =>
  obtain⟨e1,e2,e3,e4,e5⟩:=te
  cases e2<;>simp[Yu,Wh]at h
  exact MapKept.run_checkKey hu (show MapKept.IsKey (.int _) (.int k x)from C4 h) e 9999
 | bool =>
  obtain⟨e1,e2,e3,e4,e5⟩:=te
  cases e2<;>simp[Yu,Wh]at h
  exact MapKept.run_checkKey hu (show MapKept.IsKey .bool (.bool x)from trivial) e 9999
 | str =>
  obtain⟨e1,e2,e3,e4,e5⟩:=te
  cases e2<;>simp[Yu,Wh]at h
  exact MapKept.run_checkKey hu (show MapKept.IsKey .string (Ye x)from trivial) e 9999
 | _=>cases te with | mk e1 e2 e3 e4 e5=>cases e2<;>simp[Yu,Wh]at h
theorem Ei{t:Ty}(h:Ia t=true)(x:t.De)(n:Nat):Instr.sameBits n (Yf t x) (Yf t x)=true:=by
 cases t<;>simp[Ia]at h<;>cases n<;>simp[Instr.sameBits,Yf,Ye]
 all_goals rw[MapKept.bytes_beq]
theorem Qpw{n:Nat}:∀{t:Ty},Tr t=true→∀(x:t.De),((K1 t x).zip (K1 t x)).all (fun(x,y)=>Instr.sameBits n x y)=true
 | .pr f r,ht,x=>by
  simp only[Tr,QQ]at ht
  have ih:=Qpw (n:=n) ht.2 x.2
  simp only[K1,L1 ht.1,List.singleton_append,ZI,ZT,Ei ht.1,ih,Bool.and_self]
 | .unit,ht,x=>rfl
 | .int k,ht,x=>by have:=Ei (t:=.int k) rfl x n; simpa[K1,Yf]using this
 | .bool,ht,x=>by have:=Ei (t:=.bool) rfl x n; simpa[K1,Yf]using this
 | .str,ht,x=>by have:=Ei (t:=.str) rfl x n; simpa[K1,Yf]using this
 | .sl _,ht,_=>by simp[Tr,Ia]at ht
 | .arr _ _,ht,_=>by simp[Tr,Ia]at ht
 | .st _,ht,_=>by simp[Tr,Ia]at ht
theorem Qt2{t:Ty}(h:Tt t=true)(x:t.De)(w:World):(Instr.keyThatStays (Yf t x) (Yf t x)).run P w=.ok (Yf t x) w:=by
 have:Instr.sameBits 10000 (Yf t x) (Yf t x)=true:=by
  cases t with
  | st fs =>
   have:=Qpw (n:=9999) h x
   simp[Yf,Instr.sameBits]at this ⊢
   exact this
  | int k=>exact Ei (t:=.int k) rfl x _
  | bool=>exact Ei (t:=.bool) rfl x _
  | str=>exact Ei (t:=.str) rfl x _
  | _=>simp[Tt,Ia]at h
 simp[Instr.keyThatStays,this]
theorem Qpx(hT:Q4 P T){t kt et:TypeId}{te tk tz:TE}(ht:Qh T t=some te)(kr:te.d=.map kt et)(hk:Qh T kt=some tk)(hz:Qh T et=some tz)
  {k:Ty} {ν:Type} {s:RT ν} (hd:Yu T k tk.d=true) {ok:Ok} {w:World} {g:Nat} {es:Array MapEntry} {clock:Nat} (hg:w.heap[g]?=some (.map es clock)) {xs:List (k.De×ν)} (hp:Xq (rt k) s ok w xs es.toList)
  (key:k.De) {z:ν} (l6:isV s ok w z tz.z) (c:Bool) :
  ∃v,(Instr.lookup t (.map (some g)) (Yf k key) c).run P w=.ok (if c=true then .tuple #[v,.bool (Qr key xs).isSome]else v) w∧isV s ok w ((Qr key xs).getD z) v ∧
   (Qr key xs=none∧v=tz.z∨∃(j:Nat) (e:MapEntry),es.toList[j]?=some e∧e.key=Yf k key∧v=e.val):=by
 have hu:=(Jm hT ht).2
 rw[kr]at hu
 have ab:(zeroValue et).run P w=.ok tz.z w:=Vc hT w hz
 rcases Rr hT hk hd key w hp with⟨q1,q2⟩ | ⟨j,e,y,q1,q2,q3,q4,q5⟩
 ·refine⟨tz.z,?_,by rw[q1]; exact l6,.inl ⟨q1,rfl⟩⟩
  simp[Instr.lookup,run_underlying hu,MapKept.run_getObj_map hg,Xb hT hk hd,q2,ab,Result.andThen,q1]
 ·refine⟨e.val,?_,by rw[q1]; exact q5,.inr ⟨j,e,q3,q4,rfl⟩⟩
  simp[Instr.lookup,run_underlying hu,MapKept.run_getObj_map hg,Xb hT hk hd,q2,Result.andThen,q1]
theorem Qs2(hT:Q4 P T){t kt et:TypeId}{te tk tz:TE}(ht:Qh T t=some te)(kr:te.d=.map kt et)(hk:Qh T kt=some tk)(hz:Qh T et=some tz)
  {k:Ty} (hd:Yu T k tk.d=true) {w:World} (key:k.De) (c:Bool) :
  (Instr.lookup t (.map none) (Yf k key) c).run P w=.ok (if c=true then .tuple #[tz.z,.bool false]else tz.z) w:=by
 have hu:=(Jm hT ht).2
 rw[kr]at hu
 have ab:(zeroValue et).run P w=.ok tz.z w:=Vc hT w hz
 rcases Rr (ok:=fun _ _=>True) hT hk hd key w (s:=Qtv) (xs:=[]) (es:=[]) rfl with⟨q1,q2⟩ | ⟨j,e,y,q1,q2,q3,q4,q5⟩
 ·simp[Instr.lookup,run_underlying hu,Xb hT hk hd,q2,ab,Result.andThen]
 ·simp at q3
theorem Qh9(hT:Q4 P T){kt:TypeId}{te:TE}(ht:Qh T kt=some te){k:Ty}(h:Yu T k te.d=true)(key:k.De){ν:Type}{s:RT ν}{ok:Ok}{w:World}{y:ν}{v:Value}(hv:isV s ok w y v):∀{xs:List (k.De×ν)} {es:List MapEntry},Xq (rt k) s ok w xs es →
  (Qr key xs=none∧∀c,Xq (rt k) s ok w (Ya key y xs) (es++[⟨Yf k key,v,c⟩])) ∨
  (∃(j:Nat) (e:MapEntry),(∀i,(Instr.findAsking kt (Yf k key) es i).run P w=.ok (some (i+j,e.val)) w)∧es[j]?=some e∧e.key=Yf k key∧Xq (rt k) s ok w (Ya key y xs) (es.modify j fun e=>{ e with key:=Yf k key,val:=v }))
 | [],es,hp=>by
  have:es=[]:=hp
  subst this
  exact .inl ⟨rfl,fun c=>⟨_,[],rfl,Qwz (Jy h) key,hv,rfl⟩⟩
 | x::xs,es,hp=>by
  obtain⟨e,es',rfl,h1,h2,h3⟩:=hp
  have hk:=Ga (Jy h) h1
  have heq:=L2 hT ht h key x.1 w
  simp only[Ya,Qr,Instr.findAsking,Sem.run_bind,hk,heq,Result.andThen_ok]
  cases he:eqK k key x.1 with
  | true =>
   have:=(Zf (Jy h)).1 he
   exact .inr ⟨0,e,by simp,rfl,by rw[hk,this],⟨_,es',rfl,Qwz (Jy h) key,hv,h3⟩⟩
  | false =>
   rcases Qh9 hT ht h key hv h3 with⟨q1,q2⟩ | ⟨j,e',q2,q3,q4,q5⟩
   ·exact .inl ⟨q1,fun c=>⟨e,_,rfl,h1,h2,q2 c⟩⟩
   ·exact .inr ⟨j+1,e',fun i=>by rw[show i+(j+1)=i+1+j by omega]; simpa using q2 (i+1),q3,q4,⟨e,_,rfl,h1,h2,q5⟩⟩
def Fy(es:Array MapEntry)(clock:Nat):Prop:=(es.toList.map MapEntry.born).Nodup∧∀e∈es.toList,e.born<clock
theorem Lr{k:Ty}{ν:Type}(hk:Tt k=true)(key:k.De)(y:ν):∀{xs:List (k.De×ν)},(xs.map Prod.fst).Nodup→((Ya key y xs).map Prod.fst).Nodup∧∀z∈(Ya key y xs).map Prod.fst,z=key∨z∈xs.map Prod.fst
 | [],_=>⟨by simp[Ya],by simp[Ya]⟩
 | x::xs,h=>by
  simp only[Ya]
  have h1:=JA.1 h
  cases he:eqK k key x.1 with
  | true =>
   have:=(Zf hk).1 he
   refine⟨?_,fun z hz=>?_⟩
   ·simp only[cond_true,JW,JA]
    exact⟨by rw[this]; exact h1.1,h1.2⟩
   ·simp only[cond_true,JW,QX]at hz
    rcases hz with rfl | hz
    ·exact .inl rfl
    ·exact .inr (KI _ hz)
  | false =>
   obtain⟨h2,h3⟩:=Lr hk key y h1.2
   refine⟨?_,fun z hz=>?_⟩
   ·simp only[cond_false,JW,JA]
    refine⟨fun hm=>?_,h2⟩
    rcases h3 _ hm with hm | hm
    ·rw[hm,(Zf hk).2 rfl]at he; cases he
    ·exact h1.1 hm
   ·simp only[cond_false,JW,QX]at hz
    rcases hz with rfl | hz
    ·exact .inr (List.mem_cons_self)
    ·rcases h3 _ hz with hz | hz
     ·exact .inl hz
     ·exact .inr (KI _ hz)
theorem Qia(hT:Q4 P T){t kt et:TypeId}{te tk:TE}(ht:Qh T t=some te)(kr:te.d=.map kt et)(hk:Qh T kt=some tk)
  {k:Ty} (hd:Yu T k tk.d=true) {w:World} {g:Nat} {es:Array MapEntry} {clock:Nat} (hg:w.heap[g]?=some (.map es clock)) (key:k.De) {v:Value} :
  ((Instr.findKey kt (Yf k key) es.toList).run P w=.ok none w→(Instr.mapUpdate t (.map (some g)) (Yf k key) v).run P w=.ok () { w with heap:=w.heap.setIfInBounds g (.map (es.push ⟨Yf k key,v,clock⟩) (clock+1)) }) ∧
  (∀j e,(Instr.findKey kt (Yf k key) es.toList).run P w=.ok (some (j,e.val)) w→es.toList[j]?=some e→e.key=Yf k key →
   (Instr.mapUpdate t (.map (some g)) (Yf k key) v).run P w=.ok () { w with heap:=w.heap.setIfInBounds g (.map (es.modify j fun e=>{ e with key:=Yf k key,val:=v }) clock) }):=by
 have hu:=(Jm hT ht).2
 rw[kr]at hu
 refine⟨fun q=>?_,fun j e q2 q3 q4=>?_⟩
 ·simp[Instr.mapUpdate,run_underlying hu,MapKept.run_getObj_map hg,Xb hT hk hd,q,MapKept.run_setObj_map _ hg,Result.andThen]
 ·have hj:es[j]?=some e:=by simpa using q3
  simp[Instr.mapUpdate,run_underlying hu,MapKept.run_getObj_map hg,Xb hT hk hd,q2,hj,q4,Qt2 (Jy hd),MapKept.run_setObj_map _ hg,Result.andThen]
theorem Qpy{es:Array MapEntry}{clock:Nat}(zg:Fy es clock)(kv v:Value):Fy (es.push ⟨kv,v,clock⟩) (clock+1):=by
 refine⟨?_,fun e he=>?_⟩
 ·simp only[Array.toList_push,JK,JW,VB]
  refine ZX.2 ⟨zg.1,by simp,fun a ha b hb=>?_⟩
  obtain⟨e,he,rfl⟩:=QY.1 ha
  simp at hb; subst hb
  exact WY (zg.2 e he)
 ·simp only[Array.toList_push,QW,JR]at he
  rcases he with he | rfl
  ·exact Nat.lt_succ_of_lt (zg.2 e he)
  ·exact VH _
theorem Qw0{es:Array MapEntry}{clock:Nat}(zg:Fy es clock)(kv v:Value)(j:Nat):Fy (es.modify j fun e=>{ e with key:=kv,val:=v }) clock:=by
 have uw:∀(l:List MapEntry) (j:Nat),(l.modify j fun e=>{ e with key:=kv,val:=v }).map MapEntry.born=l.map MapEntry.born:=by
  intro l
  induction l with
  | nil=>intro j; cases j<;>rfl
  | cons x l ih=>intro j; cases j with
   | zero=>rfl
   | succ j=>simp[ih j]
 refine⟨?_,fun e he=>?_⟩
 ·rw[Array.toList_modify,uw]; exact zg.1
 ·have hb:e.born∈(es.toList.modify j fun e=>{ e with key:=kv,val:=v }).map MapEntry.born:=QY.2 ⟨e,by simpa using he,rfl⟩
  rw[uw]at hb
  obtain⟨e',um,bp⟩:=QY.1 hb
  rw[←bp]; exact zg.2 e' um
theorem L4(hT:Q4 P T){kt:TypeId}{te:TE}(ht:Qh T kt=some te){t:Ty}(h:Yu T t te.d=true)(key:t.De)(w:World){ν:Type}{s:RT ν}{ok:Ok}{xs:List (t.De×ν)}{es:List MapEntry}(hp:Xq (rt t) s ok w xs es)
  {r:Option (Nat×Value)} (hr:(Instr.findAsking kt (Yf t key) es 0).run P w=.ok r w):(Instr.findKey kt (Yf t key) es).run P w=.ok r w:=by
 have hu:=(Jm hT ht).2
 rcases L3 hT ht h key w 0 hp with⟨q1,q2,q3⟩ | ⟨j,e,y,q1,q2,q3,q4,q5,q6⟩
 ·rw[hr]at q2; injection q2 with q2; subst q2
  rcases q3 with q3 | q3
  ·exact MapKept.run_findKey hu q3
  ·simp[Instr.findKey,run_underlying hu,Result.andThen,q3,hr]
 ·rw[hr]at q2; injection q2 with q2; subst q2
  rcases q3 with q3 | q3
  ·exact MapKept.run_findKey hu q3
  ·simp[Instr.findKey,run_underlying hu,Result.andThen,q3,hr]
theorem Qft(hT:Q4 P T){t kt et:TypeId}{te tk:TE}(ht:Qh T t=some te)(kr:te.d=.map kt et)(hk:Qh T kt=some tk)
  {k:Ty} {ν:Type} {s:RT ν} (hd:Yu T k tk.d=true) {ok:Ok} {w:World} {g:Nat} {es:Array MapEntry} {clock:Nat} (hg:w.heap[g]?=some (.map es clock)) {xs:List (k.De×ν)} (hp:Xq (rt k) s ok w xs es.toList) (zg:Fy es clock)
  (key:k.De) {y:ν} {v:Value} (hv:isV s ok w y v) :
  ∃es' clock',(Instr.mapUpdate t (.map (some g)) (Yf k key) v).run P w=.ok () { w with heap:=w.heap.setIfInBounds g (.map es' clock') }∧Xq (rt k) s ok w (Ya key y xs) es'.toList∧Fy es' clock':=by
 rcases Qh9 hT hk hd key hv hp with⟨q1,q2⟩ | ⟨j,e,q2,q3,q4,q5⟩
 ·rcases Rr hT hk hd key w hp with⟨r1,r2⟩ | ⟨j,e,y',r1,_⟩
  ·exact⟨_,_,(Qia hT ht kr hk hd hg key).1 r2,by simpa using q2 clock,Qpy zg _ _⟩
  ·rw[q1]at r1; cases r1
 ·have h2:=q2 0
  rw[QE]at h2
  exact⟨_,_,(Qia hT ht kr hk hd hg key).2 j e (L4 hT hk hd key w hp h2) q3 q4,by simpa using q5,Qw0 zg _ _ _⟩
end
end Gx

/- Parts of values; values as data. -/
namespace Gx
open Go Go.RowKit Gd
set_option linter.unusedVariables false
set_option linter.unusedSimpArgs false
def exF:(fs:Ty)→fs.De→AV
 | .pr f r,x=>.cons (.d f x.1) (exF r x.2)
 | .unit,_=>.nil
 | .int k,x=>.cons (.d (.int k) x) .nil
 | .bool,x=>.cons (.d .bool x) .nil
 | .str,x=>.cons (.d .str x) .nil
 | .sl e,x=>.cons (.d (.sl e) x) .nil
 | .arr n e,x=>.cons (.d (.arr n e) x) .nil
 | .st fs,x=>.cons (.d (.st fs) x) .nil
 | .ref,x=>.cons (.d .ref x) .nil
 | .rose fs,x=>.cons (.d (.rose fs) x) .nil
def Jke:AV→AV→AV
 | .cons x r,m=>.cons x (Jke r m)
 | .nil,m=>m
 | x,_=>x
def Q0g:AV→Bool
 | .cons _ r=>Q0g r
 | .nil=>true
 | _=>false
@[reducible] def Jfg:Ty→Ty→Ty
 | .pr f g,u=>.pr f (Jfg g u)
 | .int k,u=>.pr (.int k) u
 | .bool,u=>.pr .bool u
 | .str,u=>.pr .str u
 | .sl e,u=>.pr (.sl e) u
 | .arr n e,u=>.pr (.arr n e) u
 | .st fs,u=>.pr (.st fs) u
 | .ref,u=>.pr .ref u
 | .rose fs,u=>.pr (.rose fs) u
 | .unit,u=>.pr .unit u
def Jkf:(fs u:Ty)→(Jfg fs u).De→fs.De×u.De
 | .pr f g,u,x=>match Jkf g u x.2 with
  | (y,z)=>((x.1,y),z)
 | .int _,_,x=>x
 | .bool,_,x=>x
 | .str,_,x=>x
 | .sl _,_,x=>x
 | .arr _ _,_,x=>x
 | .st _,_,x=>x
 | .ref,_,x=>x
 | .rose _,_,x=>x
 | .unit,_,x=>x
def Tv:AV→Option AV
 | .d (.st fs) x=>some (exF fs x)
 | .d (.rose fs) x=>some (Jke (exF fs x.x) (.cons (.d (.sl (.rose fs)) x.ks) .nil))
 | .ag l=>some l
 | _=>none
def kid:AV→Nat→Option (AV×Nat)
 | .cons x _,0=>some (x,0)
 | .cons x r,k+1=>match kid r k with
  | some (y,o)=>some (y,x.size+o)
  | none=>none
 | _,_=>none
def nav:List PS→AV→Option AV
 | [],x=>some x
 | .f k off::ps,x=>match Tv x with
  | some l=>match kid l k with
   | some (y,o)=>bif Nat.beq o off then nav ps y else none
   | none=>none
  | none=>none
 | .i _ _::_,_=>none
def V2(g:AV→Option AV):AV→Nat→Option (AV×Nat)
 | .cons x r,0=>match g x with
  | some y=>some (.cons y r,0)
  | none=>none
 | .cons x r,k+1=>match V2 g r k with
  | some (r',o)=>some (.cons x r',x.size+o)
  | none=>none
 | _,_=>none
def Qib(cur new:AV):Bool:=Nat.beq new.size cur.size&&new.inMem&&new.isVal&&cur.isVal
def Qnd:List PS→AV→AV→Option AV
 | [],cur,new=>bif Qib cur new then some new else none
 | .f k off::ps,cur,new=>match Tv cur with
  | some l=>match V2 (fun c=>Qnd ps c new) l k with
   | some (l',o)=>bif Nat.beq o off then some (.ag l')else none
   | none=>none
  | none=>none
 | .i _ _::_,_,_=>none
def asD(M:List (Nat×Ob)):AV→(t:Ty)→Option t.De
 | .d t x,u=>Ty.cast t u x
 | .ns,.sl _=>some []
 | .z,.sl _=>some []
 | .s id,.sl e=>match Qe M id with
  | some (.tail _ t xs)=>Ty.cast (.sl t) (.sl e) xs
  | _=>none
 | .ag l,.st fs=>asD M l fs
 | .ag l,.rose fs=>match asD M l (Jfg fs (.sl (.rose fs)))with
  | some x=>match Jkf fs (.sl (.rose fs)) x with
   | (a,ks)=>some (.mk a ks)
  | none=>none
 | .nil,.unit=>some ()
 | .cons x r,.pr f g=>match asD M x f,asD M r g with
  | some a,some b=>some (a,b)
  | _,_=>none
 | .cons x .nil,.int k=>asD M x (.int k)
 | .cons x .nil,.bool=>asD M x .bool
 | .cons x .nil,.str=>asD M x .str
 | .cons x .nil,.sl e=>asD M x (.sl e)
 | .cons x .nil,.arr n e=>asD M x (.arr n e)
 | .cons x .nil,.st fs=>asD M x (.st fs)
 | .cons x .nil,.rose fs=>asD M x (.rose fs)
 | _,_=>none
section
variable {β:Nat→Nat} {ρ:Nat→Value} {ok:Ok} {w:World}
theorem Q5q:∀{fs:Ty} {x:fs.De} {cs:List Value},(rt fs).rep ok w x cs→cr β ρ ok w false (exF fs x) cs
 | .pr f r,x,cs,⟨c1,c2,h,h1,h2⟩=>⟨c1,c2,h,h1,Q5q h2⟩
 | .unit,_,cs,h=>h
 | .int k,x,cs,h=>⟨cs,[],by simp,h,rfl⟩
 | .bool,x,cs,h=>⟨cs,[],by simp,h,rfl⟩
 | .str,x,cs,h=>⟨cs,[],by simp,h,rfl⟩
 | .sl e,x,cs,h=>⟨cs,[],by simp,h,rfl⟩
 | .arr n e,x,cs,h=>⟨cs,[],by simp,h,rfl⟩
 | .st fs,x,cs,h=>⟨cs,[],by simp,h,rfl⟩
 | .ref,x,cs,h=>h.elim
 | .rose fs,x,cs,h=>⟨cs,[],by simp,h,rfl⟩
theorem Q0h:∀(fs:Ty) (x:fs.De),Q0g (exF fs x)=true
 | .pr f r,x=>Q0h r x.2
 | .unit,_=>rfl
 | .int k,x=>rfl
 | .bool,x=>rfl
 | .str,x=>rfl
 | .sl e,x=>rfl
 | .arr n e,x=>rfl
 | .st fs,x=>rfl
 | .ref,x=>rfl
 | .rose fs,x=>rfl
theorem Qw1:∀{l m:AV} {c1 c2:List Value},Q0g l=true→cr β ρ ok w false l c1→cr β ρ ok w false m c2→cr β ρ ok w false (Jke l m) (c1++c2)
 | .cons x r,m,c1,c2,hl,⟨d1,d2,e,h1,h2⟩,hm=>⟨d1,d2++c2,by rw[e,QH],h1,Qw1 (l:=r) hl h2 hm⟩
 | .nil,m,c1,c2,_,h,hm=>by
  have h:c1=[]:=h
  subst h; exact hm
theorem Q77:∀{fs u:Ty} {x:(Jfg fs u).De} {cs:List Value},(rt (Jfg fs u)).rep ok w x cs→∃c1 c2,cs=c1++c2∧(rt fs).rep ok w (Jkf fs u x).1 c1∧(rt u).rep ok w (Jkf fs u x).2 c2
 | .pr f g,u,x,cs,⟨c1,c2,e,h1,h2⟩=>by
  obtain⟨d1,d2,e2,h3,h4⟩:=Q77 (fs:=g) (u:=u) h2
  exact⟨c1++d1,d2,by rw[e,e2,QH],⟨c1,d1,rfl,h1,h3⟩,h4⟩
 | .int _,_,x,cs,h=>h
 | .bool,_,x,cs,h=>h
 | .str,_,x,cs,h=>h
 | .sl _,_,x,cs,h=>h
 | .arr _ _,_,x,cs,h=>h
 | .st _,_,x,cs,h=>h
 | .ref,_,x,cs,h=>h
 | .rose _,_,x,cs,h=>h
 | .unit,_,x,cs,h=>h
theorem Qj8{x l:AV}{cs:List Value}(h:Tv x=some l)(hc:cr β ρ ok w false x cs):cr β ρ ok w false l cs:=by
 unfold Tv at h
 split at h
 ·simp at h; subst h; exact Q5q hc
 ·simp at h; subst h
  obtain⟨c1,c2,rfl,h1,h2⟩:=Ja3 hc
  exact Qw1 (Q0h _ _) (Q5q h1) ⟨c2,[],by simp,h2,rfl⟩
 ·simp at h; subst h; exact hc
 ·cases h
theorem Jfh:∀{l:AV} {k:Nat} {y:AV} {o:Nat} {cs:List Value},kid l k=some (y,o)→cr β ρ ok w false l cs →
  cr β ρ ok w false y ((cs.drop o).take y.size)∧o+y.size≤cs.length
 | .cons x r,0,y,o,cs,h,⟨c1,c2,e,h1,h2⟩=>by
  simp[kid]at h
  obtain⟨rfl,rfl⟩:=h
  subst e
  rw[←U1 h1,KY,ZZ]
  exact⟨h1,by simp⟩
 | .cons x r,k+1,y,o,cs,h,⟨c1,c2,e,h1,h2⟩=>by
  simp only[kid]at h
  split at h
  ·rename_i y' o' hk
   simp at h
   obtain⟨rfl,rfl⟩:=h
   obtain⟨h3,h4⟩:=Jfh hk h2
   subst e
   have hl:=U1 h1
   refine⟨?_,by rw[QI,hl]; omega⟩
   rw[←hl,←XL,KU]
   exact h3
  ·cases h
 | .d ..,_,_,_,_,h,_=>by simp[kid]at h
 | .p ..,_,_,_,_,h,_=>by simp[kid]at h
 | .e ..,_,_,_,_,h,_=>by simp[kid]at h
 | .s ..,_,_,_,_,h,_=>by simp[kid]at h
 | .m ..,_,_,_,_,h,_=>by simp[kid]at h
 | .b ..,_,_,_,_,h,_=>by simp[kid]at h
 | .w ..,_,_,_,_,h,_=>by simp[kid]at h
 | .a ..,_,_,_,_,h,_=>by simp[kid]at h
 | .z,_,_,_,_,h,_=>by simp[kid]at h
 | .ns,_,_,_,_,h,_=>by simp[kid]at h
 | .np,_,_,_,_,h,_=>by simp[kid]at h
 | .nm,_,_,_,_,h,_=>by simp[kid]at h
 | .nf,_,_,_,_,h,_=>by simp[kid]at h
 | .f ..,_,_,_,_,h,_=>by simp[kid]at h
 | .ag ..,_,_,_,_,h,_=>by simp[kid]at h
 | .tp ..,_,_,_,_,h,_=>by simp[kid]at h
 | .nil,_,_,_,_,h,_=>by simp[kid]at h
theorem Qgi:∀{ps:List PS} {x y:AV} {cs:List Value},nav ps x=some y→cr β ρ ok w false x cs →
  cr β ρ ok w false y ((cs.drop (J8 ps)).take y.size)∧J8 ps+y.size≤cs.length
 | [],x,y,cs,h,hc=>by
  simp[nav]at h; subst h
  have:=U1 hc
  simp only[J8,KY]
  rw[JP (by omega)]
  exact⟨hc,by omega⟩
 | .f k off::ps,x,y,cs,h,hc=>by
  simp only[nav]at h
  split at h
  ·rename_i l hl
   split at h
   ·rename_i y' o hk
    cases hb:Nat.beq o off with
    | false=>rw[hb]at h; cases h
    | true =>
     rw[hb]at h
     simp only[cond_true]at h
     have:=QJ hb
     subst this
     obtain⟨h1,h2⟩:=Jfh hk (Qj8 hl hc)
     obtain⟨h3,h4⟩:=Qgi h h1
     have hl:=U1 h1
     rw[hl]at h4
     refine⟨?_,by simp only[J8,PS.off]; omega⟩
     simp only[J8,PS.off]
     rw[KG,XL,ZP]at h3
     rwa[ZY (by omega)]at h3
   ·cases h
  ·cases h
 | .i _ _::_,_,_,_,h,_=>by simp[nav]at h
theorem Qj9{g:AV→Option AV}{off:Nat}{ds:List Value}
  (hg:∀{c c':AV} {cs:List Value},g c=some c'→cr β ρ ok w false c cs→cr β ρ ok w false c' (cs.take off++ds++cs.drop (off+ds.length))∧off+ds.length≤cs.length) :
  ∀{l l':AV} {k o:Nat} {cs:List Value},V2 g l k=some (l',o)→cr β ρ ok w false l cs →
   cr β ρ ok w false l' (cs.take (o+off)++ds++cs.drop (o+off+ds.length))∧o+off+ds.length≤cs.length
 | .cons x r,l',0,o,cs,h,⟨c1,c2,e,h1,h2⟩=>by
  simp only[V2]at h
  split at h
  ·rename_i y hy
   simp at h
   obtain⟨rfl,rfl⟩:=h
   obtain⟨h3,h4⟩:=hg hy h1
   subst e
   refine⟨⟨_,c2,?_,h3,h2⟩,by rw[QI]; omega⟩
   rw[QE,ZC (by omega),List.drop_append_of_le_length (by omega)]
   simp only[QH]
  ·cases h
 | .cons x r,l',k+1,o,cs,h,⟨c1,c2,e,h1,h2⟩=>by
  simp only[V2]at h
  split at h
  ·rename_i r' o' hr
   simp at h
   obtain⟨rfl,rfl⟩:=h
   obtain⟨h3,h4⟩:=Qj9 hg hr h2
   subst e
   have hl:=U1 h1
   refine⟨⟨c1,_,?_,h1,h3⟩,by rw[QI,hl]; omega⟩
   have e1:x.size+o'+off=c1.length+(o'+off):=by rw[hl]; omega
   rw[e1,KE,JP (by omega),ZE]
   simp only[QH]
   congr 3
   rw[ZG,←XL,KU]
  ·cases h
 | .d ..,_,_,_,_,h,_=>by simp[V2]at h
 | .p ..,_,_,_,_,h,_=>by simp[V2]at h
 | .e ..,_,_,_,_,h,_=>by simp[V2]at h
 | .s ..,_,_,_,_,h,_=>by simp[V2]at h
 | .m ..,_,_,_,_,h,_=>by simp[V2]at h
 | .b ..,_,_,_,_,h,_=>by simp[V2]at h
 | .w ..,_,_,_,_,h,_=>by simp[V2]at h
 | .a ..,_,_,_,_,h,_=>by simp[V2]at h
 | .z,_,_,_,_,h,_=>by simp[V2]at h
 | .ns,_,_,_,_,h,_=>by simp[V2]at h
 | .np,_,_,_,_,h,_=>by simp[V2]at h
 | .nm,_,_,_,_,h,_=>by simp[V2]at h
 | .nf,_,_,_,_,h,_=>by simp[V2]at h
 | .f ..,_,_,_,_,h,_=>by simp[V2]at h
 | .ag ..,_,_,_,_,h,_=>by simp[V2]at h
 | .tp ..,_,_,_,_,h,_=>by simp[V2]at h
 | .nil,_,_,_,_,h,_=>by simp[V2]at h
theorem Tw{new:AV}{ds:List Value}(hn:cr β ρ ok w false new ds):∀{ps:List PS} {cur av':AV} {cs:List Value},Qnd ps cur new=some av'→cr β ρ ok w false cur cs →
  cr β ρ ok w false av' (cs.take (J8 ps)++ds++cs.drop (J8 ps+ds.length))∧J8 ps+ds.length≤cs.length
 | [],cur,av',cs,h,hc=>by
  simp only[Qnd]at h
  cases hb:Qib cur new with
  | false=>rw[hb]at h; cases h
  | true =>
   rw[hb]at h
   simp at h; subst h
   simp only[Qib,QQ]at hb
   have h1:=QJ hb.1.1.1
   have h2:=U1 hn
   have h3:=U1 hc
   simp only[J8,ZA,QC,QE]
   rw[XN (by omega),QR]
   exact⟨hn,by omega⟩
 | .f k off::ps,cur,av',cs,h,hc=>by
  simp only[Qnd]at h
  split at h
  ·rename_i l hl
   split at h
   ·rename_i l' o hk
    cases hb:Nat.beq o off with
    | false=>rw[hb]at h; cases h
    | true =>
     rw[hb]at h
     simp only[cond_true,Option.some.injEq]at h
     have:=QJ hb
     subst this; subst h
     have:=Qj9 (off:=J8 ps) (ds:=ds) (fun {c c' cs'} hg yg=>Tw hn (ps:=ps) hg yg) hk (Qj8 hl hc)
     exact this
   ·cases h
  ·cases h
 | .i _ _::_,_,_,_,h,_=>by simp[Qnd]at h
theorem Qka{τ:Type}{r:RT τ}{A:Option Addr}{c:Nat}:Qzt r ok w [] (.slice A 0 c):=⟨A,0,c,rfl,rfl,JB _,fun h=>absurd h (by omega)⟩
theorem Qw2{τ:Type}{r:RT τ}{xs:List τ}{v u:Value}(hz:zal v u)(h:isV (rSl r) ok w xs u):isV (rSl r) ok w xs v:=by
 rcases hz with rfl | ⟨h0,A,rfl⟩
 ·exact h
 ·rw[h0]at h
  have uc:xs=[]:=by
   obtain⟨A',c',h1,_⟩:=Qjz h
   injection h1 with _ h2
   exact XZ.1 h2.symm
  subst uc
  exact Z5.2 Qka
theorem Z6{M:List (Nat×Ob)}(hM:∀id o,Qe M id=some o→(Qx β ρ id o).p ok w) :
  ∀{x:AV} {t:Ty} {y:t.De} {cs:List Value},asD M x t=some y→cr β ρ ok w false x cs→(rt t).rep ok w y cs
 | .d t x,u,y,cs,h,hc=>by
  obtain⟨rfl,rfl⟩:=Ty.cast_ok (by simpa only[asD]using h)
  exact hc
 | .ns,u,y,cs,h,hc=>by
  cases u<;>simp[asD]at h
  subst h
  exact⟨_,hc,Qka⟩
 | .z,u,y,cs,h,⟨A,hc⟩=>by
  cases u<;>simp[asD]at h
  subst h
  exact⟨_,hc,Qka⟩
 | .s id,u,y,cs,h,hc=>by
  cases u<;>simp[asD]at h
  rename_i e
  split at h
  ·rename_i e' t xs ho
   obtain⟨he,rfl⟩:=Ty.cast_ok h
   injection he with he
   subst he
   have:=(hM _ _ ho).1
   obtain⟨⟨v,hv,hz⟩,_⟩:=hc
   exact⟨_,hv,Z5.1 (Qw2 hz this)⟩
  ·cases h
 | .ag l,u,y,cs,h,hc=>by
  cases u<;>simp only[asD]at h<;>first | (cases h; done) | skip
  ·rename_i fs
   exact Z6 hM (x:=l) (t:=fs) h hc
  ·rename_i fs
   split at h
   ·rename_i y hy
    simp at h; subst h
    obtain⟨c1,c2,rfl,h1,h2⟩:=Q77 (Z6 hM (x:=l) hy hc)
    exact Qz8 h1 h2
   ·cases h
 | .nil,u,y,cs,h,hc=>by
  cases u<;>simp[asD]at h
  exact hc
 | .cons x r,u,y,cs,h,⟨c1,c2,e,h1,h2⟩=>by
  have key:∀{v:Ty} {z:v.De},r=.nil→asD M x v=some z→(rt v).rep ok w z cs:=by
   intro v z hr hx
   subst hr
   have:c2=[]:=h2
   subst this; subst e
   rw[QR]
   exact Z6 hM hx h1
  cases u with
  | pr f g =>
   simp only[asD]at h
   split at h
   ·rename_i a b ha hb
    simp at h; subst h
    exact⟨c1,c2,e,Z6 hM ha h1,Z6 hM hb h2⟩
   ·cases h
  | unit=>simp[asD]at h
  | int k=>cases r<;>simp[asD]at h; exact key rfl h
  | bool=>cases r<;>simp[asD]at h; exact key rfl h
  | str=>cases r<;>simp[asD]at h; exact key rfl h
  | sl e=>cases r<;>simp[asD]at h; exact key rfl h
  | arr n e=>cases r<;>simp[asD]at h; exact key rfl h
  | st fs=>cases r<;>simp[asD]at h; exact key rfl h
  | ref=>cases r<;>simp[asD]at h
  | rose fs=>cases r<;>simp only[asD]at h<;>first | (cases h; done) | exact key rfl h
 | .p ..,u,_,_,h,_=>by cases u<;>simp[asD]at h
 | .e ..,u,_,_,h,_=>by cases u<;>simp[asD]at h
 | .m ..,u,_,_,h,_=>by cases u<;>simp[asD]at h
 | .b ..,u,_,_,h,_=>by cases u<;>simp[asD]at h
 | .w ..,u,_,_,h,_=>by cases u<;>simp[asD]at h
 | .a ..,u,_,_,h,_=>by cases u<;>simp[asD]at h
 | .np,u,_,_,h,_=>by cases u<;>simp[asD]at h
 | .nm,u,_,_,h,_=>by cases u<;>simp[asD]at h
 | .nf,u,_,_,h,_=>by cases u<;>simp[asD]at h
 | .f ..,u,_,_,h,_=>by cases u<;>simp[asD]at h
 | .tp ..,u,_,_,h,_=>by cases u<;>simp[asD]at h
end
end Gx

/- The quiet operations. -/
namespace Gx
open Go Go.RowKit Gd
set_option linter.unusedVariables false
set_option linter.unusedSimpArgs false
structure TX where
 T:Tab
 tys:List (Nat×Ty)
 gl:List (Nat×Σ t:Ty,t.De)
def lit:AV→Option Value
 | .d (.int k) n=>some (.int k n)
 | .d .bool b=>some (.bool b)
 | .d .str l=>some (Ye l)
 | _=>none
def Q78:Value→Option AV
 | .int k n=>some (.d (.int k) n)
 | .bool b=>some (.d .bool b)
 | .string ⟨⟨l⟩⟩=>some (.d .str l)
 | _=>none
def nth:AV→Nat→Option AV
 | .cons x _,0=>some x
 | .cons _ r,k+1=>nth r k
 | _,_=>none
def evs(S:St)(cur:Va):List Operand→Option AV
 | []=>some .nil
 | x::xs=>match ev S cur x,evs S cur xs with
  | some v,some r=>some (.cons v r)
  | _,_=>none
def Jfi(c:Bool)(x y:Option AV):Option AV :=
 match x,y with
 | some (.d .bool p),some (.d .bool q)=>some (.d .bool (bif c then p else q))
 | some (.d (.int k) p),some (.d (.int k') q)=>bif Rk k k' then some (.d (.int k) (bif c then p else q))else none
 | _,_=>match c with
  | true=>x
  | false=>y
def Q79(cur:Va)(c:Operand)(b:Bool):Va:=match c with
 | .tmp t=>(t,b)::cur
 | _=>cur
def Xr:AV→Option (IntKind×Int)
 | .d (.int k) n=>some (k,n)
 | _=>none
def Q0i(M:List (Nat×Ob)):AV→Option Nat
 | .d (.sl _) xs=>some xs.length
 | .d .str l=>some l.length
 | .ns=>some 0
 | .z=>some 0
 | .s id=>match Qe M id with
  | some (.row _ _ xs)=>some xs.length
  | some (.tail _ _ xs)=>some xs.length
  | _=>none
 | .w _ _ n=>some n.toNat
 | _=>none
def Q0j{α:Type}(f:List Value→Option (α×List Value)):Nat→List Value→Option (List α×List Value)
 | 0,cs=>some ([],cs)
 | n+1,cs=>match f cs with
  | some (y,r)=>match Q0j f n r with
   | some (ys,r')=>some (y::ys,r')
   | none=>none
  | none=>none
def Qcp:Ty→List Value→Option (AV×List Value)
 | .arr n e,cs=>match Q0j (fun cs=>match Qcp e cs with
   | some (x,r)=>(match asD [] x e with
    | some y=>some (y,r)
    | none=>none)
   | none=>none) n cs with
  | some (l,r)=>some (.d (.arr n e) l,r)
  | none=>none
 | .st fs,cs=>match Qcp fs cs with
  | some (l,r)=>bif l.isVal then some (.ag (.cons l .nil),r)else some (.ag l,r)
  | none=>none
 | .pr f g,cs=>match Qcp f cs with
  | some (x,r)=>match Qcp g r with
   | some (l,r')=>bif l.isVal then some (.cons x (.cons l .nil),r')else some (.cons x l,r')
   | none=>none
  | none=>none
 | .rose fs,cs=>match Qcp fs cs with
  | some (l,.slice none 0 0::r)=>bif Q0g l then some (.ag (Jke l (.cons .ns .nil)),r)else none
  | _=>none
 | .unit,cs=>some (.nil,cs)
 | _,v::cs=>match Qj6 v with
  | some x=>some (x,cs)
  | none=>none
 | _,[]=>none
def L5(ty:Ty)(z:Value):Option AV:=match Qcp ty (Qu z)with
 | some (x,[])=>some x
 | _=>none
def Y8(S:St)(cur:Va):List (Nat×Operand)→Option (List (Nat×AV))
 | []=>some []
 | (i,x)::xs=>match ev S cur x,Y8 S cur xs with
  | some v,some r=>some ((i,v)::r)
  | _,_=>none
def Y0:TypeDesc→Option TypeId
 | .slice e=>some e
 | _=>none
def N4:(t:Ty)→t.De→Option (List Value)
 | .int k,n=>some [.int k n]
 | .bool,b=>some [.bool b]
 | .str,s=>some [Ye s]
 | .unit,_=>some []
 | .pr f r,x=>match N4 f x.1,N4 r x.2 with
  | some a,some b=>some (a++b)
  | _,_=>none
 | .st fs,x=>N4 fs x
 | _,_=>none
def Zj:AV→Option (List Value)
 | .d t x=>N4 t x
 | .ag l=>Zj l
 | .nil=>some []
 | .cons x r=>match Zj x,Zj r with
  | some a,some b=>some (a++b)
  | _,_=>none
 | _=>none
def Ja6:BinOp→Option Bool
 | .eql=>some false
 | .neq=>some true
 | _=>none
def Jql:AV→Option Bool
 | .np=>some true
 | .p _ _=>some false
 | .e _ _=>some false
 | .a _ _=>some false
 | _=>none
def Jqm:AV→Option Bool
 | .nm=>some true
 | .m _=>some false
 | _=>none
def Jqn:AV→Option Bool
 | .nf=>some true
 | .f _ _=>some false
 | _=>none
def Jqo:AV→Bool
 | .np=>true
 | _=>false
def Jqp:AV→Bool
 | .nm=>true
 | _=>false
def Jqq:AV→Bool
 | .nf=>true
 | _=>false
def Jo5(T:Tab)(op:BinOp)(t:TypeId)(x y:AV):Option Bool:=match Ja6 op,Qh T t with
 | some neg,some te=>match te.d with
  | .pointer _=>bif Jqo y then(match Jql x with
   | some b=>some (bif neg then !b else b)
   | none=>none)else none
  | .map _ _=>bif Jqp y then(match Jqm x with
   | some b=>some (bif neg then !b else b)
   | none=>none)else none
  | .func _ _ _=>bif Jqq y then(match Jqn x with
   | some b=>some (bif neg then !b else b)
   | none=>none)else none
  | _=>none
 | _,_=>none
def Qgj:Value→Bool
 | .agg _=>true
 | _=>false
theorem Qkb{t:Ty}{v:Value}(h:t.agg=Qgj v):(rt t).val (Qu v)=v:=by
 cases v<;>simp_all [Qgj,RT.val,B7,Qu]
def Jkg:Option Ob→Option (Σ k v:Ty,List (k.De×v.De))
 | some (.map k v xs)=>some ⟨k,v,xs⟩
 | _=>none
def asLs(M:List (Nat×Ob))(u:Ty):List (Nat×AV)→Nat→Option (List u.De)
 | [],_=>some []
 | (i,v)::l,j=>bif Nat.beq i j&&(u.agg==v.isAgg)then(match asD M v u,asLs M u l (j+1)with
  | some x,some xs=>some (x::xs)
  | _,_=>none)else none
def Qic(Y:TX)(S:St)(cur:Va):Op→Option AV
 | .move x | .assign x=>ev S cur x
 | .pick c a b=>match ev S cur c with
  | some (.d .bool v)=>Jfi v (ev S (Q79 cur c true) a) (ev S (Q79 cur c false) b)
  | _=>none
 | .binOp op t x y _=>match ev S cur x,ev S cur y with
  | some x,some y=>match lit x,lit y with
   | some u,some v=>match Qpi Y.T op t u v with
    | some r=>Q78 r
    | none=>none
   | _,_=>match Jo5 Y.T op t x y with
    | some b=>some (.d .bool b)
    | none=>match Ja6 op,Qh Y.T t,Zj x,Zj y with
    | some neg,some ⟨_,.struct ⟨fs⟩,_,_,_⟩,some us,some vs=>bif O5 fs&&x.isAgg&&y.isAgg then(match Qpn Y.T fs us vs with
     | some r=>some (.d .bool (bif neg then !r else r))
     | none=>none)else none
    | _,_,_,_=>none
  | _,_=>none
 | .unOp op _ x=>match ev S cur x with
  | some x=>match lit x with
   | some u=>match Je3 op u with
    | some r=>Q78 r
    | none=>none
   | none=>none
  | none=>none
 | .convert s t x=>match Qh Y.T s,Qh Y.T t,ev S cur x with
  | some ⟨_,.int _,_,_,_⟩,some ⟨_,.int k,_,_,_⟩,some (.d (.int _) n)=>some (.d (.int k) (k.wrap n))
  | _,_,_=>none
 | .field s x f=>match Qh Y.T s,ev S cur x with
  | some ⟨_,.struct fs,_,_,_⟩,some x=>match fs[f]? with
   | some fd=>match nav [.f f fd.offset] x,Qh Y.T fd.type with
    | some y,some e=>bif Nat.beq e.size y.size&&(X9 e.d==y.isAgg)&&x.isAgg&&y.isVal&&(y.isAgg||Nat.beq y.size 1)then some y else none
    | _,_=>none
   | none=>none
  | _,_=>none
 | .fieldAddr s x f=>match Qh Y.T s,ev S cur x with
  | some ⟨_,.struct fs,_,_,_⟩,some x=>match Qpj Y.T fs f with
   | some off=>match x with
    | .p id path=>some (.p id (path++[.f f off]))
    | .e id path=>some (.e id (path++[.f f off]))
    | .a t y=>match nav [.f f off] (.d t y)with
     | some (.d u z)=>some (.a u z)
     | _=>none
    | _=>none
   | none=>none
  | _,_=>none
 | .load t x=>match Qh Y.T t,ev S cur x with
  | some e,some (.p id path)=>match Qe S.mem id with
   | some (.var _ c)=>match nav path c with
    | some y=>bif Nat.beq e.size y.size&&(X9 e.d==y.isAgg)&&y.isVal&&(y.isAgg||Nat.beq y.size 1)then some y else none
    | none=>none
   | _=>none
  | some e,some (.a t y)=>bif Nat.beq e.size t.size&&(X9 e.d==t.agg)then some (.d t y)else none
  | _,_=>none
 | .extract x i=>match ev S cur x with
  | some (.tp l)=>nth l i
  | _=>none
 | .call { callee:=.builtin .len,args:=⟨[x]⟩,argTypes:=⟨[t]⟩ }=>match Qh Y.T t,ev S cur x with
  | some e,some x=>match e.d with
   | .slice _=>match x with
    | .d .str _=>none
    | x=>match Q0i S.mem x with
     | some n=>some (.d (.int .i64) n)
     | none=>none
   | .string=>match x with
    | .d .str l=>some (.d (.int .i64) l.length)
    | _=>none
   | .map _ _=>match x with
    | .m id=>match Jkg (Qe S.mem id)with
     | some ⟨_,_,xs⟩=>some (.d (.int .i64) xs.length)
     | none=>none
    | .nm=>some (.d (.int .i64) (0:Nat))
    | _=>none
   | _=>none
  | _,_=>none
 | .call { callee:=.builtin .max,args:=⟨[x,y]⟩,argTypes:=_ }=>match ev S cur x,ev S cur y with
  | some x,some y=>match Xr x,Xr y with
   | some (k,a),some (_,b)=>some (.d (.int k) (if b>a then b else a))
   | _,_=>none
  | _,_=>none
 | .call { callee:=.builtin .min,args:=⟨[x,y]⟩,argTypes:=_ }=>match ev S cur x,ev S cur y with
  | some x,some y=>match Xr x,Xr y with
   | some (k,a),some (_,b)=>some (.d (.int k) (if b<a then b else a))
   | _,_=>none
  | _,_=>none
 | .call { callee:=.builtin .min,args:=⟨[x,y,x3]⟩,argTypes:=_ }=>match ev S cur x,ev S cur y,ev S cur x3 with
  | some x,some y,some x3=>match Xr x,Xr y,Xr x3 with
   | some (k,a),some (_,b),some (_,c)=>some (.d (.int k) (if c<(if b<a then b else a)then c else(if b<a then b else a)))
   | _,_,_=>none
  | _,_,_=>none
 | .build t ⟨parts⟩=>match Qh Y.T t,Jq Y.tys t with
  | some ⟨_,.struct ⟨fs⟩,z,_,_⟩,some ty=>match L5 ty z,Qh0 Y.T fs,Y8 S cur parts with
   | some (.ag l),some ps,some vs=>match fillP ps l vs with
    | some l'=>some (.ag l')
    | none=>none
   | _,_,_=>none
  | some ⟨_,.array _ e,z,_,_⟩,some (.arr m u)=>match parts with
   | []=>match Qh Y.T e,L5 (.arr m u) z with
    | some _,some x=>bif x.isAgg then some x else none
    | _,_=>none
   | _::_=>match Qh Y.T e,Y8 S cur parts with
    | some ee,some vs=>match asLs S.mem u vs 0 with
     | some xs=>bif Nat.beq ee.size u.size&&Nat.beq xs.length m&&Nat.beq (Qu z).length (m*u.size)then some (.d (.arr m u) xs)else none
     | none=>none
    | _,_=>none
  | _,_=>none
 | .nilCheck x=>match ev S cur x with
  | some (.p id path)=>some (.p id path)
  | some (.e id path)=>some (.e id path)
  | some (.a t y)=>some (.a t y)
  | some (.f fn caps)=>some (.f fn caps)
  | _=>none
 | .makeFunc (.func f) ⟨[]⟩ ⟨caps⟩=>match evs S cur caps with
  | some l=>some (.f f l)
  | none=>none
 | .lookup t x ix c=>match Qh Y.T t,ev S cur x,ev S cur ix with
  | some te,some (.m id),some iv=>match te.d,Jkg (Qe S.mem id)with
   | .map kt et,some ⟨k,v,xs⟩=>match Qh Y.T kt,Qh Y.T et,asD [] iv k with
    | some tk,some tz,some key=>match L5 v tz.z with
     | some za=>match asD [] za v with
      | some z=>bif Yu Y.T k tk.d&&(k.agg==iv.isAgg)&&(v.agg==Qgj tz.z)then some (match c with
       | true=>.tp (.cons (.d v ((Qr key xs).getD z)) (.cons (.d .bool (Qr key xs).isSome) .nil))
       | false=>.d v ((Qr key xs).getD z))else none
      | none=>none
     | none=>none
    | _,_,_=>none
   | _,_=>none
  | _,_,_=>none
 | _=>none
where
 fillP (ps:List (Nat×Nat)) (l:AV):List (Nat×AV)→Option AV
 | []=>some l
 | (i,x)::r=>match ps[i]? with
  | some (off,size)=>match V2 (fun c=>bif Qib c x then some x else none) l i with
   | some (l',o)=>bif Nat.beq o off&&Nat.beq x.size size then fillP ps l' r else none
   | none=>none
  | none=>none
section
variable {β:Nat→Nat} {ρ:Nat→Value} {ok:Ok} {w:World}
theorem Q5r{x:AV}{v:Value}(h:lit x=some v){cs:List Value}(hc:cr β ρ ok w false x cs):x.val cs=v:=by
 unfold lit at h
 split at h<;>first | (simp at h; done) | skip
 all_goals
  simp only[Option.some.injEq]at h
  subst h
  have yp:cs=_:=hc
  subst yp
  rfl
theorem Q0k{x:AV}{v:Value}(h:Q78 v=some x):∃cs,v=x.val cs∧cr β ρ ok w false x cs:=by
 unfold Q78 at h
 split at h<;>first | (simp at h; done) | skip
 all_goals
  simp only[Option.some.injEq]at h
  subst h
  exact⟨_,rfl,rfl⟩
theorem Jfj:∀{l:AV} {k:Nat} {x:AV} {vs:List Value},nth l k=some x→cr β ρ ok w true l vs→∃cs,vs[k]?=some (x.val cs)∧cr β ρ ok w false x cs
 | .cons x r,0,y,vs,h,⟨c1,vs',h1,h2,h3⟩=>by
  simp[nth]at h; subst h; subst h1
  exact⟨c1,rfl,h2⟩
 | .cons x r,k+1,y,vs,h,⟨c1,vs',h1,h2,h3⟩=>by
  subst h1
  obtain⟨c2,h4,h5⟩:=Jfj (l:=r) (k:=k) (x:=y) (by simpa only[nth]using h) h3
  exact⟨c2,by simpa using h4,h5⟩
 | .d ..,_,_,_,h,_=>by simp[nth]at h
 | .p ..,_,_,_,h,_=>by simp[nth]at h
 | .e ..,_,_,_,h,_=>by simp[nth]at h
 | .s ..,_,_,_,h,_=>by simp[nth]at h
 | .m ..,_,_,_,h,_=>by simp[nth]at h
 | .b ..,_,_,_,h,_=>by simp[nth]at h
 | .w ..,_,_,_,h,_=>by simp[nth]at h
 | .a ..,_,_,_,h,_=>by simp[nth]at h
 | .z,_,_,_,h,_=>by simp[nth]at h
 | .ns,_,_,_,h,_=>by simp[nth]at h
 | .np,_,_,_,h,_=>by simp[nth]at h
 | .nm,_,_,_,h,_=>by simp[nth]at h
 | .nf,_,_,_,h,_=>by simp[nth]at h
 | .f ..,_,_,_,h,_=>by simp[nth]at h
 | .ag ..,_,_,_,h,_=>by simp[nth]at h
 | .tp ..,_,_,_,h,_=>by simp[nth]at h
 | .nil,_,_,_,h,_=>by simp[nth]at h
theorem C6{x:AV}{k:IntKind}{n:Int}(h:Xr x=some (k,n)):x=.d (.int k) n:=by
 unfold Xr at h
 split at h
 ·simp at h; obtain⟨rfl,rfl⟩:=h; rfl
 ·cases h
theorem Jkh{M:List (Nat×Ob)}(hM:∀id o,Qe M id=some o→(Qx β ρ id o).p ok w){x:AV}{n:Nat}{cs:List Value}(h:Q0i M x=some n)(hs:∀l,x≠.d .str l)(hc:cr β ρ ok w false x cs) :
  ∃A c,x.val cs=.slice A n c:=by
 cases x with
 | d t y =>
  cases t<;>simp[Q0i]at h
  ·exact absurd rfl (hs _)
  ·subst h
   obtain⟨v,rfl,A,m,c,rfl,rfl,_⟩:=hc
   exact⟨A,c,rfl⟩
 | s id =>
  simp only[Q0i]at h
  obtain⟨⟨v,rfl,hz⟩,A,m,c,hv⟩:=hc
  suffices hm:m=n by
   subst hm
   rcases hz with rfl | ⟨h0,A',rfl⟩
   ·exact⟨A,c,hv⟩
   ·rw[hv]at h0
    injection h0 with _ h1
    exact⟨A',0,by rw[h1]; rfl⟩
  split at h<;>first | (simp at h; done) | skip
  ·rename_i ho
   simp at h; subst h
   have:=(hM _ _ ho).1
   rw[hv]at this
   exact this
  ·rename_i ho
   simp at h; subst h
   have:=(hM _ _ ho).1
   rw[hv]at this
   obtain⟨A',c',h1,_⟩:=Qjz this
   injection h1 with h1 h2 h3
 | ns=>simp[Q0i]at h; subst h; have:cs=_:=hc; subst this; exact⟨_,_,rfl⟩
 | w id j m=>simp[Q0i]at h; subst h; obtain⟨A,c,rfl,_⟩:=hc; exact⟨_,_,rfl⟩
 | z=>simp[Q0i]at h; subst h; obtain⟨A,rfl⟩:=hc; exact⟨_,_,rfl⟩
 | _=>simp[Q0i]at h
theorem Q0l{τ:Type}{r:RT τ}{f:List Value→Option (τ×List Value)}(hf:∀{cs r':List Value} {y:τ},f cs=some (y,r')→∃c1,cs=c1++r'∧r.rep ok w y c1) :
  ∀{n:Nat} {cs r':List Value} {ys:List τ},Q0j f n cs=some (ys,r')→∃c1,cs=c1++r'∧ys.length=n∧Kc r ok w ys c1
 | 0,cs,r',ys,h=>by simp[Q0j]at h; obtain⟨rfl,rfl⟩:=h; exact⟨[],rfl,rfl,rfl⟩
 | n+1,cs,r',ys,h=>by
  simp only[Q0j]at h
  split at h
  ·rename_i y r1 h1
   split at h
   ·rename_i ys' r2 h2
    simp at h; obtain⟨rfl,rfl⟩:=h
    obtain⟨c1,rfl,p1⟩:=hf h1
    obtain⟨c2,rfl,p2,p3⟩:=Q0l hf h2
    exact⟨c1++c2,by simp,by simp[p2],c1,c2,rfl,p1,p3⟩
   ·cases h
  ·cases h
theorem Qeo:∀{ty:Ty} {cs r:List Value} {x:AV},Qcp ty cs=some (x,r)→∃c1,cs=c1++r∧cr β ρ ok w false x c1
 | .st fs,cs,r,x,h=>by
  simp only[Qcp]at h
  split at h
  ·rename_i l r' hl
   obtain⟨c1,h1,h2⟩:=Qeo hl
   cases hv:l.isVal with
   | true =>
    rw[hv]at h
    simp at h; obtain⟨rfl,rfl⟩:=h
    exact⟨c1,h1,c1,[],by simp,h2,rfl⟩
   | false =>
    rw[hv]at h
    simp at h; obtain⟨rfl,rfl⟩:=h
    exact⟨c1,h1,h2⟩
  ·cases h
 | .rose fs,cs,r,x,h=>by
  simp only[Qcp]at h
  split at h
  ·rename_i l r' hl
   cases hb:Q0g l with
   | false=>rw[hb]at h; cases h
   | true =>
    rw[hb]at h
    simp at h; obtain⟨rfl,rfl⟩:=h
    obtain⟨c1,h1,h2⟩:=Qeo hl
    refine⟨c1++[.slice none 0 0],by rw[h1]; simp,Qw1 hb h2 ?_⟩
    exact⟨[.slice none 0 0],[],rfl,rfl,rfl⟩
  ·cases h
 | .pr f g,cs,r,x,h=>by
  simp only[Qcp]at h
  split at h
  ·rename_i y r1 h1
   split at h
   ·rename_i l r2 h2
    obtain⟨c1,rfl,mf⟩:=Qeo h1
    obtain⟨c2,rfl,mg⟩:=Qeo h2
    cases hv:l.isVal with
    | true =>
     rw[hv]at h
     simp at h; obtain⟨rfl,rfl⟩:=h
     exact⟨c1++c2,by simp,c1,c2,rfl,mf,c2,[],by simp,mg,rfl⟩
    | false =>
     rw[hv]at h
     simp at h; obtain⟨rfl,rfl⟩:=h
     exact⟨c1++c2,by simp,c1,c2,rfl,mf,mg⟩
   ·cases h
  ·cases h
 | .unit,cs,r,x,h=>by
  simp[Qcp]at h; obtain⟨rfl,rfl⟩:=h
  exact⟨[],rfl,rfl⟩
 | .int k,cs,r,x,h=>nest1 (by cases cs<;>(simp only[Qcp]at h; exact h))
 | .bool,cs,r,x,h=>nest1 (by cases cs<;>(simp only[Qcp]at h; exact h))
 | .str,cs,r,x,h=>nest1 (by cases cs<;>(simp only[Qcp]at h; exact h))
 | .sl e,cs,r,x,h=>nest1 (by cases cs<;>(simp only[Qcp]at h; exact h))
 | .ref,cs,r,x,h=>nest1 (by cases cs<;>(simp only[Qcp]at h; exact h))
 | .arr n e,cs,r,x,h=>by
  simp only[Qcp]at h
  split at h
  ·rename_i l r' hl
   simp at h; obtain⟨rfl,rfl⟩:=h
   obtain⟨c1,h1,h2,h3⟩:=Q0l (r:=rt e) (ok:=ok) (w:=w) (fun {cs r' y} hf=>by
    split at hf
    ·rename_i x r1 hx
     split at hf
     ·rename_i y' hy
      simp at hf; obtain⟨rfl,rfl⟩:=hf
      obtain⟨c1,p1,p2⟩:=Qeo hx
      exact⟨c1,p1,Z6 (M:=[]) (by simp[Qe]) hy p2⟩
     ·cases hf
    ·cases hf) hl
   exact⟨c1,h1,h2,h3⟩
  ·cases h
where
 nest1 {cs r:List Value} {x:AV} (h:(match cs with
  | v::cs=>match Qj6 v with
   | some x=>some (x,cs)
   | none=>none
  | []=>none)=some (x,r)):∃c1,cs=c1++r∧cr β ρ ok w false x c1:=by
  cases cs with
  | nil=>cases h
  | cons v cs =>
   simp only at h
   split at h
   ·rename_i y hy
    simp at h; obtain⟨rfl,rfl⟩:=h
    exact⟨[v],rfl,(Qj7 hy).1⟩
   ·cases h
theorem Ca{ty:Ty}{z:Value}{x:AV}(h:L5 ty z=some x):cr β ρ ok w false x (Qu z):=by
 unfold L5 at h
 split at h
 ·rename_i y hy
  simp at h; subst h
  obtain⟨c1,h1,h2⟩:=Qeo hy
  rw[h1,QR]; exact h2
 ·cases h
inductive Ja7{α β:Type}(R:α→β→Prop):List α→List β→Prop
 | nil:Ja7 R [] []
 | cons {a:α} {b:β} {l:List α} {m:List β} (h:R a b) (t:Ja7 R l m):Ja7 R (a::l) (b::m)
theorem Q0m(ps:List (Nat×Nat)):∀{vs:List (Nat×AV)} {us:List (Nat×Value)} {l l':AV} {cs:List Value},Qic.fillP ps l vs=some l' →
  cr β ρ ok w false l cs→Ja7 (fun(p:Nat×AV) (q:Nat×Value)=>p.1=q.1∧∃c,q.2=p.2.val c∧cr β ρ ok w false p.2 c) vs us →
  ∃cs',N0 (fun i=>ps[i]?) cs us=some cs'∧cr β ρ ok w false l' cs'
 | [],_,l,l',cs,h,hc,.nil=>by simp[Qic.fillP]at h; subst h; exact⟨cs,rfl,hc⟩
 | (i,x)::vs,_,l,l',cs,h,hc,@Ja7.cons _ _ _ _ q _ us hq hr=>by
  obtain⟨j,v⟩:=q
  obtain⟨rfl,c,hv,hcx⟩:=hq
  simp only at hv hcx
  simp only[Qic.fillP]at h
  split at h
  ·rename_i off size hp
   split at h
   ·rename_i l1 o hu
    cases hb:(Nat.beq o off&&Nat.beq x.size size)with
    | false=>rw[hb]at h; cases h
    | true =>
     rw[hb]at h
     simp only[QQ]at hb
     have e1:=QJ hb.1
     have e2:=QJ hb.2
     subst e1; subst e2
     simp only[cond_true]at h
     have hg:∀{c0 c':AV} {cs0:List Value},(fun c0=>bif Qib c0 x then some x else none) c0=some c'→cr β ρ ok w false c0 cs0 →
       cr β ρ ok w false c' (cs0.take 0++c++cs0.drop (0+c.length))∧0+c.length≤cs0.length:=by
      intro c0 c' cs0 h1 h2
      have:=Tw (β:=β) (ρ:=ρ) (ok:=ok) (w:=w) (new:=x) (ds:=c) hcx (ps:=[]) (cur:=c0) (av':=c') (by simpa[Qnd]using h1) h2
      simpa[J8]using this
     have hx:x.inMem=true∧x.isVal=true:=by
      have:∃c0,Qib c0 x=true:=by
       clear hr hc hp h hb hg
       induction l generalizing i l1 o with
       | cons y r _ ihr =>
        cases i with
        | zero =>
         simp only[V2]at hu
         cases hk:Qib y x with
         | true=>exact⟨y,hk⟩
         | false=>rw[hk]at hu; simp at hu
        | succ i =>
         simp only[V2]at hu
         split at hu
         ·rename_i r' o' hr
          exact ihr _ _ _ hr
         ·cases hu
       | _=>simp[V2]at hu
      obtain⟨c0,uj⟩:=this
      simp only[Qib,QQ]at uj
      exact⟨uj.1.1.2,uj.1.2⟩
     obtain⟨h3,h4⟩:=Qj9 (off:=0) (ds:=c) hg hu hc
     have xl:Qu v=c:=by rw[hv]; exact N3 hcx hx.2 hx.1
     have hlen:=U1 hcx
     obtain⟨cs',h5,h6⟩:=Q0m ps h h3 hr
     refine⟨cs',?_,h6⟩
     simp only[N0,hp,xl]
     have yo:(Nat.beq c.length x.size&&Nat.ble (o+c.length) cs.length)=true:=by
      simp only[QQ]
      exact⟨by rw[hlen]; exact JY _,XT (by omega)⟩
     rw[yo]
     simp only[cond_true,Qzy]
     simpa using h5
   ·cases h
  ·cases h
end
end Gx

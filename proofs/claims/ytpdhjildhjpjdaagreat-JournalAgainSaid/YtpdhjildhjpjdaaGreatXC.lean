/- Parts of values; values as data. -/
import Derived.Test.YtpdhjildhjpjdaaGreatGRows
namespace Gx
open Go Go.RowKit Gd
set_option linter.unusedVariables false
set_option linter.unusedSimpArgs false
def exF:(fs:Ty)→fs.De→AV
 | .pr f r,x=>.cons (.d f x.1) (exF r x.2)
 | .unit,_=>.nil
 | .int k,x=>.cons (.d (.int k) x) .nil
 | .bool,x=>.cons (.d .bool x) .nil
 | .str,x=>.cons (.d .str x) .nil
 | .sl e,x=>.cons (.d (.sl e) x) .nil
 | .arr n e,x=>.cons (.d (.arr n e) x) .nil
 | .st fs,x=>.cons (.d (.st fs) x) .nil
 | .ref,x=>.cons (.d .ref x) .nil
 | .rose fs,x=>.cons (.d (.rose fs) x) .nil
def Jox:AV→AV→AV
 | .cons x r,m=>.cons x (Jox r m)
 | .nil,m=>m
 | x,_=>x
def Q3p:AV→Bool
 | .cons _ r=>Q3p r
 | .nil=>true
 | _=>false
@[reducible] def Ji8:Ty→Ty→Ty
 | .pr f g,u=>.pr f (Ji8 g u)
 | .int k,u=>.pr (.int k) u
 | .bool,u=>.pr .bool u
 | .str,u=>.pr .str u
 | .sl e,u=>.pr (.sl e) u
 | .arr n e,u=>.pr (.arr n e) u
 | .st fs,u=>.pr (.st fs) u
 | .ref,u=>.pr .ref u
 | .rose fs,u=>.pr (.rose fs) u
 | .unit,u=>.pr .unit u
def Joy:(fs u:Ty)→(Ji8 fs u).De→fs.De×u.De
 | .pr f g,u,x=>match Joy g u x.2 with
  | (y,z)=>((x.1,y),z)
 | .int _,_,x=>x
 | .bool,_,x=>x
 | .str,_,x=>x
 | .sl _,_,x=>x
 | .arr _ _,_,x=>x
 | .st _,_,x=>x
 | .ref,_,x=>x
 | .rose _,_,x=>x
 | .unit,_,x=>x
def Qck:AV→Option AV
 | .d (.st fs) x=>some (exF fs x)
 | .d (.rose fs) x=>some (Jox (exF fs x.x) (.cons (.d (.sl (.rose fs)) x.ks) .nil))
 | .ag l=>some l
 | _=>none
def kid:AV→Nat→Option (AV×Nat)
 | .cons x _,0=>some (x,0)
 | .cons x r,k+1=>match kid r k with
  | some (y,o)=>some (y,x.size+o)
  | none=>none
 | _,_=>none
def nav:List PS→AV→Option AV
 | [],x=>some x
 | .f k off::ps,x=>match Qck x with
  | some l=>match kid l k with
   | some (y,o)=>bif Nat.beq o off then nav ps y else none
   | none=>none
  | none=>none
 | .i _ _::_,_=>none
def Up(g:AV→Option AV):AV→Nat→Option (AV×Nat)
 | .cons x r,0=>match g x with
  | some y=>some (.cons y r,0)
  | none=>none
 | .cons x r,k+1=>match Up g r k with
  | some (r',o)=>some (.cons x r',x.size+o)
  | none=>none
 | _,_=>none
def Qlm(cur new:AV):Bool:=Nat.beq new.size cur.size&&new.inMem&&new.isVal&&cur.isVal
def Qp9:List PS→AV→AV→Option AV
 | [],cur,new=>bif Qlm cur new then some new else none
 | .f k off::ps,cur,new=>match Qck cur with
  | some l=>match Up (fun c=>Qp9 ps c new) l k with
   | some (l',o)=>bif Nat.beq o off then some (.ag l')else none
   | none=>none
  | none=>none
 | .i _ _::_,_,_=>none
def asD(M:List (Nat×Ob)):AV→(t:Ty)→Option t.De
 | .d t x,u=>Ty.cast t u x
 | .ns,.sl _=>some []
 | .z,.sl _=>some []
 | .s id,.sl e=>match Qg M id with
  | some (.tail _ t xs)=>Ty.cast (.sl t) (.sl e) xs
  | _=>none
 | .ag l,.st fs=>asD M l fs
 | .ag l,.rose fs=>match asD M l (Ji8 fs (.sl (.rose fs)))with
  | some x=>match Joy fs (.sl (.rose fs)) x with
   | (a,ks)=>some (.mk a ks)
  | none=>none
 | .nil,.unit=>some ()
 | .cons x r,.pr f g=>match asD M x f,asD M r g with
  | some a,some b=>some (a,b)
  | _,_=>none
 | .cons x .nil,.int k=>asD M x (.int k)
 | .cons x .nil,.bool=>asD M x .bool
 | .cons x .nil,.str=>asD M x .str
 | .cons x .nil,.sl e=>asD M x (.sl e)
 | .cons x .nil,.arr n e=>asD M x (.arr n e)
 | .cons x .nil,.st fs=>asD M x (.st fs)
 | .cons x .nil,.rose fs=>asD M x (.rose fs)
 | _,_=>none
section
variable {β:Nat→Nat} {ρ:Nat→Value} {ok:Ok} {w:World}
theorem Q9a:∀{fs:Ty} {x:fs.De} {cs:List Value},(rt fs).rep ok w x cs→cr β ρ ok w false (exF fs x) cs
 | .pr f r,x,cs,⟨c1,c2,h,h1,h2⟩=>⟨c1,c2,h,h1,Q9a h2⟩
 | .unit,_,cs,h=>h
 | .int k,x,cs,h=>⟨cs,[],by simp,h,rfl⟩
 | .bool,x,cs,h=>⟨cs,[],by simp,h,rfl⟩
 | .str,x,cs,h=>⟨cs,[],by simp,h,rfl⟩
 | .sl e,x,cs,h=>⟨cs,[],by simp,h,rfl⟩
 | .arr n e,x,cs,h=>⟨cs,[],by simp,h,rfl⟩
 | .st fs,x,cs,h=>⟨cs,[],by simp,h,rfl⟩
 | .ref,x,cs,h=>h.elim
 | .rose fs,x,cs,h=>⟨cs,[],by simp,h,rfl⟩
theorem Q3q:∀(fs:Ty) (x:fs.De),Q3p (exF fs x)=true
 | .pr f r,x=>Q3q r x.2
 | .unit,_=>rfl
 | .int k,x=>rfl
 | .bool,x=>rfl
 | .str,x=>rfl
 | .sl e,x=>rfl
 | .arr n e,x=>rfl
 | .st fs,x=>rfl
 | .ref,x=>rfl
 | .rose fs,x=>rfl
theorem Qzt:∀{l m:AV} {c1 c2:List Value},Q3p l=true→cr β ρ ok w false l c1→cr β ρ ok w false m c2→cr β ρ ok w false (Jox l m) (c1++c2)
 | .cons x r,m,c1,c2,hl,⟨d1,d2,e,h1,h2⟩,hm=>⟨d1,d2++c2,by rw[e,List.append_assoc],h1,Qzt (l:=r) hl h2 hm⟩
 | .nil,m,c1,c2,_,h,hm=>by
  have h:c1=[]:=h
  subst h; exact hm
theorem Jbv:∀{fs u:Ty} {x:(Ji8 fs u).De} {cs:List Value},(rt (Ji8 fs u)).rep ok w x cs→∃c1 c2,cs=c1++c2∧(rt fs).rep ok w (Joy fs u x).1 c1∧(rt u).rep ok w (Joy fs u x).2 c2
 | .pr f g,u,x,cs,⟨c1,c2,e,h1,h2⟩=>by
  obtain⟨d1,d2,e2,h3,h4⟩:=Jbv (fs:=g) (u:=u) h2
  exact⟨c1++d1,d2,by rw[e,e2,List.append_assoc],⟨c1,d1,rfl,h1,h3⟩,h4⟩
 | .int _,_,x,cs,h=>h
 | .bool,_,x,cs,h=>h
 | .str,_,x,cs,h=>h
 | .sl _,_,x,cs,h=>h
 | .arr _ _,_,x,cs,h=>h
 | .st _,_,x,cs,h=>h
 | .ref,_,x,cs,h=>h
 | .rose _,_,x,cs,h=>h
 | .unit,_,x,cs,h=>h
theorem Qnj{x l:AV}{cs:List Value}(h:Qck x=some l)(hc:cr β ρ ok w false x cs):cr β ρ ok w false l cs:=by
 unfold Qck at h
 split at h
 ·simp at h; subst h; exact Q9a hc
 ·simp at h; subst h
  obtain⟨c1,c2,rfl,h1,h2⟩:=Jfh hc
  exact Qzt (Q3q _ _) (Q9a h1) ⟨c2,[],by simp,h2,rfl⟩
 ·simp at h; subst h; exact hc
 ·cases h
theorem Ji9:∀{l:AV} {k:Nat} {y:AV} {o:Nat} {cs:List Value},kid l k=some (y,o)→cr β ρ ok w false l cs →
  cr β ρ ok w false y ((cs.drop o).take y.size)∧o+y.size≤cs.length
 | .cons x r,0,y,o,cs,h,⟨c1,c2,e,h1,h2⟩=>by
  simp[kid]at h
  obtain⟨rfl,rfl⟩:=h
  grind [Zv,List.take_left]
 | .cons x r,k+1,y,o,cs,h,⟨c1,c2,e,h1,h2⟩=>by
  simp only[kid]at h
  split at h
  ·rename_i y' o' hk
   simp at h
   obtain⟨rfl,rfl⟩:=h
   obtain⟨h3,h4⟩:=Ji9 hk h2
   grind [Zv,List.length_append,List.drop_drop,List.drop_left]
  ·cases h
 | .d ..,_,_,_,_,h,_=>by simp[kid]at h
 | .p ..,_,_,_,_,h,_=>by simp[kid]at h
 | .e ..,_,_,_,_,h,_=>by simp[kid]at h
 | .s ..,_,_,_,_,h,_=>by simp[kid]at h
 | .m ..,_,_,_,_,h,_=>by simp[kid]at h
 | .b ..,_,_,_,_,h,_=>by simp[kid]at h
 | .w ..,_,_,_,_,h,_=>by simp[kid]at h
 | .a ..,_,_,_,_,h,_=>by simp[kid]at h
 | .z,_,_,_,_,h,_=>by simp[kid]at h
 | .ns,_,_,_,_,h,_=>by simp[kid]at h
 | .np,_,_,_,_,h,_=>by simp[kid]at h
 | .nm,_,_,_,_,h,_=>by simp[kid]at h
 | .nf,_,_,_,_,h,_=>by simp[kid]at h
 | .f ..,_,_,_,_,h,_=>by simp[kid]at h
 | .ag ..,_,_,_,_,h,_=>by simp[kid]at h
 | .tp ..,_,_,_,_,h,_=>by simp[kid]at h
 | .nil,_,_,_,_,h,_=>by simp[kid]at h
theorem Qjv:∀{ps:List PS} {x y:AV} {cs:List Value},nav ps x=some y→cr β ρ ok w false x cs →
  cr β ρ ok w false y ((cs.drop (Yp ps)).take y.size)∧Yp ps+y.size≤cs.length
 | [],x,y,cs,h,hc=>by
  grind [nav,Zv,Yp,List.take_of_length_le]
 | .f k off::ps,x,y,cs,h,hc=>by
  simp only[nav]at h
  split at h
  ·rename_i l hl
   split at h
   ·rename_i y' o hk
    cases hb:Nat.beq o off with
    | false=>rw[hb]at h; cases h
    | true =>
     rw[hb]at h
     simp only[cond_true]at h
     have:=Nat.eq_of_beq_eq_true hb
     subst this
     obtain⟨h1,h2⟩:=Ji9 hk (Qnj hl hc)
     obtain⟨h3,h4⟩:=Qjv h h1
     have hl:=Zv h1
     rw[hl]at h4
     grind [Yp,PS.off,List.drop_take,List.drop_drop,Nat.min_eq_left]
   ·cases h
  ·cases h
 | .i _ _::_,_,_,_,h,_=>by simp[nav]at h
theorem Qnk{g:AV→Option AV}{off:Nat}{ds:List Value}
  (hg:∀{c c':AV} {cs:List Value},g c=some c'→cr β ρ ok w false c cs→cr β ρ ok w false c' (cs.take off++ds++cs.drop (off+ds.length))∧off+ds.length≤cs.length) :
  ∀{l l':AV} {k o:Nat} {cs:List Value},Up g l k=some (l',o)→cr β ρ ok w false l cs →
   cr β ρ ok w false l' (cs.take (o+off)++ds++cs.drop (o+off+ds.length))∧o+off+ds.length≤cs.length
 | .cons x r,l',0,o,cs,h,⟨c1,c2,e,h1,h2⟩=>by
  simp only[Up]at h
  split at h
  ·rename_i y hy
   simp at h
   obtain⟨rfl,rfl⟩:=h
   obtain⟨h3,h4⟩:=hg hy h1
   subst e
   refine⟨⟨_,c2,?_,h3,h2⟩,by rw[List.length_append]; omega⟩
   rw[QW,XX (by omega),List.drop_append_of_le_length (by omega)]
   grind
  ·cases h
 | .cons x r,l',k+1,o,cs,h,⟨c1,c2,e,h1,h2⟩=>by
  simp only[Up]at h
  split at h
  ·rename_i r' o' hr
   simp at h
   obtain⟨rfl,rfl⟩:=h
   obtain⟨h3,h4⟩:=Qnk hg hr h2
   subst e
   have hl:=Zv h1
   refine⟨⟨c1,_,?_,h1,h3⟩,by rw[List.length_append,hl]; omega⟩
   have e1:x.size+o'+off=c1.length+(o'+off):=by rw[hl]; omega
   rw[e1,XG,List.take_of_length_le (by omega),JI]
   grind [List.append_assoc,Nat.add_assoc,List.drop_drop,List.drop_left]
  ·cases h
 | .d ..,_,_,_,_,h,_=>by simp[Up]at h
 | .p ..,_,_,_,_,h,_=>by simp[Up]at h
 | .e ..,_,_,_,_,h,_=>by simp[Up]at h
 | .s ..,_,_,_,_,h,_=>by simp[Up]at h
 | .m ..,_,_,_,_,h,_=>by simp[Up]at h
 | .b ..,_,_,_,_,h,_=>by simp[Up]at h
 | .w ..,_,_,_,_,h,_=>by simp[Up]at h
 | .a ..,_,_,_,_,h,_=>by simp[Up]at h
 | .z,_,_,_,_,h,_=>by simp[Up]at h
 | .ns,_,_,_,_,h,_=>by simp[Up]at h
 | .np,_,_,_,_,h,_=>by simp[Up]at h
 | .nm,_,_,_,_,h,_=>by simp[Up]at h
 | .nf,_,_,_,_,h,_=>by simp[Up]at h
 | .f ..,_,_,_,_,h,_=>by simp[Up]at h
 | .ag ..,_,_,_,_,h,_=>by simp[Up]at h
 | .tp ..,_,_,_,_,h,_=>by simp[Up]at h
 | .nil,_,_,_,_,h,_=>by simp[Up]at h
theorem Qcl{new:AV}{ds:List Value}(hn:cr β ρ ok w false new ds):∀{ps:List PS} {cur av':AV} {cs:List Value},Qp9 ps cur new=some av'→cr β ρ ok w false cur cs →
  cr β ρ ok w false av' (cs.take (Yp ps)++ds++cs.drop (Yp ps+ds.length))∧Yp ps+ds.length≤cs.length
 | [],cur,av',cs,h,hc=>by
  simp only[Qp9]at h
  cases hb:Qlm cur new with
  | false=>rw[hb]at h; cases h
  | true =>
   rw[hb]at h
   simp at h; subst h
   simp only[Qlm,QQ]at hb
   have h1:=Nat.eq_of_beq_eq_true hb.1.1.1
   have h2:=Zv hn
   have h3:=Zv hc
   simp_all [Yp,ZX,QE,QW,XK,QG]
 | .f k off::ps,cur,av',cs,h,hc=>by
  simp only[Qp9]at h
  split at h
  ·rename_i l hl
   split at h
   ·rename_i l' o hk
    cases hb:Nat.beq o off with
    | false=>rw[hb]at h; cases h
    | true =>
     rw[hb]at h
     simp only[cond_true,Option.some.injEq]at h
     have:=Nat.eq_of_beq_eq_true hb
     subst this; subst h
     have:=Qnk (off:=Yp ps) (ds:=ds) (fun {c c' cs'} hg hcc=>Qcl hn (ps:=ps) hg hcc) hk (Qnj hl hc)
     exact this
   ·cases h
  ·cases h
 | .i _ _::_,_,_,_,h,_=>by simp[Qp9]at h
theorem Qnl{τ:Type}{r:RT τ}{A:Option Addr}{c:Nat}:Qwq r ok w [] (.slice A 0 c):=⟨A,0,c,rfl,rfl,QO _,fun h=>absurd h (by omega)⟩
theorem Qzu{τ:Type}{r:RT τ}{xs:List τ}{v u:Value}(hz:zal v u)(h:isV (rSl r) ok w xs u):isV (rSl r) ok w xs v:=by
 rcases hz with rfl | ⟨h0,A,rfl⟩
 ·exact h
 grind [Qna,List.length_eq_zero_iff,U9,Qnl]
theorem Xa{M:List (Nat×Ob)}(hM:∀id o,Qg M id=some o→(Qv β ρ id o).p ok w) :
  ∀{x:AV} {t:Ty} {y:t.De} {cs:List Value},asD M x t=some y→cr β ρ ok w false x cs→(rt t).rep ok w y cs
 | .d t x,u,y,cs,h,hc=>by
  obtain⟨rfl,rfl⟩:=Ty.cast_ok (by simpa only[asD]using h)
  exact hc
 | .ns,u,y,cs,h,hc=>by
  cases u<;>simp[asD]at h
  subst h
  exact⟨_,hc,Qnl⟩
 | .z,u,y,cs,h,⟨A,hc⟩=>by
  cases u<;>simp[asD]at h
  subst h
  exact⟨_,hc,Qnl⟩
 | .s id,u,y,cs,h,hc=>by
  cases u<;>simp[asD]at h
  rename_i e
  split at h
  ·rename_i e' t xs ho
   obtain⟨he,rfl⟩:=Ty.cast_ok h
   injection he with he
   subst he
   have:=(hM _ _ ho).1
   obtain⟨⟨v,hv,hz⟩,_⟩:=hc
   exact⟨_,hv,U9.1 (Qzu hz this)⟩
  ·cases h
 | .ag l,u,y,cs,h,hc=>by
  cases u<;>simp only[asD]at h<;>first | (cases h; done) | skip
  ·rename_i fs
   exact Xa hM (x:=l) (t:=fs) h hc
  ·rename_i fs
   split at h
   ·rename_i y hy
    simp at h; subst h
    obtain⟨c1,c2,rfl,h1,h2⟩:=Jbv (Xa hM (x:=l) hy hc)
    exact Q3h h1 h2
   ·cases h
 | .nil,u,y,cs,h,hc=>by
  cases u<;>simp[asD]at h
  exact hc
 | .cons x r,u,y,cs,h,⟨c1,c2,e,h1,h2⟩=>by
  have key:∀{v:Ty} {z:v.De},r=.nil→asD M x v=some z→(rt v).rep ok w z cs:=by
   intro v z hr hx
   subst hr
   have:c2=[]:=h2
   subst this; subst e
   rw[QG]
   exact Xa hM hx h1
  cases u with
  | pr f g =>
   simp only[asD]at h
   split at h
   ·rename_i a b ha hb
    simp at h; subst h
    exact⟨c1,c2,e,Xa hM ha h1,Xa hM hb h2⟩
   ·cases h
  | unit=>simp[asD]at h
  | int k=>cases r<;>simp[asD]at h; exact key rfl h
  | bool=>cases r<;>simp[asD]at h; exact key rfl h
  | str=>cases r<;>simp[asD]at h; exact key rfl h
  | sl e=>cases r<;>simp[asD]at h; exact key rfl h
  | arr n e=>cases r<;>simp[asD]at h; exact key rfl h
  | st fs=>cases r<;>simp[asD]at h; exact key rfl h
  | ref=>cases r<;>simp[asD]at h
  | rose fs=>cases r<;>simp only[asD]at h<;>first | (cases h; done) | exact key rfl h
 | .p ..,u,_,_,h,_=>by cases u<;>simp[asD]at h
 | .e ..,u,_,_,h,_=>by cases u<;>simp[asD]at h
 | .m ..,u,_,_,h,_=>by cases u<;>simp[asD]at h
 | .b ..,u,_,_,h,_=>by cases u<;>simp[asD]at h
 | .w ..,u,_,_,h,_=>by cases u<;>simp[asD]at h
 | .a ..,u,_,_,h,_=>by cases u<;>simp[asD]at h
 | .np,u,_,_,h,_=>by cases u<;>simp[asD]at h
 | .nm,u,_,_,h,_=>by cases u<;>simp[asD]at h
 | .nf,u,_,_,h,_=>by cases u<;>simp[asD]at h
 | .f ..,u,_,_,h,_=>by cases u<;>simp[asD]at h
 | .tp ..,u,_,_,h,_=>by cases u<;>simp[asD]at h
end
end Gx

/- The quiet operations. -/
namespace Gx
open Go Go.RowKit Gd
set_option linter.unusedVariables false
set_option linter.unusedSimpArgs false
structure TX where
 T:Tab
 tys:List (Nat×Ty)
 gl:List (Nat×Σ t:Ty,t.De)
def lit:AV→Option Value
 | .d (.int k) n=>some (.int k n)
 | .d .bool b=>some (.bool b)
 | .d .str l=>some (Yl l)
 | _=>none
def Jbw:Value→Option AV
 | .int k n=>some (.d (.int k) n)
 | .bool b=>some (.d .bool b)
 | .string ⟨⟨l⟩⟩=>some (.d .str l)
 | _=>none
def nth:AV→Nat→Option AV
 | .cons x _,0=>some x
 | .cons _ r,k+1=>nth r k
 | _,_=>none
def evs(S:St)(cur:Vr):List Operand→Option AV
 | []=>some .nil
 | x::xs=>match ev S cur x,evs S cur xs with
  | some v,some r=>some (.cons v r)
  | _,_=>none
def Jja(c:Bool)(x y:Option AV):Option AV :=
 match x,y with
 | some (.d .bool p),some (.d .bool q)=>some (.d .bool (bif c then p else q))
 | some (.d (.int k) p),some (.d (.int k') q)=>bif Qar k k' then some (.d (.int k) (bif c then p else q))else none
 | _,_=>match c with
  | true=>x
  | false=>y
def Jbx(cur:Vr)(c:Operand)(b:Bool):Vr:=match c with
 | .tmp t=>(t,b)::cur
 | _=>cur
def W9:AV→Option (IntKind×Int)
 | .d (.int k) n=>some (k,n)
 | _=>none
def Q3r(M:List (Nat×Ob)):AV→Option Nat
 | .d (.sl _) xs=>some xs.length
 | .d .str l=>some l.length
 | .ns=>some 0
 | .z=>some 0
 | .s id=>match Qg M id with
  | some (.row _ _ xs)=>some xs.length
  | some (.tail _ _ xs)=>some xs.length
  | _=>none
 | .w _ _ n=>some n.toNat
 | _=>none
def Q3s{α:Type}(f:List Value→Option (α×List Value)):Nat→List Value→Option (List α×List Value)
 | 0,cs=>some ([],cs)
 | n+1,cs=>match f cs with
  | some (y,r)=>match Q3s f n r with
   | some (ys,r')=>some (y::ys,r')
   | none=>none
  | none=>none
def Qff:Ty→List Value→Option (AV×List Value)
 | .arr n e,cs=>match Q3s (fun cs=>match Qff e cs with
   | some (x,r)=>(match asD [] x e with
    | some y=>some (y,r)
    | none=>none)
   | none=>none) n cs with
  | some (l,r)=>some (.d (.arr n e) l,r)
  | none=>none
 | .st fs,cs=>match Qff fs cs with
  | some (l,r)=>bif l.isVal then some (.ag (.cons l .nil),r)else some (.ag l,r)
  | none=>none
 | .pr f g,cs=>match Qff f cs with
  | some (x,r)=>match Qff g r with
   | some (l,r')=>bif l.isVal then some (.cons x (.cons l .nil),r')else some (.cons x l,r')
   | none=>none
  | none=>none
 | .rose fs,cs=>match Qff fs cs with
  | some (l,.slice none 0 0::r)=>bif Q3p l then some (.ag (Jox l (.cons .ns .nil)),r)else none
  | _=>none
 | .unit,cs=>some (.nil,cs)
 | _,v::cs=>match Qnh v with
  | some x=>some (x,cs)
  | none=>none
 | _,[]=>none
def Oj(ty:Ty)(z:Value):Option AV:=match Qff ty (Qr z)with
 | some (x,[])=>some x
 | _=>none
def Vk(S:St)(cur:Vr):List (Nat×Operand)→Option (List (Nat×AV))
 | []=>some []
 | (i,x)::xs=>match ev S cur x,Vk S cur xs with
  | some v,some r=>some ((i,v)::r)
  | _,_=>none
def Yx:TypeDesc→Option TypeId
 | .slice e=>some e
 | _=>none
def R6:(t:Ty)→t.De→Option (List Value)
 | .int k,n=>some [.int k n]
 | .bool,b=>some [.bool b]
 | .str,s=>some [Yl s]
 | .unit,_=>some []
 | .pr f r,x=>match R6 f x.1,R6 r x.2 with
  | some a,some b=>some (a++b)
  | _,_=>none
 | .st fs,x=>R6 fs x
 | _,_=>none
def Kl:AV→Option (List Value)
 | .d t x=>R6 t x
 | .ag l=>Kl l
 | .nil=>some []
 | .cons x r=>match Kl x,Kl r with
  | some a,some b=>some (a++b)
  | _,_=>none
 | _=>none
def Jfk:BinOp→Option Bool
 | .eql=>some false
 | .neq=>some true
 | _=>none
def Jwj:AV→Option Bool
 | .np=>some true
 | .p _ _=>some false
 | .e _ _=>some false
 | .a _ _=>some false
 | _=>none
def Jwk:AV→Option Bool
 | .nm=>some true
 | .m _=>some false
 | _=>none
def Jwl:AV→Option Bool
 | .nf=>some true
 | .f _ _=>some false
 | _=>none
def Jwm:AV→Bool
 | .np=>true
 | _=>false
def Jwn:AV→Bool
 | .nm=>true
 | _=>false
def Jwo:AV→Bool
 | .nf=>true
 | _=>false
def Juc(T:Tab)(op:BinOp)(t:TypeId)(x y:AV):Option Bool:=match Jfk op,Qi T t with
 | some neg,some te=>match te.d with
  | .pointer _=>bif Jwm y then(match Jwj x with
   | some b=>some (bif neg then !b else b)
   | none=>none)else none
  | .map _ _=>bif Jwn y then(match Jwk x with
   | some b=>some (bif neg then !b else b)
   | none=>none)else none
  | .func _ _ _=>bif Jwo y then(match Jwl x with
   | some b=>some (bif neg then !b else b)
   | none=>none)else none
  | _=>none
 | _,_=>none
def Qjw:Value→Bool
 | .agg _=>true
 | _=>false
theorem Qnm{t:Ty}{v:Value}(h:t.agg=Qjw v):(rt t).val (Qr v)=v:=by
 cases v<;>simp_all [Qjw,RT.val,Dg,Qr]
def Joz:Option Ob→Option (Σ k v:Ty,List (k.De×v.De))
 | some (.map k v xs)=>some ⟨k,v,xs⟩
 | _=>none
def asLs(M:List (Nat×Ob))(u:Ty):List (Nat×AV)→Nat→Option (List u.De)
 | [],_=>some []
 | (i,v)::l,j=>bif Nat.beq i j&&(u.agg==v.isAgg)then(match asD M v u,asLs M u l (j+1)with
  | some x,some xs=>some (x::xs)
  | _,_=>none)else none
def Qln(Y:TX)(S:St)(cur:Vr):Op→Option AV
 | .move x | .assign x=>ev S cur x
 | .pick c a b=>match ev S cur c with
  | some (.d .bool v)=>Jja v (ev S (Jbx cur c true) a) (ev S (Jbx cur c false) b)
  | _=>none
 | .binOp op t x y _=>match ev S cur x,ev S cur y with
  | some x,some y=>match lit x,lit y with
   | some u,some v=>match Qr2 Y.T op t u v with
    | some r=>Jbw r
    | none=>none
   | _,_=>match Juc Y.T op t x y with
    | some b=>some (.d .bool b)
    | none=>match Jfk op,Qi Y.T t,Kl x,Kl y with
    | some neg,some ⟨_,.struct ⟨fs⟩,_,_,_⟩,some us,some vs=>bif Tc fs&&x.isAgg&&y.isAgg then(match Qr7 Y.T fs us vs with
     | some r=>some (.d .bool (bif neg then !r else r))
     | none=>none)else none
    | _,_,_,_=>none
  | _,_=>none
 | .unOp op _ x=>match ev S cur x with
  | some x=>match lit x with
   | some u=>match Jiw op u with
    | some r=>Jbw r
    | none=>none
   | none=>none
  | none=>none
 | .convert s t x=>match Qi Y.T s,Qi Y.T t,ev S cur x with
  | some ⟨_,.int _,_,_,_⟩,some ⟨_,.int k,_,_,_⟩,some (.d (.int _) n)=>some (.d (.int k) (k.wrap n))
  | _,_,_=>none
 | .field s x f=>match Qi Y.T s,ev S cur x with
  | some ⟨_,.struct fs,_,_,_⟩,some x=>match fs[f]? with
   | some fd=>match nav [.f f fd.offset] x,Qi Y.T fd.type with
    | some y,some e=>bif Nat.beq e.size y.size&&(Gk e.d==y.isAgg)&&x.isAgg&&y.isVal&&(y.isAgg||Nat.beq y.size 1)then some y else none
    | _,_=>none
   | none=>none
  | _,_=>none
 | .fieldAddr s x f=>match Qi Y.T s,ev S cur x with
  | some ⟨_,.struct fs,_,_,_⟩,some x=>match Qr3 Y.T fs f with
   | some off=>match x with
    | .p id path=>some (.p id (path++[.f f off]))
    | .e id path=>some (.e id (path++[.f f off]))
    | .a t y=>match nav [.f f off] (.d t y)with
     | some (.d u z)=>some (.a u z)
     | _=>none
    | _=>none
   | none=>none
  | _,_=>none
 | .load t x=>match Qi Y.T t,ev S cur x with
  | some e,some (.p id path)=>match Qg S.mem id with
   | some (.var _ c)=>match nav path c with
    | some y=>bif Nat.beq e.size y.size&&(Gk e.d==y.isAgg)&&y.isVal&&(y.isAgg||Nat.beq y.size 1)then some y else none
    | none=>none
   | _=>none
  | some e,some (.a t y)=>bif Nat.beq e.size t.size&&(Gk e.d==t.agg)then some (.d t y)else none
  | _,_=>none
 | .extract x i=>match ev S cur x with
  | some (.tp l)=>nth l i
  | _=>none
 | .call { callee:=.builtin .len,args:=⟨[x]⟩,argTypes:=⟨[t]⟩ }=>match Qi Y.T t,ev S cur x with
  | some e,some x=>match e.d with
   | .slice _=>match x with
    | .d .str _=>none
    | x=>match Q3r S.mem x with
     | some n=>some (.d (.int .i64) n)
     | none=>none
   | .string=>match x with
    | .d .str l=>some (.d (.int .i64) l.length)
    | _=>none
   | .map _ _=>match x with
    | .m id=>match Joz (Qg S.mem id)with
     | some ⟨_,_,xs⟩=>some (.d (.int .i64) xs.length)
     | none=>none
    | .nm=>some (.d (.int .i64) (0:Nat))
    | _=>none
   | _=>none
  | _,_=>none
 | .call { callee:=.builtin .max,args:=⟨[x,y]⟩,argTypes:=_ }=>match ev S cur x,ev S cur y with
  | some x,some y=>match W9 x,W9 y with
   | some (k,a),some (_,b)=>some (.d (.int k) (if b>a then b else a))
   | _,_=>none
  | _,_=>none
 | .call { callee:=.builtin .min,args:=⟨[x,y]⟩,argTypes:=_ }=>match ev S cur x,ev S cur y with
  | some x,some y=>match W9 x,W9 y with
   | some (k,a),some (_,b)=>some (.d (.int k) (if b<a then b else a))
   | _,_=>none
  | _,_=>none
 | .call { callee:=.builtin .min,args:=⟨[x,y,x3]⟩,argTypes:=_ }=>match ev S cur x,ev S cur y,ev S cur x3 with
  | some x,some y,some x3=>match W9 x,W9 y,W9 x3 with
   | some (k,a),some (_,b),some (_,c)=>some (.d (.int k) (if c<(if b<a then b else a)then c else(if b<a then b else a)))
   | _,_,_=>none
  | _,_,_=>none
 | .build t ⟨parts⟩=>match Qi Y.T t,Jv Y.tys t with
  | some ⟨_,.struct ⟨fs⟩,z,_,_⟩,some ty=>match Oj ty z,Qk8 Y.T fs,Vk S cur parts with
   | some (.ag l),some ps,some vs=>match fillP ps l vs with
    | some l'=>some (.ag l')
    | none=>none
   | _,_,_=>none
  | some ⟨_,.array _ e,z,_,_⟩,some (.arr m u)=>match parts with
   | []=>match Qi Y.T e,Oj (.arr m u) z with
    | some _,some x=>bif x.isAgg then some x else none
    | _,_=>none
   | _::_=>match Qi Y.T e,Vk S cur parts with
    | some ee,some vs=>match asLs S.mem u vs 0 with
     | some xs=>bif Nat.beq ee.size u.size&&Nat.beq xs.length m&&Nat.beq (Qr z).length (m*u.size)then some (.d (.arr m u) xs)else none
     | none=>none
    | _,_=>none
  | _,_=>none
 | .nilCheck x=>match ev S cur x with
  | some (.p id path)=>some (.p id path)
  | some (.e id path)=>some (.e id path)
  | some (.a t y)=>some (.a t y)
  | some (.f fn caps)=>some (.f fn caps)
  | _=>none
 | .makeFunc (.func f) ⟨[]⟩ ⟨caps⟩=>match evs S cur caps with
  | some l=>some (.f f l)
  | none=>none
 | .lookup t x ix c=>match Qi Y.T t,ev S cur x,ev S cur ix with
  | some te,some (.m id),some iv=>match te.d,Joz (Qg S.mem id)with
   | .map kt et,some ⟨k,v,xs⟩=>match Qi Y.T kt,Qi Y.T et,asD [] iv k with
    | some tk,some tz,some key=>match Oj v tz.z with
     | some za=>match asD [] za v with
      | some z=>bif Y2 Y.T k tk.d&&(k.agg==iv.isAgg)&&(v.agg==Qjw tz.z)then some (match c with
       | true=>.tp (.cons (.d v ((Qj key xs).getD z)) (.cons (.d .bool (Qj key xs).isSome) .nil))
       | false=>.d v ((Qj key xs).getD z))else none
      | none=>none
     | none=>none
    | _,_,_=>none
   | _,_=>none
  | _,_,_=>none
 | _=>none
where
 fillP (ps:List (Nat×Nat)) (l:AV):List (Nat×AV)→Option AV
 | []=>some l
 | (i,x)::r=>match ps[i]? with
  | some (off,size)=>match Up (fun c=>bif Qlm c x then some x else none) l i with
   | some (l',o)=>bif Nat.beq o off&&Nat.beq x.size size then fillP ps l' r else none
   | none=>none
  | none=>none
section
variable {β:Nat→Nat} {ρ:Nat→Value} {ok:Ok} {w:World}
theorem Q9b{x:AV}{v:Value}(h:lit x=some v){cs:List Value}(hc:cr β ρ ok w false x cs):x.val cs=v:=by
 unfold lit at h
 split at h<;>first | (simp at h; done) | skip
 all_goals
  simp only[Option.some.injEq]at h
  subst h
  have hc':cs=_:=hc
  subst hc'
  rfl
theorem Q3t{x:AV}{v:Value}(h:Jbw v=some x):∃cs,v=x.val cs∧cr β ρ ok w false x cs:=by
 unfold Jbw at h
 split at h<;>first | (simp at h; done) | skip
 all_goals
  simp only[Option.some.injEq]at h
  subst h
  exact⟨_,rfl,rfl⟩
theorem Jjb:∀{l:AV} {k:Nat} {x:AV} {vs:List Value},nth l k=some x→cr β ρ ok w true l vs→∃cs,vs[k]?=some (x.val cs)∧cr β ρ ok w false x cs
 | .cons x r,0,y,vs,h,⟨c1,vs',h1,h2,h3⟩=>by
  simp[nth]at h; grind
 | .cons x r,k+1,y,vs,h,⟨c1,vs',h1,h2,h3⟩=>by
  subst h1
  obtain⟨c2,h4,h5⟩:=Jjb (l:=r) (k:=k) (x:=y) (by grind [nth]) h3
  grind
 | .d ..,_,_,_,h,_=>by simp[nth]at h
 | .p ..,_,_,_,h,_=>by simp[nth]at h
 | .e ..,_,_,_,h,_=>by simp[nth]at h
 | .s ..,_,_,_,h,_=>by simp[nth]at h
 | .m ..,_,_,_,h,_=>by simp[nth]at h
 | .b ..,_,_,_,h,_=>by simp[nth]at h
 | .w ..,_,_,_,h,_=>by simp[nth]at h
 | .a ..,_,_,_,h,_=>by simp[nth]at h
 | .z,_,_,_,h,_=>by simp[nth]at h
 | .ns,_,_,_,h,_=>by simp[nth]at h
 | .np,_,_,_,h,_=>by simp[nth]at h
 | .nm,_,_,_,h,_=>by simp[nth]at h
 | .nf,_,_,_,h,_=>by simp[nth]at h
 | .f ..,_,_,_,h,_=>by simp[nth]at h
 | .ag ..,_,_,_,h,_=>by simp[nth]at h
 | .tp ..,_,_,_,h,_=>by simp[nth]at h
 | .nil,_,_,_,h,_=>by simp[nth]at h
theorem Io{x:AV}{k:IntKind}{n:Int}(h:W9 x=some (k,n)):x=.d (.int k) n:=by
 unfold W9 at h
 grind
theorem Jo0{M:List (Nat×Ob)}(hM:∀id o,Qg M id=some o→(Qv β ρ id o).p ok w){x:AV}{n:Nat}{cs:List Value}(h:Q3r M x=some n)(hs:∀l,x≠.d .str l)(hc:cr β ρ ok w false x cs) :
  ∃A c,x.val cs=.slice A n c:=by
 cases x with
 | d t y =>
  cases t<;>simp[Q3r]at h
  ·grind
  ·subst h
   obtain⟨v,rfl,A,m,c,rfl,rfl,_⟩:=hc
   exact⟨A,c,rfl⟩
 | s id =>
  simp only[Q3r]at h
  obtain⟨⟨v,rfl,hz⟩,A,m,c,hv⟩:=hc
  suffices hm:m=n by
   subst hm
   rcases hz with rfl | ⟨h0,A',rfl⟩
   ·exact⟨A,c,hv⟩
   ·rw[hv]at h0
    injection h0 with _ h1
    exact⟨A',0,by rw[h1]; rfl⟩
  split at h<;>first | (simp at h; done) | skip
  ·rename_i ho
   simp at h; subst h
   have:=(hM _ _ ho).1
   rw[hv]at this
   exact this
  ·rename_i ho
   simp at h; subst h
   have:=(hM _ _ ho).1
   rw[hv]at this
   grind [Qna]
 | ns=>simp[Q3r]at h; subst h; have:cs=_:=hc; subst this; exact⟨_,_,rfl⟩
 | w id j m=>simp[Q3r]at h; subst h; obtain⟨A,c,rfl,_⟩:=hc; exact⟨_,_,rfl⟩
 | z=>simp[Q3r]at h; subst h; obtain⟨A,rfl⟩:=hc; exact⟨_,_,rfl⟩
 | _=>simp[Q3r]at h
theorem Q3u{τ:Type}{r:RT τ}{f:List Value→Option (τ×List Value)}(hf:∀{cs r':List Value} {y:τ},f cs=some (y,r')→∃c1,cs=c1++r'∧r.rep ok w y c1) :
  ∀{n:Nat} {cs r':List Value} {ys:List τ},Q3s f n cs=some (ys,r')→∃c1,cs=c1++r'∧ys.length=n∧Wd r ok w ys c1
 | 0,cs,r',ys,h=>by simp[Q3s]at h; obtain⟨rfl,rfl⟩:=h; exact⟨[],rfl,rfl,rfl⟩
 | n+1,cs,r',ys,h=>by
  simp only[Q3s]at h
  split at h
  ·rename_i y r1 h1
   split at h
   ·rename_i ys' r2 h2
    simp at h; obtain⟨rfl,rfl⟩:=h
    obtain⟨c1,rfl,p1⟩:=hf h1
    obtain⟨c2,rfl,p2,p3⟩:=Q3u hf h2
    exact⟨c1++c2,by simp,by simp[p2],c1,c2,rfl,p1,p3⟩
   ·cases h
  ·cases h
theorem Qhr:∀{ty:Ty} {cs r:List Value} {x:AV},Qff ty cs=some (x,r)→∃c1,cs=c1++r∧cr β ρ ok w false x c1
 | .st fs,cs,r,x,h=>by
  simp only[Qff]at h
  split at h
  ·rename_i l r' hl
   obtain⟨c1,h1,h2⟩:=Qhr hl
   cases hv:l.isVal with
   | true =>
    rw[hv]at h
    simp at h; obtain⟨rfl,rfl⟩:=h
    exact⟨c1,h1,c1,[],by simp,h2,rfl⟩
   | false =>
    rw[hv]at h
    simp at h; obtain⟨rfl,rfl⟩:=h
    exact⟨c1,h1,h2⟩
  ·cases h
 | .rose fs,cs,r,x,h=>by
  simp only[Qff]at h
  split at h
  ·rename_i l r' hl
   cases hb:Q3p l with
   | false=>rw[hb]at h; cases h
   | true =>
    rw[hb]at h
    simp at h; obtain⟨rfl,rfl⟩:=h
    obtain⟨c1,h1,h2⟩:=Qhr hl
    refine⟨c1++[.slice none 0 0],by rw[h1]; simp,Qzt hb h2 ?_⟩
    exact⟨[.slice none 0 0],[],rfl,rfl,rfl⟩
  ·cases h
 | .pr f g,cs,r,x,h=>by
  simp only[Qff]at h
  split at h
  ·rename_i y r1 h1
   split at h
   ·rename_i l r2 h2
    obtain⟨c1,rfl,hc1⟩:=Qhr h1
    obtain⟨c2,rfl,hc2⟩:=Qhr h2
    cases hv:l.isVal with
    | true =>
     rw[hv]at h
     simp at h; obtain⟨rfl,rfl⟩:=h
     exact⟨c1++c2,by simp,c1,c2,rfl,hc1,c2,[],by simp,hc2,rfl⟩
    | false =>
     rw[hv]at h
     simp at h; obtain⟨rfl,rfl⟩:=h
     exact⟨c1++c2,by simp,c1,c2,rfl,hc1,hc2⟩
   ·cases h
  ·cases h
 | .unit,cs,r,x,h=>by
  simp[Qff]at h; obtain⟨rfl,rfl⟩:=h
  exact⟨[],rfl,rfl⟩
 | .int k,cs,r,x,h=>nest1 (by cases cs<;>(grind [Qff]))
 | .bool,cs,r,x,h=>nest1 (by cases cs<;>(grind [Qff]))
 | .str,cs,r,x,h=>nest1 (by cases cs<;>(grind [Qff]))
 | .sl e,cs,r,x,h=>nest1 (by cases cs<;>(grind [Qff]))
 | .ref,cs,r,x,h=>nest1 (by cases cs<;>(grind [Qff]))
 | .arr n e,cs,r,x,h=>by
  simp only[Qff]at h
  split at h
  ·rename_i l r' hl
   simp at h; obtain⟨rfl,rfl⟩:=h
   obtain⟨c1,h1,h2,h3⟩:=Q3u (r:=rt e) (ok:=ok) (w:=w) (fun {cs r' y} hf=>by
    split at hf
    ·rename_i x r1 hx
     split at hf
     ·rename_i y' hy
      simp at hf; obtain⟨rfl,rfl⟩:=hf
      obtain⟨c1,p1,p2⟩:=Qhr hx
      grind [Xa,Qg]
     ·cases hf
    ·cases hf) hl
   exact⟨c1,h1,h2,h3⟩
  ·cases h
where
 nest1 {cs r:List Value} {x:AV} (h:(match cs with
  | v::cs=>match Qnh v with
   | some x=>some (x,cs)
   | none=>none
  | []=>none)=some (x,r)):∃c1,cs=c1++r∧cr β ρ ok w false x c1:=by
  cases cs with
  | nil=>cases h
  | cons v cs =>
   simp only at h
   split at h
   ·rename_i y hy
    simp at h; obtain⟨rfl,rfl⟩:=h
    exact⟨[v],rfl,(Qni hy).1⟩
   ·cases h
theorem Dj{ty:Ty}{z:Value}{x:AV}(h:Oj ty z=some x):cr β ρ ok w false x (Qr z):=by
 unfold Oj at h
 split at h
 ·rename_i y hy
  simp at h; subst h
  obtain⟨c1,h1,h2⟩:=Qhr hy
  rw[h1,QG]; exact h2
 ·cases h
inductive Jfl{α β:Type}(R:α→β→Prop):List α→List β→Prop
 | nil:Jfl R [] []
 | cons {a:α} {b:β} {l:List α} {m:List β} (h:R a b) (t:Jfl R l m):Jfl R (a::l) (b::m)
theorem Q3v(ps:List (Nat×Nat)):∀{vs:List (Nat×AV)} {us:List (Nat×Value)} {l l':AV} {cs:List Value},Qln.fillP ps l vs=some l' →
  cr β ρ ok w false l cs→Jfl (fun(p:Nat×AV) (q:Nat×Value)=>p.1=q.1∧∃c,q.2=p.2.val c∧cr β ρ ok w false p.2 c) vs us →
  ∃cs',Ry (fun i=>ps[i]?) cs us=some cs'∧cr β ρ ok w false l' cs'
 | [],_,l,l',cs,h,hc,.nil=>by simp[Qln.fillP]at h; subst h; exact⟨cs,rfl,hc⟩
 | (i,x)::vs,_,l,l',cs,h,hc,@Jfl.cons _ _ _ _ q _ us hq hr=>by
  obtain⟨j,v⟩:=q
  obtain⟨rfl,c,hv,hcx⟩:=hq
  simp only at hv hcx
  simp only[Qln.fillP]at h
  split at h
  ·rename_i off size hp
   split at h
   ·rename_i l1 o hu
    cases hb:(Nat.beq o off&&Nat.beq x.size size)with
    | false=>rw[hb]at h; cases h
    | true =>
     rw[hb]at h
     simp only[QQ]at hb
     have e1:=Nat.eq_of_beq_eq_true hb.1
     have e2:=Nat.eq_of_beq_eq_true hb.2
     subst e1; subst e2
     simp only[cond_true]at h
     have hg:∀{c0 c':AV} {cs0:List Value},(fun c0=>bif Qlm c0 x then some x else none) c0=some c'→cr β ρ ok w false c0 cs0 →
       cr β ρ ok w false c' (cs0.take 0++c++cs0.drop (0+c.length))∧0+c.length≤cs0.length:=by
      intro c0 c' cs0 h1 h2
      have:=Qcl (β:=β) (ρ:=ρ) (ok:=ok) (w:=w) (new:=x) (ds:=c) hcx (ps:=[]) (cur:=c0) (av':=c') (by grind [Qp9]) h2
      grind [Yp]
     have hx:x.inMem=true∧x.isVal=true:=by
      have:∃c0,Qlm c0 x=true:=by
       clear hr hc hp h hb hg
       induction l generalizing i l1 o with
       | cons y r _ ihr =>
        cases i with
        | zero =>
         grind [Up,Qlm]
        | succ i =>
         grind [Up]
       | _=>simp[Up]at hu
      obtain⟨c0,hc0⟩:=this
      simp_all [Qlm,QQ]
     obtain⟨h3,h4⟩:=Qnk (off:=0) (ds:=c) hg hu hc
     have hcl:Qr v=c:=by rw[hv]; grind [R3]
     have hlen:=Zv hcx
     obtain⟨cs',h5,h6⟩:=Q3v ps h h3 hr
     refine⟨cs',?_,h6⟩
     simp only[Ry,hp,hcl]
     have hb':(Nat.beq c.length x.size&&Nat.ble (o+c.length) cs.length)=true:=by
      simp_all
     rw[hb']
     simp_all [cond_true,Q26]
   ·cases h
  ·cases h
end
end Gx

/- The quiet operations are what the model does. -/
namespace Gx
open Go Go.RowKit Gd
set_option linter.unusedVariables false
set_option linter.unusedSimpArgs false
theorem R7:∀(p q:List PS),Yp (p++q)=Yp p+Yp q
 | [],q=>by simp[Yp]
 | x::p,q=>by simp[Yp,R7 p q]; omega
def Dk(β:Nat→Nat)(ρ:Nat→Value)(ok:Ok)(S:St)(a:Act)(w:World):Prop :=
 (∀e∈S.env,(enD β ρ a e).p ok w)∧∀id o,Qg S.mem id=some o→(Qv β ρ id o).p ok w
theorem Rel.toW{X:Cx}{β:Nat→Nat}{ρ:Nat→Value}{S:St}{a:Act}{w:World}(h:Rel X β ρ S a w):Dk β ρ (okR X β ρ S.mem w) S a w:=⟨fun _ he=>h.en he,fun _ _ ho=>(h.ob ho).1⟩
theorem Dk.ev{β:Nat→Nat}{ρ:Nat→Value}{ok:Ok}{S:St}{a:Act}{w:World}(h:Dk β ρ ok S a w){cur:Vr}(hc:Jy a cur){x:Operand}{v:AV}(hx:ev S cur x=some v) :
  ∃cs,a.eval x=v.val cs∧cr β ρ ok w false v cs:=by
 cases x with
 | tmp t =>
  simp only[Gx.ev]at hx
  split at hx
  ·rename_i e he
   cases hb:Qzp e.cs cur with
   | false=>rw[hb]at hx; cases hx
   | true =>
    rw[hb]at hx
    simp at hx; subst hx
    have hr:=Q3l he a
    obtain⟨hm,rfl⟩:=Zw he
    obtain⟨cs,h1,h2⟩:=(h.1 _ hm).1 (Qhq hb hc)
    rw[hr]at h1
    exact⟨cs,by simp[Act.eval,h1],h2⟩
  ·cases hx
 | const v =>
  obtain⟨cs,h1,h2⟩:=Qse (β:=β) (ρ:=ρ) (ok:=ok) (w:=w) hx
  exact⟨cs,h1,h2⟩
 | func f =>
  simp[Gx.ev]at hx; subst hx
  exact⟨[.func (.func f) #[] #[]],rfl,[],rfl,rfl⟩
 | global g =>
  simp only[Gx.ev]at hx
  split at hx
  ·rename_i e he
   cases hb:Qzp e.cs cur with
   | false=>rw[hb]at hx; cases hx
   | true =>
    rw[hb]at hx
    simp at hx; subst hx
    obtain⟨hm,ht⟩:=Qng he
    obtain⟨cs,h1,h2⟩:=(h.1 _ hm).1 (Qhq hb hc)
    rw[ht,Q89]at h1
    exact⟨cs,Option.some.inj h1,h2⟩
  ·cases hx
section
variable {P:Program} {Y:TX} {X:Cx} {β:Nat→Nat} {ρ:Nat→Value} {S:St} {a:Act} {w:World} {cur:Vr} {ok:Ok}
theorem Dk.evs(h:Dk β ρ ok S a w)(hc:Jy a cur):∀{xs:List Operand} {l:AV},evs S cur xs=some l→cr β ρ (ok) w true l (xs.map a.eval)
 | [],l,hl=>by simp[Gx.evs]at hl; subst hl; rfl
 | x::xs,l,hl=>by
  simp only[Gx.evs]at hl
  split at hl
  ·rename_i v r hv hr
   simp at hl; subst hl
   obtain⟨cs,h1,h2⟩:=h.ev hc hv
   exact⟨cs,xs.map a.eval,by rw[QR,h1],h2,h.evs hc hr⟩
  ·cases hl
theorem Dk.evParts(h:Dk β ρ ok S a w)(hc:Jy a cur):∀{xs:List (Nat×Operand)} {l:List (Nat×AV)},Vk S cur xs=some l →
  Jfl (fun(p:Nat×AV) (q:Nat×Value)=>p.1=q.1∧∃c,q.2=p.2.val c∧cr β ρ (ok) w false p.2 c) l (xs.map fun p=>(p.1,a.eval p.2))
 | [],l,hl=>by simp[Vk]at hl; subst hl; exact .nil
 | (i,x)::xs,l,hl=>by
  simp only[Vk]at hl
  split at hl
  ·rename_i v r hv hr
   simp at hl; subst hl
   obtain⟨cs,h1,h2⟩:=h.ev hc hv
   exact .cons ⟨rfl,cs,h1,h2⟩ (h.evParts hc hr)
  ·cases hl
theorem bvT{α:Type}{b:Bool}{x:Option α}{y:α}(h:(bif b then x else none)=some y):b=true∧x=some y:=by
 grind
theorem bEq{a b:Bool}(h:(a==b)=true):a=b:=by simpa using h
theorem Dk.mm(h:Dk β ρ ok S a w):∀id o,Qg S.mem id=some o→(Qv β ρ id o).p (ok) w:=h.2
theorem Dk.asD(h:Dk β ρ ok S a w)(hc:Jy a cur){x:Operand}{v:AV}{t:Ty}{y:t.De}(hx:Gx.ev S cur x=some v)(hd:Gx.asD S.mem v t=some y)(ht:t.agg=v.isAgg) :
  isV (rt t) (ok) w y (a.eval x):=by
 obtain⟨cs,h1,h2⟩:=h.ev hc hx
 refine⟨cs,Xa h.mm hd h2,?_⟩
 rw[h1,AV.val,RT.val,Dg,ht]
 cases v.isAgg<;>rfl
theorem Dk.asLs(h:Dk β ρ ok S a w)(hc:Jy a cur){u:Ty}:∀{ps:List (Nat×Operand)} {vs:List (Nat×AV)} {xs:List u.De} {j:Nat},Vk S cur ps=some vs→Gx.asLs S.mem u vs j=some xs →
  ∃us:List Value,ps.map (fun p=>(p.1,a.eval p.2))=(List.range' j us.length).zip us∧Qvy (rt u) ok w xs us∧us.length=xs.length
 | [],vs,xs,j,he,hx=>by
  simp[Vk]at he; subst he
  simp[Gx.asLs]at hx; subst hx
  exact⟨[],rfl,trivial,rfl⟩
 | (i,x)::ps,vs,xs,j,he,hx=>by
  simp only[Vk]at he
  split at he
  ·rename_i v l hv hl
   simp at he; subst he
   simp only[Gx.asLs]at hx
   obtain⟨hb,hx⟩:=bvT hx
   simp only[QQ]at hb
   have:=Nat.eq_of_beq_eq_true hb.1
   subst this
   split at hx
   ·rename_i y ys hy hys
    simp at hx; subst hx
    obtain⟨us,q1,q2,q3⟩:=Dk.asLs h hc (u:=u) (ps:=ps) hl hys
    have hiv:=h.asD hc hv hy (bEq hb.2)
    refine⟨a.eval x::us,?_,⟨hiv,q2⟩,by simp[q3]⟩
    grind [List.length_cons,List.range'_succ,List.zip_cons_cons]
   ·cases hx
  ·cases he
theorem Qnn{τ:Type}{r:RT τ}{ok:Ok}{w:World}:∀{xs:List τ} {us:List Value},Qvy r ok w xs us→∀v∈us,(Qr v).length=r.size
 | [],[],_,v,hv=>by cases hv
 | x::xs,y::us,h,v,hv=>by
  rcases QX.1 hv with rfl | hv
  ·rw[r.len (Dd h.1)]
  ·exact Qnn h.2 v hv
 | [],_::_,h,_,_=>h.elim
 | _::_,[],h,_,_=>h.elim
theorem Qsi{τ:Type}{r:RT τ}{ok:Ok}{w:World}:∀{xs:List τ} {us:List Value},Qvy r ok w xs us→Wd r ok w xs (us.flatMap Qr)
 | [],[],_=>rfl
 | x::xs,y::us,h=>⟨Qr y,us.flatMap Qr,by simp,Dd h.1,Qsi h.2⟩
 | [],_::_,h=>h.elim
 | _::_,[],h=>h.elim
theorem Q3w{s:Nat}:∀(vs:List Value) (j:Nat) (cs:List Value),(∀v∈vs,(Qr v).length=s)→(j+vs.length)*s≤cs.length →
  Ry (Qe6 s) cs ((List.range' j vs.length).zip vs)=some (cs.take (j*s)++vs.flatMap Qr++cs.drop ((j+vs.length)*s))
 | [],j,cs,_,_=>by simp[Ry]
 | v::vs,j,cs,hv,hl=>by
  have h1:=hv v (.head _)
  simp only[List.length_cons]at hl ⊢
  have e0:(j+(vs.length+1))*s=j*s+s+vs.length*s:=by rw[Nat.add_mul,Nat.add_mul]; omega
  rw[e0]at hl
  simp only[List.range'_succ,List.zip_cons_cons,Ry,Qe6,h1]
  have hb:(Nat.beq s s&&Nat.ble (j*s+s) cs.length)=true:=by
   simp only[QQ]
   grind [Nat.beq_refl,Nat.ble_eq_true_of_le]
  simp only[hb,cond_true]
  have hlay:(Q26 cs (j*s) (Qr v)).length=cs.length:=by grind [Q26]
  have e1:(j+1+vs.length)*s=j*s+s+vs.length*s:=by rw[Nat.add_mul,Nat.add_mul]; omega
  have e2:(j+1)*s=j*s+s:=by rw[Nat.add_mul]; omega
  have:=Q3w vs (j+1) (Q26 cs (j*s) (Qr v)) (fun u hu=>hv u (.tail _ hu)) (by rw[hlay,e1]; omega)
  rw[this,e1,e2,e0]
  simp only[Q26,JM]
  have hA:(cs.take (j*s)++Qr v).length=j*s+s:=by grind
  congr 1
  rw[XX (by rw[hA]; omega),List.take_of_length_le (by rw[hA]; omega)]
  rw[List.drop_append,hA,XK (by rw[hA]; omega),QE,h1,List.drop_drop]
  simp_all
theorem Qpa{a:Act}{cur:Vr}(hc:Jy a cur){c:Operand}{b:Bool}(hb:a.eval c=.bool b):Jy a (Jbx cur c b):=by
 unfold Jbx
 split
 ·rename_i t
  intro x hx
  rcases QX.1 hx with rfl | hx
  ·simp only[Act.eval]at hb
   simp only
   rw[QI]at hb
   grind [undef]
  ·exact hc x hx
 ·exact hc
theorem Jjc{c:Bool}{x y:Option AV}{v:AV}{β:Nat→Nat}{ρ:Nat→Value}{ok:Ok}{w:World}{u1 u2:Value}
  (hx:c=true→∀v,x=some v→∃cs,u1=v.val cs∧cr β ρ ok w false v cs) (hy:c=false→∀v,y=some v→∃cs,u2=v.val cs∧cr β ρ ok w false v cs)
  (h:Jja c x y=some v):∃cs,(if c=true then u1 else u2)=v.val cs∧cr β ρ ok w false v cs:=by
 unfold Jja at h
 split at h
 ·grind
 ·rename_i k p k' q
  cases hk:Qar k k' with
  | false=>rw[hk]at h; cases h
  | true =>
   rw[hk]at h
   have:=Im hk
   grind
 grind
theorem Bi(hT:Qy P Y.T){t:TypeId}{e:TE}(he:Qi Y.T t=some e){b o:Nat}{y:AV}{cs:List Value}(hs:e.size=cs.length)(ha:Gk e.d=y.isAgg)(h1:y.isAgg=false→cs.length=1)
  (hc:∀(j:Nat) u,cs[j]?=some u→w.cell? ⟨b,o+j,none⟩=some u):(Instr.loadAt t (.pointer (some ⟨b,o,none⟩))).run P w=.ok (y.val cs) w:=by
 have:=Qk7 hT w he b o cs hs.symm (fun h=>h1 (by rw[←ha,h])) hc
 grind [Instr.loadAt,Instr.sureAddr,Sem.run_bind,Sem.run_pure,Result.andThen_ok,AV.val]
theorem Qlo{ok:Ok}{w:World}:∀{t:Ty} {x:t.De} {vs cs:List Value},R6 t x=some vs→(rt t).rep ok w x cs→cs=vs
 | .int k,x,vs,cs,h,hc=>by simp[R6]at h; subst h; exact hc
 | .bool,x,vs,cs,h,hc=>by simp[R6]at h; subst h; exact hc
 | .str,x,vs,cs,h,hc=>by simp[R6]at h; subst h; exact hc
 | .unit,x,vs,cs,h,hc=>by simp[R6]at h; subst h; exact hc
 | .pr f r,x,vs,cs,h,hc=>by
  obtain⟨c1,c2,rfl,h1,h2⟩:=hc
  simp only[R6]at h
  split at h
  ·rename_i p q hp hq
   simp at h; subst h
   rw[Qlo hp h1,Qlo hq h2]
  ·cases h
 | .st fs,x,vs,cs,h,hc=>Qlo (t:=fs) h hc
 | .sl e,x,vs,cs,h,hc=>by simp[R6]at h
 | .arr n e,x,vs,cs,h,hc=>by simp[R6]at h
 | .ref,x,vs,cs,h,hc=>by simp[R6]at h
 | .rose fs,x,vs,cs,h,hc=>by simp[R6]at h
theorem Qaw:∀{x:AV} {vs cs:List Value},Kl x=some vs→cr β ρ ok w false x cs→cs=vs
 | .d t x,vs,cs,h,hc=>Qlo h hc
 | .ag l,vs,cs,h,hc=>Qaw (x:=l) h hc
 | .nil,vs,cs,h,hc=>by simp[Kl]at h; subst h; exact hc
 | .cons x r,vs,cs,h,hc=>by
  obtain⟨c1,c2,rfl,h1,h2⟩:=hc
  simp only[Kl]at h
  split at h
  ·rename_i p q hp hq
   simp at h; subst h
   rw[Qaw hp h1,Qaw hq h2]
  ·cases h
 | .p ..,vs,cs,h,hc=>by simp[Kl]at h
 | .e ..,vs,cs,h,hc=>by simp[Kl]at h
 | .s ..,vs,cs,h,hc=>by simp[Kl]at h
 | .m ..,vs,cs,h,hc=>by simp[Kl]at h
 | .b ..,vs,cs,h,hc=>by simp[Kl]at h
 | .w ..,vs,cs,h,hc=>by simp[Kl]at h
 | .a ..,vs,cs,h,hc=>by simp[Kl]at h
 | .z,vs,cs,h,hc=>by simp[Kl]at h
 | .ns,vs,cs,h,hc=>by simp[Kl]at h
 | .np,vs,cs,h,hc=>by simp[Kl]at h
 | .nm,vs,cs,h,hc=>by simp[Kl]at h
 | .nf,vs,cs,h,hc=>by simp[Kl]at h
 | .f ..,vs,cs,h,hc=>by simp[Kl]at h
 | .tp ..,vs,cs,h,hc=>by simp[Kl]at h
theorem Jjd{T:Tab}(hT:Qy P T){op:BinOp}{t:TypeId}{x y:Operand}{yt:TypeId}{neg:Bool}{us vs:List Value}{fs:List Field}{t1:TypeId}{z1:Value}{s1 b1:Nat}
  (hneg:Jfk op=some neg) (ht:Qi T t=some ⟨t1,.struct ⟨fs⟩,z1,s1,b1⟩) (hbl:Tc fs=true) {r:Bool} (hr:Qr7 T fs us vs=some r) {a:Act}
  (hx:a.eval x=.agg us.toArray) (hy:a.eval y=.agg vs.toArray):(execOp a.eval ⟨none,.binOp op t x y yt,0, "",#[],none⟩).run P w=.ok (.value (.bool (bif neg then !r else r))) w:=by
 have hu:=(Jr hT ht).2
 obtain⟨hst,heg⟩:=Q25 hT ht
 have hf:P.fieldsOf t=⟨fs⟩:=by simp[Program.fieldsOf,hu]
 have heq:(Op.equal t (.agg ⟨us⟩) (.agg ⟨vs⟩)).run P w=.ok r w:=by
  have:=run_equalIn_struct (P:=P) w 9999 t ⟨us⟩ ⟨vs⟩ (by rw[hf,hu]) hst
  rw[hf]at this
  show(Op.equalIn 10000 t _ _).run P w=_
  rw[this]
  grind [Qzo]
 unfold Jfk at hneg
 split at hneg
 ·simp_all [execOp,eqGuard,binOp]
 ·simp_all [execOp,eqGuard,binOp]
 ·cases hneg
theorem Jby{M:List (Nat×Ob)}(hM:∀id o,Qg M id=some o→(Qv β ρ id o).p ok w){id:Nat}{k v:Ty}{xs:List (k.De×v.De)}(h:Joz (Qg M id)=some ⟨k,v,xs⟩) :
  ∃es clock,w.heap[β id]?=some (.map es clock)∧E1 (rt k) (rt v) ok w xs es.toList:=by
 unfold Joz at h
 split at h
 ·rename_i k' v' xs' ho
  simp at h
  obtain⟨rfl,h⟩:=h
  have h:=eq_of_heq h
  injection h with h1 h2
  subst h1
  have h2:=eq_of_heq h2
  subst h2
  obtain⟨es,clock,q1,q2,_⟩:=hM _ _ ho
  grind
 ·cases h
theorem Jo1{op:BinOp}{neg:Bool}(h:Jfk op=some neg):op=bif neg then .neq else .eql:=by
 cases op<;>simp[Jfk]at h<;>subst h<;>rfl
theorem Jo2{t el:TypeId}{q:Option Addr}(hu:(underlying t).run P w=.ok (.pointer el) w):(Op.equal t (.pointer q) (.pointer none)).run P w=.ok q.isNone w:=by
 show(Op.equalIn (9999+1) t _ _).run P w=_
 rw[Op.equalIn]
 cases q<;>simp[Sem.run_bind,hu]
theorem Jo3{t k el:TypeId}{q:Option Nat}(hu:(underlying t).run P w=.ok (.map k el) w):(Op.equal t (.map q) (.map none)).run P w=.ok q.isNone w:=by
 show(Op.equalIn (9999+1) t _ _).run P w=_
 rw[Op.equalIn]
 cases q<;>simp[Sem.run_bind,hu]
theorem Jbz{t:TypeId}{p r:Array TypeId}{v:Bool}(hu:(underlying t).run P w=.ok (.func p r v) w){x:Value}{b:Bool}(hx:(x=.nilFunc∧b=true)∨(∃f c s,x=.func f c s)∧b=false):(Op.equal t x .nilFunc).run P w=.ok b w:=by
 show(Op.equalIn (9999+1) t _ _).run P w=_
 rw[Op.equalIn]
 rcases hx with⟨rfl,rfl⟩ | ⟨⟨f,c,s,rfl⟩,rfl⟩<;>simp[Sem.run_bind,hu]
theorem Jo4(hT:Qy P Y.T){op:BinOp}{t yt:TypeId}{X1 Y1:Operand}{x y:AV}{b:Bool}{c1 c2:List Value}(h:Juc Y.T op t x y=some b)(hx:cr β ρ ok w false x c1)(hy:cr β ρ ok w false y c2)
  (h1:a.eval X1=x.val c1) (h2:a.eval Y1=y.val c2) :
  (execOp a.eval ⟨none,.binOp op t X1 Y1 yt,0, "",#[],none⟩).run P w=.ok (.value (.bool b)) w:=by
 unfold Juc at h
 split at h
 ·rename_i neg te hneg hte
  have hop:=Jo1 hneg
  have hu:=Jw hT w hte
  split at h
  ·rename_i el hd
   obtain⟨hb,h⟩:=bvT h
   have hyn:y=.np:=by cases y<;>simp[Jwm]at hb; rfl
   subst hyn
   have hy':c2=[.pointer none]:=hy
   subst hy'
   have h2':a.eval Y1=.pointer none:=h2
   split at h
   ·rename_i bb hbb
    injection h with h; subst h
    have key:∃q,a.eval X1=.pointer q∧bb=q.isNone:=by
     cases x<;>simp[Jwj]at hbb<;>subst hbb
     ·have hx':c1=_:=hx
      subst hx'; exact⟨_,h1,rfl⟩
     ·obtain⟨g,_,hx'⟩:=hx
      subst hx'; exact⟨_,h1,rfl⟩
     ·obtain⟨v,hx',hv⟩:=hx
      obtain⟨b0,o0,c0,rfl,_⟩:=hv
      subst hx'; exact⟨_,h1,rfl⟩
     ·have hx':c1=_:=hx
      grind
    obtain⟨q,hq,hbq⟩:=key
    subst hbq
    rw[hd]at hu
    have hr:=Jo2 (P:=P) (w:=w) (q:=q) hu
    unfold execOp
    cases neg<;>subst hop<;>simp[hq,h2',eqGuard,binOp,hr]
   ·cases h
  ·rename_i kt et hd
   obtain⟨hb,h⟩:=bvT h
   have hyn:y=.nm:=by cases y<;>simp[Jwn]at hb; rfl
   subst hyn
   have hy':c2=[.map none]:=hy
   subst hy'
   have h2':a.eval Y1=.map none:=h2
   split at h
   ·rename_i bb hbb
    injection h with h; subst h
    have key:∃q,a.eval X1=.map q∧bb=q.isNone:=by
     cases x<;>simp[Jwk]at hbb<;>subst hbb
     ·have hx':c1=_:=hx
      subst hx'; exact⟨_,h1,rfl⟩
     ·have hx':c1=_:=hx
      grind
    obtain⟨q,hq,hbq⟩:=key
    subst hbq
    rw[hd]at hu
    have hr:=Jo3 (P:=P) (w:=w) (q:=q) hu
    unfold execOp
    cases neg<;>subst hop<;>simp[hq,h2',eqGuard,binOp,hr]
   ·cases h
  ·rename_i p1 p2 p3 hd
   obtain⟨hb,h⟩:=bvT h
   have hyn:y=.nf:=by cases y<;>simp[Jwo]at hb; rfl
   subst hyn
   have hy':c2=[.nilFunc]:=hy
   subst hy'
   have h2':a.eval Y1=.nilFunc:=h2
   split at h
   ·rename_i bb hbb
    injection h with h; subst h
    rw[hd]at hu
    cases x<;>simp[Jwl]at hbb<;>subst hbb
    ·have hx':c1=_:=hx
     subst hx'
     have h1':a.eval X1=.nilFunc:=h1
     have hr:=Jbz (P:=P) (w:=w) hu (.inl ⟨rfl,rfl⟩)
     unfold execOp
     cases neg<;>subst hop<;>simp[h1',h2',eqGuard,binOp,hr]
    ·rename_i f0 cp0
     obtain⟨vs,hx',_⟩:=hx
     subst hx'
     have h1':a.eval X1=.func (.func f0) #[] vs.toArray:=h1
     have hr:=Jbz (P:=P) (w:=w) hu (x:=.func (.func f0) #[] vs.toArray) (b:=false) (.inr ⟨⟨_,_,_,rfl⟩,rfl⟩)
     unfold execOp
     cases neg<;>subst hop<;>simp[h1',h2',eqGuard,binOp,hr]
   ·cases h
  ·cases h
 ·cases h
theorem Qlp(hT:Qy P Y.T)(h:Dk β ρ ok S a w)(hc:Jy a cur){o:Oper}{x:AV}(hv:Qln Y S cur o.op=some x) :
  ∃cs,(execOp a.eval o).run P w=.ok (.value (x.val cs)) w∧cr β ρ (ok) w false x cs:=by
 have hM:∀id o,Qg S.mem id=some o→(Qv β ρ id o).p (ok) w:=h.2
 unfold execOp
 generalize o.op=op at hv
 unfold Qln at hv
 split at hv
 ·
  obtain⟨cs,h1,h2⟩:=h.ev hc hv
  exact⟨cs,by simp_all,h2⟩
 ·obtain⟨cs,h1,h2⟩:=h.ev hc hv
  exact⟨cs,by simp_all,h2⟩
 ·
  rename_i c p q
  split at hv
  ·rename_i v hcv
   obtain⟨cs0,h1,h2⟩:=h.ev hc hcv
   have h2':cs0=[.bool v]:=h2
   subst h2'
   have hb:a.eval c=.bool v:=h1
   obtain⟨cs,h3,h4⟩:=Jjc (u1:=a.eval p) (u2:=a.eval q)
    (fun e u hu=>h.ev (Qpa hc (hb.trans (by rw[e]))) hu) (fun e u hu=>h.ev (Qpa hc (hb.trans (by rw[e]))) hu) hv
   refine⟨cs,?_,h4⟩
   simp only[hb]
   rw[←h3]
   cases v<;>simp[asBool]
  ·cases hv
 ·
  split at hv
  ·rename_i x1 x2 hx1 hx2
   split at hv
   ·rename_i u v hu hw
    split at hv
    ·rename_i r hr
     obtain⟨c1,h1,h2⟩:=h.ev hc hx1
     obtain⟨c2,h3,h4⟩:=h.ev hc hx2
     rw[Q9b hu h2]at h1
     rw[Q9b hw h4]at h3
     obtain⟨cs,h5,h6⟩:=Q3t (β:=β) (ρ:=ρ) (ok:=ok) (w:=w) hv
     refine⟨cs,?_,h6⟩
     simp only[h1,h3]
     rw[←h5]
     simp[Qzk hr,Je8 hT hr]
    ·cases hv
   ·split at hv
    ·rename_i b hb
     simp at hv; subst hv
     obtain⟨c1,h1,h2⟩:=h.ev hc hx1
     obtain⟨c2,h3,h4⟩:=h.ev hc hx2
     exact⟨[.bool b],Jo4 (yt:=0) hT hb h2 h4 h1 h3,rfl⟩
    split at hv
    ·rename_i neg t1 fs z1 s1 b1 us vs hneg ht hus hvs
     cases hb:(Tc fs&&x1.isAgg&&x2.isAgg)with
     | false=>rw[hb]at hv; cases hv
     | true =>
     rw[hb]at hv
     simp only[cond_true]at hv
     simp only[QQ]at hb
     split at hv
     ·rename_i r hr
      simp at hv; subst hv
      obtain⟨c1,h1,h2⟩:=h.ev hc hx1
      obtain⟨c2,h3,h4⟩:=h.ev hc hx2
      have e1:=Qaw hus h2
      have e2:=Qaw hvs h4
      subst e1; subst e2
      have f1:x1.val c1=.agg c1.toArray:=by grind [AV.val]
      have f2:x2.val c2=.agg c2.toArray:=by grind [AV.val]
      rw[f1]at h1; rw[f2]at h3
      exact⟨[.bool (bif neg then !r else r)],Jjd hT (yt:=0) hneg ht hb.1.1 hr h1 h3,rfl⟩
     ·cases hv
    ·cases hv
  ·cases hv
 ·
  split at hv
  ·rename_i x1 hx1
   split at hv
   ·rename_i u hu
    split at hv
    ·rename_i r hr
     obtain⟨c1,h1,h2⟩:=h.ev hc hx1
     rw[Q9b hu h2]at h1
     simp_all [Q3t,Jix]
    ·cases hv
   ·cases hv
  ·cases hv
 ·
  split at hv
  ·rename_i _ _ _ _ k _ _ _ _ n hs ht hx
   simp at hv; subst hv
   obtain⟨c1,h1,h2⟩:=h.ev hc hx
   have h2':c1=_:=h2
   subst h2'
   refine⟨[.int k (k.wrap n)],?_,rfl⟩
   have h1':a.eval _=.int _ n:=h1
   simp[convert,Jw hT w hs,Jw hT w ht,h1',Conv.intToInt,AV.val,AV.isAgg,Ty.agg]
  ·cases hv
 ·
  rename_i sT xo fI
  split at hv
  ·rename_i fs _ _ _ x1 hs hx
   split at hv
   ·rename_i fd hf
    split at hv
    ·rename_i y e hn he
     cases hb:(Nat.beq e.size y.size&&(Gk e.d==y.isAgg)&&x1.isAgg&&y.isVal&&(y.isAgg||Nat.beq y.size 1))with
     | false=>rw[hb]at hv; cases hv
     | true =>
      rw[hb]at hv
      simp at hv; subst hv
      simp only[QQ]at hb
      obtain⟨⟨⟨⟨b1,b2⟩,b3⟩,b4⟩,b5⟩:=hb
      have b1:=Nat.eq_of_beq_eq_true b1
      have b2:=bEq b2
      obtain⟨c1,h1,h2⟩:=h.ev hc hx
      obtain⟨h3,h4⟩:=Qjv hn h2
      have hoff:∀k,Yp [PS.f k fd.offset]=fd.offset:=fun k=>by simp[Yp,PS.off]
      rw[hoff]at h3 h4
      refine⟨_,?_,h3⟩
      have h1':a.eval xo=.agg c1.toArray:=by rw[h1]; simp[AV.val,b3]
      simp only[h1']
      have hpart:(part fd.type c1.toArray fd.offset).run P w=.ok (y.val ((c1.drop fd.offset).take y.size)) w:=by
       grind [Qr1,AV.val,Nat.eq_of_beq_eq_true,List.drop_eq_getElem_cons,List.getElem?_eq_getElem]
      simp[Instr.field,Jw hT w hs,hf,asAgg,hpart]
    ·cases hv
   ·cases hv
  ·cases hv
 ·
  rename_i sT xo fI
  split at hv
  ·rename_i fs _ _ _ x1 hs hx
   split at hv
   ·rename_i off hfo
    obtain⟨fd,hfd,rfl,e,he,hne⟩:=Q27 hfo
    obtain⟨c1,h1,h2⟩:=h.ev hc hx
    have key:∀b o,a.eval xo=.pointer (some ⟨b,o,none⟩)→(Instr.fieldAt sT (a.eval xo) fI).run P w=.ok (.pointer (some ⟨b,o+fd.offset,none⟩)) w:=fun b o he'=>by
     rw[he']
     simp[Instr.fieldAt,Jw hT w hs,hfd,Instr.sureAddr,fieldPlace,Addr.add_lit,Yc hT w he,hne]
    split at hv
    ·rename_i id path
     simp at hv; subst hv
     have h2':c1=_:=h2
     subst h2'
     refine⟨[.pointer (some ⟨β id,Yp path+fd.offset,none⟩)],?_,?_⟩
     ·dsimp only
      simp only[Sem.run_bind]
      rw[key _ _ h1]
      rfl
     ·show [_]=[_]
      rw[R7]
      simp[Yp,PS.off]
    ·rename_i id path
     simp at hv; subst hv
     obtain⟨g,hg,rfl⟩:=h2
     refine⟨[.pointer (some ⟨g,Yp path+fd.offset,none⟩)],?_,g,hg,?_⟩
     ·dsimp only
      simp only[Sem.run_bind]
      rw[key _ _ h1]
      rfl
     simp[R7,Yp,PS.off]
    ·rename_i t y
     split at hv
     ·rename_i u z hn
      simp at hv; subst hv
      obtain⟨v,rfl,b,o',cs,rfl,hr,hcl⟩:=h2
      obtain⟨h3,h4⟩:=Qjv (β:=β) (ρ:=ρ) hn hr
      have hoff:∀k,Yp [PS.f k fd.offset]=fd.offset:=fun k=>by simp[Yp,PS.off]
      rw[hoff]at h3 h4
      refine⟨[.pointer (some ⟨b,o'+fd.offset,none⟩)],?_,_,rfl,b,_,_,rfl,h3,?_⟩
      ·dsimp only
       simp only[Sem.run_bind]
       rw[key _ _ h1]
       rfl
      ·intro j q hj
       have hjl:j<(AV.d u z).size:=by
        have:=(List.getElem?_eq_some_iff.1 hj).1
        grind
       rw[List.getElem?_take_of_lt hjl,JW]at hj
       have:=hcl _ _ hj
       rw[←Nat.add_assoc]at this
       exact this
     ·cases hv
    ·cases hv
   ·cases hv
  ·cases hv
 ·
  split at hv
  ·rename_i e id path he hx
   split at hv
   ·rename_i tid c ho
    split at hv
    ·rename_i y hn
     cases hb:(Nat.beq e.size y.size&&(Gk e.d==y.isAgg)&&y.isVal&&(y.isAgg||Nat.beq y.size 1))with
     | false=>rw[hb]at hv; cases hv
     | true =>
      rw[hb]at hv
      simp at hv; subst hv
      simp only[QQ]at hb
      obtain⟨⟨⟨b1,b2⟩,b3⟩,b4⟩:=hb
      have b1:=Nat.eq_of_beq_eq_true b1
      have b2:=bEq b2
      obtain⟨c1,h1,h2⟩:=h.ev hc hx
      have h2':c1=_:=h2
      subst h2'
      obtain⟨cs,hh,hcr⟩:=hM _ _ ho
      obtain⟨h3,h4⟩:=Qjv hn hcr
      have hlen:=Zv h3
      refine⟨_,?_,h3⟩
      have h1':a.eval _=.pointer (some ⟨β id,Yp path,none⟩):=h1
      simp only[h1',Sem.run_bind]
      rw[Bi hT he (y:=y) (cs:=(cs.drop (Yp path)).take y.size) (by rw[hlen]; exact b1) b2 (fun ha=>by
       rw[ha]at b4
       rw[hlen]; grind [Nat.eq_of_beq_eq_true]) (fun j u hu=>by
        grind [List.getElem?_eq_some_iff,List.getElem?_take_of_lt,World.cell?])]
      rfl
    ·cases hv
   ·cases hv
  ·rename_i e t y he hx
   cases hb:(Nat.beq e.size t.size&&(Gk e.d==t.agg))with
   | false=>rw[hb]at hv; cases hv
   | true =>
    rw[hb]at hv
    simp at hv; subst hv
    simp only[QQ]at hb
    have b1:=Nat.eq_of_beq_eq_true hb.1
    have b2:=bEq hb.2
    obtain⟨c1,h1,h2⟩:=h.ev hc hx
    obtain⟨v,rfl,b,o',cs,rfl,hr,hcl⟩:=h2
    have hlen:cs.length=t.size:=by rw[(rt t).len hr,Jj]
    refine⟨cs,?_,hr⟩
    have h1':a.eval _=.pointer (some ⟨b,o',none⟩):=h1
    simp only[h1',Sem.run_bind]
    rw[Bi hT he (y:=.d t y) (cs:=cs) (by rw[hlen,b1]) b2 (fun ha=>by rw[hlen]; exact Ji4 ha) (fun j u hu=>(hcl j u hu).2)]
    rfl
  ·cases hv
 ·
  split at hv
  ·rename_i l hx
   obtain⟨c1,h1,vs,rfl,hl⟩:=h.ev hc hx
   obtain⟨cs,h3,h4⟩:=Jjb hv hl
   refine⟨cs,?_,h4⟩
   have h1':a.eval _=.tuple vs.toArray:=h1
   simp[h1',Instr.extract,h3]
  ·cases hv
 ·
  split at hv
  ·rename_i e x1 he hx
   obtain⟨c1,h1,h2⟩:=h.ev hc hx
   split at hv
   ·rename_i hd
    split at hv
    ·cases hv
    ·rename_i hns
     split at hv
     ·rename_i n hn
      simp at hv; subst hv
      obtain⟨A,c,hval⟩:=Jo0 hM hn hns h2
      refine⟨[.int .i64 n],?_,rfl⟩
      rw[hval]at h1
      simp[resolve,invoke,builtin,Builtin.len_,Jw hT w he,hd,h1,goInt,AV.val,AV.isAgg,Ty.agg]
     ·cases hv
   ·rename_i hd
    split at hv
    ·rename_i l
     simp at hv; subst hv
     have h2':c1=_:=h2
     subst h2'
     refine⟨[.int .i64 l.length],?_,rfl⟩
     have h1':a.eval _=Yl l:=h1
     simp[resolve,invoke,builtin,Builtin.len_,Jw hT w he,hd,h1',goInt,AV.val,AV.isAgg,Ty.agg,Yl,Jiy]
    ·cases hv
   ·rename_i kt et hd
    split at hv
    ·rename_i id
     split at hv
     ·rename_i k v xs hm
      simp at hv; subst hv
      obtain⟨es,clock,q1,q2⟩:=Jby hM hm
      have h2':c1=_:=h2
      subst h2'
      have h1':a.eval _=.map (some (β id)):=h1
      have hlen:es.size=xs.length:=by
       have:∀{xs:List (k.De×v.De)} {es:List MapEntry},E1 (rt k) (rt v) ok w xs es→es.length=xs.length:=by
        intro xs
        induction xs with
        | nil=>intro es h; rw[show es=[]from h]; rfl
        | cons x xs ih=>rintro es ⟨e,es',rfl,_,_,h⟩; simp[ih h]
       rw[←this q2]; simp
      refine⟨[.int .i64 xs.length],?_,rfl⟩
      simp[resolve,invoke,builtin,Builtin.len_,Jw hT w he,hd,h1',goInt,AV.val,AV.isAgg,Ty.agg,MapKept.run_getObj_map q1,hlen]
     ·cases hv
    ·simp at hv; subst hv
     have h2':c1=_:=h2
     subst h2'
     have h1':a.eval _=.map none:=h1
     refine⟨[.int .i64 0],?_,rfl⟩
     simp[resolve,invoke,builtin,Builtin.len_,Jw hT w he,hd,h1',goInt,AV.val,AV.isAgg,Ty.agg]
    ·cases hv
   ·cases hv
  ·cases hv
 ·
  split at hv
  ·rename_i x1 x2 hx1 hx2
   split at hv
   ·rename_i k p _ q hi1 hi2
    simp at hv; subst hv
    have e1:=Io hi1
    have e2:=Io hi2
    subst e1; subst e2
    obtain⟨c1,h1,h2⟩:=h.ev hc hx1
    obtain⟨c2,h3,h4⟩:=h.ev hc hx2
    have h2':c1=_:=h2
    have h4':c2=_:=h4
    subst h2'; subst h4'
    refine⟨[.int k (if q>p then q else p)],?_,rfl⟩
    have h1':a.eval _=.int k p:=h1
    have h3':a.eval _=.int _ q:=h3
    simp[resolve,invoke,builtin,Builtin.max_,Builtin.max2,h1',h3',AV.val,AV.isAgg,Ty.agg]
   ·cases hv
  ·cases hv
 ·
  split at hv
  ·rename_i x1 x2 hx1 hx2
   split at hv
   ·rename_i k p _ q hi1 hi2
    simp at hv; subst hv
    have e1:=Io hi1
    have e2:=Io hi2
    subst e1; subst e2
    obtain⟨c1,h1,h2⟩:=h.ev hc hx1
    obtain⟨c2,h3,h4⟩:=h.ev hc hx2
    have h2':c1=_:=h2
    have h4':c2=_:=h4
    subst h2'; subst h4'
    refine⟨[.int k (if q<p then q else p)],?_,rfl⟩
    have h1':a.eval _=.int k p:=h1
    have h3':a.eval _=.int _ q:=h3
    simp[resolve,invoke,builtin,Builtin.min_,Builtin.min2,h1',h3',AV.val,AV.isAgg,Ty.agg]
   ·cases hv
  ·cases hv
 ·
  split at hv
  ·rename_i x1 x2 x3 hx1 hx2 hx3
   split at hv
   ·rename_i k p _ q _ r hi1 hi2 hi3
    simp at hv; subst hv
    have e1:=Io hi1
    have e2:=Io hi2
    have e3:=Io hi3
    subst e1; subst e2; subst e3
    obtain⟨c1,h1,h2⟩:=h.ev hc hx1
    obtain⟨c2,h3,h4⟩:=h.ev hc hx2
    obtain⟨c3,h5,h6⟩:=h.ev hc hx3
    have h2':c1=_:=h2
    have h4':c2=_:=h4
    have h6':c3=_:=h6
    subst h2'; subst h4'; subst h6'
    refine⟨[.int k (if r<(if q<p then q else p)then r else(if q<p then q else p))],?_,rfl⟩
    have h1':a.eval _=.int k p:=h1
    have h3':a.eval _=.int _ q:=h3
    have h5':a.eval _=.int _ r:=h5
    simp[resolve,invoke,builtin,Builtin.min_,Builtin.min2,h1',h3',h5',AV.val,AV.isAgg,Ty.agg]
   ·cases hv
  ·cases hv
 ·
  rename_i tT parts
  split at hv
  ·rename_i _ fs z _ _ ty hs hty
   split at hv
   ·rename_i l ps vs hz hp hvs
    split at hv
    ·rename_i l' hl'
     simp at hv; subst hv
     have hpl:=Qr4 hT hp
     have hpr:=run_places (P:=P) w fs ps hpl
     obtain⟨cs',h5,h6⟩:=Q3v ps hl' (Dj (x:=.ag l) hz) (h.evParts hc hvs)
     have hf:=Qas _ h5
     refine⟨cs',?_,h6⟩
     simp only[Instr.build,Sem.run_bind,Vt hT w hs,Jw hT w hs,Result.andThen_ok]
     simp only[ZV,Sem.run_map,bind_pure_comp,hpr,Result.andThen_ok]
     simp_all [Instr.fill,V2,Nat,Operand,AV.val,AV.isAgg]
    ·cases hv
   ·cases hv
  ·rename_i _ _ e z _ _ m u hs hty
   split at hv
   ·split at hv
    ·rename_i ee x he hz
     obtain⟨hb,hv⟩:=bvT hv
     simp at hv; subst hv
     refine⟨Qr z,?_,Dj hz⟩
     simp only[Instr.build,Sem.run_bind,Vt hT w hs,Jw hT w hs,Yc hT w he,Result.andThen_ok]
     simp[Instr.fill,AV.val,hb,V2]
    ·cases hv
   ·rename_i p0 ps0
    generalize p0::ps0=parts at *
    split at hv
    ·rename_i ee vs he hvs
     split at hv
     ·rename_i xs hxs
      obtain⟨hb,hv⟩:=bvT hv
      simp only[QQ]at hb
      simp at hv; subst hv
      have hsz:=Nat.eq_of_beq_eq_true hb.1.1
      have hxl:=Nat.eq_of_beq_eq_true hb.1.2
      have hzl:=Nat.eq_of_beq_eq_true hb.2
      obtain⟨us,q1,q2,q3⟩:=h.asLs hc hvs hxs
      have hcl:=Qnn q2
      rw[Jj]at hcl
      have hfill:=Q3w us 0 (Qr z) hcl (by rw[hzl,QW,q3,hxl]; grind)
      rw[←q1]at hfill
      simp only[XT,ZX,QE,QW]at hfill
      rw[XK (by rw[hzl,q3,hxl]; grind),QG]at hfill
      have hf:=Qas _ hfill
      rw[←hsz,V2]at hf
      refine⟨us.flatMap Qr,?_,hxl,Qsi q2⟩
      have hm:((Array.mk parts).map fun(x:Nat×Operand)=>(x.1,a.eval x.2)).toList=parts.map fun p=>(p.1,a.eval p.2):=by simp
      simp only[Instr.build,Sem.run_bind,Vt hT w hs,Jw hT w hs,Yc hT w he,Result.andThen_ok]
      have hf':Instr.fill (fun i=>some (i*ee.size,ee.size)) z.cells (parts.map fun p=>(p.1,a.eval p.2))=some (us.flatMap Qr).toArray:=by
       have:(parts.map fun p=>(p.1,a.eval p.2))=List.map (fun p=>(p.fst,a.eval p.snd)) parts:=rfl
       show Instr.fill (Qe6 ee.size) z.cells _=_
       simpa using hf
      rw[hm,hf']
      simp[AV.val,AV.isAgg,Ty.agg]
     ·cases hv
    ·cases hv
  ·cases hv
 ·
  rename_i x
  split at hv
  ·rename_i id path hx
   simp at hv; subst hv
   obtain⟨c1,h1,h2⟩:=h.ev hc hx
   refine⟨c1,?_,h2⟩
   have h2':c1=_:=h2
   subst h2'
   have h1':a.eval x=.pointer (some ⟨β id,Yp path,none⟩):=h1
   simp[h1',AV.val,AV.isAgg]
  ·rename_i id path hx
   simp at hv; subst hv
   obtain⟨c1,h1,g,h2,h3⟩:=h.ev hc hx
   refine⟨c1,?_,g,h2,h3⟩
   simp_all [Yp,AV.val,AV.isAgg]
  ·rename_i t y hx
   simp at hv; subst hv
   obtain⟨c1,h1,v1,h2,h3⟩:=h.ev hc hx
   refine⟨c1,?_,v1,h2,h3⟩
   obtain⟨b,o,c,rfl,_⟩:=h3
   simp_all [AV.val,AV.isAgg]
  ·rename_i fn caps hx
   simp at hv; subst hv
   obtain⟨c1,h1,vs,h2,h3⟩:=h.ev hc hx
   refine⟨c1,?_,vs,h2,h3⟩
   simp_all [AV.val,AV.isAgg]
  ·cases hv
 ·
  rename_i f caps
  split at hv
  ·rename_i l hl
   simp at hv; subst hv
   refine⟨[.func (.func f) #[] (caps.map a.eval).toArray],?_,_,rfl,h.evs hc hl⟩
   simp[Instr.makeFunc,AV.val,AV.isAgg]
  ·cases hv
 ·
  rename_i t x ix c
  split at hv
  ·rename_i te id iv hte hx hix
   split at hv
   ·rename_i kt et k v xs htd hmo
    split at hv
    ·rename_i tk tz key htk htz hkey
     split at hv
     ·rename_i za hza
      split at hv
      ·rename_i z hz
       cases hb:(Y2 Y.T k tk.d&&(k.agg==iv.isAgg)&&(v.agg==Qjw tz.z))with
       | false=>rw[hb]at hv; cases hv
       | true =>
       rw[hb]at hv
       simp only[cond_true,Option.some.injEq]at hv
       simp only[QQ]at hb
       obtain⟨c1,h1,h2⟩:=h.ev hc hx
       have h2':c1=[.map (some (β id))]:=h2
       subst h2'
       have h1':a.eval x=.map (some (β id)):=h1
       obtain⟨c3,h3,h4⟩:=h.ev hc hix
       have hkr:isV (rt k) ok w key (a.eval ix):=by
        refine⟨c3,Xa (M:=[]) (β:=β) (ρ:=ρ) (by simp[Qg]) hkey h4,?_⟩
        rw[h3]; simp only[AV.val,RT.val,Dg,bEq hb.1.2]; cases iv.isAgg<;>rfl
       obtain⟨es,clock,hg,hp⟩:=Jby hM hmo
       have hzv:isV (rt v) ok w z tz.z:=⟨Qr tz.z,Xa (M:=[]) (β:=β) (ρ:=ρ) (by simp[Qg]) hz (Dj hza),(Qnm (bEq hb.2)).symm⟩
       obtain⟨u,hrun,hu,_⟩:=Qsg hT hte htd htk htz hb.1.1 hg hp key hzv c
       rw[←Hh (Jz hb.1.1) hkr]at hrun
       obtain⟨cu,hu1,hu2⟩:=hu
       have hvu:(AV.d v ((Qj key xs).getD z)).val cu=u:=by rw[hu2]; grind [AV.val,RT.val,Dg,AV.isAgg]
       cases c with
       | true =>
        simp only at hv; subst hv
        refine⟨[.tuple #[u,.bool (Qj key xs).isSome]],?_,[u,.bool (Qj key xs).isSome],rfl,cu,[.bool (Qj key xs).isSome],by rw[hvu],hu1,[.bool (Qj key xs).isSome],[],rfl,rfl,rfl⟩
        simp_all [if_true,AV.val,AV.isAgg]
       | false =>
        simp only at hv; subst hv
        refine⟨cu,?_,hu1⟩
        rw[hvu]
        simp only[h1']
        simp only[JZ,if_false]at hrun
        simp[hrun]
      ·cases hv
     ·cases hv
    ·cases hv
   ·cases hv
  ·cases hv
 ·cases hv
end
end Gx

/- Maps whose values are objects of their own: what lies in them. -/
namespace Gx
open Go Go.RowKit Gd
set_option linter.unusedVariables false
set_option linter.unusedSimpArgs false
section
variable {k v:Ty}
theorem Qno(hk:Qci k=true){key:k.De}:∀{xs:List (k.De×v.De)},key∉xs.map Prod.fst→Qj key xs=none
 | [],_=>rfl
 | x::xs,h=>by
  simp only[QR,QX,not_or]at h
  simp only[Qj]
  cases he:eqK k key x.1 with
  | true=>grind [absurd,Za]
  | false=>exact Qno hk h.2
theorem Qwy(hk:Qci k=true){key:k.De}:∀{xs:List (k.De×v.De)},Qj key xs=none→key∉xs.map Prod.fst
 | [],_=>by simp
 | x::xs,h=>by
  simp only[Qj]at h
  cases he:eqK k key x.1 with
  | true=>rw[he]at h; cases h
  | false =>
   rw[he]at h
   simp only[QR,QX,not_or]
   exact⟨fun e'=>(by rw[e',(Za hk).2 rfl]at he; cases he),Qwy hk h⟩
end
section
variable {k:Ty} {c:CK} {ok:Ok} {w:World} {hv:Value}
theorem Q3x{κ:Type}{h2:Option κ}{hv2:Value}:∀{xs:List (κ×c.ty.De)} {ys:List (κ×Value)} {vs:List Value},Dh c none hv ok w xs ys vs→(∀x∈xs,h2≠some x.1)→Dh c h2 hv2 ok w xs ys vs
 | [],[],[],h,_=>h
 | x::xs,y::ys,s::vs,⟨h1,h3,h4⟩,hn=>⟨h1,.inr ⟨hn x (.head _),by
   grind⟩,Q3x h4 fun y hy=>hn y (.tail _ hy)⟩
 | [],[],_::_,h,_=>h.elim
 | [],_::_,_,h,_=>h.elim
 | _::_,[],_,h,_=>h.elim
 | _::_,_::_,[],h,_=>h.elim
theorem Qnp{κ:Type}{hole:Option κ}{hv2:Value}:∀{xs:List (κ×c.ty.De)} {ys:List (κ×Value)} {vs:List Value},Dh c hole hv ok w xs ys vs→(∀kh,hole=some kh→kh∉xs.map Prod.fst)→Dh c none hv2 ok w xs ys vs
 | [],[],[],h,_=>h
 | x::xs,y::ys,s::vs,⟨h1,h3,h4⟩,hn=>⟨h1,.inr ⟨by simp,by
   grind⟩,Qnp h4 fun kh e hm=>hn kh e (by grind)⟩
 | [],[],_::_,h,_=>h.elim
 | [],_::_,_,h,_=>h.elim
 | _::_,[],_,h,_=>h.elim
 | _::_,_::_,[],h,_=>h.elim
theorem Qnq(key:k.De){hole:Option k.De}:∀{xs:List (k.De×c.ty.De)} {ys:List (k.De×Value)} {vs:List Value},Dh c hole hv ok w xs ys vs →
  (Qj key xs=none∧Qj key ys=none)∨∃x y,Qj key xs=some x∧Qj key ys=some y∧(∃k1,eqK k key k1=true∧k1∈xs.map Prod.fst∧(hole=some k1→zal y hv))
 | [],[],[],_=>.inl ⟨rfl,rfl⟩
 | x::xs,y::ys,s::vs,⟨h1,h3,h4⟩=>by
  simp only[Qj,←h1]
  cases he:eqK k key x.1 with
  | true =>
   grind
  | false =>
   rcases Qnq key h4 with q | ⟨x',y',q1,q2,k1,q3,q4,q5⟩
   ·exact .inl q
   grind
 | [],[],_::_,h=>h.elim
 | [],_::_,_,h=>h.elim
 | _::_,[],_,h=>h.elim
 | _::_,_::_,[],h=>h.elim
theorem Qnr(hk:Qci k=true){key:k.De} :
  ∀{xs:List (k.De×c.ty.De)} {ys:List (k.De×Value)} {vs:List Value},Dh c none hv ok w xs ys vs→(xs.map Prod.fst).Nodup→Qlg vs →
  (Qj key xs=none∧∀sv,Dh c (some key) sv ok w xs ys vs) ∨
  ∃vs' sv x,Qj key xs=some x∧Dh c (some key) sv ok w xs ys vs'∧sv∈vs∧(∀s∈vs',s=undef∨s∈vs)∧Qlg vs'∧(∀s∈vs',∀g,Xm s=some g→Xm sv≠some g)∧(Qet c sv x).p ok w
 | [],[],[],h,_,_=>.inl ⟨rfl,fun _=>trivial⟩
 | x::xs,y::ys,s::vs,⟨h1,h3,h4⟩,hnd,hdp=>by
  have hnd':=QT.1 (by simpa using hnd:(x.1::xs.map Prod.fst).Nodup)
  have hdp':=List.pairwise_cons.1 hdp
  obtain⟨q1,q2,q3⟩:none≠some x.1∧zal y.2 s∧(Qet c s x.2).p ok w:=by
   grind
  simp only[Qj]
  cases he:eqK k key x.1 with
  | true =>
   have hkx:=(Za hk).1 he
   subst hkx
   refine .inr ⟨undef::vs,s,x.2,rfl,⟨h1,.inl ⟨rfl,rfl,q2⟩,Q3x h4 fun y hy e'=>?_⟩,.head _,?_,?_,?_,q3⟩
   ·grind
   ·grind
   ·exact List.pairwise_cons.2 ⟨fun b hb g hg=>(by cases hg),hdp'.2⟩
   ·intro t ht g hg hg2
    rcases QX.1 ht with rfl | ht
    ·cases hg
    grind
  | false =>
   have hne:some key≠some x.1:=fun e'=>by injection e' with e'; rw[e',(Za hk).2 rfl]at he; cases he
   rcases Qnr hk h4 hnd'.2 hdp'.2 with⟨r1,r2⟩ | ⟨vs',sv,x',r1,r2,r3,r4,r5,r6,r7⟩
   ·exact .inl ⟨r1,fun sv=>⟨h1,.inr ⟨hne,q2,q3⟩,r2 sv⟩⟩
   ·refine .inr ⟨s::vs',sv,x',r1,⟨h1,.inr ⟨hne,q2,q3⟩,r2⟩,.tail _ r3,?_,?_,?_,r7⟩
    ·grind
    ·refine List.pairwise_cons.2 ⟨fun b hb g hg=>?_,r5⟩
     rcases r4 b hb with rfl | hb
     ·intro e'; cases e'
     grind
    grind
 | [],[],_::_,h,_,_=>h.elim
 | [],_::_,_,h,_,_=>h.elim
 | _::_,[],_,h,_,_=>h.elim
 | _::_,_::_,[],h,_,_=>h.elim
theorem Q3y(hk:Qci k=true){key:k.De}{x0:c.ty.De}{nv sv:Value}(hz:zal nv sv)(hp:(Qet c sv x0).p ok w){hole:Option k.De}(hh:∀kh,hole=some kh→kh=key) :
  ∀{xs:List (k.De×c.ty.De)} {ys:List (k.De×Value)} {vs:List Value},Dh c hole hv ok w xs ys vs→(xs.map Prod.fst).Nodup→Qlg vs→(∀s∈vs,∀g,Xm s=some g→Xm sv≠some g) →
  ∃vs',Dh c none undef ok w (Jc key x0 xs) (Jc key nv ys) vs'∧Qlg vs'∧∀s∈vs',s=sv∨s∈vs
 | [],[],[],h,_,_,_=>⟨[sv],⟨rfl,.inr ⟨by simp,hz,hp⟩,trivial⟩,List.pairwise_cons.2 ⟨by simp,.nil⟩,by simp⟩
 | x::xs,y::ys,s::vs,⟨h1,h3,h4⟩,hnd,hdp,hds=>by
  have hnd':=QT.1 (by simpa using hnd:(x.1::xs.map Prod.fst).Nodup)
  have hdp':=List.pairwise_cons.1 hdp
  simp only[Jc,←h1]
  cases he:eqK k key x.1 with
  | true =>
   have hkx:=(Za hk).1 he
   refine⟨sv::vs,⟨rfl,.inr ⟨by simp,hz,hp⟩,Qnp h4 fun kh e hm=>?_⟩,List.pairwise_cons.2 ⟨fun b hb g hg hg2=>hds b (.tail _ hb) g hg2 hg,hdp'.2⟩,fun t ht=>?_⟩
   ·rw[hh kh e,hkx]at hm; exact hnd'.1 hm
   grind
  | false =>
   have h3':zal y.2 s∧(Qet c s x.2).p ok w:=by
    rcases h3 with⟨q,_⟩ | ⟨_,q⟩
    ·have:=hh _ q; rw[this,(Za hk).2 rfl]at he; cases he
    ·exact q
   obtain⟨vs',r1,r2,r3⟩:=Q3y hk hz hp hh h4 hnd'.2 hdp'.2 (fun t ht=>hds t (.tail _ ht))
   refine⟨s::vs',⟨h1,.inr ⟨by simp,h3'⟩,r1⟩,List.pairwise_cons.2 ⟨fun b hb g hg=>?_,r2⟩,fun t ht=>?_⟩
   ·grind
   grind
 | [],[],_::_,h,_,_,_=>h.elim
 | [],_::_,_,h,_,_,_=>h.elim
 | _::_,[],_,h,_,_,_=>h.elim
 | _::_,_::_,[],h,_,_,_=>h.elim
theorem Qsj(hk:Qci k=true){key:k.De}{x0:c.ty.De}(hp:(Qet c hv x0).p ok w) :
  ∀{xs:List (k.De×c.ty.De)} {ys:List (k.De×Value)} {vs:List Value},Dh c (some key) hv ok w xs ys vs→key∈xs.map Prod.fst→(xs.map Prod.fst).Nodup→Qlg vs→(∀s∈vs,∀g,Xm s=some g→Xm hv≠some g) →
  ∃vs',Dh c none undef ok w (Jc key x0 xs) ys vs'∧Qlg vs'∧∀s∈vs',s=hv∨s∈vs
 | [],[],[],_,hi,_,_,_=>by cases hi
 | x::xs,y::ys,s::vs,⟨h1,h3,h4⟩,hi,hnd,hdp,hds=>by
  have hnd':=QT.1 (by simpa using hnd:(x.1::xs.map Prod.fst).Nodup)
  have hdp':=List.pairwise_cons.1 hdp
  simp only[Jc]
  cases he:eqK k key x.1 with
  | true =>
   have hkx:=(Za hk).1 he
   subst hkx
   have hz:zal y.2 hv:=by
    grind
   refine⟨hv::vs,⟨h1,.inr ⟨by simp,hz,hp⟩,Qnp h4 fun kh e hm=>?_⟩,List.pairwise_cons.2 ⟨fun b hb g hg hg2=>hds b (.tail _ hb) g hg2 hg,hdp'.2⟩,fun t ht=>?_⟩
   ·grind
   grind
  | false =>
   have hne:key≠x.1:=fun e=>by rw[e,(Za hk).2 rfl]at he; cases he
   have hi':key∈xs.map Prod.fst:=by
    grind
   have h3':zal y.2 s∧(Qet c s x.2).p ok w:=by
    grind
   obtain⟨vs',r1,r2,r3⟩:=Qsj hk hp h4 hi' hnd'.2 hdp'.2 (fun t ht=>hds t (.tail _ ht))
   refine⟨s::vs',⟨h1,.inr ⟨by simp,h3'⟩,r1⟩,List.pairwise_cons.2 ⟨fun b hb g hg=>?_,r2⟩,fun t ht=>?_⟩
   ·grind
   grind
 | [],[],_::_,h,_,_,_,_=>h.elim
 | [],_::_,_,h,_,_,_,_=>h.elim
 | _::_,[],_,h,_,_,_,_=>h.elim
 | _::_,_::_,[],h,_,_,_,_=>h.elim
end
end Gx

/- Elements of arrays that lie in variables; parts of such arrays as strings. -/
import Derived.Test.YtgnpojenbefoiaaGreatXE
import Derived.StillTail
import Derived.Test.YtgnpojenbefoiaaGreatGAppend
namespace Gx
open Go Go.RowKit Gd
set_option linter.unusedVariables false
set_option linter.unusedSimpArgs false
set_option linter.constructorNameAsVariable false
def Q7u:List PS→Bool
 | []=>false
 | .f _ _::l=>Q7u l
 | .i _ _::_=>true
section
variable {R:Type}
def Ss:List PS→AV→(AV→Option R)→Option R
 | [],x,k=>k x
 | .f i off::ps,x,k=>match nav [.f i off] x with
  | some y=>Ss ps y k
  | none=>none
 | .i j sz::ps,x,k=>match x with
  | .d (.arr _ u) xs=>bif Nat.beq sz u.size then (idx xs j).bind fun y=>Ss ps (.d u y) k else none
  | _=>none
def P1 (M:List (Nat×Ob)):List PS→AV→AV→(AV→Option R)→Option R
 | [],x,v,k=>bif Mj x v then k v else none
 | .f i off::ps,x,v,k=>match nav [.f i off] x with
  | some y=>P1 M ps y v fun z=>match Cm [.f i off] x z with
   | some x'=>k x'
   | none=>none
  | none=>none
 | .i j sz::ps,x,v,k=>match x with
  | .d (.arr n u) xs=>bif Nat.beq sz u.size then (idx xs j).bind fun y=>P1 M ps (.d u y) v fun z=>match asD M z u with
   | some y'=>k (.d (.arr n u) (xs.set j.toNat y'))
   | none=>none else none
  | _=>none
end
theorem Qm4 {α:Type} {cs:List α} {o n p m:Nat} (h:p+m≤n):(((cs.drop o).take n).drop p).take m=(cs.drop (o+p)).take m:=by
 rw [List.drop_take,List.drop_drop,List.take_take,Nat.min_eq_left (by omega)]
theorem Qru {α:Type} {cs ds:List α} {o n p:Nat} (h:p+ds.length≤n) :
  cs.take o++(((cs.drop o).take n).take p++ds++((cs.drop o).take n).drop (p+ds.length))++cs.drop (o+n)=cs.take (o+p)++ds++cs.drop (o+p+ds.length):=by
 have e1:cs.take (o+p)=cs.take o++((cs.drop o).take n).take p:=by rw [List.take_add,List.take_take,Nat.min_eq_left (by omega)]
 have e2:cs.drop (o+p+ds.length)=((cs.drop o).take n).drop (p+ds.length)++cs.drop (o+n):=by
  have e3:cs.drop (o+n)=(cs.drop (o+(p+ds.length))).drop (n - (p+ds.length)):=by rw [List.drop_drop]; congr 1; omega
  rw [List.drop_take,List.drop_drop,e3,List.take_append_drop,Nat.add_assoc]
 rw [e1,e2]
 simp only [List.append_assoc]
theorem Qdg {u:Ty} {n:Nat} {xs:List u.De} {ok:Ok} {w:World} {cs:List Value} (h:(rt (.arr n u)).rep ok w xs cs) {j:Int} {y:u.De} (hy:idx xs j=some y) :
  (rt u).rep ok w y ((cs.drop (j.toNat*u.size)).take u.size)∧j.toNat*u.size+u.size≤cs.length∧0≤j∧j.toNat<n:=by
 obtain ⟨hn,ha⟩:=h
 have h0:=(Kk hy).1
 have hlt:=(List.getElem?_eq_some_iff.1 (Kk hy).2).1
 have hl:=Qeu ha
 have hr:=X8 ha (Kk hy).2
 rw [Jc] at hr hl
 refine ⟨hr,?_,h0,by omega⟩
 rw [hl]
 have:=Nat.mul_le_mul_right u.size (show j.toNat+1≤xs.length by omega)
 rw [Nat.add_mul] at this
 omega
theorem Rk {R:Type} {r:R}:∀{ps:List PS} {x:AV} {k:AV→Option R},Ss ps x k=some r →
  ∃y,k y=some r∧∀{β:Nat→Nat} {ρ:Nat→Value} {ok:Ok} {w:World} {cs:List Value},cr β ρ ok w false x cs→cr β ρ ok w false y ((cs.drop (Jl ps)).take y.size)∧Jl ps+y.size≤cs.length
 | [],x,k,h=>by
  refine ⟨x,h,fun {β ρ ok w cs} hc=>?_⟩
  have:=Ud hc
  simp only [Jl,List.drop_zero]
  rw [List.take_of_length_le (by omega)]
  exact ⟨hc,by omega⟩
 | .f i off::ps,x,k,h=>by
  simp only [Ss] at h
  split at h
  ·rename_i y hy
   obtain ⟨z,hz,hk⟩:=Rk h
   refine ⟨z,hz,fun {β ρ ok w cs} hc=>?_⟩
   obtain ⟨h1,h2⟩:=Dc hy hc
   obtain ⟨h3,h4⟩:=hk h1
   have hl:=Ud h1
   rw [hl] at h4
   have e:Jl (PS.f i off::ps)=Jl [PS.f i off]+Jl ps:=by simp [Jl]
   rw [Qm4 h4] at h3
   rw [e]
   exact ⟨h3,by omega⟩
  ·cases h
 | .i j sz::ps,x,k,h=>by
  simp only [Ss] at h
  split at h
  ·rename_i n u xs
   obtain ⟨hb,h1⟩:=bvT h
   have hsz:=Nat.eq_of_beq_eq_true hb
   subst hsz
   obtain ⟨y,hy,h2⟩:=Ya h1
   obtain ⟨z,hz,hk⟩:=Rk h2
   refine ⟨z,hz,fun {β ρ ok w cs} hc=>?_⟩
   obtain ⟨h1,h2,_⟩:=Qdg hc hy
   have h1':cr β ρ ok w false (.d u y) ((cs.drop (j.toNat*u.size)).take u.size):=h1
   obtain ⟨h3,h4⟩:=hk h1'
   have hl:((cs.drop (j.toNat*u.size)).take u.size).length=u.size:=Ud h1'
   rw [hl] at h4
   rw [Qm4 h4] at h3
   exact ⟨h3,by simp only [Jl,PS.off]; omega⟩
  ·cases h
theorem Qdh {R:Type} {r:R} {M:List (Nat×Ob)} {v:AV}:∀{ps:List PS} {x:AV} {k:AV→Option R},P1 M ps x v k=some r →
  ∃x',k x'=some r∧∀{β:Nat→Nat} {ρ:Nat→Value} {ok:Ok} {w:World} {cs ds:List Value},(∀id o,Qc M id=some o→(Qt β ρ id o).p ok w)→cr β ρ ok w false v ds→cr β ρ ok w false x cs →
   cr β ρ ok w false x' (cs.take (Jl ps)++ds++cs.drop (Jl ps+ds.length))∧Jl ps+ds.length≤cs.length
 | [],x,k,h=>by
  simp only [P1] at h
  obtain ⟨hb,h⟩:=bvT h
  refine ⟨v,h,fun {β ρ ok w cs ds} _ hv hc=>?_⟩
  have:Cm [] x v=some v:=by simp only [Cm,hb,cond_true]
  exact Wc hv this hc
 | .f i off::ps,x,k,h=>by
  simp only [P1] at h
  split at h
  ·rename_i y hy
   obtain ⟨z,hz,hk⟩:=Qdh h
   split at hz
   ·rename_i x' hx'
    refine ⟨x',hz,fun {β ρ ok w cs ds} hM hv hc=>?_⟩
    obtain ⟨h1,h2⟩:=Dc hy hc
    have hl:=Ud h1
    obtain ⟨h3,h4⟩:=hk hM hv h1
    rw [hl] at h4
    obtain ⟨h5,h6⟩:=Wc h3 hx' hc
    have hlen:(((cs.drop (Jl [PS.f i off])).take y.size).take (Jl ps)++ds++((cs.drop (Jl [PS.f i off])).take y.size).drop (Jl ps+ds.length)).length=y.size:=by
     simp only [List.length_append,List.length_take,List.length_drop]
     simp only [List.length_take,List.length_drop] at hl
     omega
    rw [hlen,Qru h4] at h5
    have e:Jl (PS.f i off::ps)=Jl [PS.f i off]+Jl ps:=by simp [Jl]
    rw [e]
    exact ⟨h5,by omega⟩
   ·cases hz
  ·cases h
 | .i j sz::ps,x,k,h=>by
  simp only [P1] at h
  split at h
  ·rename_i n u xs
   obtain ⟨hb,h1⟩:=bvT h
   have hsz:=Nat.eq_of_beq_eq_true hb
   subst hsz
   obtain ⟨y,hy,h2⟩:=Ya h1
   obtain ⟨z,hz,hk⟩:=Qdh h2
   split at hz
   ·rename_i y' hy'
    refine ⟨_,hz,fun {β ρ ok w cs ds} hM hv hc=>?_⟩
    obtain ⟨h1,h2,h0,hjn⟩:=Qdg hc hy
    have h1':cr β ρ ok w false (.d u y) ((cs.drop (j.toNat*u.size)).take u.size):=h1
    have hl:((cs.drop (j.toNat*u.size)).take u.size).length=u.size:=Ud h1'
    obtain ⟨h3,h4⟩:=hk hM hv h1'
    rw [hl] at h4
    have h5:=Ue hM hy' h3
    obtain ⟨hn,ha⟩:=(show xs.length=n∧Zx (rt u) ok w xs cs from hc)
    have h6:=Sc ha (i:=j.toNat) (by omega) h5
    have hlen:(((cs.drop (j.toNat*u.size)).take u.size).take (Jl ps)++ds++((cs.drop (j.toNat*u.size)).take u.size).drop (Jl ps+ds.length)).length=u.size:=by
     simp only [List.length_append,List.length_take,List.length_drop]
     simp only [List.length_take,List.length_drop] at hl
     omega
    rw [hlen,Jc,Qru h4] at h6
    exact ⟨⟨by simpa using hn,h6⟩,by simp only [Jl,PS.off]; omega⟩
   ·cases hz
  ·cases h
def Nx:TypeDesc→Option (Nat×TypeId)
 | .array n e=>some (n,e)
 | _=>none
theorem Qb4 {d:TypeDesc} {n:Nat} {e:TypeId} (h:Nx d=some (n,e)):d=.array n e:=by
 unfold Nx at h
 split at h
 ·simp at h; obtain ⟨rfl,rfl⟩:=h; rfl
 ·cases h
section
variable {R:Type} (Y:TX) (S:St) (cur:Vd)
def Qwn:Op→Nat
 | .indexAddr t _ _=>match Qf Y.T t with
  | some te=>bif isSomeA (Nx te.d) then 1 else 0
  | none=>0
 | .load _ x=>match ev S cur x with
  | some (.p _ path)=>bif Q7u path then 2 else 0
  | _=>0
 | .slice t _ _ _ none=>match Qf Y.T t with
  | some te=>bif isSomeA (Nx te.d) then 3 else 0
  | none=>0
 | .convert _ _ x=>match ev S cur x with
  | some (.w _ _ _)=>4
  | _=>0
 | _=>0
where isSomeA {α:Type}:Option α→Bool
 | some _=>true
 | none=>false
def Qb5 (op:Op) (k:AV→Option R):Option R:=match op with
 | .indexAddr t x i=>match Qf Y.T t,ev S cur x,ev S cur i with
  | some te,some v,some iv=>match U3 iv,Nx te.d with
   | some (_,j),some (n,e)=>match Qf Y.T e,v with
    | some ee,.a (.arr m u) xs=>bif Nat.beq m n&&Nat.beq ee.size u.size then (idx xs j).bind fun y=>k (.a u y) else none
    | some ee,.p id path=>match Qc S.mem id with
     | some (.var _ c)=>Ss path c fun y=>match y with
      | .d (.arr m u) xs=>bif Nat.beq m n&&Nat.beq ee.size u.size then (idx xs j).bind fun _=>k (.p id (path++[.i j u.size])) else none
      | _=>none
     | _=>none
    | _,_=>none
   | _,_=>none
  | _,_,_=>none
 | .load t x=>match Qf Y.T t,ev S cur x with
  | some e,some (.p id path)=>match Qc S.mem id with
   | some (.var _ c)=>Ss path c fun y=>bif Nat.beq e.size y.size&&(Uk e.d==y.isAgg)&&y.isVal&&(y.isAgg||Nat.beq y.size 1) then k y else none
   | _=>none
  | _,_=>none
 | .slice t x lo hi none=>match Qf Y.T t,ev S cur x with
  | some te,some (.p id [])=>match Nx te.d,Qc S.mem id with
   | some (n,e),some (.var _ (.d (.arr m (.int .u8)) xs))=>match Qf Y.T e,bnd S cur 0 lo,bnd S cur n hi with
    | some ee,some a,some b=>bif Nat.beq m n&&Nat.beq ee.size 1 then (slc xs a b).bind fun _=>k (.w id a (b - a)) else none
    | _,_,_=>none
   | _,_=>none
  | _,_=>none
 | .convert s t x=>match Qf Y.T s,Qf Y.T t,ev S cur x with
  | some se,some te,some (.w id a n)=>match Yb se.d,te.d,Qc S.mem id with
   | some e,.string,some (.var _ (.d (.arr m (.int .u8)) xs))=>match Qf Y.T e with
    | some ⟨_,.int .u8,_,_,_⟩=>(slc xs a (a+n)).bind fun ys=>k (.d .str (Qbe ys))
    | _=>none
   | _,_,_=>none
  | _,_,_=>none
 | _=>none
def Ca (op:Op) (k:AV→Option R):Option R:=match Qwn Y S cur op with
 | 0=>Nw Y S cur op k
 | _+1=>Qb5 Y S cur op k
end
section
variable {P:Program} {X:Cx} {β:Nat→Nat} {ρ:Nat→Value} {S:St} {a:Act} {w:World} {cur:Vd} {ok:Ok}
theorem cell?_of_heap {b o:Nat} {cs:List Value} {t:TypeId} (h:w.heap[b]?=some (.cells cs.toArray t (0,0))):w.cell? ⟨b,o,none⟩=cs[o]?:=by simp [World.cell?,h]
theorem Qwo {u:Ty} {n:Nat} {xs:List u.De} {v:Value} (h:Nj (rt (.arr n u)) ok w xs v) {j:Int} {y:u.De} (hy:idx xs j=some y) :
  ∃b of,v=.pointer (some ⟨b,of,none⟩)∧Nj (rt u) ok w y (.pointer (some ⟨b,of+j.toNat*u.size,none⟩))∧0≤j∧j<(n:Int):=by
 obtain ⟨b,of,cs,rfl,hr,hc⟩:=h
 obtain ⟨h1,h2,h3,h4⟩:=Qdg hr hy
 refine ⟨b,of,rfl,⟨b,_,_,rfl,h1,fun i z hz=>?_⟩,h3,by omega⟩
 have hi:=(List.getElem?_eq_some_iff.1 hz).1
 simp only [List.length_take,List.length_drop] at hi
 rw [List.getElem?_take_of_lt (by omega),List.getElem?_drop] at hz
 have:=hc _ z hz
 rw [Nat.add_assoc]
 exact this
theorem Qrv {Y:TX} (hT:Q0 P Y.T) {R:Type} {o:Oper} {op:Op} (hop:o.op=op) {k:AV→Option R} {r:R} (hv:Qb5 Y S cur op k=some r):∃av,k av=some r∧O8 P S cur o av:=by
 unfold Qb5 at hv
 split at hv
 ·
  rename_i t x i
  split at hv
  ·rename_i te v iv hte hx hi
   split at hv
   ·rename_i ki j n e hij hse
    have htd:=Qb4 hse
    have run:∀{β:Nat→Nat} {ρ:Nat→Value} {ok:Ok} {a:Act} {w:World},Xe β ρ ok S a w→Jt a cur→∀{ee:TE} {b of:Nat},Qf Y.T e=some ee→a.eval x=.pointer (some ⟨b,of,none⟩)→0≤j→j<(n:Int) →
      (execOp a.eval o).run P w=.ok (.value (.pointer (some ⟨b,of+j.toNat*ee.size,none⟩))) w:=by
     intro β ρ ok a w h hc ee b of he hv h0 h1
     have hun:(underlying t).run P w=.ok (.array n e) w:=by rw [Jg hT w hte,htd]
     have hi':=h.int hc hi hij
     unfold execOp
     rw [hop]
     simp only [hv,hi']
     simp [Instr.indexAt,asIntOf,hun,Instr.sureAddr,h0,h1,Ju hT w he,Addr.add_lit]
    split at hv
    ·rename_i ee m u xs he
     obtain ⟨hb,hv1⟩:=bvT hv
     simp only [Bool.and_eq_true] at hb
     have hm:=Nat.eq_of_beq_eq_true hb.1
     have hsz:=Nat.eq_of_beq_eq_true hb.2
     obtain ⟨y,hy,hk⟩:=Ya hv1
     refine ⟨_,hk,fun {β ρ ok a w} h hc=>?_⟩
     obtain ⟨cs,h1,v0,rfl,hat⟩:=h.ev hc hx
     obtain ⟨b,of,rfl,h2,h3,h4⟩:=Qwo hat hy
     refine ⟨[.pointer (some ⟨b,of+j.toNat*u.size,none⟩)],?_,_,rfl,h2⟩
     rw [←hsz]
     exact run h hc he h1 h3 (by omega)
    ·rename_i ee id path he
     split at hv
     ·rename_i tid c ho
      obtain ⟨y,hy,hnav⟩:=Rk hv
      split at hy
      ·rename_i m u xs
       obtain ⟨hb,hv1⟩:=bvT hy
       simp only [Bool.and_eq_true] at hb
       have hm:=Nat.eq_of_beq_eq_true hb.1
       have hsz:=Nat.eq_of_beq_eq_true hb.2
       obtain ⟨y,hy',hk⟩:=Ya hv1
       refine ⟨_,hk,fun {β ρ ok a w} h hc=>?_⟩
       obtain ⟨cs,h1,h2⟩:=h.ev hc hx
       have h2':cs=_:=h2
       subst h2'
       obtain ⟨cs0,hh,hcr⟩:=h.2 _ _ ho
       obtain ⟨q1,q2⟩:=hnav hcr
       obtain ⟨_,_,h3,h4⟩:=Qdg (show (rt (.arr m u)).rep ok w xs _ from q1) hy'
       refine ⟨[.pointer (some ⟨β id,Jl (path++[PS.i j u.size]),none⟩)],?_,rfl⟩
       have:=run h hc he h1 h3 (by omega)
       rw [this,hsz,E2]
       simp [Jl,PS.off,AV.val,AV.isAgg]
      ·cases hy
     ·cases hv
    ·cases hv
   ·cases hv
  ·cases hv
 ·
  rename_i t x
  split at hv
  ·rename_i e id path he hx
   split at hv
   ·rename_i tid c ho
    obtain ⟨y,hy,hnav⟩:=Rk hv
    obtain ⟨hb,hk⟩:=bvT hy
    simp only [Bool.and_eq_true] at hb
    obtain ⟨⟨⟨b1,b2⟩,b3⟩,b4⟩:=hb
    have b1:=Nat.eq_of_beq_eq_true b1
    have b2:=bEq b2
    refine ⟨_,hk,fun {β ρ ok a w} h hc=>?_⟩
    obtain ⟨cs,h1,h2⟩:=h.ev hc hx
    have h2':cs=_:=h2
    subst h2'
    obtain ⟨cs0,hh,hcr⟩:=h.2 _ _ ho
    obtain ⟨q1,q2⟩:=hnav hcr
    refine ⟨_,?_,q1⟩
    have h1':a.eval x=.pointer (some ⟨β id,Jl path,none⟩):=h1
    have hl:=Ud q1
    unfold execOp
    rw [hop]
    simp only [h1',Sem.run_bind]
    have:=Wd (w:=w) hT he (b:=β id) (o:=Jl path) (y:=y) (cs:=(cs0.drop (Jl path)).take y.size) (by rw [hl]; exact b1) b2 (fun hf=>by
     rw [hl]
     rw [hf] at b4
     simp only [Bool.false_or] at b4
     exact Nat.eq_of_beq_eq_true b4) (fun i z hz=>by
     have hi:=(List.getElem?_eq_some_iff.1 hz).1
     rw [hl] at hi
     rw [List.getElem?_take_of_lt hi,List.getElem?_drop] at hz
     rw [cell?_of_heap hh]
     simpa using hz)
    rw [this]
    rfl
   ·cases hv
  ·cases hv
 ·
  rename_i t x lo hi
  split at hv
  ·rename_i te id hte hx
   split at hv
   ·rename_i n e tid m xs hse ho
    have htd:=Qb4 hse
    split at hv
    ·rename_i ee na nb he hlo hhi
     obtain ⟨hb,hv1⟩:=bvT hv
     simp only [Bool.and_eq_true] at hb
     have hm:=Nat.eq_of_beq_eq_true hb.1
     have hsz:=Nat.eq_of_beq_eq_true hb.2
     obtain ⟨ys,hys,hk⟩:=Ya hv1
     refine ⟨_,hk,fun {β ρ ok a w} h hc=>?_⟩
     obtain ⟨cs,h1,h2⟩:=h.ev hc hx
     have h2':cs=_:=h2
     subst h2'
     obtain ⟨cs0,hh,hcr⟩:=h.2 _ _ ho
     have hxs:xs.length=m:=(show xs.length=m∧_ from hcr).1
     obtain ⟨s1,s2,s3,s4,s5⟩:=Gd.slc_ok hys
     have hbd:=E3 (P:=P) (w:=w) (isS:=false) (len:=n) (cap:=n) (h.bnd hc hlo) (h.bnd hc hhi) s1 s2 (by omega) (Nat.le_refl _)
     have hun:(underlying t).run P w=.ok (.array n e) w:=by rw [Jg hT w hte,htd]
     have h1':a.eval x=.pointer (some ⟨β id,0,none⟩):=h1
     refine ⟨[.slice (some (if n=na.toNat then ⟨β id,0,none⟩ else ⟨β id,na.toNat,none⟩)) (nb - na).toNat (n - na.toNat)],?_,_,_,rfl,fun hpos=>?_⟩
     ·unfold execOp
      rw [hop]
      simp only [h1']
      simp [Instr.sliceAt,hun,Instr.sureAddr,hbd,Ju hT w he,hsz,Addr.add_lit,AV.val,AV.isAgg]
      omega
     ·rw [if_neg (by omega)]
    ·cases hv
   ·cases hv
  ·cases hv
 ·
  rename_i s t x
  split at hv
  ·rename_i se te id na n hse hte hx
   split at hv
   ·rename_i e tid m xs hsd htd ho
    split at hv
    ·rename_i _ _ _ _ he
     obtain ⟨ys,hys,hk⟩:=Ya hv
     refine ⟨_,hk,fun {β ρ ok a w} h hc=>⟨[Yn (Qbe ys)],?_,rfl⟩⟩
     obtain ⟨cs,h1,A,c,rfl,hA⟩:=h.ev hc hx
     obtain ⟨cs0,hh,hcr⟩:=h.2 _ _ ho
     obtain ⟨hxs,hrep⟩:=(show xs.length=m∧Zx (Aw .u8) ok w xs cs0 from hcr)
     obtain ⟨s1,s2,s3,s4,s5⟩:=Gd.slc_ok hys
     have hsd':se.d=.slice e:=by
      unfold Yb at hsd
      split at hsd
      ·rename_i hd; simp at hsd; subst hsd; assumption
      ·cases hsd
     have h1':a.eval x=.slice (some A) n.toNat c:=h1
     have hus:=(Jo hT hse).2; rw [hsd'] at hus
     have hut:=(Jo hT hte).2; rw [htd] at hut
     have hue:=(Jo hT he).2
     have hconv:=run_convert_bytes_string (P:=P) w s t e (some A) n.toNat c hus hue hut
     have hload:(loadCells A n.toNat).run P w=.ok (ys.map (Value.int .u8)).toArray w:=by
      have hyl:ys.length=n.toNat:=by rw [s5]; congr 1; omega
      have:=run_loadCells_list (P:=P) w A (ys.map (Value.int .u8)) (fun i v hi=>by
       rw [List.getElem?_map] at hi
       obtain ⟨y,hy,rfl⟩:=Option.map_eq_some_iff.1 hi
       have hi':=(List.getElem?_eq_some_iff.1 hy).1
       rw [hA (by omega),Xi]
       rw [s4,List.getElem?_take_of_lt (by omega),List.getElem?_drop] at hy
       have hr:=X8 hrep hy
       have hr':(cs0.drop ((na.toNat+i)*1)).take 1=[.int .u8 y]:=hr
       rw [Nat.mul_one] at hr'
       rw [cell?_of_heap hh]
       have:=congrArg (fun l=>l[0]?) hr'
       simp only [List.getElem?_cons_zero] at this
       rw [List.getElem?_take_of_lt (by omega),List.getElem?_drop] at this
       simpa using this)
      simpa [hyl] using this
     have hrun:=run_bytesToString w A n.toNat c ys hload
     have hf:=R5 ys []
     simp only [List.nil_append] at hf
     unfold execOp
     rw [hop]
     simp only [h1']
     simp only [Sem.run_bind,hconv,hrun]
     show Result.andThen (.ok (Value.string (ys.foldl _ (ByteArray.mk ([]:List UInt8).toArray))) w) _=_
     rw [hf]; rfl
    ·cases hv
   ·cases hv
  ·cases hv
 ·cases hv
theorem Df {Y:TX} (hT:Q0 P Y.T) {R:Type} {o:Oper} {op:Op} (hop:o.op=op) {k:AV→Option R} {r:R} (hv:Ca Y S cur op k=some r):∃av,k av=some r∧O8 P S cur o av:=by
 unfold Ca at hv
 split at hv
 ·exact Qpe hT hop hv
 ·exact Qrv hT hop hv
end
end Gx

/- Shapes of states; the interpreter. -/
namespace Gx
open Go Go.RowKit Gd
set_option linter.unusedVariables false
set_option linter.unusedSimpArgs false
inductive Sk where
 | d (t:Ty)
 | p (id:Nat) (path:List PS)
 | s (id:Nat) | m (id:Nat)
 | ns | np | nm | nf | z
 | f (fn:FuncId) (caps:Sk)
 | ag (l:Sk) | nil | cons (x r:Sk)
inductive SkO where
 | var (tid:TypeId) (c:Sk)
 | row (e:TypeId) (t:Ty)
 | tail (e:TypeId) (t:Ty)
 | map (k v:Ty)
 | mapT (k v:Ty) (path:List PS) (e:TypeId) (u:Ty)
 | mapO (k:Ty)
structure Shp where
 env:List (Nat×Sk)
 mem:List (Nat×SkO)
abbrev DV:=Σ t:Ty,t.De
def Sk.tys:Sk→List Ty
 | .d t=>[t]
 | .f _ c=>c.tys
 | .ag l=>l.tys
 | .cons x r=>x.tys++r.tys
 | _=>[]
def SkO.tys:SkO→List Ty
 | .var _ c=>c.tys
 | .row _ t=>[.sl t]
 | .tail _ t=>[.sl t]
 | .map k v=>[.sl (.pr k v)]
 | .mapT k v _ _ _=>[.sl (.pr k v)]
 | .mapO k=>[.sl (.pr k .ref)]
def Qrw:List (Nat×Sk)→List Ty
 | []=>[]
 | q::l=>q.2.tys++Qrw l
def Qrx:List (Nat×SkO)→List Ty
 | []=>[]
 | q::l=>q.2.tys++Qrx l
def Shp.tys (Γ:Shp):List Ty:=Qrw Γ.env++Qrx Γ.mem
@[reducible] def Tup:List Ty→Type
 | []=>Unit
 | [t]=>t.De
 | t::u::ts=>t.De×Tup (u::ts)
abbrev Shp.De (Γ:Shp):Type:=Tup Γ.tys
def toL:(ts:List Ty)→Tup ts→List DV
 | [],_=>[]
 | [t],x=>[⟨t,x⟩]
 | t::u::ts,x=>⟨t,x.1⟩::toL (u::ts) x.2
def ofL:(ts:List Ty)→List DV→Option (Tup ts)
 | [],[]=>some ()
 | [t],[v]=>Ty.cast v.1 t v.2
 | t::u::ts,v::vs=>match Ty.cast v.1 t v.2,ofL (u::ts) vs with
  | some a,some b=>some (a,b)
  | _,_=>none
 | _,_=>none
def H6:Sk→List DV→AV×List DV
 | .d t,v::vs=>(.d v.1 v.2,vs)
 | .d _,[]=>(.nil,[])
 | .p id path,vs=>(.p id path,vs)
 | .s id,vs=>(.s id,vs)
 | .m id,vs=>(.m id,vs)
 | .ns,vs=>(.ns,vs)
 | .np,vs=>(.np,vs)
 | .nm,vs=>(.nm,vs)
 | .nf,vs=>(.nf,vs)
 | .z,vs=>(.z,vs)
 | .f fn c,vs=>match H6 c vs with
  | (x,r)=>(.f fn x,r)
 | .ag l,vs=>match H6 l vs with
  | (x,r)=>(.ag x,r)
 | .nil,vs=>(.nil,vs)
 | .cons a b,vs=>match H6 a vs with
  | (x,r)=>match H6 b r with
   | (y,r')=>(.cons x y,r')
def W0:SkO→List DV→Option (Ob×List DV)
 | .var tid c,vs=>match H6 c vs with
  | (x,r)=>some (.var tid x,r)
 | .row e t,v::vs=>match Ty.cast v.1 (.sl t) v.2 with
  | some xs=>some (.row e t xs,vs)
  | none=>none
 | .tail e t,v::vs=>match Ty.cast v.1 (.sl t) v.2 with
  | some xs=>some (.tail e t xs,vs)
  | none=>none
 | .map k u,v::vs=>match Ty.cast v.1 (.sl (.pr k u)) v.2 with
  | some xs=>some (.map k u xs,vs)
  | none=>none
 | .mapT k u path e t,v::vs=>match Ty.cast v.1 (.sl (.pr k u)) v.2 with
  | some xs=>some (.mapT k u path e t xs none,vs)
  | none=>none
 | .mapO k,v::vs=>match Ty.cast v.1 (.sl (.pr k .ref)) v.2 with
  | some xs=>some (.mapO k xs none,vs)
  | none=>none
 | _,[]=>none
def G8:List (Nat×Sk)→List DV→List En×List DV
 | [],vs=>([],vs)
 | (t,s)::l,vs=>match H6 s vs with
  | (x,r)=>match G8 l r with
   | (es,r')=>(⟨t,[],x⟩::es,r')
def Ul:List (Nat×SkO)→List DV→List (Nat×Ob)
 | [],_=>[]
 | (t,s)::l,vs=>match W0 s vs with
  | some (x,r)=>(t,x)::Ul l r
  | none=>[]
structure XS where
 env:List En
 fix:List En
 mem:List (Nat×Ob)
 fixM:List (Nat×Ob)
 prot:List Nat
def XS.flat (S:XS):St:=⟨S.env++S.fix,S.mem++S.fixM⟩
abbrev XS.ev (S:XS) (cur:Vd) (x:Operand):Option AV:=Gx.ev S.flat cur x
def enc (Γ:Shp) (x:Γ.De):St:=match G8 Γ.env (toL Γ.tys x) with
 | (es,r)=>⟨es,Ul Γ.mem r⟩
def PS.beq:PS→PS→Bool
 | .f k o,.f k' o'=>Nat.beq k k'&&Nat.beq o o'
 | _,_=>false
def Su:List PS→List PS→Bool
 | [],[]=>true
 | a::l,b::m=>PS.beq a b&&Su l m
 | _,_=>false
def isNone {α:Type}:Option α→Bool
 | none=>true
 | some _=>false
def Qpf:Sk→AV→List (Nat×Nat)
 | .s id,.s c=>[(id,c)]
 | .p id _,.p c _=>[(id,c)]
 | .m id,.m c=>[(id,c)]
 | .f _ x,.f _ y=>Qpf x y
 | .ag l,x=>match Fj x with
  | some y=>Qpf l y
  | none=>[]
 | .cons a b,.cons x y=>Qpf a x++Qpf b y
 | _,_=>[]
def Qm5 (env:List En):List (Nat×Sk)→List (Nat×Nat)
 | []=>[]
 | (t,s)::l=>match Zn env t with
  | some e=>Qpf s e.av++Qm5 env l
  | none=>Qm5 env l
def Qb6 (M:List (Nat×Ob)):List (Nat×SkO)→List (Nat×Nat)→List (Nat×Nat)
 | [],ri=>ri
 | (id,.var _ c)::l,ri=>match Jk ri id with
  | some i=>match Qc M i with
   | some (.var _ x)=>Qb6 M l (ri++Qpf c x)
   | _=>Qb6 M l ri
  | none=>Qb6 M l ri
 | _::l,ri=>Qb6 M l ri
def Q65 (Γ:Shp) (S:St):List (Nat×Nat):=Qb6 S.mem Γ.mem (Qm5 S.env Γ.env)
def J3:List Nat→Nat→Bool
 | [],_=>false
 | k::l,t=>Nat.beq k t||J3 l t
def Qb7:AV→List Nat
 | .s id=>[id]
 | .ag l=>Qb7 l
 | .cons x r=>Qb7 x++Qb7 r
 | _=>[]
def Qpg:Sk→AV→List Nat
 | .d _,x=>Qb7 x
 | .f _ a,.f _ x=>Qpg a x
 | .ag l,x=>match Fj x with
  | some y=>Qpg l y
  | none=>[]
 | .cons a b,.cons x y=>Qpg a x++Qpg b y
 | _,_=>[]
def Qry (env:List En):List (Nat×Sk)→List Nat
 | []=>[]
 | (t,s)::l=>match Zn env t with
  | some e=>Qpg s e.av++Qry env l
  | none=>Qry env l
def Qdi (M:List (Nat×Ob)) (ri:List (Nat×Nat)):List (Nat×SkO)→List Nat
 | []=>[]
 | (id,.var _ c)::l=>match Jk ri id with
  | some i=>match Qc M i with
   | some (.var _ x)=>Qpg c x++Qdi M ri l
   | _=>Qdi M ri l
  | none=>Qdi M ri l
 | (id,.tail _ _)::l=>match Jk ri id with
  | some i=>i::Qdi M ri l
  | none=>Qdi M ri l
 | _::l=>Qdi M ri l
def Y9 (ks:List Nat):List (Nat×Ob)→List (Nat×Ob)
 | []=>[]
 | (id,.row e t xs)::l=>(bif J3 ks id&&Nat.ble 1 t.size then (id,.tail e t xs) else (id,.row e t xs))::Y9 ks l
 | q::l=>q::Y9 ks l
def Qjm (ri:List (Nat×Nat)) (id c:Nat):Bool:=match Jk ri id with
 | some i=>Nat.beq i c
 | none=>false
def Sk.isL:Sk→Bool
 | .nil=>true
 | .cons _ b=>b.isL
 | _=>false
def V0 (M:List (Nat×Ob)) (ri:List (Nat×Nat)) (pr:List Nat):Sk→AV→Option (List DV)
 | .d t,v=>match asD M v t with
  | some x=>bif t.agg==v.isAgg then some [⟨t,x⟩] else none
  | none=>none
 | .p id path,.p c path'=>bif Qjm ri id c&&Su path path' then some [] else none
 | .s id,.s c=>bif Qjm ri id c&&!isNone (Qc M c) then some [] else none
 | .s id,.ns=>bif isNone (Jk ri id)&&!J3 pr id then some [] else none
 | .m id,.m c=>bif Qjm ri id c then some [] else none
 | .ns,.ns=>some []
 | .np,.np=>some []
 | .nm,.nm=>some []
 | .nf,.nf=>some []
 | .z,.z=>some []
 | .f fn c,.f fn' x=>bif Nat.beq fn fn'&&c.isL then V0 M ri pr c x else none
 | .ag l,x=>match Fj x with
  | some y=>V0 M ri pr l y
  | none=>none
 | .nil,.nil=>some []
 | .cons a b,.cons x y=>match V0 M ri pr a x,V0 M ri pr b y with
  | some u,some v=>some (u++v)
  | _,_=>none
 | _,_=>none
def Sv (M:List (Nat×Ob)) (ri:List (Nat×Nat)) (pr:List Nat) (env:List En):List (Nat×Sk)→Option (List DV)
 | []=>some []
 | (t,s)::l=>match Zn env t with
  | some ⟨_,[],x⟩=>match V0 M ri pr s x,Sv M ri pr env l with
   | some u,some v=>some (u++v)
   | _,_=>none
  | _=>none
def H7 (M:List (Nat×Ob)) (ri:List (Nat×Nat)) (pr:List Nat):SkO→Option Ob→Option (List DV)
 | .var tid c,some (.var tid' x)=>bif Nat.beq tid tid' then V0 M ri pr c x else none
 | .row e t,some (.row e' t' xs)=>bif Nat.beq e e'&&Ty.beq t t' then some [⟨.sl t',xs⟩] else none
 | .row e t,none=>some [⟨.sl t,[]⟩]
 | .tail e t,some (.tail e' t' xs)=>bif Nat.beq e e'&&Ty.beq t t' then some [⟨.sl t',xs⟩] else none
 | .tail e t,none=>some [⟨.sl t,[]⟩]
 | .map k u,some (.map k' u' xs)=>bif Ty.beq k k'&&Ty.beq u u' then some [⟨.sl (.pr k' u'),xs⟩] else none
 | .mapT k u path e t,some (.mapT k' u' path' e' t' xs hole)=>bif Ty.beq k k'&&Ty.beq u u'&&Su path path'&&Nat.beq e e'&&Ty.beq t t'&&isNone hole then some [⟨.sl (.pr k' u'),xs⟩] else none
 | .mapO k,some (.mapO k' xs _)=>bif Ty.beq k k' then some [⟨.sl (.pr k' .ref),xs⟩] else none
 | _,_=>none
def Qm6 (M:List (Nat×Ob)) (ri:List (Nat×Nat)) (id:Nat):Option (Option Ob):=match Jk ri id with
 | none=>some none
 | some c=>match Qc M c with
  | some o=>some (some o)
  | none=>none
def Fk (M F:List (Nat×Ob)) (ri:List (Nat×Nat)) (pr:List Nat):List (Nat×SkO)→Option (List DV)
 | []=>some []
 | (t,s)::l=>match Qm6 M ri t with
  | some o=>match H7 (M++F) ri pr s o,Fk M F ri pr l with
   | some u,some v=>some (u++v)
   | _,_=>none
  | none=>none
def We (ri:List (Nat×Nat)):List (Nat×SkO)→List Nat→Bool
 | [],_=>true
 | (id,_)::l,cs=>match Jk ri id with
  | some c=>!J3 cs c&&We ri l (c::cs)
  | none=>We ri l cs
def Qrz:List (Nat×SkO)→List Nat→Bool
 | [],_=>true
 | (id,_)::l,cs=>!J3 cs id&&Qrz l (id::cs)
def frz (Γ:Shp) (ri:List (Nat×Nat)) (env:List En) (M:List (Nat×Ob)):List (Nat×Ob):=Y9 (Qry env Γ.env++Qdi M ri Γ.mem) M
def Qm7 (ri:List (Nat×Nat)) (pr:List Nat):List (Nat×SkO)→Bool
 | []=>true
 | (id,_)::l=>(!J3 pr id||Qjm ri id id)&&Qm7 ri pr l
def Qfh (pr:List Nat):List (Nat×Nat)→Bool
 | []=>true
 | (id,c)::l=>(!J3 pr id||Nat.beq id c)&&Qfh pr l
def Qph (Γ:Shp) (ri:List (Nat×Nat)) (pr:List Nat) (env:List En) (M F:List (Nat×Ob)):Option Γ.De :=
 bif We ri Γ.mem []&&Qrz Γ.mem []&&Qm7 ri pr Γ.mem&&Qfh pr ri then
  match Sv (M++F) ri pr env Γ.env,Fk M F ri pr Γ.mem with
  | some u,some v=>ofL Γ.tys (u++v)
  | _,_=>none
 else none
def decF (Γ:Shp) (ri:List (Nat×Nat)) (pr:List Nat) (env:List En) (M F:List (Nat×Ob)):Option Γ.De:=Qph Γ ri pr env (frz Γ ri env M) F
def Q2:AV→List Nat
 | .p id _=>[id]
 | .e id _=>[id]
 | .s id=>[id]
 | .m id=>[id]
 | .w id _ _=>[id]
 | .f _ c=>Q2 c
 | .ag l=>Q2 l
 | .tp l=>Q2 l
 | .cons x r=>Q2 x++Q2 r
 | _=>[]
def Ev:List En→List Nat
 | []=>[]
 | e::l=>Q2 e.av++Ev l
def Zp {α:Type}:Option (α×Nat)→List Nat
 | some q=>[q.2]
 | none=>[]
def Q7:List (Nat×Ob)→List Nat
 | []=>[]
 | (id,.var _ c)::l=>id::(Q2 c++Q7 l)
 | (id,.mapT _ _ _ _ _ _ (some q))::l=>id::q.2::Q7 l
 | (id,.mapO _ _ last)::l=>id::(Zp last++Q7 l)
 | (id,_)::l=>id::Q7 l
def Qr0 (pr:List Nat):List (Nat×SkO)→List (Nat×Nat)
 | []=>[]
 | (id,_)::l=>bif J3 pr id then (id,id)::Qr0 pr l else Qr0 pr l
def XS.dec (S:XS) (Γ:Shp):Option Γ.De:=decF Γ (Qb6 S.mem Γ.mem (Qm5 (S.env++S.fix) Γ.env++Qr0 (S.prot++(Ev S.fix++Q7 S.fixM)) Γ.mem)) (S.prot++(Ev S.fix++Q7 S.fixM)) (S.env++S.fix) S.mem S.fixM
def P2 (env:List En):List Nat→List En
 | []=>[]
 | t::ts=>match Zn env t with
  | some e=>e::P2 env ts
  | none=>P2 env ts
def Jb:List (Nat×Ob)→List Nat→List (Nat×Ob)×List (Nat×Ob)
 | M,[]=>(M,[])
 | M,t::ts=>match Qc M t with
  | some o=>((Jb (Jw M t) ts).1,(t,o)::(Jb (Jw M t) ts).2)
  | none=>Jb M ts
def XS.ent (S:XS) (ks ms:List Nat):XS:=⟨S.env,P2 S.env ks++S.fix,(Jb S.mem ms).1,(Jb S.mem ms).2++S.fixM,S.prot⟩
def XS.re (S:XS) (S1:St):XS:=⟨S1.env,S.fix,S1.mem,S.fixM,S.prot⟩
def XS.out (S:XS) (ks ms:List Nat) (S1:St):XS:=⟨S1.env++P2 S.env ks,S.fix,S1.mem++(Jb S.mem ms).2,S.fixM,S.prot⟩
inductive Ex where
 | n | x (id:Nat) | r
def Ex.beq:Ex→Ex→Bool
 | .n,.n=>true
 | .r,.r=>true
 | .x a,.x b=>Nat.beq a b
 | _,_=>false
abbrev Exs:=List (Ex×Shp)
@[reducible] def Cn:Exs→Type
 | []=>Empty
 | [q]=>q.2.De
 | q::r::l=>q.2.De⊕Cn (r::l)
def inj:(l:Exs)→Ex→XS→Option (Cn l)
 | [],_,_=>none
 | [q],e,S=>bif Ex.beq q.1 e then S.dec q.2 else none
 | q::r::l,e,S=>bif Ex.beq q.1 e then (match S.dec q.2 with
   | some x=>some (.inl x)
   | none=>none) else (match inj (r::l) e S with
   | some x=>some (.inr x)
   | none=>none)
def Qfi {R:Type} (S:XS) (ks ms:List Nat) (k:Ex→XS→Option R):(l:Exs)→Cn l→Option R
 | [],_=>none
 | [q],x=>k q.1 (S.out ks ms (enc q.2 x))
 | q::r::l,x=>match x with
  | .inl y=>k q.1 (S.out ks ms (enc q.2 y))
  | .inr z=>Qfi S ks ms k (r::l) z
def Qx {σ τ:Type} (f:σ→Option (σ⊕τ)):Nat→σ→Option τ
 | 0,_=>none
 | n+1,s=>(f s).bind fun
  | .inl s'=>Qx f n s'
  | .inr r=>some r
structure Con where
 f:FuncId
 Γ:Shp
 Δ:Shp
 fn:Γ.De→Option Δ.De
 ro:List Nat
def Yh (Zs:List (Nat×Ob)):List Nat:=Zs.map Prod.fst
def wrM (ro:List Nat) (M:List (Nat×Ob)):List (Nat×Ob):=M.filter fun q=>!J3 ro q.1
def rdM (ro:List Nat) (M:List (Nat×Ob)):List (Nat×Ob):=M.filter fun q=>J3 ro q.1
def wrG (ro:List Nat) (M:List (Nat×SkO)):List (Nat×SkO):=M.filter fun q=>!J3 ro q.1
def rdG (ro:List Nat) (M:List (Nat×SkO)):List (Nat×SkO):=M.filter fun q=>J3 ro q.1
def roM (c:Con) (x:c.Γ.De):List (Nat×Ob):=rdM c.ro (enc c.Γ x).mem
def Lt:Sk→AV→Bool
 | .d _,.d _ _=>true
 | .p _ _,.p _ _=>true
 | .s _,.s _=>true
 | .m _,.m _=>true
 | .ns,.ns=>true
 | .np,.np=>true
 | .nm,.nm=>true
 | .nf,.nf=>true
 | .z,.z=>true
 | .f _ c,.f _ x=>Lt c x
 | .ag l,.ag y=>Lt l y
 | .nil,.nil=>true
 | .cons a b,.cons x y=>Lt a x&&Lt b y
 | _,_=>false
def Q66:SkO→Ob→Bool
 | .var _ c,.var _ x=>Lt c x
 | .row _ _,.row _ _ _=>true
 | .map _ _,.map _ _ _=>true
 | _,_=>false
def Qb8 (ri:List (Nat×Nat)) (M:List (Nat×Ob)):List (Nat×SkO)→Bool
 | []=>true
 | (id,s)::l=>(match Jk ri id with
  | some c=>(match Qc M c with
   | some ob=>Q66 s ob
   | none=>false)
  | none=>false)&&Qb8 ri M l
def Kb (g:Nat→Nat):AV→AV
 | .p id path=>.p (g id) path
 | .e id path=>.e (g id) path
 | .s id=>.s (g id)
 | .m id=>.m (g id)
 | .w id j n=>.w (g id) j n
 | .f fn c=>.f fn (Kb g c)
 | .ag l=>.ag (Kb g l)
 | .tp l=>.tp (Kb g l)
 | .cons x r=>.cons (Kb g x) (Kb g r)
 | x=>x
def Lu (g:Nat→Nat):Ob→Ob
 | .var tid c=>.var tid (Kb g c)
 | .mapT k v path e u xs (some q)=>.mapT k v path e u xs (some (q.1,g q.2))
 | .mapO k xs last=>.mapO k xs (last.map fun q=>(q.1,g q.2))
 | o=>o
def Jn (ri:List (Nat×Nat)) (d j:Nat):Nat:=match Jk ri j with
 | some c=>c
 | none=>10000+100*d+j
def Qfj (S:XS):List Operand→Nat→Option (List En)
 | [],_=>some []
 | x::l,i=>match S.ev [] x,Qfj S l (i+1) with
  | some v,some r=>bif Nat.blt i 100000 then some (⟨i,[],v⟩::r) else none
  | _,_=>none
def Qr1:AV→Nat→Option (List En)
 | .nil,_=>some []
 | .cons x r,i=>match Qr1 r (i+1) with
  | some l=>bif Nat.blt i 100000 then some (⟨i,[],x⟩::l) else none
  | none=>none
 | _,_=>none
def Qb9:List En→AV
 | []=>.nil
 | e::l=>.cons e.av (Qb9 l)
def E4 (es:List En):AV:=match es with
 | [e]=>e.av
 | es=>.tp (Qb9 es)
def J9 (ri:List (Nat×Nat)):List (Nat×SkO)→List Nat
 | []=>[]
 | (id,_)::l=>match Jk ri id with
  | some c=>c::J9 ri l
  | none=>J9 ri l
def Ny:List (Nat×SkO)→Bool
 | []=>true
 | (_,.tail _ _)::_=>false
 | (_,.mapT _ _ _ _ _)::_=>false
 | _::l=>Ny l
def Ks (ks:List Nat):List Nat→Bool
 | []=>true
 | i::l=>J3 ks i&&Ks ks l
def W5:List Nat→Bool
 | []=>true
 | i::l=>!J3 l i&&W5 l
def Zk {α:Type}:Option α→Bool
 | some _=>true
 | none=>false
def Zq (g:Nat→Nat) (M:List (Nat×Ob)):List (Nat×Ob):=M.map fun q=>(g q.1,Lu g q.2)
inductive Src where
 | t (n:Nat)
 | v (id:Nat) (path:List PS)
inductive Hn where
 | done
 | n (m:Nat) (r:Hn)
 | nl (m:Nat) (r:Hn)
 | md (mode:Nat) (r:Hn)
 | keep (ts:List Nat) (r:Hn)
 | fz (id:Nat) (r:Hn)
 | sp (t:Nat) (m:Nat) (ks ms:List Nat) (Γ:Shp) (a b r:Hn)
 | call (c:Nat) (r:Hn)
 | tl (h:Hn)
 | so (t:Nat) (a b:Hn)
 | mt (id:Nat) (path:List PS) (e:TypeId) (r:Hn)
 | op (src:Src) (id d:Nat) (r:Hn)
 | fm (id:Nat) (r:Hn)
 | dt (id:Nat) (r:Hn)
 | si (t:Nat) (n:Int) (a b:Hn)
 | br (r:Hn)
structure HD where
 h:Hn
 tch:List Nat
 ro:List Nat
 bs:List Nat
 nm:List Nat
inductive HT where
 | tl (h:Hn)
 | op (h:HD) (r:HT)
 | so (t:Nat) (a b:HT)
def Hf {ε σ τ:Type} (f:ε→σ→Option (σ⊕τ)):List ε→σ→Option (σ⊕τ)
 | [],s=>some (.inl s)
 | e::l,s=>match f e s with
  | some (.inl s')=>Hf f l s'
  | some (.inr x)=>some (.inr x)
  | none=>none
open Classical in
noncomputable def Sw {ε σ τ:Type} (f:ε→σ→Option (σ⊕τ)) (l:List ε) (s:σ):Option (σ⊕τ) :=
 if ∀ys:List ε,ys.Perm l→Hf f ys s=Hf f l s then Hf f l s else none
noncomputable def Ba {ε σ τ:Type} (f:ε→σ→Option (σ⊕τ)):List ε→σ→Option (σ⊕τ)
 | [],s=>some (.inl s)
 | [e],s=>f e s
 | e::e'::l,s=>Sw f (e::e'::l) s
inductive An where
 | nil
 | mp (h:Hn) (ks ms:List Nat) (Γ:Shp) (exs:Exs) (h3:Hn) (a:An)
 | reg (h:Hn)
 | two (a b:An)
 | un (a:An)
 | lp (ks ms:List Nat) (Γ:Shp) (exs:Exs) (a:An)
 | jn (ks ms:List Nat) (exs:Exs) (a:An)
 | dr (m:Nat) (h1 h2:Hn)
 | dm (m:Nat) (ds zs:List Nat) (h2:Hn)
 | dc (m:Nat) (ds zs zf:List Nat) (ht:HT)
 | ch (t n:Nat) (a b:An)
 | gh (g:Hn) (a:An)
abbrev An.t (k:Nat) (a:An):An:=.two (.reg (.n k .done)) a
def I4 (ops:List Oper) (o:Oper):Option (Option (Nat×Bool)):=match o.guard with
 | none=>some none
 | some (j,want)=>match ops[j]? with
  | some p=>match p.dst with
   | some t=>some (some (t,want))
   | none=>none
  | none=>none
def V1 (d:Nat):AV→Bool
 | .p id _=>!Nat.beq id d
 | .e id _=>!Nat.beq id d
 | .s id=>!Nat.beq id d
 | .m id=>!Nat.beq id d
 | .w id _ _=>!Nat.beq id d
 | .f _ c=>V1 d c
 | .ag l=>V1 d l
 | .tp l=>V1 d l
 | .cons x r=>V1 d x&&V1 d r
 | _=>true
def O9 {α:Type} (d:Nat):Option (α×Nat)→Bool
 | some q=>!Nat.beq q.2 d
 | none=>true
def Qv (d:Nat):List (Nat×Ob)→Bool
 | []=>true
 | (k,.var _ c)::l=>!Nat.beq k d&&V1 d c&&Qv d l
 | (k,.mapT _ _ _ _ _ _ (some q))::l=>!Nat.beq k d&&!Nat.beq q.2 d&&Qv d l
 | (k,.mapO _ _ last)::l=>!Nat.beq k d&&O9 d last&&Qv d l
 | (k,_)::l=>!Nat.beq k d&&Qv d l
def Vt (d:Nat):List En→List En
 | []=>[]
 | e::l=>bif V1 d e.av then e::Vt d l else Vt d l
def Hg (d:Nat):List En→Bool
 | []=>true
 | e::l=>!(Nat.beq e.t d||B8 d e.cs)&&Hg d l
def Dg (d:Nat):List En→Bool
 | []=>true
 | e::l=>V1 d e.av&&Dg d l
def Qm8 (ri:List (Nat×Nat)) (d:Nat) (Γk:List Nat) (S:XS) (M:List (Nat×Ob)):List Nat→Bool
 | []=>true
 | j::l=>(bif Zk (Jk ri j) then J3 Γk j else
   Qv (Jn ri d j) M&&Qv (Jn ri d j) S.fixM&&Dg (Jn ri d j) S.fix&&Dg (Jn ri d j) S.env&&!J3 S.prot (Jn ri d j)&&!J3 Γk j)&&Qm8 ri d Γk S M l
def XS.put (S:XS) (d:Nat) (cs:Vd) (x:AV):XS:={ S with env:=⟨d,cs,x⟩::J7 S.env d }
def XS.born (S:XS) (d:Nat) (o:Ob):XS:={ S with env:=Vt d S.env,mem:=(d,o)::S.mem }
def XS.set (S:XS) (id:Nat) (o:Ob):XS:={ S with mem:=Ln S.mem id o }
def Qdj:List PS→AV→Option AV
 | [],x=>some x
 | .f k off::ps,.ag l=>match kid l k with
  | some (y,o)=>bif Nat.beq o off then Qdj ps y else none
  | none=>none
 | _,_=>none
def noS (d:Nat):AV→Bool
 | .e id _=>!Nat.beq id d
 | .s id=>!Nat.beq id d
 | .f _ c=>noS d c
 | .ag l=>noS d l
 | .tp l=>noS d l
 | .cons x r=>noS d x&&noS d r
 | _=>true
def Qr2 (d:Nat):List En→Bool
 | []=>true
 | e::l=>noS d e.av&&Qr2 d l
def Co (d:Nat):List (Nat×Ob)→Bool
 | []=>true
 | (k,.var _ c)::l=>!Nat.beq k d&&noS d c&&Co d l
 | (k,.mapT _ _ _ _ _ _ (some q))::l=>!Nat.beq k d&&!Nat.beq q.2 d&&Co d l
 | (k,_)::l=>!Nat.beq k d&&Co d l
def XS.swap (S:XS) (id:Nat) (o:Ob):XS:={ S with mem:=(id,o)::Jw S.mem id }
def Fl (S:XS) (id:Nat):Bool:=Qr2 id S.env&&Qr2 id S.fix&&Co id (Jw S.mem id)&&Co id S.fixM&&!J3 S.prot id
def Qjn {ν τ:Type} (f:ν→List τ):Option ν→List τ
 | some y=>f y
 | none=>[]
def Jak (S:XS):Src→Option AV
 | .t n=>S.ev [] (.tmp n)
 | .v id path=>match Qc S.flat.mem id with
  | some (.var _ c)=>nav path c
  | _=>none
section
variable {R:Type} (Y:TX) (n:Nat)
def okW (S:XS) (d:Nat):Bool:=Nat.blt d n&&Nat.blt d 100000&&Hg d S.fix
def okB (S:XS) (d:Nat):Bool:=Qv d S.mem&&Qv d S.fixM&&Dg d S.fix&&!J3 S.prot d
def asR (M:List (Nat×Ob)) (xv:AV) (u:Ty):Option (List u.De):=match asD M xv (.sl u) with
 | some ys=>some ys
 | none=>match xv with
  | .s id=>match Qc M id with
   | some (.row _ t ys)=>Ty.cast (.sl t) (.sl u) ys
   | _=>none
  | _=>none
def Nz (o:Oper) (S:XS) (k:XS→Option R):Option R :=
 match o.op,o.dst with
 | .alloc t,some d=>match Qf Y.T t,Jk Y.tys t with
  | some e,some ty=>match Wz ty e.z with
   | some c=>bif okW n S d&&okB S d&&c.isVal&&V1 d c then k ((S.born d (.var t c)).put d [] (.p d [])) else none
   | none=>none
  | _,_=>none
 | .box t x,some d=>match S.ev [] x with
  | some c=>bif okW n S d&&okB S d&&c.isVal&&c.inMem&&V1 d c then k ((S.born d (.var t c)).put d [] (.p d [])) else none
  | none=>none
 | .store t p x,none=>match Qf Y.T t,S.ev [] p,S.ev [] x with
  | some e,some (.p id path),some v=>match Qc S.mem id with
   | some (.var tid c)=>match Cm path c v with
    | some c'=>bif Nat.beq e.size v.size&&v.isVal&&v.inMem then k (S.set id (.var tid c')) else none
    | none=>none
   | _=>none
  | some e,some (.e id (.i j sz::ps)),some v=>match Qc S.mem id with
   | some (.row et u xs)=>(idx xs j).bind fun y=>match Cm ps (.d u y) v with
    | some c=>match asD S.flat.mem c u with
     | some z=>bif Nat.beq e.size v.size&&Nat.beq sz u.size&&Nat.ble 1 u.size&&v.isVal&&v.inMem then k (S.set id (.row et u (xs.set j.toNat z))) else none
     | none=>none
    | none=>none
   | _=>none
  | _,_,_=>none
 | .makeMap t rs,some d=>match Qf Y.T t with
  | some te=>match te.d with
   | .map kt et=>match Jk Y.tys kt,Jk Y.tys et with
    | some kk,some v=>bif okW n S d&&okB S d&&isNone rs then k ((S.born d (.map kk v [])).put d [] (.m d)) else none
    | _,_=>none
   | _=>none
  | none=>none
 | .mapUpdate t m ky x,none=>match Qf Y.T t,S.ev [] m,S.ev [] ky,S.ev [] x with
  | some te,some (.m id),some kv,some xv=>match te.d,Qc S.mem id with
   | .map kt et,some (.map kk v xs)=>match Qf Y.T kt,asD [] kv kk,asD S.flat.mem xv v with
    | some tk,some key,some y=>bif Yz Y.T kk tk.d&&(kk.agg==kv.isAgg)&&(v.agg==xv.isAgg) then k (S.set id (.map kk v (Vq key y xs))) else none
    | _,_,_=>none
   | .map kt et,some (.mapT kk v path e u xs (some (kh,h0)))=>match Qf Y.T kt,asD [] kv kk,asD S.flat.mem xv v,Qdj path xv with
    | some tk,some key,some y,some (.s h1)=>match Qc S.mem h1 with
     | some (.tail e1 u1 _)=>bif Yz Y.T kk tk.d&&(kk.agg==kv.isAgg)&&(v.agg==xv.isAgg)&&Nat.beq e e1&&Ty.beq u u1&&Fl { S with mem:=Jw S.mem h1 } id then
       (chk (eqK kk key kh)).bind fun _=>k (XS.swap { S with mem:=Jw S.mem h1 } id (.mapT kk v path e u (Vq kh y xs) none)) else none
     | _=>none
    | _,_,_,_=>none
   | _,_=>none
  | _,_,_,_=>none
 | .makeSlice t l c,some d=>match Qf Y.T t,S.ev [] l,S.ev [] c with
  | some te,some lv,some cv=>match Yb te.d,U3 lv,U3 cv with
   | some e,some (_,nl),some (_,nc)=>match Qf Y.T e,Jk Y.tys e with
    | some ee,some u=>match Wz u ee.z with
     | some za=>match asD [] za u with
      | some z=>bif okW n S d&&okB S d&&Nat.beq ee.size u.size&&Nat.beq (Qk ee.z).length ee.size&&Nat.ble 1 ee.bytes then
        (mkL ee.bytes nl nc z).bind fun zs=>k ((S.born d (.row e u zs)).put d [] (.s d)) else none
      | none=>none
     | none=>none
    | _,_=>none
   | _,_,_=>none
  | _,_,_=>none
 | .buildSlice t len ⟨parts⟩,some d=>match Qf Y.T t with
  | some te=>match Yb te.d with
   | some e=>match Qf Y.T e,Jk Y.tys e with
    | some ee,some u=>bif okW n S d&&Nat.beq ee.size u.size then (match len,parts with
     | 0,[]=>bif okB S d then k ((S.born d (.row e u [])).put d [] (.s d)) else none
     | 0,_=>none
     | m+1,ps=>match Yq S.flat [] ps with
      | some vs=>match asLs S.flat.mem u vs 0 with
       | some xs=>bif Nat.beq xs.length (m+1)&&Nat.ble ((m+1)*ee.size) 16777216&&Nat.ble 1 ee.size&&Nat.beq (Qk ee.z).length ee.size then k (S.put d [] (.d (.sl u) xs)) else none
       | none=>none
      | none=>none) else none
    | _,_=>none
   | none=>none
  | none=>none
 | .call ⟨.builtin .append,⟨[s,x]⟩,⟨[t,t']⟩⟩,some d=>match Qf Y.T t,S.ev [] s,S.ev [] x with
  | some te,some sv,some xv=>match Yb te.d with
   | some e=>match Qf Y.T e with
    | some ee=>bif okW n S d&&Nat.beq t t'&&Nat.ble 1 ee.size&&Nat.ble 1 ee.bytes&&Nat.beq (Qk ee.z).length ee.size then (match sv with
     | .ns=>match Jk Y.tys e with
      | some u=>match asR S.flat.mem xv u with
       | some ys=>bif okB S d&&Nat.beq ee.size u.size then (app ee.bytes [] ys).bind fun zs=>k ((S.born d (.row e u zs)).put d [] (.s d)) else none
       | none=>none
      | none=>none
     | .z=>match Jk Y.tys e with
      | some u=>match asR S.flat.mem xv u with
       | some ys=>bif okB S d&&Nat.beq ee.size u.size then (app ee.bytes [] ys).bind fun zs=>k ((S.born d (.row e u zs)).put d [] (.s d)) else none
       | none=>none
      | none=>none
     | .s id=>match Qc S.mem id with
      | some (.row e' u xs)=>match asR S.flat.mem xv u with
       | some ys=>bif okB ⟨S.env,S.fix,Jw S.mem id,S.fixM,S.prot⟩ d&&Nat.beq ee.size u.size&&Nat.beq e e' then
         (app ee.bytes xs ys).bind fun zs=>k (({ S with mem:=Jw S.mem id }.born d (.row e u zs)).put d [] (.s d)) else none
       | none=>none
      | some (.tail e' u xs)=>match asD S.flat.mem xv (.sl u) with
       | some ys=>bif okB ⟨S.env,S.fix,Jw S.mem id,S.fixM,S.prot⟩ d&&Nat.beq ee.size u.size&&Nat.beq e e' then
         (app ee.bytes xs ys).bind fun zs=>k (({ S with mem:=Jw S.mem id }.born d (.tail e u zs)).put d [] (.s d)) else none
       | none=>none
      | _=>none
     | _=>none) else none
    | none=>none
   | none=>none
  | _,_,_=>none
 | op,some d=>bif okW n S d then Ca Y S.flat [] op fun v=>k (S.put d [] v) else none
 | _,none=>none
def Q7v:AV→Bool
 | .np=>true
 | .p _ _=>true
 | _=>false
def Qpi:List (Nat×AV)→Nat→Option AV
 | [],_=>some .nil
 | (i,v)::l,j=>bif Nat.beq i j&&Q7v v then (match Qpi l (j+1) with
  | some r=>some (.cons v r)
  | none=>none) else none
def Mq {k:Ty} {ν:Type} (key:k.De):List (k.De×ν)→List (k.De×ν)
 | []=>[]
 | x::l=>bif eqK k key x.1 then l else x::Mq key l
def Wr {α:Type} (xs ys:List α):List α:=ys.take (Nat.min ys.length xs.length)++xs.drop (Nat.min ys.length xs.length)
def I8 {α:Type} (xs ys:List α):Int:=(Nat.min ys.length xs.length:Nat)
def Qwp (o:Oper) (S:XS):Nat:=match o.op with
 | .call ⟨.builtin .append,⟨[_,x]⟩,_⟩=>match S.ev [] x with
  | some (.d .str _)=>1
  | _=>0
 | .convert _ t x=>match S.ev [] x with
  | some (.d .str _)=>match Qf Y.T t with
   | some te=>match Yb te.d with
    | some _=>2
    | none=>0
   | none=>0
  | _=>0
 | .store _ p _=>match S.ev [] p with
  | some (.p _ path)=>bif Q7u path then 3 else 0
  | _=>0
 | .call ⟨.builtin .copy,_,_⟩=>4
 | .call ⟨.builtin .delete,_,_⟩=>5
 | .buildSlice t (_+1) _=>match Qf Y.T t with
  | some te=>match Yb te.d with
   | some e=>match Jk Y.tys e with
    | none=>7
    | some u=>bif Ty.beq u .ref then 7 else 0
   | none=>0
  | none=>0
 | .slice _ x none _ none=>match S.ev [] x with
  | some (.s id)=>match Qc S.mem id with
   | some (.row _ _ _)=>6
   | _=>0
  | _=>0
 | .slice _ x none (some _) (some _)=>match S.ev [] x with
  | some (.s id)=>match Qc S.mem id with
   | some (.row _ _ _)=>8
   | _=>0
  | _=>0
 | _=>0
def Q7w:Value→Bool
 | .int .u8 0=>true
 | _=>false
def Q7x:TypeDesc→Bool
 | .int .u8=>true
 | _=>false
def Qjo:TypeDesc→Bool
 | .string=>true
 | _=>false
def Uw (l:Str):List Int:=l.map fun b=>(b.toNat:Int)
def Qca (o:Oper) (S:XS) (k:XS→Option R):Option R:=match o.op,o.dst with
 | .call ⟨.builtin .append,⟨[s,x]⟩,⟨[t,t']⟩⟩,some d=>match Qf Y.T t,Qf Y.T t',S.ev [] s,S.ev [] x with
  | some te,some te',some sv,some (.d .str l)=>match Yb te.d with
   | some e=>match Qf Y.T e with
    | some ee=>bif okW n S d&&Qjo te'.d&&Q7w ee.z&&Nat.beq ee.size 1&&Nat.beq ee.bytes 1 then (match sv with
     | .ns=>bif okB S d then (app 1 [] (Uw l)).bind fun zs=>k ((S.born d (.row e (.int .u8) zs)).put d [] (.s d)) else none
     | .s id=>match Qc S.mem id with
      | some (.row e' (.int .u8) xs)=>bif okB ⟨S.env,S.fix,Jw S.mem id,S.fixM,S.prot⟩ d&&Nat.beq e e' then
        (app 1 xs (Uw l)).bind fun zs=>k (({ S with mem:=Jw S.mem id }.born d (.row e (.int .u8) zs)).put d [] (.s d)) else none
      | _=>none
     | _=>none) else none
    | none=>none
   | none=>none
  | _,_,_,_=>none
 | .convert s t x,some d=>match Qf Y.T s,Qf Y.T t,S.ev [] x with
  | some se,some te,some (.d .str l)=>match Yb te.d with
   | some e=>match Qf Y.T e with
    | some ee=>bif okW n S d&&okB S d&&Q7x ee.d then (app 1 [] (Uw l)).bind fun zs=>k ((S.born d (.row e (.int .u8) zs)).put d [] (.s d)) else none
    | none=>none
   | none=>none
  | _,_,_=>none
 | .store t p x,none=>match Qf Y.T t,S.ev [] p,S.ev [] x with
  | some e,some (.p id path),some v=>match Qc S.mem id with
   | some (.var tid c)=>P1 S.flat.mem path c v fun c'=>bif Nat.beq e.size v.size&&v.isVal&&v.inMem then k (S.set id (.var tid c')) else none
   | _=>none
  | _,_,_=>none
 | .call ⟨.builtin .copy,⟨[dst,src]⟩,⟨[t,t']⟩⟩,some d=>match Qf Y.T t,S.ev [] dst,S.ev [] src with
  | some te,some (.s id),some xv=>match Yb te.d with
   | some e=>match Qf Y.T e,Qc S.mem id with
    | some ee,some (.row et u xs)=>match asD S.flat.mem xv (.sl u) with
     | some ys=>bif okW n S d&&Nat.beq ee.size u.size&&Nat.ble 1 u.size then k ((S.set id (.row et u (Wr xs ys))).put d [] (.d (.int .i64) (I8 xs ys))) else none
     | none=>none
    | _,_=>none
   | none=>none
  | _,_,_=>none
 | .call ⟨.builtin .delete,⟨[m,ky]⟩,⟨[t,t']⟩⟩,none=>match Qf Y.T t,S.ev [] m,S.ev [] ky with
  | some te,some (.m id),some kv=>match te.d,Qc S.mem id with
   | .map kt et,some (.map kk v xs)=>match Qf Y.T kt,asD [] kv kk with
    | some tk,some key=>bif Yz Y.T kk tk.d&&(kk.agg==kv.isAgg) then k (S.set id (.map kk v (Mq key xs))) else none
    | _,_=>none
   | _,_=>none
  | _,_,_=>none
 | .buildSlice t (m+1) ⟨ps⟩,some d=>match Qf Y.T t with
  | some te=>match Yb te.d with
   | some e=>match Qf Y.T e,Yq S.flat [] ps with
    | some ee,some vs=>match Qpi vs 0 with
     | some c=>bif okW n S d&&okB S d&&V1 d c&&Nat.beq vs.length (m+1)&&Nat.beq ee.size 1&&Nat.beq (Qk ee.z).length 1&&Nat.ble (m+1) 16777216 then k ((S.born d (.var e (.ag c))).put d [] (.w d 0 ((m+1:Nat):Int))) else none
     | none=>none
    | _,_=>none
   | none=>none
  | none=>none
 | .slice t x none hi none,some d=>match Qf Y.T t,S.ev [] x with
  | some te,some (.s id)=>match Yb te.d,Qc S.mem id with
   | some e,some (.row e' u xs)=>match Qf Y.T e,bnd S.flat [] xs.length hi with
    | some ee,some q=>bif okW n S d&&okB ⟨S.env,S.fix,Jw S.mem id,S.fixM,S.prot⟩ d&&Nat.beq ee.size u.size&&Nat.beq e e' then
      (slc xs 0 q).bind fun ys=>k (({ S with mem:=Jw S.mem id }.born d (.row e u ys)).put d [] (.s d)) else none
    | _,_=>none
   | _,_=>none
  | _,_=>none
 | .slice t x none (some hi) (some mx),some d=>match Qf Y.T t,S.ev [] x,S.ev [] hi,S.ev [] mx with
  | some te,some (.s id),some hv,some mv=>match Yb te.d,Qc S.mem id,U3 hv,U3 mv with
   | some e,some (.row e' u xs),some (_,q),some (_,m)=>match Qf Y.T e with
    | some ee=>bif okW n S d&&okB ⟨S.env,S.fix,Jw S.mem id,S.fixM,S.prot⟩ d&&Nat.beq ee.size u.size&&Nat.beq e e' then
      (chk (decide (q≤m)&&decide (m≤(xs.length:Int)))).bind fun _=>(slc xs 0 q).bind fun ys=>k (({ S with mem:=Jw S.mem id }.born d (.row e u ys)).put d [] (.s d)) else none
    | _=>none
   | _,_,_,_=>none
  | _,_,_,_=>none
 | _,_=>none
def Pa (o:Oper) (S:XS) (k:XS→Option R):Option R:=match Qwp Y o S with
 | 0=>Nz Y n o S k
 | _+1=>Qca Y n o S k
def Sx:Value→Bool
 | .map none=>true
 | _=>false
def I9 (o:Oper) (S:XS) (k:XS→Option R):Option R:=match o.op,o.dst with
 | .buildSlice t (m+1) ⟨ps⟩,some d=>match Qf Y.T t with
  | some te=>match Yb te.d with
   | some e=>match Qf Y.T e,Jk Y.tys e,Yq S.flat [] ps with
    | some ee,some u,some vs=>match asLs S.flat.mem u vs 0 with
     | some xs=>bif okW n S d&&okB S d&&Nat.beq ee.size u.size&&Nat.beq xs.length (m+1)&&Nat.ble ((m+1)*ee.size) 16777216&&Nat.ble 1 ee.size&&Nat.beq (Qk ee.z).length ee.size then k ((S.born d (.row e u xs)).put d [] (.s d)) else none
     | none=>none
    | _,_,_=>none
   | none=>none
  | none=>none
 | .makeMap t rs,some d=>match Qf Y.T t with
  | some te=>match te.d with
   | .map kt _=>match Jk Y.tys kt with
    | some kk=>bif okW n S d&&okB S d&&isNone rs then k ((S.born d (.mapO kk [] none)).put d [] (.m d)) else none
    | none=>none
   | _=>none
  | none=>none
 | .mapUpdate t m ky x,none=>match Qf Y.T t,S.ev [] m,S.ev [] ky,S.ev [] x with
  | some te,some (.m id),some kv,some (.m j)=>match te.d,Qc S.mem id with
   | .map kt _,some (.mapO kk xs _)=>match Qf Y.T kt,asD [] kv kk with
    | some tk,some key=>bif Yz Y.T kk tk.d&&(kk.agg==kv.isAgg) then k (S.set id (.mapO kk (Vq key () xs) (some (key,j)))) else none
    | _,_=>none
   | _,_=>none
  | _,_,_,_=>none
 | .lookup t m ky false,some d=>match Qf Y.T t,S.ev [] ky with
  | some te,some kv=>match te.d with
   | .map kt et=>match Qf Y.T kt,Qf Y.T et,S.ev [] m with
    | some tk,some tz,some (.m id)=>match Qc S.flat.mem id with
     | some (.mapO kk xs last)=>match asD [] kv kk with
      | some key=>bif okW n S d&&Yz Y.T kk tk.d&&(kk.agg==kv.isAgg)&&Sx tz.z then (match last with
       | some q=>(chk (eqK kk key q.1)).bind fun _=>k (S.put d [] (.m q.2))
       | none=>(chk (isNone (Qy key xs))).bind fun _=>k (S.put d [] .nm)) else none
      | none=>none
     | _=>none
    | some tk,some tz,some .nm=>match Jk Y.tys kt,Jk Y.tys et with
     | some kk,some v=>match asD [] kv kk,Wz v tz.z with
      | some key,some za=>match asD [] za v with
       | some z=>bif okW n S d&&Yz Y.T kk tk.d&&(kk.agg==kv.isAgg)&&(v.agg==Nt tz.z) then k (S.put d [] (.d v z)) else none
       | none=>none
      | _,_=>none
     | _,_=>none
    | _,_,_=>none
   | _=>none
  | _,_=>none
 | _,_=>none
def U4 (c:Con) (o:Oper) (S:XS) (k:XS→Option R):Option R :=
 match o.op,o.dst with
 | .call ⟨.value x,⟨xs⟩,_⟩,some d=>match S.ev [] x with
  | some (.f f caps)=>bif Nat.beq c.f f&&okW n S d then (match Qfj S xs 0,Qr1 caps xs.length with
   | some es0,some cs=>callE c d S (es0++cs) (Q65 c.Γ ⟨es0++cs,S.mem++S.fixM⟩) k
   | _,_=>none) else none
  | _=>none
 | _,_=>none
where
 callE (c:Con) (d:Nat) (S:XS) (es:List En) (ri:List (Nat×Nat)) (k:XS→Option R):Option R :=
  match Qph c.Γ ri [] es (frz c.Γ ri es S.mem++S.fixM) [] with
  | some x=>bif Ny c.Γ.mem&&Nat.beq es.length c.Γ.env.length&&Ks (Yh S.mem) (J9 ri (wrG c.ro c.Γ.mem))&&Qb8 ri (frz c.Γ ri es S.mem++S.fixM) (rdG c.ro c.Γ.mem) then
   (c.fn x).bind fun y=>callR c d S ri (Jb (frz c.Γ ri es S.mem) (J9 ri (wrG c.ro c.Γ.mem))).1 (enc c.Δ y) (roM c x) k else none
  | none=>none
 callR (c:Con) (d:Nat) (S:XS) (ri:List (Nat×Nat)) (M:List (Nat×Ob)) (S1:St) (RO:List (Nat×Ob)) (k:XS→Option R):Option R :=
  bif Qm8 ri d (c.Γ.mem.map Prod.fst) S M (S1.mem.map Prod.fst)&&W5 ((S1.mem++RO).map fun q=>Jn ri d q.1)&&Ks ((S1.mem++RO).map Prod.fst) (Ev S1.env)&&Ks ((S1.mem++RO).map Prod.fst) (Q7 (S1.mem++RO)) then
   k (XS.put ⟨S.env,S.fix,Zq (Jn ri d) S1.mem++M,S.fixM,S.prot⟩ d [] (Kb (Jn ri d) (E4 S1.env))) else none
def Ms (t:Nat) (want:Bool) (o:Oper) (S:XS) (k:XS→Option R):Option R :=
 match Zn S.flat.env t,o.dst with
 | some ⟨_,cs,.d .bool _⟩,some d=>bif okW n S d&&!Nat.beq t d&&!B8 d cs then (match Mk Y S.flat ((t,want)::cs) o.op with
   | some v=>k (S.put d ((t,want)::cs) v)
   | none=>none) else none
 | _,_=>none
def Mt (ops:List Oper) (o:Oper) (S:XS) (k:XS→Option R):Option R:=match I4 ops o with
 | some none=>Pa Y n o S k
 | some (some (t,want))=>Ms Y n t want o S k
 | none=>none
def Dh (o:Oper) (S:XS) (k:XS→Option R):Option R:=match o.dst with
 | some d=>bif okW n S d then k (S.put d [] (.tp .nil)) else none
 | none=>k S
def stepL (ops:List Oper) (o:Oper) (S:XS) (k:XS→Option R):Option R:=match I4 ops o with
 | some none=>Pa Y n o S k
 | some (some (t,want))=>match Zn S.flat.env t with
  | some ⟨_,[],.d .bool b⟩=>match b==want with
   | true=>Pa Y n o S k
   | false=>Dh n o S k
  | some ⟨_,[],.tp .nil⟩=>Dh n o S k
  | _=>none
 | none=>none
def P3 (st:Oper→XS→(XS→Option R)→Option R):List Oper→XS→(XS→Option R)→Option R
 | [],S,k=>k S
 | o::l,S,k=>st o S fun S'=>P3 st l S' k
end
def Yw (Y:TX) (K:List Con) (n:Nat) (ops:List Oper) {R:Type}:Hn→List Oper→XS→(XS→Option R)→Option R
 | .done,l,S,k=>match l with
  | []=>k S
  | _::_=>none
 | .n m r,l,S,k=>P3 (Mt Y n ops) (l.take m) S fun S'=>Yw Y K n ops r (l.drop m) S' k
 | .nl m r,l,S,k=>P3 (stepL Y n ops) (l.take m) S fun S'=>Yw Y K n ops r (l.drop m) S' k
 | .call c r,l,S,k=>match K[c]?,l with
  | some con,o::l'=>match I4 ops o with
   | some none=>U4 n con o S fun S'=>Yw Y K n ops r l' S' k
   | some (some (t,want))=>match Zn S.flat.env t with
    | some ⟨_,[],.d .bool b⟩=>match b==want with
     | true=>U4 n con o S fun S'=>Yw Y K n ops r l' S' k
     | false=>none
    | _=>none
   | none=>none
  | _,_=>none
 | .br r,l,S,k=>match l with
  | o::l'=>match I4 ops o with
   | some none=>I9 Y n o S fun S'=>Yw Y K n ops r l' S' k
   | some (some (t,want))=>match Zn S.flat.env t with
    | some ⟨_,[],.d .bool b⟩=>match b==want with
     | true=>I9 Y n o S fun S'=>Yw Y K n ops r l' S' k
     | false=>none
    | _=>none
   | none=>none
  | []=>none
 | .fz id r,l,S,k=>Yw Y K n ops r l { S with mem:=Y9 [id] S.mem } k
 | .keep ts r,l,S,k=>Yw Y K n ops r l { S with env:=P2 S.env ts } k
 | .si t i a b,l,S,k=>match Zn S.env t with
  | some ⟨_,[],.d (.int kd) v⟩=>bif Hg t S.fix then (if v=i then Yw Y K n ops a l (S.put t [] (.d (.int kd) i)) k else Yw Y K n ops b l S k) else none
  | _=>none
 | .mt id path e r,l,S,k=>match Qc S.mem id with
  | some (.map kk v [])=>match Pz v path with
   | some ⟨u,_⟩=>bif Fl S id then Yw Y K n ops r l (S.swap id (.mapT kk v path e u [] none)) k else none
   | none=>none
  | _=>none
 | .op src id d r,l,S,k=>match Qc S.mem id with
  | some (.mapT kk v path e u xs none)=>match Pz v path,Jak S src with
   | some ⟨u1,f⟩,some av=>match asD S.flat.mem av kk with
    | some key=>bif Cl kk&&Fl S id&&okB S d then Yw Y K n ops r l ((S.swap id (.mapT kk v path e u xs (some (key,d)))).born d (.tail e u1 (Qjn f (Qy key xs)))) k else none
    | none=>none
   | _,_=>none
  | _=>none
 | .fm id r,l,S,k=>match Qc S.mem id with
  | some (.mapT kk v _ _ _ xs none)=>Yw Y K n ops r l (S.swap id (.map kk v xs)) k
  | _=>none
 | .sp t m ks ms Γ a b r,l,S,k=>match Zn S.env t with
  | some ⟨_,[],.d .bool v⟩=>bif Hg t S.fix then
    (if v=true then Yw Y K n ops (R:=Γ.De) a (l.take m) ((XS.put S t [] (.d .bool true)).ent ks ms) (fun S'=>S'.dec Γ)
     else Yw Y K n ops (R:=Γ.De) b (l.take m) ((XS.put S t [] (.d .bool false)).ent ks ms) (fun S'=>S'.dec Γ)).bind
     fun y=>Yw Y K n ops r (l.drop m) (XS.out (XS.put S t [] (.d .bool v)) ks ms (enc Γ y)) k else none
  | _=>none
 | _,_,_,_=>none
section
variable {R:Type} (Y:TX) (n:Nat)
def Qfk (o:Oper) (S:XS) (k:XS→Option R):Option R:=match o.dst with
 | some d=>bif okW n S d then Ca Y S.flat [] o.op fun v=>k (S.put d [] v) else none
 | none=>none
def Qdk (ops:List Oper) (o:Oper) (S:XS) (k:XS→Option R):Option R:=match I4 ops o with
 | some none=>Qfk Y n o S k
 | some (some (t,want))=>Ms Y n t want o S k
 | none=>none
def Qdl (ops:List Oper) (o:Oper) (S:XS) (k:XS→Option R):Option R:=match I4 ops o with
 | some none=>Qfk Y n o S k
 | some (some (t,want))=>match Zn S.flat.env t with
  | some ⟨_,[],.d .bool b⟩=>match b==want with
   | true=>Qfk Y n o S k
   | false=>Dh n o S k
  | some ⟨_,[],.tp .nil⟩=>Dh n o S k
  | _=>none
 | none=>none
end
def H8 (Y:TX) (n:Nat) (ops:List Oper) {R:Type}:Hn→List Oper→XS→(XS→Option R)→Option R
 | .done,l,S,k=>match l with
  | []=>k S
  | _::_=>none
 | .n m r,l,S,k=>P3 (Qdk Y n ops) (l.take m) S fun S'=>H8 Y n ops r (l.drop m) S' k
 | .nl m r,l,S,k=>P3 (Qdl Y n ops) (l.take m) S fun S'=>H8 Y n ops r (l.drop m) S' k
 | .sp t m ks ms Γ a b r,l,S,k=>match Zn S.env t with
  | some ⟨_,[],.d .bool v⟩=>bif Hg t S.fix then
    (if v=true then H8 Y n ops (R:=Γ.De) a (l.take m) ((XS.put S t [] (.d .bool true)).ent ks ms) (fun S'=>S'.dec Γ)
     else H8 Y n ops (R:=Γ.De) b (l.take m) ((XS.put S t [] (.d .bool false)).ent ks ms) (fun S'=>S'.dec Γ)).bind
     fun y=>H8 Y n ops r (l.drop m) (XS.out (XS.put S t [] (.d .bool v)) ks ms (enc Γ y)) k else none
  | _=>none
 | _,_,_,_=>none
inductive Gk where
 | v
 | r (u:Ty) (e:TypeId) (zs:List u.De) (c:Nat)
 | c
 | u
 | t (u:Ty) (e:TypeId) (zs:List u.De) (h:Nat)
 | o (t:TypeId) (c:AV)
 | b (ns:List Nat)
 | w (id:Nat) (ob:Ob)
abbrev Got:=List (Nat×AV×Gk)
def Cb:Got→Nat→Option AV
 | [],_=>none
 | (d,v,.v)::l,t=>bif Nat.beq d t then some v else Cb l t
 | (d,_,_)::l,t=>bif Nat.beq d t then none else Cb l t
def W6:Got→Nat→Bool
 | [],_=>false
 | (d,_,.r _ _ _ _)::l,t=>Nat.beq d t||W6 l t
 | _::l,t=>W6 l t
def Di:Got→Nat→Bool
 | [],_=>false
 | (d,_,.o _ _)::l,t=>Nat.beq d t||Di l t
 | _::l,t=>Di l t
def Im:Got→Nat→Bool
 | [],_=>false
 | (d,_,.u)::l,t=>Nat.beq d t||Im l t
 | (d,_,_)::l,t=>bif Nat.beq d t then false else Im l t
def Qr3 (l0:List Oper) (ds:List Nat) (i:Nat) (acc:Got):Op→Option Nat
 | .move (.tmp t)=>bif W6 acc t&&Kr l0 i (ds.idxOf t) then some t else none
 | .assign (.tmp t)=>bif W6 acc t&&Kr l0 i (ds.idxOf t) then some t else none
 | _=>none
def Fn (o:Oper):List Nat:=o.op.operands.toList.filterMap fun x=>match x with
 | .tmp t=>some t
 | _=>none
def Qfl:List En→List En
 | []=>[]
 | e::l=>bif Nat.blt e.t 100000 then Qfl l else (match e.cs with
  | []=>e::Qfl l
  | _::_=>Qfl l)
def Qdm (l0:List Oper) (ds:List Nat) (i:Nat) (acc:Got) (env:List En):List Nat→List En
 | []=>Qfl env
 | t::ts=>match Cb acc t with
  | some v=>bif Kr l0 i (ds.idxOf t) then ⟨t,[],v⟩::Qdm l0 ds i acc env ts else Qdm l0 ds i acc env ts
  | none=>bif H0 ds t then (match Zn env t with
   | some ⟨t',[],v⟩=>⟨t',[],v⟩::Qdm l0 ds i acc env ts
   | _=>Qdm l0 ds i acc env ts) else Qdm l0 ds i acc env ts
def W7 (ds:List Nat):AV→Bool:=fun x=>ds.all fun d=>V1 d x
def Sy (l0:List Oper) (ds:List Nat) (i:Nat) (acc:Got) (o:Oper):Option Bool:=match I4 l0 o with
 | none=>none
 | some none=>some true
 | some (some (t,want))=>bif Kr l0 i (ds.idxOf t) then (match Cb acc t with
  | some (.d .bool b)=>some (b==want)
  | some _=>none
  | none=>bif Im acc t then some false else none) else none
def Qr4 (S:St):List Operand→Nat→Option (List En)
 | [],_=>some []
 | x::l,i=>match ev S [] x,Qr4 S l (i+1) with
  | some v,some r=>bif Nat.blt i 100000 then some (⟨i,[],v⟩::r) else none
  | _,_=>none
def G9 {α:Type}:List α→Bool
 | []=>true
 | _=>false
def Qr5 {R:Type} (c:Con) (op:Op) (S:St) (k:AV→Option R):Option R:=match op with
 | .call ⟨.value (.func f),⟨xs⟩,_⟩=>bif Nat.beq c.f f&&G9 c.Γ.mem&&G9 c.Δ.mem then (match Qr4 S xs 0 with
  | some es=>bif Nat.beq es.length c.Γ.env.length then (match Qph c.Γ [] [] es S.mem [] with
   | some x=>(c.fn x).bind fun y=>bif G9 (Ev (enc c.Δ y).env) then k (E4 (enc c.Δ y).env) else none
   | none=>none) else none
  | none=>none) else none
 | _=>none
def H9 (id d:Nat):Gk→Option Ob→Option Ob
 | .r u e zs _,c=>bif Nat.beq d id then some (.row e u zs) else c
 | .t u e zs h,c=>bif Nat.beq d id then some (.tail e u zs) else (bif Nat.beq h id then none else c)
 | .o t x,c=>bif Nat.beq d id then some (.var t x) else c
 | .w j ob,c=>bif Nat.beq j id then some ob else c
 | _,c=>c
def Jx (id d:Nat):Gk→Bool
 | .r _ _ _ _=>Nat.beq d id
 | .t _ _ _ h=>Nat.beq d id||Nat.beq h id
 | .o _ _=>Nat.beq d id
 | .w j _=>Nat.beq j id
 | _=>false
def Um (E:Nat→Bool) (id:Nat):Got→Nat→Option Ob→Option Ob
 | [],_,c=>c
 | (d,_,q)::l,j,c=>Um E id l (j+1) (bif E j then H9 id d q c else c)
def Uf:Nat→Bool:=fun _=>true
def P4 (l0:List Oper) (i id:Nat):Got→Nat→Bool
 | [],_=>true
 | (d,_,q)::l,j=>(!Jx id d q||Zj l0 l0.length i j)&&P4 l0 i id l (j+1)
def Hl (id:Nat):Got→Bool
 | []=>true
 | (d,_,q)::l=>!Jx id d q&&Hl id l
def Qr6 (o:Oper):Bool:=match o.dst with
 | none=>true
 | some _=>match o.op with
  | .call ⟨.builtin .append,_,_⟩=>true
  | _=>false
def Qm9 (l0:List Oper) (p i:Nat):Bool:=(List.range p).all fun k=>Nat.ble k i||(match l0[k]? with
 | some o=>!Qr6 o
 | none=>false)||Zj l0 l0.length k i
def Qr7 (l0:List Oper) (p i:Nat) (acc:Got) (Zs:List (Nat×Ob)):List (Nat×Ob):=match Zs with
 | []=>[]
 | _=>bif Qm9 l0 p i then Zs.filterMap fun q=>bif P4 l0 i q.1 acc 0 then (match Um Uf q.1 acc 0 (Qc Zs q.1) with
  | some ob=>some (q.1,ob)
  | none=>none) else none else []
section
variable {R:Type} (Y:TX) (n:Nat) (l0:List Oper) (ds:List Nat) (Zs:List (Nat×Ob)) (S0:XS)
def Cc (i:Nat) (acc:Got) (o:Oper):St:=⟨Qdm l0 ds i acc S0.flat.env (Fn o),S0.flat.mem++Qr7 l0 ds.length i acc Zs⟩
def Qpj (i:Nat) (acc:Got) (id:Nat):Option Ob:=bif P4 l0 i id acc 0 then Um Uf id acc 0 (Qc Zs id) else none
def Qwq (i:Nat) (acc:Got) (id:Nat):Option Ob:=bif Zk (Qc Zs id) then Qpj l0 Zs i acc id else none
def okZ (d:Nat) (acc:Got):Bool:=okB S0 d&&Qv d Zs&&Hl d acc
def Qr8 (S:St) (op:Op) (k:(u:Ty)→TypeId→List u.De→Nat→Option R):Option R:=match op with
 | .makeSlice t lo co=>match Qf Y.T t,ev S [] lo,ev S [] co with
  | some te,some lv,some cv=>match Yb te.d,U3 lv,U3 cv with
   | some e,some (_,nl),some (_,nc)=>match Qf Y.T e,Jk Y.tys e with
    | some ee,some u=>match Wz u ee.z with
     | some za=>match asD [] za u with
      | some z=>bif Nat.beq ee.size u.size&&Nat.beq (Qk ee.z).length ee.size&&Nat.ble 1 ee.bytes then (mkL ee.bytes nl nc z).bind fun zs=>k u e zs nc.toNat else none
      | none=>none
     | none=>none
    | _,_=>none
   | _,_,_=>none
  | _,_,_=>none
 | _=>none
def Q7y (S:St) (op:Op) (k:AV→Option R):Option R:=match op with
 | .buildSlice t (m+1) ⟨ps⟩=>match Qf Y.T t with
  | some te=>match Yb te.d with
   | some e=>match Qf Y.T e,Jk Y.tys e with
    | some ee,some u=>match Yq S [] ps with
     | some vs=>match asLs S.mem u vs 0 with
      | some xs=>bif Nat.beq ee.size u.size&&Nat.beq xs.length (m+1)&&Nat.ble ((m+1)*ee.size) 16777216&&Nat.ble 1 ee.size&&Nat.beq (Qk ee.z).length ee.size then k (.d (.sl u) xs) else none
      | none=>none
     | none=>none
    | _,_=>none
   | none=>none
  | none=>none
 | _=>none
def Q7z (C:Nat→Option Ob) (S:St) (op:Op) (k:(u:Ty)→TypeId→List u.De→Nat→Option R):Option R:=match op with
 | .call ⟨.builtin .append,⟨[s,x]⟩,⟨[t,t']⟩⟩=>match Qf Y.T t,ev S [] s,ev S [] x with
  | some te,some (.s id),some xv=>match C id with
   | some (.tail e' u xs)=>match Yb te.d with
    | some e=>match Qf Y.T e,asD S.mem xv (.sl u) with
     | some ee,some ys=>bif Nat.beq t t'&&Nat.ble 1 ee.size&&Nat.ble 1 ee.bytes&&Nat.beq (Qk ee.z).length ee.size&&Nat.beq ee.size u.size&&Nat.beq e e'&&!G9 ys then (app ee.bytes xs ys).bind fun zs=>k u e zs id else none
     | _,_=>none
    | none=>none
   | _=>none
  | _,_,_=>none
 | _=>none
def Jal (S:St):Op→Bool
 | .call ⟨.builtin .append,⟨[s,_]⟩,_⟩=>match ev S [] s with
  | some .ns=>true
  | _=>false
 | _=>false
def Q70 (S:St) (op:Op) (k:(u:Ty)→TypeId→List u.De→Nat→Option R):Option R:=match op with
 | .call ⟨.builtin .append,⟨[s,x]⟩,⟨[t,t']⟩⟩=>match Qf Y.T t,ev S [] s,ev S [] x with
  | some te,some .ns,some xv=>match Yb te.d with
   | some e=>match Qf Y.T e,Jk Y.tys e with
    | some ee,some u=>match asD S.mem xv (.sl u) with
     | some ys=>bif Nat.beq t t'&&Nat.ble 1 ee.size&&Nat.ble 1 ee.bytes&&Nat.beq (Qk ee.z).length ee.size&&Nat.beq ee.size u.size then (app ee.bytes [] ys).bind fun zs=>k u e zs 0 else none
     | none=>none
    | _,_=>none
   | none=>none
  | _,_,_=>none
 | _=>none
def Qjp (op:Op) (k:TypeId→AV→Option R):Option R:=match op with
 | .alloc t=>match Qf Y.T t,Jk Y.tys t with
  | some e,some ty=>match Wz ty e.z with
   | some c=>bif c.isVal&&G9 (Q2 c) then k t c else none
   | none=>none
  | _,_=>none
 | _=>none
def La (acc:Got):List Nat→List Nat
 | []=>[]
 | t::ts=>bif W6 acc t then t::La acc ts else La acc ts
def Qdn (l0:List Oper) (ds:List Nat) (i:Nat):List Nat→Bool
 | []=>true
 | t::ts=>Kr l0 i (ds.idxOf t)&&Qdn l0 ds i ts
def Qr9 (ds:List Nat):List En→List En
 | []=>[]
 | e::l=>bif W7 ds e.av then e::Qr9 ds l else Qr9 ds l
def Q71 (ns:List Nat) (S:St):St:=⟨ns.map (fun t=>⟨t,[],.s t⟩)++Qr9 ds S.env,[]⟩
inductive Kd where
 | mk | lit | q | ap | al | bd
def Jc2:Op→Kd
 | .makeSlice _ _ _=>.mk
 | .buildSlice _ _ _=>.lit
 | .call ⟨.builtin .append,_,_⟩=>.ap
 | .alloc _=>.al
 | .build _ _=>.bd
 | _=>.q
def Qdo (S:St) (i:Nat) (acc:Got) (p:Operand):Option (Bool×Bool×Nat×List PS):=match ev S [] p with
 | some (.p id path)=>some (true,false,id,path)
 | some (.e id path)=>some (true,true,id,path)
 | some _=>none
 | none=>match p with
  | .tmp t=>bif Di acc t&&Kr l0 i (ds.idxOf t) then some (false,false,t,[]) else none
  | _=>none
def Qjq (S:St) (i:Nat) (acc:Got) (op:Op) (k:Nat→Ob→Option R):Option R:=match op with
 | .store t p x=>match Qf Y.T t,Qdo l0 ds S i acc p,ev S [] x with
  | some e,some (b,el,id,path),some v=>bif Nat.beq e.size v.size&&v.isVal&&v.inMem then (match Qpj l0 Zs i acc id,path with
   | some (.row et u xs),.i j sz::ps=>(idx xs j).bind fun y=>match Cm ps (.d u y) v with
    | some c=>match asD S.mem c u with
     | some z=>bif b&&el&&Nat.beq sz u.size&&Nat.ble 1 u.size&&Zk (Qc Zs id) then k id (.row et u (xs.set j.toNat z)) else none
     | none=>none
    | none=>none
   | some (.var tid c),path=>match Cm path c v with
    | some c'=>bif W7 ds c'&&!el&&(!b||Zk (Qc Zs id)) then k id (.var tid c') else none
    | none=>none
   | _,_=>none) else none
  | _,_,_=>none
 | _=>none
def Qsa (o:Oper) (i:Nat) (acc:Got) (k:Nat×AV×Gk→Option R):Option R:=match o.dst with
 | none=>bif Nat.beq (ds.getD i 0) (1000000000+i) then (match Sy l0 ds i acc o with
  | some true=>Qjq Y l0 ds Zs (Cc l0 ds Zs S0 i acc o) i acc o.op fun id ob=>k (1000000000+i,.tp .nil,.w id ob)
  | _=>none) else none
 | some d=>bif okW n S0 d&&Nat.beq (ds.getD i 0) d then (match Sy l0 ds i acc o with
  | some false=>k (d,.tp .nil,.u)
  | some true=>match Qr3 l0 ds i acc o.op with
   | some t=>k (d,.s t,.c)
   | none=>match Jc2 o.op with
    | .mk=>Qr8 Y (Cc l0 ds Zs S0 i acc o) o.op fun u e zs c=>bif okZ Zs S0 d acc then k (d,.s d,.r u e zs c) else none
    | .lit=>Q7y Y (Cc l0 ds Zs S0 i acc o) o.op fun v=>k (d,v,.v)
    | .ap=>bif Jal (Cc l0 ds Zs S0 i acc o) o.op then Q70 Y (Cc l0 ds Zs S0 i acc o) o.op fun u e zs c=>bif okZ Zs S0 d acc then k (d,.s d,.r u e zs c) else none
     else Q7z Y (Qwq l0 Zs i acc) (Cc l0 ds Zs S0 i acc o) o.op fun u e zs h=>bif okZ Zs S0 d acc then k (d,.s d,.t u e zs h) else none
    | .al=>Qjp Y o.op fun t c=>bif okZ Zs S0 d acc then k (d,.p d [],.o t c) else none
    | .bd=>bif G9 (La acc (Fn o)) then Ca Y (Cc l0 ds Zs S0 i acc o) [] o.op fun v=>bif W7 ds v then k (d,v,.v) else none
     else bif Qdn l0 ds i (La acc (Fn o)) then Ca Y (Q71 ds (La acc (Fn o)) (Cc l0 ds Zs S0 i acc o)) [] o.op fun v=>bif (Q2 v).all (fun j=>H0 ds j||J3 (La acc (Fn o)) j) then k (d,v,.b (La acc (Fn o))) else none
      else none
    | .q=>Ca Y (Cc l0 ds Zs S0 i acc o) [] o.op fun v=>bif W7 ds v then k (d,v,.v) else none
  | none=>none) else none
def Qfm:Nat→List Oper→Nat→Got→(List Oper→Nat→Got→Option R)→Option R
 | 0,l,i,acc,k=>k l i acc
 | _+1,[],_,_,_=>none
 | m+1,o::l,i,acc,k=>Qsa Y n l0 ds Zs S0 o i acc fun g=>Qfm m l (i+1) (acc++[g]) k
def Qsb:Got→Nat→Bool→Got
 | [],_,_=>[]
 | (d,v,q)::l,t,b=>bif Nat.beq d t then (d,.d .bool b,q)::l else (d,v,q)::Qsb l t b
def F6 (K:List Con):Hn→List Oper→Nat→Got→(Hn→Got→Option R)→Option R
 | .tl h,l,i,acc,k=>match l with
  | []=>k h acc
  | _::_=>none
 | .n m r,l,i,acc,k=>Qfm Y n l0 ds Zs S0 m l i acc fun l' i' acc'=>F6 K r l' i' acc' k
 | .call c r,l,i,acc,k=>match K[c]?,l with
  | some con,o::l'=>match o.dst with
   | some d=>bif okW n S0 d&&Nat.beq (ds.getD i 0) d then (match Sy l0 ds i acc o with
    | some true=>Qr5 con o.op (Cc l0 ds Zs S0 i acc o) fun v=>F6 K r l' (i+1) (acc++[(d,v,.v)]) k
    | _=>none) else none
   | none=>none
  | _,_=>none
 | .so t a b,l,i,acc,k=>match Cb acc t with
  | some (.d .bool v)=>if v=true then F6 K a l i (Qsb acc t true) k else F6 K b l i (Qsb acc t false) k
  | _=>none
 | _,_,_,_,_=>none
end
def Qpk:Got→List En
 | []=>[]
 | (_,_,.w _ _)::l=>Qpk l
 | (d,v,_)::l=>⟨d,[],v⟩::Qpk l
def Ji:Got→List Nat
 | []=>[]
 | (d,_,.r _ _ _ _)::l=>d::Ji l
 | (_,_,.v)::l=>Ji l
 | (_,_,.c)::l=>Ji l
 | (_,_,.u)::l=>Ji l
 | (_,_,.b _)::l=>Ji l
 | (d,_,.t _ _ _ _)::l=>d::Ji l
 | (d,_,.o _ _)::l=>d::Ji l
 | (_,_,.w _ _)::l=>Ji l
def Qwr (Zs:List (Nat×Ob)) (acc:Got):List (Nat×Ob):=(Yh Zs++Ji acc).filterMap fun id=>match Um Uf id acc 0 (Qc Zs id) with
 | some ob=>some (id,ob)
 | none=>none
def Lb (env:List En):List Nat→List En
 | []=>env
 | d::ds=>Lb (J7 (Vt d env) d) ds
def Qbg (S0:XS) (ds:List Nat) (Zs:List (Nat×Ob)) (acc:Got):XS:=⟨Qpk acc++Lb S0.env ds,S0.fix,Qwr Zs acc++S0.mem,S0.fixM,S0.prot⟩
def Qws (l:List Oper) (p:Nat):Bool:=(List.range l.length).all fun k=>Nat.blt k p||(List.range k).all fun i=>Zj l l.length k i
def Sz (l:List Oper) (p:Nat) (ds:List Nat):Bool:=Nat.ble p l.length&&Nat.beq ds.length p&&backB l&&Qws l p&&R6 ds
def Qsc (l:List Oper) (n:Nat):Bool:=bif Nat.blt n l.length then Region.lexTailB .any l.toArray n else Nat.beq n l.length&&Region.lexB .any l.toArray
def Vi:List (Nat×Ob)→Bool
 | []=>true
 | (_,.tail _ _ _)::_=>false
 | (_,.mapT _ _ _ _ _ _ _)::_=>false
 | _::l=>Vi l
structure EC where
 d:Nat
 av:AV
 has:Bool
 ups:List (Nat×Option Ob)
def Pb:List (Nat×Option Ob)→Nat→Option (Option Ob)
 | [],_=>none
 | (k,x)::l,id=>bif Nat.beq k id then some x else Pb l id
def upC (id:Nat) (e:EC) (c:Option Ob):Option Ob:=match Pb e.ups id with
 | some x=>x
 | none=>c
def Yr (E:Nat→Bool) (id:Nat):List EC→Nat→Option Ob→Option Ob
 | [],_,c=>c
 | e::l,j,c=>Yr E id l (j+1) (bif E j then upC id e c else c)
def Ux (id:Nat) (e:EC):Bool:=Zk (Pb e.ups id)
def Ha (E:Nat→Bool):List EC→Nat→List En
 | [],_=>[]
 | e::l,j=>bif E j&&e.has then ⟨e.d,[],e.av⟩::Ha E l (j+1) else Ha E l (j+1)
def U5 (id:Nat):Option Ob→Option (Nat×Ob)
 | some ob=>some (id,ob)
 | none=>none
def Wf (names:List Nat) (Zs:List (Nat×Ob)) (acc:List EC) (E:Nat→Bool):List (Nat×Ob):=names.filterMap fun id=>U5 id (Yr E id acc 0 (Qc Zs id))
def HD.wr (h:HD):List Nat:=h.tch++h.bs
def HD.al (h:HD):List Nat:=h.tch++h.ro++h.bs
def Mu:List EC→Nat→Option AV
 | [],_=>none
 | g::l,t=>bif Nat.beq g.d t&&g.has then some g.av else Mu l t
def S5 (l0:List Oper) (ds:List Nat) (i:Nat) (acc:List EC) (B:List En):List Nat→List En
 | []=>Qfl B
 | t::ts=>match Mu acc t with
  | some v=>bif Kr l0 i (ds.idxOf t) then ⟨t,[],v⟩::S5 l0 ds i acc B ts else S5 l0 ds i acc B ts
  | none=>bif H0 ds t then (match Zn B t with
   | some ⟨t',[],v⟩=>⟨t',[],v⟩::S5 l0 ds i acc B ts
   | _=>S5 l0 ds i acc B ts) else S5 l0 ds i acc B ts
def gTs (l0:List Oper) (o:Oper):List Nat:=match I4 l0 o with
 | some (some (t,_))=>[t]
 | _=>[]
def Cd (l m:List Nat):Bool:=l.all fun x=>!J3 m x
def Mv (l0:List Oper) (i j:Nat) (hi hj:HD):Bool:=((Cd hj.wr hi.al&&Cd hj.ro hi.wr)||Zj l0 l0.length i j)&&Cd hi.bs hj.wr
def Jam (l0:List Oper) (hs:List HD):Bool:=(List.range hs.length).all fun i=>(List.range i).all fun j=>match hs[i]?,hs[j]? with
 | some hi,some hj=>Mv l0 i j hi hj
 | _,_=>true
def nmB (l0:List Oper) (hs:List HD):Bool:=(List.range hs.length).all fun i=>(List.range hs.length).all fun j=>Nat.beq i j||(match hs[i]?,hs[j]? with
 | some hi,some hj=>Cd hi.bs hj.nm||Zj l0 l0.length j i
 | _,_=>true)
def Zr:List HD→List Nat
 | []=>[]
 | h::l=>h.bs++Zr l
def W8:HT→List Nat
 | .tl _=>[]
 | .op h r=>h.bs++W8 r
 | .so _ a b=>W8 a++W8 b
def Mw (l m:List Nat):List Nat:=l.filter fun x=>!J3 m x
def Lc (ids:List Nat) (Zs:List (Nat×Ob)) (acc:List EC):List (Nat×Ob):=ids.filterMap fun id=>U5 id (Yr Uf id acc 0 (Qc Zs id))
def Qfn:List EC→Nat→Bool→List EC
 | [],_,_=>[]
 | g::l,t,b=>bif Nat.beq g.d t&&g.has then ⟨g.d,.d .bool b,g.has,g.ups⟩::l else g::Qfn l t b
def Fo (M:List (Nat×Ob)):AV→AV
 | .s id=>match Qc M id with
  | some (.tail _ t xs)=>.d (.sl t) xs
  | _=>.s id
 | .ag l=>.ag (Fo M l)
 | .cons x r=>.cons (Fo M x) (Fo M r)
 | x=>x
def Qdp (M:List (Nat×Ob)):List Nat→Bool
 | []=>false
 | id::l=>match Qc M id with
  | some (.tail _ _ _)=>true
  | _=>Qdp M l
def Qpl (M:List (Nat×Ob)):List En→List En
 | []=>[]
 | e::l=>bif Qdp M (Qb7 e.av) then ⟨e.t,e.cs,Fo M e.av⟩::Qpl M l else Qpl M l
section
variable {R:Type} (Y:TX) (K:List Con) (n:Nat) (l0:List Oper) (ds:List Nat) (Zs:List (Nat×Ob)) (B:List En) (prA:List Nat)
def S6 (hc:HD) (o:Oper) (i:Nat) (acc:List EC):XS:=⟨S5 l0 ds i acc B (Fn o++gTs l0 o),[],Lc hc.tch Zs acc,Lc hc.ro Zs acc,Mw prA hc.bs⟩
def Lv (hc:HD) (o:Oper) (i:Nat) (acc:List EC) (S1:XS):Option EC :=
 bif Vi (Lc hc.tch Zs acc++Lc hc.ro Zs acc)&&Ks hc.nm (Q7 S1.mem) then (match o.dst with
  | some d=>match Zn S1.env d with
   | some ⟨_,[],av⟩=>bif Nat.beq (ds.getD i 0) d&&Ks hc.nm (Q2 av)&&Nat.blt d n then some ⟨d,av,true,(hc.tch++hc.bs).map fun id=>(id,Qc S1.mem id)⟩ else none
   | _=>none
  | none=>bif Nat.beq (ds.getD i 0) (1000000000+i) then some ⟨1000000000+i,.tp .nil,false,(hc.tch++hc.bs).map fun id=>(id,Qc S1.mem id)⟩ else none) else none
def S7:HT→List Oper→Nat→List HD→List EC→(Hn→List HD→List EC→Option R)→Option R
 | .tl h,l,_,hs,acc,k=>match l with
  | []=>k h hs acc
  | _::_=>none
 | .op hc r,l,i,hs,acc,k=>match l with
  | o::l'=>Yw Y K n l0 hc.h [o] (S6 l0 ds Zs B prA hc o i acc) fun S1=>match Lv n ds Zs hc o i acc S1 with
   | some g=>S7 r l' (i+1) (hs++[hc]) (acc++[g]) k
   | none=>none
  | []=>none
 | .so t a b,l,i,hs,acc,k=>match Mu acc t with
  | some (.d .bool v)=>if v=true then S7 a l i hs (Qfn acc t true) k else S7 b l i hs (Qfn acc t false) k
  | _=>none
end
def Qwt (l0:List Oper) (ks:List Nat) (prB prA:List Nat) (hs:List HD):Bool:=Jam l0 hs&&nmB l0 hs&&W5 (ks++Zr hs)&&Cd prB (Zr hs)&&Ks prA (ks++Zr hs) &&
 hs.all fun hc=>W5 hc.al&&Ks (ks++Zr hs) hc.al&&Ks prA hc.nm
def kfC (zf:List Nat) (hs:List HD):Bool:=hs.all fun hc=>Cd hc.wr zf
def Jc3 (S:XS) (ds:List Nat) (Z1 Z2 M1:List (Nat×Ob)) (bsA:List Nat) (hs:List HD) (acc:List EC):XS:=⟨Ha Uf acc 0++Lb S.env (ds++bsA),S.fix,Wf (Yh Z1++Zr hs) (Z1++Z2) acc Uf++M1,S.fixM,S.prot⟩
def Fp {R:Type}:Hn→XS→(XS→Option R)→Option R
 | .done,S,k=>k S
 | .fz id r,S,k=>Fp r { S with mem:=Y9 [id] S.mem } k
 | .mt id path e r,S,k=>match Qc S.mem id with
  | some (.map kk v [])=>match Pz v path with
   | some ⟨u,_⟩=>bif Fl S id then Fp r (S.swap id (.mapT kk v path e u [] none)) k else none
   | none=>none
  | _=>none
 | .op src id d r,S,k=>match Qc S.mem id with
  | some (.mapT kk v path e u xs none)=>match Pz v path,Jak S src with
   | some ⟨u1,f⟩,some av=>match asD S.flat.mem av kk with
    | some key=>bif Cl kk&&Fl S id&&okB S d then Fp r ((S.swap id (.mapT kk v path e u xs (some (key,d)))).born d (.tail e u1 (Qjn f (Qy key xs)))) k else none
    | none=>none
   | _,_=>none
  | _=>none
 | .fm id r,S,k=>match Qc S.mem id with
  | some (.mapT kk v _ _ _ xs none)=>Fp r (S.swap id (.map kk v xs)) k
  | _=>none
 | .dt id r,S,k=>match Qc S.mem id with
  | some (.var tid c)=>Fp r (S.set id (.var tid (Fo S.flat.mem c))) k
  | _=>none
 | _,_,_=>none
def Qsd (S:XS) (t i:Nat):Bool:=match Zn S.env t with
 | some ⟨_,[],.d (.int _) v⟩=>match Qpc v with
  | some j=>Nat.beq j i
  | none=>false
 | _=>false
def dcR (Y:TX) (K:List Con) (n:Nat) {R:Type} (ops:List Oper) (p:Nat) (ds:List Nat) (Z1 Z2 M1 F1:List (Nat×Ob)) (ht:HT) (S:XS) (B:List En) (prB:List Nat) (k:Hn→XS→Option R):Option R :=
 S7 Y K n ops ds (Z1++Z2) (Qpl (M1++F1) B++B) (prB++Yh (Z1++Z2)++W8 ht) ht (ops.take p) 0 [] [] fun h hs acc =>
  bif Qwt ops (Yh (Z1++Z2)) prB (prB++Yh (Z1++Z2)++W8 ht) hs&&kfC (Yh Z2) hs then k h (Jc3 S ds Z1 Z2 M1 (W8 ht) hs acc) else none
def dcI (Y:TX) (K:List Con) (n:Nat) {R:Type} (ops:List Oper) (p:Nat) (ds:List Nat) (Z1 Z2 M1 F1:List (Nat×Ob)) (ht:HT) (S:XS) (B:List En) (k:Hn→XS→Option R):Option R :=
 dcR Y K n ops p ds Z1 Z2 M1 F1 ht S B (Ev B++Q7 ((Z1++Z2)++(M1++F1))++S.prot) k
def Qjr (ops:List Oper) (o1 o2 o3:Oper) (mo:Nat):Option (TypeId×Nat×Nat×Nat×Nat):=match ops.getLast?,o1,o2,o3 with
 | some ⟨some it,.range t (.tmp mt),_,_,_,none⟩,⟨some nx,.next (.tmp it1) false,_,_,_,none⟩,⟨some mo1,.extract (.tmp nx1) 0,_,_,_,none⟩,⟨some pr,.entry (.tmp it2),_,_,_,none⟩ =>
  bif Nat.beq it it1&&Nat.beq it it2&&Nat.beq nx nx1&&Nat.beq mo mo1 then some (t,mt,it,nx,pr) else none
 | _,_,_,_=>none
def mpE (S:XS) (ks ms:List Nat) (m:Nat):XS:=XS.ent ⟨S.env,S.fix,S.mem,S.fixM,m::S.prot⟩ ks ms
def mpB (E:XS) (it m:Nat):XS:=⟨[],⟨it,[],.p it []⟩::E.fix,[],Jw E.fixM m,it::E.prot⟩
def Qdq (S:XS) (ks ms:List Nat) (nx mo:Nat) (S':St):XS:=S.out ks ms ⟨J7 (J7 S'.env nx) mo,S'.mem⟩
def Q72 (B:XS) (nx mo pr:Nat) (x:AV):XS:=⟨⟨pr,[],x⟩::J7 (J7 (J7 B.env nx) mo) pr,B.fix,B.mem,B.fixM,B.prot⟩
def Rl:List (Nat×SkO)→Bool
 | []=>true
 | (_,.tail _ _)::_=>false
 | (_,.mapT _ _ _ _ _)::_=>false
 | _::l=>Rl l
def Q73:TypeDesc→Bool
 | .map _ _=>true
 | _=>false
def Mx (out:Nat):Ex→Ex
 | .x i=>bif Nat.beq i out then .n else .x i
 | e=>e
def Jan (n:Nat) (E B0:XS) (x0:St) (tk:TE) (it nx mo pr:Nat) (Γ:Shp):Bool:=Q73 tk.d&&(okW n E it&&Hg it x0.env)&&(Dg it x0.env&&Dg it E.fix)&&(Qv it x0.mem&&Qv it E.fixM&&!J3 E.prot it)&&(okW n B0 nx&&okW n B0 mo&&okW n B0 pr)&&Rl Γ.mem&&Vi B0.fixM&&!Nat.beq mo nx
def Rm {Γ:Shp} {exs:Exs} (nxt:Nat) (body:XS→(Ex→XS→Option (Γ.De⊕Cn exs))→Option (Γ.De⊕Cn exs)) (B0:XS) (nx mo pr:Nat) (kk vv:Ty) (e:kk.De×vv.De) (s:Γ.De):Option (Γ.De⊕Cn exs) :=
 body (Q72 (B0.re (enc Γ s)) nx mo pr (.tp (.cons (.d kk e.1) (.cons (.d vv e.2) .nil)))) fun e S'=>match Mx nxt e with
  | .n=>(match S'.dec Γ with
   | some s'=>some (.inl s')
   | none=>none)
  | .x i=>(match inj exs (.x i) S' with
   | some x=>some (.inr x)
   | none=>none)
  | .r=>(match inj exs .r S' with
   | some x=>some (.inr x)
   | none=>none)
noncomputable def Qse {R:Type} (n:Nat) (S1:XS) (m it nx mo pr:Nat) (ks ms:List Nat) (Γ:Shp) (exs:Exs) (out nxt:Nat) (kk vv:Ty) (xs:List (kk.De×vv.De)) (tk:TE)
  (body:XS→(Ex→XS→Option (Γ.De⊕Cn exs))→Option (Γ.De⊕Cn exs)) (k:Ex→XS→Option R):Option R :=
 match (mpE S1 ks ms m).dec Γ with
 | some s0=>bif Jan n (mpE S1 ks ms m) (mpB (mpE S1 ks ms m) it m) (enc Γ s0) tk it nx mo pr Γ then ((Ba (Rm nxt body (mpB (mpE S1 ks ms m) it m) nx mo pr kk vv) xs s0).bind fun z=>match z with
  | .inl s=>k .n (Qdq S1 ks ms nx mo (enc Γ s))
  | .inr y=>Qfi (mpB (mpE S1 ks ms m) it m) [] [] (fun e S'=>k (Mx out e) (Qdq S1 ks ms nx mo ⟨S'.env,S'.mem⟩)) exs y) else none
 | none=>none
noncomputable def Ua (Y:TX) (K:List Con) (n N:Nat) {R:Type}:An→Code→XS→(Ex→XS→Option R)→Option R
 | .nil,.skip,S,k=>k .n S
 | .nil,.ret,S,k=>k .r S
 | .nil,.exit id,S,k=>k (.x id) S
 | .nil,.label _,S,k=>k .n S
 | .reg h,.region _ ⟨ops⟩ false,S,k=>Yw Y K n ops h ops S (k .n)
 | .dr m h1 h2,.region _ ⟨ops⟩ true,S,k=>bif Qsc ops m then H8 Y n ops h1 (ops.take m) S fun S'=>Yw Y K n ops h2 (ops.drop m) S' (k .n) else none
 | .dm p ds zs h2,.region _ ⟨ops⟩ true,S,k=>bif Sz ops p ds&&Nat.ble n 1000000000&&W5 (Yh (Jb S.mem zs).2) then
   F6 Y n ops ds (Jb S.mem zs).2 { S with mem:=(Jb S.mem zs).1 } K h2 (ops.take p) 0 [] fun h3 acc=>Yw Y K n ops h3 (ops.drop p) (Qbg { S with mem:=(Jb S.mem zs).1 } ds (Jb S.mem zs).2 acc) (k .n) else none
 | .dc p ds zs zf ht,.region _ ⟨ops⟩ true,S,k =>
  bif Sz ops p ds&&ds.all (fun d=>Hg d S.fix) then
   dcI Y K n ops p ds (Jb S.mem zs).2 (Jb S.fixM zf).2 (Jb S.mem zs).1 (Jb S.fixM zf).1 ht S
    (Lb S.env (ds++W8 ht)++S.fix) fun h3 S'=>Yw Y K n ops h3 (ops.drop p) S' (k .n) else none
 | .gh g a,c,S,k=>Fp g S fun S'=>Ua Y K n N a c S' k
 | .ch t i a b,c,S,k=>bif Qsd S t i then Ua Y K n N a c S k else Ua Y K n N b c S k
 | .two a b,.seq x y,S,k=>Ua Y K n N a x S fun e S'=>match e with
  | .n=>Ua Y K n N b y S' k
  | .x i=>k (.x i) S'
  | .r=>k .r S'
 | .two a b,.cond c x y,S,k=>match S.ev [] c with
  | some (.d .bool v)=>if v=true then Ua Y K n N a x S k else Ua Y K n N b y S k
  | _=>none
 | .un a,.block id c,S,k=>Ua Y K n N a c S fun e S'=>match e with
  | .n=>k .n S'
  | .x i=>bif Nat.beq i id then k .n S' else k (.x i) S'
  | .r=>k .r S'
 | .un a,.scope c,S,k=>Ua Y K n N a c S k
 | .lp ks ms Γ exs a,.loop c,S,k=>match (S.ent ks ms).dec Γ with
  | some s0=>(Qx (fun s=>Ua Y K n N (R:=Γ.De⊕Cn exs) a c ((S.ent ks ms).re (enc Γ s)) fun e S'=>match e with
    | .n=>(match S'.dec Γ with
     | some s'=>some (.inl s')
     | none=>none)
    | .x i=>(match inj exs (.x i) S' with
     | some x=>some (.inr x)
     | none=>none)
    | .r=>(match inj exs .r S' with
     | some x=>some (.inr x)
     | none=>none)) N s0).bind fun x=>Qfi S ks ms k exs x
  | none=>none
 | .jn ks ms exs a,c,S,k=>(Ua Y K n N a c (S.ent ks ms) (inj exs)).bind fun x=>Qfi S ks ms k exs x
 | .mp h ks ms Γ exs h3 a,.seq (.region _ ⟨ops⟩ false) (.block out (.loop (.seq (.region _ ⟨[o1,o2]⟩ false) (.seq (.cond (.tmp mo) .skip (.exit out')) (.block nxt (.seq (.region _ ⟨o3::ops3⟩ false) c)))))),S,k=>match Qjr ops o1 o2 o3 mo with
  | some (t,mt,it,nx,pr)=>bif Nat.beq out out' then Yw Y K n ops h ops.dropLast S fun S1=>match S1.ev [] (.tmp mt),Qf Y.T t with
   | some (.m m),some tk=>match Qc (mpE S1 ks ms m).fixM m with
    | some (.map kk vv xs)=>Qse n S1 m it nx mo pr ks ms Γ exs out nxt kk vv xs tk (fun S3 k1=>Yw (R:=Γ.De⊕Cn exs) Y K n (o3::ops3) h3 ops3 S3 fun S4=>Ua Y K n N a c S4 k1) k
    | _=>none
   | _,_=>none else none
  | none=>none
 | _,_,_,_=>none
def Qjs (Y:TX) (S:XS):List ResultVar→Nat→Option (List En)
 | [],_=>some []
 | .cell ad t::l,i=>match Mk Y S.flat [] (.load t (.tmp ad)),Qjs Y S l (i+1) with
  | some v,some r=>bif Nat.blt i 100000 then some (⟨i,[],v⟩::r) else none
  | _,_=>none
 | .tmp t::l,i=>match S.ev [] (.tmp t),Qjs Y S l (i+1) with
  | some v,some r=>bif Nat.blt i 100000 then some (⟨i,[],v⟩::r) else none
  | _,_=>none
def Ea:List (Nat×Sk)→Nat→Bool
 | [],_=>true
 | (t,_)::l,i=>Nat.beq t i&&Ea l (i+1)
def fin (Y:TX) (fn:Func) (Δ:Shp) (S:XS):Option Δ.De:=match Qjs Y S fn.results.toList 0 with
 | some es=>bif Ea Δ.env 0&&Nat.beq es.length Δ.env.length&&Nat.blt es.length 100000 then XS.dec ⟨es,[],S.mem,S.fixM,S.prot⟩ Δ else none
 | none=>none
def My (gl:List (Nat×Σ t:Ty,t.De)):List En:=gl.map fun q=>⟨100000+q.1,[],.a q.2.1 q.2.2⟩
noncomputable def Qwu (Y:TX) (K:List Con) (N:Nat) (fn:Func) (an:An) (ro:List Nat) (Γ Δ:Shp) (x:Γ.De):Option Δ.De:=match fn.body with
 | some c=>bif Nat.ble Γ.env.length fn.ntmps&&(Ea Γ.env 0&&Nat.blt Γ.env.length 100000) then Ua Y K fn.ntmps N an c ⟨(enc Γ x).env,My Y.gl,wrM ro (enc Γ x).mem,rdM ro (enc Γ x).mem,Γ.mem.map Prod.fst⟩ fun e S=>match e with
  | .x _=>none
  | .n=>fin Y fn Δ S
  | .r=>fin Y fn Δ S else none
 | none=>none
end Gx

/- What a step gives does not depend on what comes behind it. -/
namespace Gx
open Go Go.RowKit Gd
set_option linter.unusedVariables false
set_option linter.unusedSimpArgs false
theorem Un {R A:Type} {b:Bool} {x:Option R} {y:Option A} {k:A→Option R} (h:x=y.bind k):(bif b then x else none)=(bif b then y else none).bind k:=by
 cases b
 ·rfl
 ·exact h
theorem Wg {T R A:Type} {x:Option T} {f:T→Option R} {g:T→Option A} {k:A→Option R} (h:∀t,f t=(g t).bind k):x.bind f=(x.bind g).bind k:=by
 cases x
 ·rfl
 ·exact h _
section
variable {R:Type} {Y:TX} {n:Nat}
theorem Qwv {S:St} {cur:Vd} {op:Op} {k:AV→Option R}:tot Y S cur op k=(tot Y S cur op some).bind k:=by
 unfold tot
 split<;>rfl
theorem S8 {A:Type} {k:A→Option R}:∀{ps:List PS} {x:AV} {f:AV→Option R} {g:AV→Option A},(∀y,f y=(g y).bind k)→Ss ps x f=(Ss ps x g).bind k
 | [],x,f,g,h=>h x
 | .f i off::ps,x,f,g,h=>by
  simp only [Ss]
  split
  ·exact S8 h
  ·rfl
 | .i j sz::ps,x,f,g,h=>by
  simp only [Ss]
  split
  ·exact Un (Wg fun _=>S8 h)
  ·rfl
theorem Ta {A:Type} {k:A→Option R} {M:List (Nat×Ob)}:∀{ps:List PS} {x v:AV} {f:AV→Option R} {g:AV→Option A},(∀y,f y=(g y).bind k)→P1 M ps x v f=(P1 M ps x v g).bind k
 | [],x,v,f,g,h=>by
  simp only [P1]
  exact Un (h v)
 | .f i off::ps,x,v,f,g,h=>by
  simp only [P1]
  split
  ·refine Ta fun x1=>?_
   split
   ·exact h _
   ·rfl
  ·rfl
 | .i j sz::ps,x,v,f,g,h=>by
  simp only [P1]
  split
  ·refine Un (Wg fun _=>Ta fun x1=>?_)
   split
   ·exact h _
   ·rfl
  ·rfl
theorem Qjt {S:St} {cur:Vd} {op:Op} {k:AV→Option R}:Nw Y S cur op k=(Nw Y S cur op some).bind k:=by
 unfold Nw
 repeat' (first | rfl | exact Qwv | (refine Un ?_) | (refine Wg fun _=>?_) | split)
theorem Qpm {S:St} {cur:Vd} {op:Op} {k:AV→Option R}:Qb5 Y S cur op k=(Qb5 Y S cur op some).bind k:=by
 unfold Qb5
 repeat' (first | rfl | (refine Un ?_) | (refine Wg fun _=>?_) | (refine S8 fun _=>?_) | split)
theorem Qcb {S:St} {cur:Vd} {op:Op} {k:AV→Option R}:Ca Y S cur op k=(Ca Y S cur op some).bind k:=by
 unfold Ca
 split
 ·exact Qjt
 ·exact Qpm
theorem Qju {A:Type} {S:St} {cur:Vd} {op:Op} {f:AV→Option R} {g:AV→Option A} {k:A→Option R} (h:∀y,f y=(g y).bind k):Ca Y S cur op f=(Ca Y S cur op g).bind k:=by
 rw [Qcb (k:=f),Qcb (k:=g),Option.bind_assoc]
 exact congrArg _ (funext h)
theorem Qjv {o:Oper} {S:XS} {k:XS→Option R}:Nz Y n o S k=(Nz Y n o S some).bind k:=by
 unfold Nz
 repeat' (first | rfl | (refine Un ?_) | (refine Wg fun _=>?_) | (refine Qju fun _=>?_) | split)
theorem Qpn {o:Oper} {S:XS} {k:XS→Option R}:Qca Y n o S k=(Qca Y n o S some).bind k:=by
 unfold Qca
 repeat' (first | rfl | (refine Un ?_) | (refine Wg fun _=>?_) | (refine Ta fun _=>?_) | split)
theorem Qcc {o:Oper} {S:XS} {k:XS→Option R}:Pa Y n o S k=(Pa Y n o S some).bind k:=by
 unfold Pa
 split
 ·exact Qjv
 ·exact Qpn
theorem Qdr {c:Con} {o:Oper} {S:XS} {k:XS→Option R}:U4 n c o S k=(U4 n c o S some).bind k:=by
 unfold U4 U4.callE U4.callR
 repeat' (first | rfl | (refine Un ?_) | (refine Wg fun _=>?_) | split)
theorem Qpo {o:Oper} {S:XS} {k:XS→Option R}:I9 Y n o S k=(I9 Y n o S some).bind k:=by
 unfold I9
 repeat' (first | rfl | (refine Un ?_) | (refine Wg fun _=>?_) | split)
theorem Qpp {t:Nat} {want:Bool} {o:Oper} {S:XS} {k:XS→Option R}:Ms Y n t want o S k=(Ms Y n t want o S some).bind k:=by
 unfold Ms
 repeat' (first | rfl | (refine Un ?_) | split)
theorem Qpq {o:Oper} {S:XS} {k:XS→Option R}:Dh n o S k=(Dh n o S some).bind k:=by
 unfold Dh
 repeat' (first | rfl | (refine Un ?_) | split)
theorem Qpr {ops:List Oper} {o:Oper} {S:XS} {k:XS→Option R}:Mt Y n ops o S k=(Mt Y n ops o S some).bind k:=by
 unfold Mt
 repeat' (first | rfl | exact Qcc | exact Qpp | split)
theorem Qps {ops:List Oper} {o:Oper} {S:XS} {k:XS→Option R}:stepL Y n ops o S k=(stepL Y n ops o S some).bind k:=by
 unfold stepL
 repeat' (first | rfl | exact Qcc | exact Qpq | split)
theorem Tb {st:{R:Type}→Oper→XS→(XS→Option R)→Option R} (hst:∀{R A:Type} (o:Oper) (S:XS) (f:XS→Option R) (g:XS→Option A) (k:A→Option R),(∀S',f S'=(g S').bind k)→st o S f=(st o S g).bind k) :
  ∀{A:Type} {k:A→Option R} {l:List Oper} {S:XS} {f:XS→Option R} {g:XS→Option A},(∀S',f S'=(g S').bind k)→P3 st l S f=(P3 st l S g).bind k
 | A,k,[],S,f,g,h=>h S
 | A,k,o::l,S,f,g,h=>by
  simp only [P3]
  exact hst o S _ _ k fun S'=>Tb hst h
theorem Qww {A:Type} {st:{R:Type}→Oper→XS→(XS→Option R)→Option R} {o:Oper} {S:XS} (h:∀{R:Type} {k:XS→Option R},st o S k=(st o S some).bind k) {f:XS→Option R} {g:XS→Option A} {k:A→Option R} (h2:∀S',f S'=(g S').bind k):st o S f=(st o S g).bind k:=by
 rw [h (k:=f),h (k:=g),Option.bind_assoc]
 exact congrArg _ (funext h2)
end
theorem Zt {Y:TX} {K:List Con} {n:Nat} {ops:List Oper}:∀{R A:Type} {h:Hn} {l:List Oper} {S:XS} {f:XS→Option R} {g:XS→Option A} {k:A→Option R},(∀S',f S'=(g S').bind k)→Yw Y K n ops h l S f=(Yw Y K n ops h l S g).bind k
 | R,A,.done,l,S,f,g,k,hk=>by
  simp only [Yw]
  split
  ·exact hk S
  ·rfl
 | R,A,.n m r,l,S,f,g,k,hk=>by
  simp only [Yw]
  exact Tb (st:=fun {R}=>Mt Y n ops) (fun o S f g k h=>Qww (st:=fun {R}=>Mt Y n ops) Qpr h) fun S'=>Zt hk
 | R,A,.nl m r,l,S,f,g,k,hk=>by
  simp only [Yw]
  exact Tb (st:=fun {R}=>stepL Y n ops) (fun o S f g k h=>Qww (st:=fun {R}=>stepL Y n ops) Qps h) fun S'=>Zt hk
 | R,A,.call c r,l,S,f,g,k,hk=>by
  simp only [Yw]
  have hc:∀{con:Con} {o:Oper} {l':List Oper},U4 n con o S (fun S'=>Yw Y K n ops r l' S' f)=(U4 n con o S (fun S'=>Yw Y K n ops r l' S' g)).bind k:=fun {con o l'}=>Qww (st:=fun {R}=>U4 n con) Qdr fun S'=>Zt hk
  repeat' (first | rfl | exact hc | split)
 | R,A,.br r,l,S,f,g,k,hk=>by
  simp only [Yw]
  have hc:∀{o:Oper} {l':List Oper},I9 Y n o S (fun S'=>Yw Y K n ops r l' S' f)=(I9 Y n o S (fun S'=>Yw Y K n ops r l' S' g)).bind k:=fun {o l'}=>Qww (st:=fun {R}=>I9 Y n) Qpo fun S'=>Zt hk
  repeat' (first | rfl | exact hc | split)
 | R,A,.fz id r,l,S,f,g,k,hk=>by
  simp only [Yw]
  exact Zt hk
 | R,A,.keep ts r,l,S,f,g,k,hk=>by
  simp only [Yw]
  exact Zt hk
 | R,A,.mt id path e r,l,S,f,g,k,hk=>by
  simp only [Yw]
  repeat' (first | rfl | exact Zt hk | (refine Un ?_) | split)
 | R,A,.op src id d r,l,S,f,g,k,hk=>by
  simp only [Yw]
  repeat' (first | rfl | exact Zt hk | (refine Un ?_) | split)
 | R,A,.fm id r,l,S,f,g,k,hk=>by
  simp only [Yw]
  repeat' (first | rfl | exact Zt hk | split)
 | R,A,.sp t m ks ms Γ a b r,l,S,f,g,k,hk=>by
  simp only [Yw]
  split
  ·exact Un (Wg fun _=>Zt hk)
  ·rfl
 | R,A,.si t i a b,l,S,f,g,k,hk=>by
  simp only [Yw]
  split
  ·refine Un ?_
   split
   ·exact Zt hk
   ·exact Zt hk
  ·rfl
 | R,A,.md _ _,l,S,f,g,k,hk=>by simp only [Yw]; rfl
 | R,A,.tl _,l,S,f,g,k,hk=>by simp only [Yw]; rfl
 | R,A,.dt _ _,l,S,f,g,k,hk=>by simp only [Yw]; rfl
 | R,A,.so _ _ _,l,S,f,g,k,hk=>by simp only [Yw]; rfl
theorem Tc {Y:TX} {K:List Con} {n:Nat} {ops:List Oper} {R:Type} {r:R} {h:Hn} {l:List Oper} {S:XS} {k:XS→Option R} (hs:Yw Y K n ops h l S k=some r):∃S1,k S1=some r∧Yw (R:=XS) Y K n ops h l S some=some S1:=by
 have e:=Zt (Y:=Y) (K:=K) (n:=n) (ops:=ops) (h:=h) (l:=l) (S:=S) (f:=k) (g:=some) (k:=k) fun S'=>rfl
 rw [e] at hs
 obtain ⟨S1,h1,h2⟩:=Option.bind_eq_some_iff.1 hs
 exact ⟨S1,h2,h1⟩
end Gx

/- Elements of arrays that lie in variables; parts of such arrays as strings. -/
import Derived.Test.YtgnpojenbefoiaaGreatXE
import Derived.StillTail
import Derived.Test.YtgnpojenbefoiaaGreatGAppend
namespace Gx
open Go Go.RowKit Gd
set_option linter.unusedVariables false
set_option linter.unusedSimpArgs false
set_option linter.constructorNameAsVariable false
def Q4x:List PS→Bool
 | []=>false
 | .f _ _::l=>Q4x l
 | .i _ _::_=>true
section
variable {R:Type}
def Ot:List PS→AV→(AV→Option R)→Option R
 | [],x,k=>k x
 | .f i off::ps,x,k=>match nav [.f i off] x with
  | some y=>Ot ps y k
  | none=>none
 | .i j sz::ps,x,k=>match x with
  | .d (.arr _ u) xs=>bif Nat.beq sz u.size then (idx xs j).bind fun y=>Ot ps (.d u y) k else none
  | _=>none
def Na (M:List (Nat×Ob)):List PS→AV→AV→(AV→Option R)→Option R
 | [],x,v,k=>bif Il x v then k v else none
 | .f i off::ps,x,v,k=>match nav [.f i off] x with
  | some y=>Na M ps y v fun z=>match Be [.f i off] x z with
   | some x'=>k x'
   | none=>none
  | none=>none
 | .i j sz::ps,x,v,k=>match x with
  | .d (.arr n u) xs=>bif Nat.beq sz u.size then (idx xs j).bind fun y=>Na M ps (.d u y) v fun z=>match asD M z u with
   | some y'=>k (.d (.arr n u) (xs.set j.toNat y'))
   | none=>none else none
  | _=>none
end
theorem Qil {α:Type} {cs:List α} {o n p m:Nat} (h:p+m≤n):(((cs.drop o).take n).drop p).take m=(cs.drop (o+p)).take m:=by
 rw [List.drop_take,List.drop_drop,List.take_take,Nat.min_eq_left (by omega)]
theorem Qoy {α:Type} {cs ds:List α} {o n p:Nat} (h:p+ds.length≤n) :
  cs.take o++(((cs.drop o).take n).take p++ds++((cs.drop o).take n).drop (p+ds.length))++cs.drop (o+n)=cs.take (o+p)++ds++cs.drop (o+p+ds.length):=by
 have e1:cs.take (o+p)=cs.take o++((cs.drop o).take n).take p:=by rw [List.take_add,List.take_take,Nat.min_eq_left (by omega)]
 have e2:cs.drop (o+p+ds.length)=((cs.drop o).take n).drop (p+ds.length)++cs.drop (o+n):=by
  have e3:cs.drop (o+n)=(cs.drop (o+(p+ds.length))).drop (n - (p+ds.length)):=by rw [List.drop_drop]; congr 1; omega
  rw [List.drop_take,List.drop_drop,e3,List.take_append_drop,Nat.add_assoc]
 rw [e1,e2]
 simp only [List.append_assoc]
theorem Qao {u:Ty} {n:Nat} {xs:List u.De} {ok:Ok} {w:World} {cs:List Value} (h:(rt (.arr n u)).rep ok w xs cs) {j:Int} {y:u.De} (hy:idx xs j=some y) :
  (rt u).rep ok w y ((cs.drop (j.toNat*u.size)).take u.size)∧j.toNat*u.size+u.size≤cs.length∧0≤j∧j.toNat<n:=by
 obtain ⟨hn,ha⟩:=h
 have h0:=(Km hy).1
 have hlt:=(List.getElem?_eq_some_iff.1 (Km hy).2).1
 have hl:=Qbu ha
 have hr:=X7 ha (Km hy).2
 rw [Jh] at hr hl
 refine ⟨hr,?_,h0,by omega⟩
 rw [hl]
 have:=Nat.mul_le_mul_right u.size (show j.toNat+1≤xs.length by omega)
 rw [Nat.add_mul] at this
 omega
theorem Nl {R:Type} {r:R}:∀{ps:List PS} {x:AV} {k:AV→Option R},Ot ps x k=some r →
  ∃y,k y=some r∧∀{β:Nat→Nat} {ρ:Nat→Value} {ok:Ok} {w:World} {cs:List Value},cr β ρ ok w false x cs→cr β ρ ok w false y ((cs.drop (Jp ps)).take y.size)∧Jp ps+y.size≤cs.length
 | [],x,k,h=>by
  refine ⟨x,h,fun {β ρ ok w cs} hc=>?_⟩
  have:=Ur hc
  simp only [Jp,List.drop_zero]
  rw [List.take_of_length_le (by omega)]
  exact ⟨hc,by omega⟩
 | .f i off::ps,x,k,h=>by
  simp only [Ot] at h
  split at h
  ·rename_i y hy
   obtain ⟨z,hz,hk⟩:=Nl h
   refine ⟨z,hz,fun {β ρ ok w cs} hc=>?_⟩
   obtain ⟨h1,h2⟩:=Bw hy hc
   obtain ⟨h3,h4⟩:=hk h1
   have hl:=Ur h1
   rw [hl] at h4
   have e:Jp (PS.f i off::ps)=Jp [PS.f i off]+Jp ps:=by simp [Jp]
   rw [Qil h4] at h3
   rw [e]
   exact ⟨h3,by omega⟩
  ·cases h
 | .i j sz::ps,x,k,h=>by
  simp only [Ot] at h
  split at h
  ·rename_i n u xs
   obtain ⟨hb,h1⟩:=bvT h
   have hsz:=Nat.eq_of_beq_eq_true hb
   subst hsz
   obtain ⟨y,hy,h2⟩:=Yh h1
   obtain ⟨z,hz,hk⟩:=Nl h2
   refine ⟨z,hz,fun {β ρ ok w cs} hc=>?_⟩
   obtain ⟨h1,h2,_⟩:=Qao hc hy
   have h1':cr β ρ ok w false (.d u y) ((cs.drop (j.toNat*u.size)).take u.size):=h1
   obtain ⟨h3,h4⟩:=hk h1'
   have hl:((cs.drop (j.toNat*u.size)).take u.size).length=u.size:=Ur h1'
   rw [hl] at h4
   rw [Qil h4] at h3
   exact ⟨h3,by simp only [Jp,PS.off]; omega⟩
  ·cases h
theorem Qap {R:Type} {r:R} {M:List (Nat×Ob)} {v:AV}:∀{ps:List PS} {x:AV} {k:AV→Option R},Na M ps x v k=some r →
  ∃x',k x'=some r∧∀{β:Nat→Nat} {ρ:Nat→Value} {ok:Ok} {w:World} {cs ds:List Value},(∀id o,Qb M id=some o→(Qp β ρ id o).p ok w)→cr β ρ ok w false v ds→cr β ρ ok w false x cs →
   cr β ρ ok w false x' (cs.take (Jp ps)++ds++cs.drop (Jp ps+ds.length))∧Jp ps+ds.length≤cs.length
 | [],x,k,h=>by
  simp only [Na] at h
  obtain ⟨hb,h⟩:=bvT h
  refine ⟨v,h,fun {β ρ ok w cs ds} _ hv hc=>?_⟩
  have:Be [] x v=some v:=by simp only [Be,hb,cond_true]
  exact Wa hv this hc
 | .f i off::ps,x,k,h=>by
  simp only [Na] at h
  split at h
  ·rename_i y hy
   obtain ⟨z,hz,hk⟩:=Qap h
   split at hz
   ·rename_i x' hx'
    refine ⟨x',hz,fun {β ρ ok w cs ds} hM hv hc=>?_⟩
    obtain ⟨h1,h2⟩:=Bw hy hc
    have hl:=Ur h1
    obtain ⟨h3,h4⟩:=hk hM hv h1
    rw [hl] at h4
    obtain ⟨h5,h6⟩:=Wa h3 hx' hc
    have hlen:(((cs.drop (Jp [PS.f i off])).take y.size).take (Jp ps)++ds++((cs.drop (Jp [PS.f i off])).take y.size).drop (Jp ps+ds.length)).length=y.size:=by
     simp only [List.length_append,List.length_take,List.length_drop]
     simp only [List.length_take,List.length_drop] at hl
     omega
    rw [hlen,Qoy h4] at h5
    have e:Jp (PS.f i off::ps)=Jp [PS.f i off]+Jp ps:=by simp [Jp]
    rw [e]
    exact ⟨h5,by omega⟩
   ·cases hz
  ·cases h
 | .i j sz::ps,x,k,h=>by
  simp only [Na] at h
  split at h
  ·rename_i n u xs
   obtain ⟨hb,h1⟩:=bvT h
   have hsz:=Nat.eq_of_beq_eq_true hb
   subst hsz
   obtain ⟨y,hy,h2⟩:=Yh h1
   obtain ⟨z,hz,hk⟩:=Qap h2
   split at hz
   ·rename_i y' hy'
    refine ⟨_,hz,fun {β ρ ok w cs ds} hM hv hc=>?_⟩
    obtain ⟨h1,h2,h0,hjn⟩:=Qao hc hy
    have h1':cr β ρ ok w false (.d u y) ((cs.drop (j.toNat*u.size)).take u.size):=h1
    have hl:((cs.drop (j.toNat*u.size)).take u.size).length=u.size:=Ur h1'
    obtain ⟨h3,h4⟩:=hk hM hv h1'
    rw [hl] at h4
    have h5:=V8 hM hy' h3
    obtain ⟨hn,ha⟩:=(show xs.length=n∧Zz (rt u) ok w xs cs from hc)
    have h6:=Oc ha (i:=j.toNat) (by omega) h5
    have hlen:(((cs.drop (j.toNat*u.size)).take u.size).take (Jp ps)++ds++((cs.drop (j.toNat*u.size)).take u.size).drop (Jp ps+ds.length)).length=u.size:=by
     simp only [List.length_append,List.length_take,List.length_drop]
     simp only [List.length_take,List.length_drop] at hl
     omega
    rw [hlen,Jh,Qoy h4] at h6
    exact ⟨⟨by simpa using hn,h6⟩,by simp only [Jp,PS.off]; omega⟩
   ·cases hz
  ·cases h
def Lk:TypeDesc→Option (Nat×TypeId)
 | .array n e=>some (n,e)
 | _=>none
theorem Sy {d:TypeDesc} {n:Nat} {e:TypeId} (h:Lk d=some (n,e)):d=.array n e:=by
 unfold Lk at h
 split at h
 ·simp at h; obtain ⟨rfl,rfl⟩:=h; rfl
 ·cases h
section
variable {R:Type} (Y:TX) (S:St) (cur:Vr)
def Qtq:Op→Nat
 | .indexAddr t _ _=>match Qe Y.T t with
  | some te=>bif isSomeA (Lk te.d) then 1 else 0
  | none=>0
 | .load _ x=>match ev S cur x with
  | some (.p _ path)=>bif Q4x path then 2 else 0
  | _=>0
 | .slice t _ _ _ none=>match Qe Y.T t with
  | some te=>bif isSomeA (Lk te.d) then 3 else 0
  | none=>0
 | .convert _ _ x=>match ev S cur x with
  | some (.w _ _ _)=>4
  | _=>0
 | _=>0
where isSomeA {α:Type}:Option α→Bool
 | some _=>true
 | none=>false
def Sz (op:Op) (k:AV→Option R):Option R:=match op with
 | .indexAddr t x i=>match Qe Y.T t,ev S cur x,ev S cur i with
  | some te,some v,some iv=>match Za iv,Lk te.d with
   | some (_,j),some (n,e)=>match Qe Y.T e,v with
    | some ee,.a (.arr m u) xs=>bif Nat.beq m n&&Nat.beq ee.size u.size then (idx xs j).bind fun y=>k (.a u y) else none
    | some ee,.p id path=>match Qb S.mem id with
     | some (.var _ c)=>Ot path c fun y=>match y with
      | .d (.arr m u) xs=>bif Nat.beq m n&&Nat.beq ee.size u.size then (idx xs j).bind fun _=>k (.p id (path++[.i j u.size])) else none
      | _=>none
     | _=>none
    | _,_=>none
   | _,_=>none
  | _,_,_=>none
 | .load t x=>match Qe Y.T t,ev S cur x with
  | some e,some (.p id path)=>match Qb S.mem id with
   | some (.var _ c)=>Ot path c fun y=>bif Nat.beq e.size y.size&&(Uw e.d==y.isAgg)&&y.isVal&&(y.isAgg||Nat.beq y.size 1) then k y else none
   | _=>none
  | _,_=>none
 | .slice t x lo hi none=>match Qe Y.T t,ev S cur x with
  | some te,some (.p id [])=>match Lk te.d,Qb S.mem id with
   | some (n,e),some (.var _ (.d (.arr m (.int .u8)) xs))=>match Qe Y.T e,bnd S cur 0 lo,bnd S cur n hi with
    | some ee,some a,some b=>bif Nat.beq m n&&Nat.beq ee.size 1 then (slc xs a b).bind fun _=>k (.w id a (b - a)) else none
    | _,_,_=>none
   | _,_=>none
  | _,_=>none
 | .convert s t x=>match Qe Y.T s,Qe Y.T t,ev S cur x with
  | some se,some te,some (.w id a n)=>match Yi se.d,te.d,Qb S.mem id with
   | some e,.string,some (.var _ (.d (.arr m (.int .u8)) xs))=>match Qe Y.T e with
    | some ⟨_,.int .u8,_,_,_⟩=>(slc xs a (a+n)).bind fun ys=>k (.d .str (R7 ys))
    | _=>none
   | _,_,_=>none
  | _,_,_=>none
 | _=>none
def A8 (op:Op) (k:AV→Option R):Option R:=match Qtq Y S cur op with
 | 0=>Lj Y S cur op k
 | _+1=>Sz Y S cur op k
end
section
variable {P:Program} {X:Cx} {β:Nat→Nat} {ρ:Nat→Value} {S:St} {a:Act} {w:World} {cur:Vr} {ok:Ok}
theorem cell?_of_heap {b o:Nat} {cs:List Value} {t:TypeId} (h:w.heap[b]?=some (.cells cs.toArray t (0,0))):w.cell? ⟨b,o,none⟩=cs[o]?:=by simp [World.cell?,h]
theorem Qtr {u:Ty} {n:Nat} {xs:List u.De} {v:Value} (h:I8 (rt (.arr n u)) ok w xs v) {j:Int} {y:u.De} (hy:idx xs j=some y) :
  ∃b of,v=.pointer (some ⟨b,of,none⟩)∧I8 (rt u) ok w y (.pointer (some ⟨b,of+j.toNat*u.size,none⟩))∧0≤j∧j<(n:Int):=by
 obtain ⟨b,of,cs,rfl,hr,hc⟩:=h
 obtain ⟨h1,h2,h3,h4⟩:=Qao hr hy
 refine ⟨b,of,rfl,⟨b,_,_,rfl,h1,fun i z hz=>?_⟩,h3,by omega⟩
 have hi:=(List.getElem?_eq_some_iff.1 hz).1
 simp only [List.length_take,List.length_drop] at hi
 rw [List.getElem?_take_of_lt (by omega),List.getElem?_drop] at hz
 have:=hc _ z hz
 rw [Nat.add_assoc]
 exact this
theorem Qoz {Y:TX} (hT:Qy P Y.T) {R:Type} {o:Oper} {op:Op} (hop:o.op=op) {k:AV→Option R} {r:R} (hv:Sz Y S cur op k=some r):∃av,k av=some r∧Mi P S cur o av:=by
 unfold Sz at hv
 split at hv
 ·
  rename_i t x i
  split at hv
  ·rename_i te v iv hte hx hi
   split at hv
   ·rename_i ki j n e hij hse
    have htd:=Sy hse
    have run:∀{β:Nat→Nat} {ρ:Nat→Value} {ok:Ok} {a:Act} {w:World},Xc β ρ ok S a w→Jw a cur→∀{ee:TE} {b of:Nat},Qe Y.T e=some ee→a.eval x=.pointer (some ⟨b,of,none⟩)→0≤j→j<(n:Int) →
      (execOp a.eval o).run P w=.ok (.value (.pointer (some ⟨b,of+j.toNat*ee.size,none⟩))) w:=by
     intro β ρ ok a w h hc ee b of he hv h0 h1
     have hun:(underlying t).run P w=.ok (.array n e) w:=by rw [Ji hT w hte,htd]
     have hi':=h.int hc hi hij
     unfold execOp
     rw [hop]
     simp only [hv,hi']
     simp [Instr.indexAt,asIntOf,hun,Instr.sureAddr,h0,h1,Jy hT w he,Addr.add_lit]
    split at hv
    ·rename_i ee m u xs he
     obtain ⟨hb,hv1⟩:=bvT hv
     simp only [Bool.and_eq_true] at hb
     have hm:=Nat.eq_of_beq_eq_true hb.1
     have hsz:=Nat.eq_of_beq_eq_true hb.2
     obtain ⟨y,hy,hk⟩:=Yh hv1
     refine ⟨_,hk,fun {β ρ ok a w} h hc=>?_⟩
     obtain ⟨cs,h1,v0,rfl,hat⟩:=h.ev hc hx
     obtain ⟨b,of,rfl,h2,h3,h4⟩:=Qtr hat hy
     refine ⟨[.pointer (some ⟨b,of+j.toNat*u.size,none⟩)],?_,_,rfl,h2⟩
     rw [←hsz]
     exact run h hc he h1 h3 (by omega)
    ·rename_i ee id path he
     split at hv
     ·rename_i tid c ho
      obtain ⟨y,hy,hnav⟩:=Nl hv
      split at hy
      ·rename_i m u xs
       obtain ⟨hb,hv1⟩:=bvT hy
       simp only [Bool.and_eq_true] at hb
       have hm:=Nat.eq_of_beq_eq_true hb.1
       have hsz:=Nat.eq_of_beq_eq_true hb.2
       obtain ⟨y,hy',hk⟩:=Yh hv1
       refine ⟨_,hk,fun {β ρ ok a w} h hc=>?_⟩
       obtain ⟨cs,h1,h2⟩:=h.ev hc hx
       have h2':cs=_:=h2
       subst h2'
       obtain ⟨cs0,hh,hcr⟩:=h.2 _ _ ho
       obtain ⟨q1,q2⟩:=hnav hcr
       obtain ⟨_,_,h3,h4⟩:=Qao (show (rt (.arr m u)).rep ok w xs _ from q1) hy'
       refine ⟨[.pointer (some ⟨β id,Jp (path++[PS.i j u.size]),none⟩)],?_,rfl⟩
       have:=run h hc he h1 h3 (by omega)
       rw [this,hsz,Ep]
       simp [Jp,PS.off,AV.val,AV.isAgg]
      ·cases hy
     ·cases hv
    ·cases hv
   ·cases hv
  ·cases hv
 ·
  rename_i t x
  split at hv
  ·rename_i e id path he hx
   split at hv
   ·rename_i tid c ho
    obtain ⟨y,hy,hnav⟩:=Nl hv
    obtain ⟨hb,hk⟩:=bvT hy
    simp only [Bool.and_eq_true] at hb
    obtain ⟨⟨⟨b1,b2⟩,b3⟩,b4⟩:=hb
    have b1:=Nat.eq_of_beq_eq_true b1
    have b2:=bEq b2
    refine ⟨_,hk,fun {β ρ ok a w} h hc=>?_⟩
    obtain ⟨cs,h1,h2⟩:=h.ev hc hx
    have h2':cs=_:=h2
    subst h2'
    obtain ⟨cs0,hh,hcr⟩:=h.2 _ _ ho
    obtain ⟨q1,q2⟩:=hnav hcr
    refine ⟨_,?_,q1⟩
    have h1':a.eval x=.pointer (some ⟨β id,Jp path,none⟩):=h1
    have hl:=Ur q1
    unfold execOp
    rw [hop]
    simp only [h1',Sem.run_bind]
    have:=Wb (w:=w) hT he (b:=β id) (o:=Jp path) (y:=y) (cs:=(cs0.drop (Jp path)).take y.size) (by rw [hl]; exact b1) b2 (fun hf=>by
     rw [hl]
     rw [hf] at b4
     simp only [Bool.false_or] at b4
     exact Nat.eq_of_beq_eq_true b4) (fun i z hz=>by
     have hi:=(List.getElem?_eq_some_iff.1 hz).1
     rw [hl] at hi
     rw [List.getElem?_take_of_lt hi,List.getElem?_drop] at hz
     rw [cell?_of_heap hh]
     simpa using hz)
    rw [this]
    rfl
   ·cases hv
  ·cases hv
 ·
  rename_i t x lo hi
  split at hv
  ·rename_i te id hte hx
   split at hv
   ·rename_i n e tid m xs hse ho
    have htd:=Sy hse
    split at hv
    ·rename_i ee na nb he hlo hhi
     obtain ⟨hb,hv1⟩:=bvT hv
     simp only [Bool.and_eq_true] at hb
     have hm:=Nat.eq_of_beq_eq_true hb.1
     have hsz:=Nat.eq_of_beq_eq_true hb.2
     obtain ⟨ys,hys,hk⟩:=Yh hv1
     refine ⟨_,hk,fun {β ρ ok a w} h hc=>?_⟩
     obtain ⟨cs,h1,h2⟩:=h.ev hc hx
     have h2':cs=_:=h2
     subst h2'
     obtain ⟨cs0,hh,hcr⟩:=h.2 _ _ ho
     have hxs:xs.length=m:=(show xs.length=m∧_ from hcr).1
     obtain ⟨s1,s2,s3,s4,s5⟩:=Gd.slc_ok hys
     have hbd:=Er (P:=P) (w:=w) (isS:=false) (len:=n) (cap:=n) (h.bnd hc hlo) (h.bnd hc hhi) s1 s2 (by omega) (Nat.le_refl _)
     have hun:(underlying t).run P w=.ok (.array n e) w:=by rw [Ji hT w hte,htd]
     have h1':a.eval x=.pointer (some ⟨β id,0,none⟩):=h1
     refine ⟨[.slice (some (if n=na.toNat then ⟨β id,0,none⟩ else ⟨β id,na.toNat,none⟩)) (nb - na).toNat (n - na.toNat)],?_,_,_,rfl,fun hpos=>?_⟩
     ·unfold execOp
      rw [hop]
      simp only [h1']
      simp [Instr.sliceAt,hun,Instr.sureAddr,hbd,Jy hT w he,hsz,Addr.add_lit,AV.val,AV.isAgg]
      omega
     ·rw [if_neg (by omega)]
    ·cases hv
   ·cases hv
  ·cases hv
 ·
  rename_i s t x
  split at hv
  ·rename_i se te id na n hse hte hx
   split at hv
   ·rename_i e tid m xs hsd htd ho
    split at hv
    ·rename_i _ _ _ _ he
     obtain ⟨ys,hys,hk⟩:=Yh hv
     refine ⟨_,hk,fun {β ρ ok a w} h hc=>⟨[Yu (R7 ys)],?_,rfl⟩⟩
     obtain ⟨cs,h1,A,c,rfl,hA⟩:=h.ev hc hx
     obtain ⟨cs0,hh,hcr⟩:=h.2 _ _ ho
     obtain ⟨hxs,hrep⟩:=(show xs.length=m∧Zz (E2 .u8) ok w xs cs0 from hcr)
     obtain ⟨s1,s2,s3,s4,s5⟩:=Gd.slc_ok hys
     have hsd':se.d=.slice e:=by
      unfold Yi at hsd
      split at hsd
      ·rename_i hd; simp at hsd; subst hsd; assumption
      ·cases hsd
     have h1':a.eval x=.slice (some A) n.toNat c:=h1
     have hus:=(Js hT hse).2; rw [hsd'] at hus
     have hut:=(Js hT hte).2; rw [htd] at hut
     have hue:=(Js hT he).2
     have hconv:=run_convert_bytes_string (P:=P) w s t e (some A) n.toNat c hus hue hut
     have hload:(loadCells A n.toNat).run P w=.ok (ys.map (Value.int .u8)).toArray w:=by
      have hyl:ys.length=n.toNat:=by rw [s5]; congr 1; omega
      have:=run_loadCells_list (P:=P) w A (ys.map (Value.int .u8)) (fun i v hi=>by
       rw [List.getElem?_map] at hi
       obtain ⟨y,hy,rfl⟩:=Option.map_eq_some_iff.1 hi
       have hi':=(List.getElem?_eq_some_iff.1 hy).1
       rw [hA (by omega),Xe]
       rw [s4,List.getElem?_take_of_lt (by omega),List.getElem?_drop] at hy
       have hr:=X7 hrep hy
       have hr':(cs0.drop ((na.toNat+i)*1)).take 1=[.int .u8 y]:=hr
       rw [Nat.mul_one] at hr'
       rw [cell?_of_heap hh]
       have:=congrArg (fun l=>l[0]?) hr'
       simp only [List.getElem?_cons_zero] at this
       rw [List.getElem?_take_of_lt (by omega),List.getElem?_drop] at this
       simpa using this)
      simpa [hyl] using this
     have hrun:=run_bytesToString w A n.toNat c ys hload
     have hf:=N5 ys []
     simp only [List.nil_append] at hf
     unfold execOp
     rw [hop]
     simp only [h1']
     simp only [Sem.run_bind,hconv,hrun]
     show Result.andThen (.ok (Value.string (ys.foldl _ (ByteArray.mk ([]:List UInt8).toArray))) w) _=_
     rw [hf]; rfl
    ·cases hv
   ·cases hv
  ·cases hv
 ·cases hv
theorem Bz {Y:TX} (hT:Qy P Y.T) {R:Type} {o:Oper} {op:Op} (hop:o.op=op) {k:AV→Option R} {r:R} (hv:A8 Y S cur op k=some r):∃av,k av=some r∧Mi P S cur o av:=by
 unfold A8 at hv
 split at hv
 ·exact Qku hT hop hv
 ·exact Qoz hT hop hv
end
end Gx

/- Shapes of states; the interpreter. -/
namespace Gx
open Go Go.RowKit Gd
set_option linter.unusedVariables false
set_option linter.unusedSimpArgs false
inductive Sk where
 | d (t:Ty)
 | p (id:Nat) (path:List PS)
 | s (id:Nat) | m (id:Nat)
 | ns | np | nm | nf | z
 | f (fn:FuncId) (caps:Sk)
 | ag (l:Sk) | nil | cons (x r:Sk)
inductive SkO where
 | var (tid:TypeId) (c:Sk)
 | row (e:TypeId) (t:Ty)
 | tail (e:TypeId) (t:Ty)
 | map (k v:Ty)
 | mapT (k v:Ty) (path:List PS) (e:TypeId) (u:Ty)
 | mapO (k:Ty)
structure Shp where
 env:List (Nat×Sk)
 mem:List (Nat×SkO)
abbrev DV:=Σ t:Ty,t.De
def Sk.tys:Sk→List Ty
 | .d t=>[t]
 | .f _ c=>c.tys
 | .ag l=>l.tys
 | .cons x r=>x.tys++r.tys
 | _=>[]
def SkO.tys:SkO→List Ty
 | .var _ c=>c.tys
 | .row _ t=>[.sl t]
 | .tail _ t=>[.sl t]
 | .map k v=>[.sl (.pr k v)]
 | .mapT k v _ _ _=>[.sl (.pr k v)]
 | .mapO k=>[.sl (.pr k .ref)]
def Qo0:List (Nat×Sk)→List Ty
 | []=>[]
 | q::l=>q.2.tys++Qo0 l
def Qo1:List (Nat×SkO)→List Ty
 | []=>[]
 | q::l=>q.2.tys++Qo1 l
def Shp.tys (Γ:Shp):List Ty:=Qo0 Γ.env++Qo1 Γ.mem
@[reducible] def Tup:List Ty→Type
 | []=>Unit
 | [t]=>t.De
 | t::u::ts=>t.De×Tup (u::ts)
abbrev Shp.De (Γ:Shp):Type:=Tup Γ.tys
def toL:(ts:List Ty)→Tup ts→List DV
 | [],_=>[]
 | [t],x=>[⟨t,x⟩]
 | t::u::ts,x=>⟨t,x.1⟩::toL (u::ts) x.2
def ofL:(ts:List Ty)→List DV→Option (Tup ts)
 | [],[]=>some ()
 | [t],[v]=>Ty.cast v.1 t v.2
 | t::u::ts,v::vs=>match Ty.cast v.1 t v.2,ofL (u::ts) vs with
  | some a,some b=>some (a,b)
  | _,_=>none
 | _,_=>none
def Hx:Sk→List DV→AV×List DV
 | .d t,v::vs=>(.d v.1 v.2,vs)
 | .d _,[]=>(.nil,[])
 | .p id path,vs=>(.p id path,vs)
 | .s id,vs=>(.s id,vs)
 | .m id,vs=>(.m id,vs)
 | .ns,vs=>(.ns,vs)
 | .np,vs=>(.np,vs)
 | .nm,vs=>(.nm,vs)
 | .nf,vs=>(.nf,vs)
 | .z,vs=>(.z,vs)
 | .f fn c,vs=>match Hx c vs with
  | (x,r)=>(.f fn x,r)
 | .ag l,vs=>match Hx l vs with
  | (x,r)=>(.ag x,r)
 | .nil,vs=>(.nil,vs)
 | .cons a b,vs=>match Hx a vs with
  | (x,r)=>match Hx b r with
   | (y,r')=>(.cons x y,r')
def Wo:SkO→List DV→Option (Ob×List DV)
 | .var tid c,vs=>match Hx c vs with
  | (x,r)=>some (.var tid x,r)
 | .row e t,v::vs=>match Ty.cast v.1 (.sl t) v.2 with
  | some xs=>some (.row e t xs,vs)
  | none=>none
 | .tail e t,v::vs=>match Ty.cast v.1 (.sl t) v.2 with
  | some xs=>some (.tail e t xs,vs)
  | none=>none
 | .map k u,v::vs=>match Ty.cast v.1 (.sl (.pr k u)) v.2 with
  | some xs=>some (.map k u xs,vs)
  | none=>none
 | .mapT k u path e t,v::vs=>match Ty.cast v.1 (.sl (.pr k u)) v.2 with
  | some xs=>some (.mapT k u path e t xs none,vs)
  | none=>none
 | .mapO k,v::vs=>match Ty.cast v.1 (.sl (.pr k .ref)) v.2 with
  | some xs=>some (.mapO k xs none,vs)
  | none=>none
 | _,[]=>none
def Gs:List (Nat×Sk)→List DV→List En×List DV
 | [],vs=>([],vs)
 | (t,s)::l,vs=>match Hx s vs with
  | (x,r)=>match Gs l r with
   | (es,r')=>(⟨t,[],x⟩::es,r')
def Ux:List (Nat×SkO)→List DV→List (Nat×Ob)
 | [],_=>[]
 | (t,s)::l,vs=>match Wo s vs with
  | some (x,r)=>(t,x)::Ux l r
  | none=>[]
structure XS where
 env:List En
 fix:List En
 mem:List (Nat×Ob)
 fixM:List (Nat×Ob)
 prot:List Nat
def XS.flat (S:XS):St:=⟨S.env++S.fix,S.mem++S.fixM⟩
abbrev XS.ev (S:XS) (cur:Vr) (x:Operand):Option AV:=Gx.ev S.flat cur x
def enc (Γ:Shp) (x:Γ.De):St:=match Gs Γ.env (toL Γ.tys x) with
 | (es,r)=>⟨es,Ux Γ.mem r⟩
def PS.beq:PS→PS→Bool
 | .f k o,.f k' o'=>Nat.beq k k'&&Nat.beq o o'
 | _,_=>false
def Ou:List PS→List PS→Bool
 | [],[]=>true
 | a::l,b::m=>PS.beq a b&&Ou l m
 | _,_=>false
def isNone {α:Type}:Option α→Bool
 | none=>true
 | some _=>false
def Qkv:Sk→AV→List (Nat×Nat)
 | .s id,.s c=>[(id,c)]
 | .p id _,.p c _=>[(id,c)]
 | .m id,.m c=>[(id,c)]
 | .f _ x,.f _ y=>Qkv x y
 | .ag l,x=>match E5 x with
  | some y=>Qkv l y
  | none=>[]
 | .cons a b,.cons x y=>Qkv a x++Qkv b y
 | _,_=>[]
def Qim (env:List En):List (Nat×Sk)→List (Nat×Nat)
 | []=>[]
 | (t,s)::l=>match Zo env t with
  | some e=>Qkv s e.av++Qim env l
  | none=>Qim env l
def S5 (M:List (Nat×Ob)):List (Nat×SkO)→List (Nat×Nat)→List (Nat×Nat)
 | [],ri=>ri
 | (id,.var _ c)::l,ri=>match Jo ri id with
  | some i=>match Qb M i with
   | some (.var _ x)=>S5 M l (ri++Qkv c x)
   | _=>S5 M l ri
  | none=>S5 M l ri
 | _::l,ri=>S5 M l ri
def Q38 (Γ:Shp) (S:St):List (Nat×Nat):=S5 S.mem Γ.mem (Qim S.env Γ.env)
def J9:List Nat→Nat→Bool
 | [],_=>false
 | k::l,t=>Nat.beq k t||J9 l t
def S6:AV→List Nat
 | .s id=>[id]
 | .ag l=>S6 l
 | .cons x r=>S6 x++S6 r
 | _=>[]
def Qkw:Sk→AV→List Nat
 | .d _,x=>S6 x
 | .f _ a,.f _ x=>Qkw a x
 | .ag l,x=>match E5 x with
  | some y=>Qkw l y
  | none=>[]
 | .cons a b,.cons x y=>Qkw a x++Qkw b y
 | _,_=>[]
def Qo2 (env:List En):List (Nat×Sk)→List Nat
 | []=>[]
 | (t,s)::l=>match Zo env t with
  | some e=>Qkw s e.av++Qo2 env l
  | none=>Qo2 env l
def Qaq (M:List (Nat×Ob)) (ri:List (Nat×Nat)):List (Nat×SkO)→List Nat
 | []=>[]
 | (id,.var _ c)::l=>match Jo ri id with
  | some i=>match Qb M i with
   | some (.var _ x)=>Qkw c x++Qaq M ri l
   | _=>Qaq M ri l
  | none=>Qaq M ri l
 | (id,.tail _ _)::l=>match Jo ri id with
  | some i=>i::Qaq M ri l
  | none=>Qaq M ri l
 | _::l=>Qaq M ri l
def Va (ks:List Nat):List (Nat×Ob)→List (Nat×Ob)
 | []=>[]
 | (id,.row e t xs)::l=>(bif J9 ks id&&Nat.ble 1 t.size then (id,.tail e t xs) else (id,.row e t xs))::Va ks l
 | q::l=>q::Va ks l
def Qf4 (ri:List (Nat×Nat)) (id c:Nat):Bool:=match Jo ri id with
 | some i=>Nat.beq i c
 | none=>false
def Sk.isL:Sk→Bool
 | .nil=>true
 | .cons _ b=>b.isL
 | _=>false
def V9 (M:List (Nat×Ob)) (ri:List (Nat×Nat)) (pr:List Nat):Sk→AV→Option (List DV)
 | .d t,v=>match asD M v t with
  | some x=>bif t.agg==v.isAgg then some [⟨t,x⟩] else none
  | none=>none
 | .p id path,.p c path'=>bif Qf4 ri id c&&Ou path path' then some [] else none
 | .s id,.s c=>bif Qf4 ri id c&&!isNone (Qb M c) then some [] else none
 | .s id,.ns=>bif isNone (Jo ri id)&&!J9 pr id then some [] else none
 | .m id,.m c=>bif Qf4 ri id c then some [] else none
 | .ns,.ns=>some []
 | .np,.np=>some []
 | .nm,.nm=>some []
 | .nf,.nf=>some []
 | .z,.z=>some []
 | .f fn c,.f fn' x=>bif Nat.beq fn fn'&&c.isL then V9 M ri pr c x else none
 | .ag l,x=>match E5 x with
  | some y=>V9 M ri pr l y
  | none=>none
 | .nil,.nil=>some []
 | .cons a b,.cons x y=>match V9 M ri pr a x,V9 M ri pr b y with
  | some u,some v=>some (u++v)
  | _,_=>none
 | _,_=>none
def Ov (M:List (Nat×Ob)) (ri:List (Nat×Nat)) (pr:List Nat) (env:List En):List (Nat×Sk)→Option (List DV)
 | []=>some []
 | (t,s)::l=>match Zo env t with
  | some ⟨_,[],x⟩=>match V9 M ri pr s x,Ov M ri pr env l with
   | some u,some v=>some (u++v)
   | _,_=>none
  | _=>none
def Hy (M:List (Nat×Ob)) (ri:List (Nat×Nat)) (pr:List Nat):SkO→Option Ob→Option (List DV)
 | .var tid c,some (.var tid' x)=>bif Nat.beq tid tid' then V9 M ri pr c x else none
 | .row e t,some (.row e' t' xs)=>bif Nat.beq e e'&&Ty.beq t t' then some [⟨.sl t',xs⟩] else none
 | .row e t,none=>some [⟨.sl t,[]⟩]
 | .tail e t,some (.tail e' t' xs)=>bif Nat.beq e e'&&Ty.beq t t' then some [⟨.sl t',xs⟩] else none
 | .tail e t,none=>some [⟨.sl t,[]⟩]
 | .map k u,some (.map k' u' xs)=>bif Ty.beq k k'&&Ty.beq u u' then some [⟨.sl (.pr k' u'),xs⟩] else none
 | .mapT k u path e t,some (.mapT k' u' path' e' t' xs hole)=>bif Ty.beq k k'&&Ty.beq u u'&&Ou path path'&&Nat.beq e e'&&Ty.beq t t'&&isNone hole then some [⟨.sl (.pr k' u'),xs⟩] else none
 | .mapO k,some (.mapO k' xs _)=>bif Ty.beq k k' then some [⟨.sl (.pr k' .ref),xs⟩] else none
 | _,_=>none
def Qin (M:List (Nat×Ob)) (ri:List (Nat×Nat)) (id:Nat):Option (Option Ob):=match Jo ri id with
 | none=>some none
 | some c=>match Qb M c with
  | some o=>some (some o)
  | none=>none
def E6 (M F:List (Nat×Ob)) (ri:List (Nat×Nat)) (pr:List Nat):List (Nat×SkO)→Option (List DV)
 | []=>some []
 | (t,s)::l=>match Qin M ri t with
  | some o=>match Hy (M++F) ri pr s o,E6 M F ri pr l with
   | some u,some v=>some (u++v)
   | _,_=>none
  | none=>none
def Wc (ri:List (Nat×Nat)):List (Nat×SkO)→List Nat→Bool
 | [],_=>true
 | (id,_)::l,cs=>match Jo ri id with
  | some c=>!J9 cs c&&Wc ri l (c::cs)
  | none=>Wc ri l cs
def Qo3:List (Nat×SkO)→List Nat→Bool
 | [],_=>true
 | (id,_)::l,cs=>!J9 cs id&&Qo3 l (id::cs)
def frz (Γ:Shp) (ri:List (Nat×Nat)) (env:List En) (M:List (Nat×Ob)):List (Nat×Ob):=Va (Qo2 env Γ.env++Qaq M ri Γ.mem) M
def Qio (ri:List (Nat×Nat)) (pr:List Nat):List (Nat×SkO)→Bool
 | []=>true
 | (id,_)::l=>(!J9 pr id||Qf4 ri id id)&&Qio ri pr l
def Qch (pr:List Nat):List (Nat×Nat)→Bool
 | []=>true
 | (id,c)::l=>(!J9 pr id||Nat.beq id c)&&Qch pr l
def Qkx (Γ:Shp) (ri:List (Nat×Nat)) (pr:List Nat) (env:List En) (M F:List (Nat×Ob)):Option Γ.De :=
 bif Wc ri Γ.mem []&&Qo3 Γ.mem []&&Qio ri pr Γ.mem&&Qch pr ri then
  match Ov (M++F) ri pr env Γ.env,E6 M F ri pr Γ.mem with
  | some u,some v=>ofL Γ.tys (u++v)
  | _,_=>none
 else none
def decF (Γ:Shp) (ri:List (Nat×Nat)) (pr:List Nat) (env:List En) (M F:List (Nat×Ob)):Option Γ.De:=Qkx Γ ri pr env (frz Γ ri env M) F
def Q2:AV→List Nat
 | .p id _=>[id]
 | .e id _=>[id]
 | .s id=>[id]
 | .m id=>[id]
 | .b id=>[id]
 | .w id _ _=>[id]
 | .f _ c=>Q2 c
 | .ag l=>Q2 l
 | .tp l=>Q2 l
 | .cons x r=>Q2 x++Q2 r
 | _=>[]
def Eh:List En→List Nat
 | []=>[]
 | e::l=>Q2 e.av++Eh l
def Zp {α:Type}:Option (α×Nat)→List Nat
 | some q=>[q.2]
 | none=>[]
def Q3:List (Nat×Ob)→List Nat
 | []=>[]
 | (id,.var _ c)::l=>id::(Q2 c++Q3 l)
 | (id,.mapT _ _ _ _ _ _ (some q))::l=>id::q.2::Q3 l
 | (id,.mapO _ _ last)::l=>id::(Zp last++Q3 l)
 | (id,.mapE _ _ _ _ j)::l=>id::j::Q3 l
 | (id,_)::l=>id::Q3 l
def Qo4 (pr:List Nat):List (Nat×SkO)→List (Nat×Nat)
 | []=>[]
 | (id,_)::l=>bif J9 pr id then (id,id)::Qo4 pr l else Qo4 pr l
def XS.dec (S:XS) (Γ:Shp):Option Γ.De:=decF Γ (S5 S.mem Γ.mem (Qim (S.env++S.fix) Γ.env++Qo4 (S.prot++(Eh S.fix++Q3 S.fixM)) Γ.mem)) (S.prot++(Eh S.fix++Q3 S.fixM)) (S.env++S.fix) S.mem S.fixM
def Nb (env:List En):List Nat→List En
 | []=>[]
 | t::ts=>match Zo env t with
  | some e=>e::Nb env ts
  | none=>Nb env ts
def Je:List (Nat×Ob)→List Nat→List (Nat×Ob)×List (Nat×Ob)
 | M,[]=>(M,[])
 | M,t::ts=>match Qb M t with
  | some o=>((Je (J3 M t) ts).1,(t,o)::(Je (J3 M t) ts).2)
  | none=>Je M ts
def XS.ent (S:XS) (ks ms:List Nat):XS:=⟨S.env,Nb S.env ks++S.fix,(Je S.mem ms).1,(Je S.mem ms).2++S.fixM,S.prot⟩
def XS.re (S:XS) (S1:St):XS:=⟨S1.env,S.fix,S1.mem,S.fixM,S.prot⟩
def XS.out (S:XS) (ks ms:List Nat) (S1:St):XS:=⟨S1.env++Nb S.env ks,S.fix,S1.mem++(Je S.mem ms).2,S.fixM,S.prot⟩
inductive Ex where
 | n | x (id:Nat) | r
def Ex.beq:Ex→Ex→Bool
 | .n,.n=>true
 | .r,.r=>true
 | .x a,.x b=>Nat.beq a b
 | _,_=>false
abbrev Exs:=List (Ex×Shp)
@[reducible] def Bf:Exs→Type
 | []=>Empty
 | [q]=>q.2.De
 | q::r::l=>q.2.De⊕Bf (r::l)
def inj:(l:Exs)→Ex→XS→Option (Bf l)
 | [],_,_=>none
 | [q],e,S=>bif Ex.beq q.1 e then S.dec q.2 else none
 | q::r::l,e,S=>bif Ex.beq q.1 e then (match S.dec q.2 with
   | some x=>some (.inl x)
   | none=>none) else (match inj (r::l) e S with
   | some x=>some (.inr x)
   | none=>none)
def Qci {R:Type} (S:XS) (ks ms:List Nat) (k:Ex→XS→Option R):(l:Exs)→Bf l→Option R
 | [],_=>none
 | [q],x=>k q.1 (S.out ks ms (enc q.2 x))
 | q::r::l,x=>match x with
  | .inl y=>k q.1 (S.out ks ms (enc q.2 y))
  | .inr z=>Qci S ks ms k (r::l) z
def Jg {σ τ:Type} (f:σ→Option (σ⊕τ)):Nat→σ→Option τ
 | 0,_=>none
 | n+1,s=>(f s).bind fun
  | .inl s'=>Jg f n s'
  | .inr r=>some r
structure Con where
 f:FuncId
 Γ:Shp
 Δ:Shp
 fn:Γ.De→Option Δ.De
 ro:List Nat
def Ym (Zs:List (Nat×Ob)):List Nat:=Zs.map Prod.fst
def wrM (ro:List Nat) (M:List (Nat×Ob)):List (Nat×Ob):=M.filter fun q=>!J9 ro q.1
def rdM (ro:List Nat) (M:List (Nat×Ob)):List (Nat×Ob):=M.filter fun q=>J9 ro q.1
def wrG (ro:List Nat) (M:List (Nat×SkO)):List (Nat×SkO):=M.filter fun q=>!J9 ro q.1
def rdG (ro:List Nat) (M:List (Nat×SkO)):List (Nat×SkO):=M.filter fun q=>J9 ro q.1
def roM (c:Con) (x:c.Γ.De):List (Nat×Ob):=rdM c.ro (enc c.Γ x).mem
def Dr:Sk→AV→Bool
 | .d _,.d _ _=>true
 | .p _ _,.p _ _=>true
 | .s _,.s _=>true
 | .m _,.m _=>true
 | .ns,.ns=>true
 | .np,.np=>true
 | .nm,.nm=>true
 | .nf,.nf=>true
 | .z,.z=>true
 | .f _ c,.f _ x=>Dr c x
 | .ag l,.ag y=>Dr l y
 | .nil,.nil=>true
 | .cons a b,.cons x y=>Dr a x&&Dr b y
 | _,_=>false
def Q39:SkO→Ob→Bool
 | .var _ c,.var _ x=>Dr c x
 | .row _ _,.row _ _ _=>true
 | .map _ _,.map _ _ _=>true
 | _,_=>false
def S7 (ri:List (Nat×Nat)) (M:List (Nat×Ob)):List (Nat×SkO)→Bool
 | []=>true
 | (id,s)::l=>(match Jo ri id with
  | some c=>(match Qb M c with
   | some ob=>Q39 s ob
   | none=>false)
  | none=>false)&&S7 ri M l
def Z5 (g:Nat→Nat):AV→AV
 | .p id path=>.p (g id) path
 | .e id path=>.e (g id) path
 | .s id=>.s (g id)
 | .m id=>.m (g id)
 | .b id=>.b (g id)
 | .w id j n=>.w (g id) j n
 | .f fn c=>.f fn (Z5 g c)
 | .ag l=>.ag (Z5 g l)
 | .tp l=>.tp (Z5 g l)
 | .cons x r=>.cons (Z5 g x) (Z5 g r)
 | x=>x
def C2 (g:Nat→Nat):Ob→Ob
 | .var tid c=>.var tid (Z5 g c)
 | .mapT k v path e u xs (some q)=>.mapT k v path e u xs (some (q.1,g q.2))
 | .mapO k xs last=>.mapO k xs (last.map fun q=>(q.1,g q.2))
 | .mapE k v xs key j=>.mapE k v xs key (g j)
 | o=>o
def Jt (ri:List (Nat×Nat)) (d j:Nat):Nat:=match Jo ri j with
 | some c=>c
 | none=>10000+100*d+j
def Qcj (S:XS):List Operand→Nat→Option (List En)
 | [],_=>some []
 | x::l,i=>match S.ev [] x,Qcj S l (i+1) with
  | some v,some r=>bif Nat.blt i 100000 then some (⟨i,[],v⟩::r) else none
  | _,_=>none
def Qo5:AV→Nat→Option (List En)
 | .nil,_=>some []
 | .cons x r,i=>match Qo5 r (i+1) with
  | some l=>bif Nat.blt i 100000 then some (⟨i,[],x⟩::l) else none
  | none=>none
 | _,_=>none
def S8:List En→AV
 | []=>.nil
 | e::l=>.cons e.av (S8 l)
def Es (es:List En):AV:=match es with
 | [e]=>e.av
 | es=>.tp (S8 es)
def Yg (ri:List (Nat×Nat)):List (Nat×SkO)→List Nat
 | []=>[]
 | (id,_)::l=>match Jo ri id with
  | some c=>c::Yg ri l
  | none=>Yg ri l
def Ll:List (Nat×SkO)→Bool
 | []=>true
 | (_,.tail _ _)::_=>false
 | (_,.mapT _ _ _ _ _)::_=>false
 | _::l=>Ll l
def Kv (ks:List Nat):List Nat→Bool
 | []=>true
 | i::l=>J9 ks i&&Kv ks l
def Wp:List Nat→Bool
 | []=>true
 | i::l=>!J9 l i&&Wp l
def Zk {α:Type}:Option α→Bool
 | some _=>true
 | none=>false
def Zq (g:Nat→Nat) (M:List (Nat×Ob)):List (Nat×Ob):=M.map fun q=>(g q.1,C2 g q.2)
inductive Src where
 | t (n:Nat)
 | v (id:Nat) (path:List PS)
inductive Hn where
 | done
 | n (m:Nat) (r:Hn)
 | nl (m:Nat) (r:Hn)
 | md (mode:Nat) (r:Hn)
 | keep (ts:List Nat) (r:Hn)
 | fz (id:Nat) (r:Hn)
 | sp (t:Nat) (m:Nat) (ks ms:List Nat) (Γ:Shp) (a b r:Hn)
 | call (c:Nat) (r:Hn)
 | tl (h:Hn)
 | so (t:Nat) (a b:Hn)
 | mt (id:Nat) (path:List PS) (e:TypeId) (r:Hn)
 | op (src:Src) (id d:Nat) (r:Hn)
 | fm (id:Nat) (r:Hn)
 | dt (id:Nat) (r:Hn)
 | si (t:Nat) (n:Int) (a b:Hn)
 | br (r:Hn)
structure HD where
 h:Hn
 tch:List Nat
 ro:List Nat
 bs:List Nat
 nm:List Nat
inductive HT where
 | tl (h:Hn)
 | op (h:HD) (r:HT)
 | so (t:Nat) (a b:HT)
def Ft {ε σ τ:Type} (f:ε→σ→Option (σ⊕τ)):List ε→σ→Option (σ⊕τ)
 | [],s=>some (.inl s)
 | e::l,s=>match f e s with
  | some (.inl s')=>Ft f l s'
  | some (.inr x)=>some (.inr x)
  | none=>none
open Classical in
noncomputable def Qck {ε σ τ:Type} (f:ε→σ→Option (σ⊕τ)) (l:List ε) (s:σ):Option (σ⊕τ) :=
 if ∀ys:List ε,ys.Perm l→Ft f ys s=Ft f l s then Ft f l s else none
noncomputable def Nm {ε σ τ:Type} (f:ε→σ→Option (σ⊕τ)):List ε→σ→Option (σ⊕τ)
 | [],s=>some (.inl s)
 | [e],s=>f e s
 | e::e'::l,s=>Qck f (e::e'::l) s
inductive An where
 | nil
 | mp (h:Hn) (ks ms:List Nat) (Γ:Shp) (exs:Exs) (h3:Hn) (a:An)
 | reg (h:Hn)
 | two (a b:An)
 | un (a:An)
 | lp (ks ms:List Nat) (Γ:Shp) (exs:Exs) (a:An)
 | jn (ks ms:List Nat) (exs:Exs) (a:An)
 | dr (m:Nat) (h1 h2:Hn)
 | dm (m:Nat) (ds zs:List Nat) (h2:Hn)
 | dc (m:Nat) (ds zs zf:List Nat) (ht:HT)
 | ch (t n:Nat) (a b:An)
 | gh (g:Hn) (a:An)
abbrev An.t (k:Nat) (a:An):An:=.two (.reg (.n k .done)) a
def C3 (ops:List Oper) (o:Oper):Option (Option (Nat×Bool)):=match o.guard with
 | none=>some none
 | some (j,want)=>match ops[j]? with
  | some p=>match p.dst with
   | some t=>some (some (t,want))
   | none=>none
  | none=>none
def V1 (d:Nat):AV→Bool
 | .p id _=>!Nat.beq id d
 | .e id _=>!Nat.beq id d
 | .s id=>!Nat.beq id d
 | .m id=>!Nat.beq id d
 | .b id=>!Nat.beq id d
 | .w id _ _=>!Nat.beq id d
 | .f _ c=>V1 d c
 | .ag l=>V1 d l
 | .tp l=>V1 d l
 | .cons x r=>V1 d x&&V1 d r
 | _=>true
def Mj {α:Type} (d:Nat):Option (α×Nat)→Bool
 | some q=>!Nat.beq q.2 d
 | none=>true
def Qv (d:Nat):List (Nat×Ob)→Bool
 | []=>true
 | (k,.var _ c)::l=>!Nat.beq k d&&V1 d c&&Qv d l
 | (k,.mapT _ _ _ _ _ _ (some q))::l=>!Nat.beq k d&&!Nat.beq q.2 d&&Qv d l
 | (k,.mapO _ _ last)::l=>!Nat.beq k d&&Mj d last&&Qv d l
 | (k,.mapE _ _ _ _ j)::l=>!Nat.beq k d&&!Nat.beq j d&&Qv d l
 | (k,_)::l=>!Nat.beq k d&&Qv d l
def Y6 (d:Nat):List En→List En
 | []=>[]
 | e::l=>bif V1 d e.av then e::Y6 d l else Y6 d l
def G2 (d:Nat):List En→Bool
 | []=>true
 | e::l=>!(Nat.beq e.t d||Fq d e.cs)&&G2 d l
def B1 (d:Nat):List En→Bool
 | []=>true
 | e::l=>V1 d e.av&&B1 d l
def Qip (ri:List (Nat×Nat)) (d:Nat) (Γk:List Nat) (S:XS) (M:List (Nat×Ob)):List Nat→Bool
 | []=>true
 | j::l=>(bif Zk (Jo ri j) then J9 Γk j else
   Qv (Jt ri d j) M&&Qv (Jt ri d j) S.fixM&&B1 (Jt ri d j) S.fix&&B1 (Jt ri d j) S.env&&!J9 S.prot (Jt ri d j)&&!J9 Γk j)&&Qip ri d Γk S M l
def XS.put (S:XS) (d:Nat) (cs:Vr) (x:AV):XS:={ S with env:=⟨d,cs,x⟩::Jx S.env d }
def XS.born (S:XS) (d:Nat) (o:Ob):XS:={ S with env:=Y6 d S.env,mem:=(d,o)::S.mem }
def XS.set (S:XS) (id:Nat) (o:Ob):XS:={ S with mem:=Ht S.mem id o }
def Qar:List PS→AV→Option AV
 | [],x=>some x
 | .f k off::ps,.ag l=>match kid l k with
  | some (y,o)=>bif Nat.beq o off then Qar ps y else none
  | none=>none
 | _,_=>none
def noS (d:Nat):AV→Bool
 | .e id _=>!Nat.beq id d
 | .s id=>!Nat.beq id d
 | .f _ c=>noS d c
 | .ag l=>noS d l
 | .tp l=>noS d l
 | .cons x r=>noS d x&&noS d r
 | _=>true
def Qo6 (d:Nat):List En→Bool
 | []=>true
 | e::l=>noS d e.av&&Qo6 d l
def Bg (d:Nat):List (Nat×Ob)→Bool
 | []=>true
 | (k,.var _ c)::l=>!Nat.beq k d&&noS d c&&Bg d l
 | (k,.mapT _ _ _ _ _ _ (some q))::l=>!Nat.beq k d&&!Nat.beq q.2 d&&Bg d l
 | (k,_)::l=>!Nat.beq k d&&Bg d l
def XS.swap (S:XS) (id:Nat) (o:Ob):XS:={ S with mem:=(id,o)::J3 S.mem id }
def E7 (S:XS) (id:Nat):Bool:=Qo6 id S.env&&Qo6 id S.fix&&Bg id (J3 S.mem id)&&Bg id S.fixM&&!J9 S.prot id
def Qf5 {ν τ:Type} (f:ν→List τ):Option ν→List τ
 | some y=>f y
 | none=>[]
def Q9l (S:XS):Src→Option AV
 | .t n=>S.ev [] (.tmp n)
 | .v id path=>match Qb S.flat.mem id with
  | some (.var _ c)=>nav path c
  | _=>none
section
variable {R:Type} (Y:TX) (n:Nat)
def okW (S:XS) (d:Nat):Bool:=Nat.blt d n&&Nat.blt d 100000&&G2 d S.fix
def okB (S:XS) (d:Nat):Bool:=Qv d S.mem&&Qv d S.fixM&&B1 d S.fix&&!J9 S.prot d
def asR (M:List (Nat×Ob)) (xv:AV) (u:Ty):Option (List u.De):=match asD M xv (.sl u) with
 | some ys=>some ys
 | none=>match xv with
  | .s id=>match Qb M id with
   | some (.row _ t ys)=>Ty.cast (.sl t) (.sl u) ys
   | _=>none
  | _=>none
def Lm (o:Oper) (S:XS) (k:XS→Option R):Option R :=
 match o.op,o.dst with
 | .alloc t,some d=>match Qe Y.T t,Jo Y.tys t with
  | some e,some ty=>match Xr ty e.z with
   | some c=>bif okW n S d&&okB S d&&c.isVal&&V1 d c then k ((S.born d (.var t c)).put d [] (.p d [])) else none
   | none=>none
  | _,_=>none
 | .box t x,some d=>match S.ev [] x with
  | some c=>bif okW n S d&&okB S d&&c.isVal&&c.inMem&&V1 d c then k ((S.born d (.var t c)).put d [] (.p d [])) else none
  | none=>none
 | .store t p x,none=>match Qe Y.T t,S.ev [] p,S.ev [] x with
  | some e,some (.p id path),some v=>match Qb S.mem id with
   | some (.var tid c)=>match Be path c v with
    | some c'=>bif Nat.beq e.size v.size&&v.isVal&&v.inMem then k (S.set id (.var tid c')) else none
    | none=>none
   | _=>none
  | some e,some (.e id (.i j sz::ps)),some v=>match Qb S.mem id with
   | some (.row et u xs)=>(idx xs j).bind fun y=>match Be ps (.d u y) v with
    | some c=>match asD S.flat.mem c u with
     | some z=>bif Nat.beq e.size v.size&&Nat.beq sz u.size&&Nat.ble 1 u.size&&v.isVal&&v.inMem then k (S.set id (.row et u (xs.set j.toNat z))) else none
     | none=>none
    | none=>none
   | _=>none
  | _,_,_=>none
 | .makeMap t rs,some d=>match Qe Y.T t with
  | some te=>match te.d with
   | .map kt et=>match Jo Y.tys kt,Jo Y.tys et with
    | some kk,some v=>bif okW n S d&&okB S d&&isNone rs then k ((S.born d (.map kk v [])).put d [] (.m d)) else none
    | _,_=>none
   | _=>none
  | none=>none
 | .mapUpdate t m ky x,none=>match Qe Y.T t,S.ev [] m,S.ev [] ky,S.ev [] x with
  | some te,some (.m id),some kv,some xv=>match te.d,Qb S.mem id with
   | .map kt et,some (.map kk v xs)=>match Qe Y.T kt,asD [] kv kk,asD S.flat.mem xv v with
    | some tk,some key,some y=>bif Ys Y.T kk tk.d&&(kk.agg==kv.isAgg)&&(v.agg==xv.isAgg) then k (S.set id (.map kk v (Yx key y xs))) else none
    | _,_,_=>none
   | .map kt et,some (.mapT kk v path e u xs (some (kh,h0)))=>match Qe Y.T kt,asD [] kv kk,asD S.flat.mem xv v,Qar path xv with
    | some tk,some key,some y,some (.s h1)=>match Qb S.mem h1 with
     | some (.tail e1 u1 _)=>bif Ys Y.T kk tk.d&&(kk.agg==kv.isAgg)&&(v.agg==xv.isAgg)&&Nat.beq e e1&&Ty.beq u u1&&E7 { S with mem:=J3 S.mem h1 } id then
       (chk (eqK kk key kh)).bind fun _=>k (XS.swap { S with mem:=J3 S.mem h1 } id (.mapT kk v path e u (Yx kh y xs) none)) else none
     | _=>none
    | _,_,_,_=>none
   | _,_=>none
  | _,_,_,_=>none
 | .makeSlice t l c,some d=>match Qe Y.T t,S.ev [] l,S.ev [] c with
  | some te,some lv,some cv=>match Yi te.d,Za lv,Za cv with
   | some e,some (_,nl),some (_,nc)=>match Qe Y.T e,Jo Y.tys e with
    | some ee,some u=>match Xr u ee.z with
     | some za=>match asD [] za u with
      | some z=>bif okW n S d&&okB S d&&Nat.beq ee.size u.size&&Nat.beq (Qh ee.z).length ee.size&&Nat.ble 1 ee.bytes then
        (mkL ee.bytes nl nc z).bind fun zs=>k ((S.born d (.row e u zs)).put d [] (.s d)) else none
      | none=>none
     | none=>none
    | _,_=>none
   | _,_,_=>none
  | _,_,_=>none
 | .buildSlice t len ⟨parts⟩,some d=>match Qe Y.T t with
  | some te=>match Yi te.d with
   | some e=>match Qe Y.T e,Jo Y.tys e with
    | some ee,some u=>bif okW n S d&&Nat.beq ee.size u.size then (match len,parts with
     | 0,[]=>bif okB S d then k ((S.born d (.row e u [])).put d [] (.s d)) else none
     | 0,_=>none
     | m+1,ps=>match Yy S.flat [] ps with
      | some vs=>match asLs S.flat.mem u vs 0 with
       | some xs=>bif Nat.beq xs.length (m+1)&&Nat.ble ((m+1)*ee.size) 16777216&&Nat.ble 1 ee.size&&Nat.beq (Qh ee.z).length ee.size then k (S.put d [] (.d (.sl u) xs)) else none
       | none=>none
      | none=>none) else none
    | _,_=>none
   | none=>none
  | none=>none
 | .call ⟨.builtin .append,⟨[s,x]⟩,⟨[t,t']⟩⟩,some d=>match Qe Y.T t,S.ev [] s,S.ev [] x with
  | some te,some sv,some xv=>match Yi te.d with
   | some e=>match Qe Y.T e with
    | some ee=>bif okW n S d&&Nat.beq t t'&&Nat.ble 1 ee.size&&Nat.ble 1 ee.bytes&&Nat.beq (Qh ee.z).length ee.size then (match sv with
     | .ns=>match Jo Y.tys e with
      | some u=>match asR S.flat.mem xv u with
       | some ys=>bif okB S d&&Nat.beq ee.size u.size then (app ee.bytes [] ys).bind fun zs=>k ((S.born d (.row e u zs)).put d [] (.s d)) else none
       | none=>none
      | none=>none
     | .z=>match Jo Y.tys e with
      | some u=>match asR S.flat.mem xv u with
       | some ys=>bif okB S d&&Nat.beq ee.size u.size then (app ee.bytes [] ys).bind fun zs=>k ((S.born d (.row e u zs)).put d [] (.s d)) else none
       | none=>none
      | none=>none
     | .s id=>match Qb S.mem id with
      | some (.row e' u xs)=>match asR S.flat.mem xv u with
       | some ys=>bif okB ⟨S.env,S.fix,J3 S.mem id,S.fixM,S.prot⟩ d&&Nat.beq ee.size u.size&&Nat.beq e e' then
         (app ee.bytes xs ys).bind fun zs=>k (({ S with mem:=J3 S.mem id }.born d (.row e u zs)).put d [] (.s d)) else none
       | none=>none
      | some (.tail e' u xs)=>match asD S.flat.mem xv (.sl u) with
       | some ys=>bif okB ⟨S.env,S.fix,J3 S.mem id,S.fixM,S.prot⟩ d&&Nat.beq ee.size u.size&&Nat.beq e e' then
         (app ee.bytes xs ys).bind fun zs=>k (({ S with mem:=J3 S.mem id }.born d (.tail e u zs)).put d [] (.s d)) else none
       | none=>none
      | _=>none
     | _=>none) else none
    | none=>none
   | none=>none
  | _,_,_=>none
 | op,some d=>bif okW n S d then A8 Y S.flat [] op fun v=>k (S.put d [] v) else none
 | _,none=>none
def Q4y:AV→Bool
 | .np=>true
 | .p _ _=>true
 | _=>false
def Qky:List (Nat×AV)→Nat→Option AV
 | [],_=>some .nil
 | (i,v)::l,j=>bif Nat.beq i j&&Q4y v then (match Qky l (j+1) with
  | some r=>some (.cons v r)
  | none=>none) else none
def Ip {k:Ty} {ν:Type} (key:k.De):List (k.De×ν)→List (k.De×ν)
 | []=>[]
 | x::l=>bif eqK k key x.1 then l else x::Ip key l
def Wk {α:Type} (xs ys:List α):List α:=ys.take (Nat.min ys.length xs.length)++xs.drop (Nat.min ys.length xs.length)
def C7 {α:Type} (xs ys:List α):Int:=(Nat.min ys.length xs.length:Nat)
def Qts (o:Oper) (S:XS):Nat:=match o.op with
 | .call ⟨.builtin .append,⟨[_,x]⟩,_⟩=>match S.ev [] x with
  | some (.d .str _)=>1
  | _=>0
 | .convert _ t x=>match S.ev [] x with
  | some (.d .str _)=>match Qe Y.T t with
   | some te=>match Yi te.d with
    | some _=>2
    | none=>0
   | none=>0
  | _=>0
 | .store _ p _=>match S.ev [] p with
  | some (.p _ path)=>bif Q4x path then 3 else 0
  | _=>0
 | .call ⟨.builtin .copy,_,_⟩=>4
 | .call ⟨.builtin .delete,_,_⟩=>5
 | .buildSlice t (_+1) _=>match Qe Y.T t with
  | some te=>match Yi te.d with
   | some e=>match Jo Y.tys e with
    | none=>7
    | some u=>bif Ty.beq u .ref then 7 else 0
   | none=>0
  | none=>0
 | .slice _ x none _ none=>match S.ev [] x with
  | some (.s id)=>match Qb S.mem id with
   | some (.row _ _ _)=>6
   | _=>0
  | _=>0
 | .slice _ x none (some _) (some _)=>match S.ev [] x with
  | some (.s id)=>match Qb S.mem id with
   | some (.row _ _ _)=>8
   | _=>0
  | _=>0
 | _=>0
def Q4z:Value→Bool
 | .int .u8 0=>true
 | _=>false
def Q40:TypeDesc→Bool
 | .int .u8=>true
 | _=>false
def Qf6:TypeDesc→Bool
 | .string=>true
 | _=>false
def U3 (l:Str):List Int:=l.map fun b=>(b.toNat:Int)
def Ta (o:Oper) (S:XS) (k:XS→Option R):Option R:=match o.op,o.dst with
 | .call ⟨.builtin .append,⟨[s,x]⟩,⟨[t,t']⟩⟩,some d=>match Qe Y.T t,Qe Y.T t',S.ev [] s,S.ev [] x with
  | some te,some te',some sv,some (.d .str l)=>match Yi te.d with
   | some e=>match Qe Y.T e with
    | some ee=>bif okW n S d&&Qf6 te'.d&&Q4z ee.z&&Nat.beq ee.size 1&&Nat.beq ee.bytes 1 then (match sv with
     | .ns=>bif okB S d then (app 1 [] (U3 l)).bind fun zs=>k ((S.born d (.row e (.int .u8) zs)).put d [] (.s d)) else none
     | .s id=>match Qb S.mem id with
      | some (.row e' (.int .u8) xs)=>bif okB ⟨S.env,S.fix,J3 S.mem id,S.fixM,S.prot⟩ d&&Nat.beq e e' then
        (app 1 xs (U3 l)).bind fun zs=>k (({ S with mem:=J3 S.mem id }.born d (.row e (.int .u8) zs)).put d [] (.s d)) else none
      | _=>none
     | _=>none) else none
    | none=>none
   | none=>none
  | _,_,_,_=>none
 | .convert s t x,some d=>match Qe Y.T s,Qe Y.T t,S.ev [] x with
  | some se,some te,some (.d .str l)=>match Yi te.d with
   | some e=>match Qe Y.T e with
    | some ee=>bif okW n S d&&okB S d&&Q40 ee.d then (app 1 [] (U3 l)).bind fun zs=>k ((S.born d (.row e (.int .u8) zs)).put d [] (.s d)) else none
    | none=>none
   | none=>none
  | _,_,_=>none
 | .store t p x,none=>match Qe Y.T t,S.ev [] p,S.ev [] x with
  | some e,some (.p id path),some v=>match Qb S.mem id with
   | some (.var tid c)=>Na S.flat.mem path c v fun c'=>bif Nat.beq e.size v.size&&v.isVal&&v.inMem then k (S.set id (.var tid c')) else none
   | _=>none
  | _,_,_=>none
 | .call ⟨.builtin .copy,⟨[dst,src]⟩,⟨[t,t']⟩⟩,some d=>match Qe Y.T t,S.ev [] dst,S.ev [] src with
  | some te,some (.s id),some xv=>match Yi te.d with
   | some e=>match Qe Y.T e,Qb S.mem id with
    | some ee,some (.row et u xs)=>match asD S.flat.mem xv (.sl u) with
     | some ys=>bif okW n S d&&Nat.beq ee.size u.size&&Nat.ble 1 u.size then k ((S.set id (.row et u (Wk xs ys))).put d [] (.d (.int .i64) (C7 xs ys))) else none
     | none=>none
    | _,_=>none
   | none=>none
  | _,_,_=>none
 | .call ⟨.builtin .delete,⟨[m,ky]⟩,⟨[t,t']⟩⟩,none=>match Qe Y.T t,S.ev [] m,S.ev [] ky with
  | some te,some (.m id),some kv=>match te.d,Qb S.mem id with
   | .map kt et,some (.map kk v xs)=>match Qe Y.T kt,asD [] kv kk with
    | some tk,some key=>bif Ys Y.T kk tk.d&&(kk.agg==kv.isAgg) then k (S.set id (.map kk v (Ip key xs))) else none
    | _,_=>none
   | _,_=>none
  | _,_,_=>none
 | .buildSlice t (m+1) ⟨ps⟩,some d=>match Qe Y.T t with
  | some te=>match Yi te.d with
   | some e=>match Qe Y.T e,Yy S.flat [] ps with
    | some ee,some vs=>match Qky vs 0 with
     | some c=>bif okW n S d&&okB S d&&V1 d c&&Nat.beq vs.length (m+1)&&Nat.beq ee.size 1&&Nat.beq (Qh ee.z).length 1&&Nat.ble (m+1) 16777216 then k ((S.born d (.var e (.ag c))).put d [] (.w d 0 ((m+1:Nat):Int))) else none
     | none=>none
    | _,_=>none
   | none=>none
  | none=>none
 | .slice t x none hi none,some d=>match Qe Y.T t,S.ev [] x with
  | some te,some (.s id)=>match Yi te.d,Qb S.mem id with
   | some e,some (.row e' u xs)=>match Qe Y.T e,bnd S.flat [] xs.length hi with
    | some ee,some q=>bif okW n S d&&okB ⟨S.env,S.fix,J3 S.mem id,S.fixM,S.prot⟩ d&&Nat.beq ee.size u.size&&Nat.beq e e' then
      (slc xs 0 q).bind fun ys=>k (({ S with mem:=J3 S.mem id }.born d (.row e u ys)).put d [] (.s d)) else none
    | _,_=>none
   | _,_=>none
  | _,_=>none
 | .slice t x none (some hi) (some mx),some d=>match Qe Y.T t,S.ev [] x,S.ev [] hi,S.ev [] mx with
  | some te,some (.s id),some hv,some mv=>match Yi te.d,Qb S.mem id,Za hv,Za mv with
   | some e,some (.row e' u xs),some (_,q),some (_,m)=>match Qe Y.T e with
    | some ee=>bif okW n S d&&okB ⟨S.env,S.fix,J3 S.mem id,S.fixM,S.prot⟩ d&&Nat.beq ee.size u.size&&Nat.beq e e' then
      (chk (decide (q≤m)&&decide (m≤(xs.length:Int)))).bind fun _=>(slc xs 0 q).bind fun ys=>k (({ S with mem:=J3 S.mem id }.born d (.row e u ys)).put d [] (.s d)) else none
    | _=>none
   | _,_,_,_=>none
  | _,_,_,_=>none
 | _,_=>none
def Mk (o:Oper) (S:XS) (k:XS→Option R):Option R:=match Qts Y o S with
 | 0=>Lm Y n o S k
 | _+1=>Ta Y n o S k
def Ow:Value→Bool
 | .map none=>true
 | _=>false
def C8 (o:Oper) (S:XS) (k:XS→Option R):Option R:=match o.op,o.dst with
 | .buildSlice t (m+1) ⟨ps⟩,some d=>match Qe Y.T t with
  | some te=>match Yi te.d with
   | some e=>match Qe Y.T e,Jo Y.tys e,Yy S.flat [] ps with
    | some ee,some u,some vs=>match asLs S.flat.mem u vs 0 with
     | some xs=>bif okW n S d&&okB S d&&Nat.beq ee.size u.size&&Nat.beq xs.length (m+1)&&Nat.ble ((m+1)*ee.size) 16777216&&Nat.ble 1 ee.size&&Nat.beq (Qh ee.z).length ee.size then k ((S.born d (.row e u xs)).put d [] (.s d)) else none
     | none=>none
    | _,_,_=>none
   | none=>none
  | none=>none
 | .makeMap t rs,some d=>match Qe Y.T t with
  | some te=>match te.d with
   | .map kt _=>match Jo Y.tys kt with
    | some kk=>bif okW n S d&&okB S d&&isNone rs then k ((S.born d (.mapO kk [] none)).put d [] (.m d)) else none
    | none=>none
   | _=>none
  | none=>none
 | .mapUpdate t m ky x,none=>match Qe Y.T t,S.ev [] m,S.ev [] ky,S.ev [] x with
  | some te,some (.m id),some kv,some (.m j)=>match te.d,Qb S.mem id with
   | .map kt _,some (.mapO kk xs _)=>match Qe Y.T kt,asD [] kv kk with
    | some tk,some key=>bif Ys Y.T kk tk.d&&(kk.agg==kv.isAgg) then k (S.set id (.mapO kk (Yx key () xs) (some (key,j)))) else none
    | _,_=>none
   | _,_=>none
  | _,_,_,_=>none
 | .mapEntry t m ky,some d=>match Qe Y.T t,S.ev [] m,S.ev [] ky with
  | some te,some (.m id),some kv=>match te.d,Qb S.mem id with
   | .map kt et,some (.map kk v xs)=>match Qe Y.T kt,Qe Y.T et,asD [] kv kk with
    | some tk,some tz,some key=>match Xr v tz.z with
     | some za=>match asD [] za v with
      | some z=>bif okW n S d&&okB S d&&Ys Y.T kk tk.d&&(kk.agg==kv.isAgg)&&(v.agg==By tz.z) then
        k ((XS.mk (Y6 d S.env) S.fix (Ht S.mem id (.mapE kk v (Yx key ((Qx key xs).getD z) xs) key d)) S.fixM S.prot).put d [] (.tp (.cons (.d v ((Qx key xs).getD z)) (.cons (.b d) .nil)))) else none
      | none=>none
     | none=>none
    | _,_,_=>none
   | _,_=>none
  | _,_,_=>none
 | .entryStore t m st x,none=>match S.ev [] m,S.ev [] st,S.ev [] x with
  | some (.m id),some (.b j),some xv=>match Qb S.mem id with
   | some (.mapE kk v xs key j')=>match Qe Y.T t with
    | some te=>match te.d with
     | .map kt et=>match Qe Y.T kt,asD S.flat.mem xv v with
      | some tk,some y=>bif Nat.beq j j'&&Ys Y.T kk tk.d&&(v.agg==xv.isAgg) then k (S.set id (.map kk v (Yx key y xs))) else none
      | _,_=>none
     | _=>none
    | none=>none
   | _=>none
  | _,_,_=>none
 | .lookup t m ky false,some d=>match Qe Y.T t,S.ev [] ky with
  | some te,some kv=>match te.d with
   | .map kt et=>match Qe Y.T kt,Qe Y.T et,S.ev [] m with
    | some tk,some tz,some (.m id)=>match Qb S.flat.mem id with
     | some (.mapO kk xs last)=>match asD [] kv kk with
      | some key=>bif okW n S d&&Ys Y.T kk tk.d&&(kk.agg==kv.isAgg)&&Ow tz.z then (match last with
       | some q=>(chk (eqK kk key q.1)).bind fun _=>k (S.put d [] (.m q.2))
       | none=>(chk (isNone (Qx key xs))).bind fun _=>k (S.put d [] .nm)) else none
      | none=>none
     | _=>none
    | some tk,some tz,some .nm=>match Jo Y.tys kt,Jo Y.tys et with
     | some kk,some v=>match asD [] kv kk,Xr v tz.z with
      | some key,some za=>match asD [] za v with
       | some z=>bif okW n S d&&Ys Y.T kk tk.d&&(kk.agg==kv.isAgg)&&(v.agg==By tz.z) then k (S.put d [] (.d v z)) else none
       | none=>none
      | _,_=>none
     | _,_=>none
    | _,_,_=>none
   | _=>none
  | _,_=>none
 | _,_=>none
def Zb (c:Con) (o:Oper) (S:XS) (k:XS→Option R):Option R :=
 match o.op,o.dst with
 | .call ⟨.value x,⟨xs⟩,_⟩,some d=>match S.ev [] x with
  | some (.f f caps)=>bif Nat.beq c.f f&&okW n S d then (match Qcj S xs 0,Qo5 caps xs.length with
   | some es0,some cs=>callE c d S (es0++cs) (Q38 c.Γ ⟨es0++cs,S.mem++S.fixM⟩) k
   | _,_=>none) else none
  | _=>none
 | _,_=>none
where
 callE (c:Con) (d:Nat) (S:XS) (es:List En) (ri:List (Nat×Nat)) (k:XS→Option R):Option R :=
  match Qkx c.Γ ri [] es (frz c.Γ ri es S.mem++S.fixM) [] with
  | some x=>bif Ll c.Γ.mem&&Nat.beq es.length c.Γ.env.length&&Kv (Ym S.mem) (Yg ri (wrG c.ro c.Γ.mem))&&S7 ri (frz c.Γ ri es S.mem++S.fixM) (rdG c.ro c.Γ.mem) then
   (c.fn x).bind fun y=>callR c d S ri (Je (frz c.Γ ri es S.mem) (Yg ri (wrG c.ro c.Γ.mem))).1 (enc c.Δ y) (roM c x) k else none
  | none=>none
 callR (c:Con) (d:Nat) (S:XS) (ri:List (Nat×Nat)) (M:List (Nat×Ob)) (S1:St) (RO:List (Nat×Ob)) (k:XS→Option R):Option R :=
  bif Qip ri d (c.Γ.mem.map Prod.fst) S M (S1.mem.map Prod.fst)&&Wp ((S1.mem++RO).map fun q=>Jt ri d q.1)&&Kv ((S1.mem++RO).map Prod.fst) (Eh S1.env)&&Kv ((S1.mem++RO).map Prod.fst) (Q3 (S1.mem++RO)) then
   k (XS.put ⟨S.env,S.fix,Zq (Jt ri d) S1.mem++M,S.fixM,S.prot⟩ d [] (Z5 (Jt ri d) (Es S1.env))) else none
def Iq (t:Nat) (want:Bool) (o:Oper) (S:XS) (k:XS→Option R):Option R :=
 match Zo S.flat.env t,o.dst with
 | some ⟨_,cs,.d .bool _⟩,some d=>bif okW n S d&&!Nat.beq t d&&!Fq d cs then (match Im Y S.flat ((t,want)::cs) o.op with
   | some v=>k (S.put d ((t,want)::cs) v)
   | none=>none) else none
 | _,_=>none
def Ir (ops:List Oper) (o:Oper) (S:XS) (k:XS→Option R):Option R:=match C3 ops o with
 | some none=>Mk Y n o S k
 | some (some (t,want))=>Iq Y n t want o S k
 | none=>none
def B2 (o:Oper) (S:XS) (k:XS→Option R):Option R:=match o.dst with
 | some d=>bif okW n S d then k (S.put d [] (.tp .nil)) else none
 | none=>k S
def stepL (ops:List Oper) (o:Oper) (S:XS) (k:XS→Option R):Option R:=match C3 ops o with
 | some none=>Mk Y n o S k
 | some (some (t,want))=>match Zo S.flat.env t with
  | some ⟨_,[],.d .bool b⟩=>match b==want with
   | true=>Mk Y n o S k
   | false=>B2 n o S k
  | some ⟨_,[],.tp .nil⟩=>B2 n o S k
  | _=>none
 | none=>none
def Nc (st:Oper→XS→(XS→Option R)→Option R):List Oper→XS→(XS→Option R)→Option R
 | [],S,k=>k S
 | o::l,S,k=>st o S fun S'=>Nc st l S' k
end
def Y7 (Y:TX) (K:List Con) (n:Nat) (ops:List Oper) {R:Type}:Hn→List Oper→XS→(XS→Option R)→Option R
 | .done,l,S,k=>match l with
  | []=>k S
  | _::_=>none
 | .n m r,l,S,k=>Nc (Ir Y n ops) (l.take m) S fun S'=>Y7 Y K n ops r (l.drop m) S' k
 | .nl m r,l,S,k=>Nc (stepL Y n ops) (l.take m) S fun S'=>Y7 Y K n ops r (l.drop m) S' k
 | .call c r,l,S,k=>match K[c]?,l with
  | some con,o::l'=>match C3 ops o with
   | some none=>Zb n con o S fun S'=>Y7 Y K n ops r l' S' k
   | some (some (t,want))=>match Zo S.flat.env t with
    | some ⟨_,[],.d .bool b⟩=>match b==want with
     | true=>Zb n con o S fun S'=>Y7 Y K n ops r l' S' k
     | false=>none
    | _=>none
   | none=>none
  | _,_=>none
 | .br r,l,S,k=>match l with
  | o::l'=>match C3 ops o with
   | some none=>C8 Y n o S fun S'=>Y7 Y K n ops r l' S' k
   | some (some (t,want))=>match Zo S.flat.env t with
    | some ⟨_,[],.d .bool b⟩=>match b==want with
     | true=>C8 Y n o S fun S'=>Y7 Y K n ops r l' S' k
     | false=>none
    | _=>none
   | none=>none
  | []=>none
 | .fz id r,l,S,k=>Y7 Y K n ops r l { S with mem:=Va [id] S.mem } k
 | .keep ts r,l,S,k=>Y7 Y K n ops r l { S with env:=Nb S.env ts } k
 | .si t i a b,l,S,k=>match Zo S.env t with
  | some ⟨_,[],.d (.int kd) v⟩=>bif G2 t S.fix then (if v=i then Y7 Y K n ops a l (S.put t [] (.d (.int kd) i)) k else Y7 Y K n ops b l S k) else none
  | _=>none
 | .mt id path e r,l,S,k=>match Qb S.mem id with
  | some (.map kk v [])=>match M8 v path with
   | some ⟨u,_⟩=>bif E7 S id then Y7 Y K n ops r l (S.swap id (.mapT kk v path e u [] none)) k else none
   | none=>none
  | _=>none
 | .op src id d r,l,S,k=>match Qb S.mem id with
  | some (.mapT kk v path e u xs none)=>match M8 v path,Q9l S src with
   | some ⟨u1,f⟩,some av=>match asD S.flat.mem av kk with
    | some key=>bif Ah kk&&E7 S id&&okB S d then Y7 Y K n ops r l ((S.swap id (.mapT kk v path e u xs (some (key,d)))).born d (.tail e u1 (Qf5 f (Qx key xs)))) k else none
    | none=>none
   | _,_=>none
  | _=>none
 | .fm id r,l,S,k=>match Qb S.mem id with
  | some (.mapT kk v _ _ _ xs none)=>Y7 Y K n ops r l (S.swap id (.map kk v xs)) k
  | _=>none
 | .sp t m ks ms Γ a b r,l,S,k=>match Zo S.env t with
  | some ⟨_,[],.d .bool v⟩=>bif G2 t S.fix then
    (if v=true then Y7 Y K n ops (R:=Γ.De) a (l.take m) ((XS.put S t [] (.d .bool true)).ent ks ms) (fun S'=>S'.dec Γ)
     else Y7 Y K n ops (R:=Γ.De) b (l.take m) ((XS.put S t [] (.d .bool false)).ent ks ms) (fun S'=>S'.dec Γ)).bind
     fun y=>Y7 Y K n ops r (l.drop m) (XS.out (XS.put S t [] (.d .bool v)) ks ms (enc Γ y)) k else none
  | _=>none
 | _,_,_,_=>none
section
variable {R:Type} (Y:TX) (n:Nat)
def Qcl (o:Oper) (S:XS) (k:XS→Option R):Option R:=match o.dst with
 | some d=>bif okW n S d then A8 Y S.flat [] o.op fun v=>k (S.put d [] v) else none
 | none=>none
def Qas (ops:List Oper) (o:Oper) (S:XS) (k:XS→Option R):Option R:=match C3 ops o with
 | some none=>Qcl Y n o S k
 | some (some (t,want))=>Iq Y n t want o S k
 | none=>none
def Qat (ops:List Oper) (o:Oper) (S:XS) (k:XS→Option R):Option R:=match C3 ops o with
 | some none=>Qcl Y n o S k
 | some (some (t,want))=>match Zo S.flat.env t with
  | some ⟨_,[],.d .bool b⟩=>match b==want with
   | true=>Qcl Y n o S k
   | false=>B2 n o S k
  | some ⟨_,[],.tp .nil⟩=>B2 n o S k
  | _=>none
 | none=>none
end
def Hz (Y:TX) (n:Nat) (ops:List Oper) {R:Type}:Hn→List Oper→XS→(XS→Option R)→Option R
 | .done,l,S,k=>match l with
  | []=>k S
  | _::_=>none
 | .n m r,l,S,k=>Nc (Qas Y n ops) (l.take m) S fun S'=>Hz Y n ops r (l.drop m) S' k
 | .nl m r,l,S,k=>Nc (Qat Y n ops) (l.take m) S fun S'=>Hz Y n ops r (l.drop m) S' k
 | .sp t m ks ms Γ a b r,l,S,k=>match Zo S.env t with
  | some ⟨_,[],.d .bool v⟩=>bif G2 t S.fix then
    (if v=true then Hz Y n ops (R:=Γ.De) a (l.take m) ((XS.put S t [] (.d .bool true)).ent ks ms) (fun S'=>S'.dec Γ)
     else Hz Y n ops (R:=Γ.De) b (l.take m) ((XS.put S t [] (.d .bool false)).ent ks ms) (fun S'=>S'.dec Γ)).bind
     fun y=>Hz Y n ops r (l.drop m) (XS.out (XS.put S t [] (.d .bool v)) ks ms (enc Γ y)) k else none
  | _=>none
 | _,_,_,_=>none
inductive Gk where
 | v
 | r (u:Ty) (e:TypeId) (zs:List u.De) (c:Nat)
 | c
 | u
 | t (u:Ty) (e:TypeId) (zs:List u.De) (h:Nat)
 | o (t:TypeId) (c:AV)
 | b (ns:List Nat)
 | w (id:Nat) (ob:Ob)
abbrev Got:=List (Nat×AV×Gk)
def A9:Got→Nat→Option AV
 | [],_=>none
 | (d,v,.v)::l,t=>bif Nat.beq d t then some v else A9 l t
 | (d,_,_)::l,t=>bif Nat.beq d t then none else A9 l t
def Wq:Got→Nat→Bool
 | [],_=>false
 | (d,_,.r _ _ _ _)::l,t=>Nat.beq d t||Wq l t
 | _::l,t=>Wq l t
def B3:Got→Nat→Bool
 | [],_=>false
 | (d,_,.o _ _)::l,t=>Nat.beq d t||B3 l t
 | _::l,t=>B3 l t
def Co:Got→Nat→Bool
 | [],_=>false
 | (d,_,.u)::l,t=>Nat.beq d t||Co l t
 | (d,_,_)::l,t=>bif Nat.beq d t then false else Co l t
def Qo7 (l0:List Oper) (ds:List Nat) (i:Nat) (acc:Got):Op→Option Nat
 | .move (.tmp t)=>bif Wq acc t&&Ku l0 i (ds.idxOf t) then some t else none
 | .assign (.tmp t)=>bif Wq acc t&&Ku l0 i (ds.idxOf t) then some t else none
 | _=>none
def E8 (o:Oper):List Nat:=o.op.operands.toList.filterMap fun x=>match x with
 | .tmp t=>some t
 | _=>none
def Qcm:List En→List En
 | []=>[]
 | e::l=>bif Nat.blt e.t 100000 then Qcm l else (match e.cs with
  | []=>e::Qcm l
  | _::_=>Qcm l)
def Qau (l0:List Oper) (ds:List Nat) (i:Nat) (acc:Got) (env:List En):List Nat→List En
 | []=>Qcm env
 | t::ts=>match A9 acc t with
  | some v=>bif Ku l0 i (ds.idxOf t) then ⟨t,[],v⟩::Qau l0 ds i acc env ts else Qau l0 ds i acc env ts
  | none=>bif Hp ds t then (match Zo env t with
   | some ⟨t',[],v⟩=>⟨t',[],v⟩::Qau l0 ds i acc env ts
   | _=>Qau l0 ds i acc env ts) else Qau l0 ds i acc env ts
def Wr (ds:List Nat):AV→Bool:=fun x=>ds.all fun d=>V1 d x
def Oy (l0:List Oper) (ds:List Nat) (i:Nat) (acc:Got) (o:Oper):Option Bool:=match C3 l0 o with
 | none=>none
 | some none=>some true
 | some (some (t,want))=>bif Ku l0 i (ds.idxOf t) then (match A9 acc t with
  | some (.d .bool b)=>some (b==want)
  | some _=>none
  | none=>bif Co acc t then some false else none) else none
def Qo8 (S:St):List Operand→Nat→Option (List En)
 | [],_=>some []
 | x::l,i=>match ev S [] x,Qo8 S l (i+1) with
  | some v,some r=>bif Nat.blt i 100000 then some (⟨i,[],v⟩::r) else none
  | _,_=>none
def Gt {α:Type}:List α→Bool
 | []=>true
 | _=>false
def Qo9 {R:Type} (c:Con) (op:Op) (S:St) (k:AV→Option R):Option R:=match op with
 | .call ⟨.value (.func f),⟨xs⟩,_⟩=>bif Nat.beq c.f f&&Gt c.Γ.mem&&Gt c.Δ.mem then (match Qo8 S xs 0 with
  | some es=>bif Nat.beq es.length c.Γ.env.length then (match Qkx c.Γ [] [] es S.mem [] with
   | some x=>(c.fn x).bind fun y=>bif Gt (Eh (enc c.Δ y).env) then k (Es (enc c.Δ y).env) else none
   | none=>none) else none
  | none=>none) else none
 | _=>none
def H0 (id d:Nat):Gk→Option Ob→Option Ob
 | .r u e zs _,c=>bif Nat.beq d id then some (.row e u zs) else c
 | .t u e zs h,c=>bif Nat.beq d id then some (.tail e u zs) else (bif Nat.beq h id then none else c)
 | .o t x,c=>bif Nat.beq d id then some (.var t x) else c
 | .w j ob,c=>bif Nat.beq j id then some ob else c
 | _,c=>c
def J4 (id d:Nat):Gk→Bool
 | .r _ _ _ _=>Nat.beq d id
 | .t _ _ _ h=>Nat.beq d id||Nat.beq h id
 | .o _ _=>Nat.beq d id
 | .w j _=>Nat.beq j id
 | _=>false
def Uy (E:Nat→Bool) (id:Nat):Got→Nat→Option Ob→Option Ob
 | [],_,c=>c
 | (d,_,q)::l,j,c=>Uy E id l (j+1) (bif E j then H0 id d q c else c)
def Us:Nat→Bool:=fun _=>true
def Nd (l0:List Oper) (i id:Nat):Got→Nat→Bool
 | [],_=>true
 | (d,_,q)::l,j=>(!J4 id d q||Zj l0 l0.length i j)&&Nd l0 i id l (j+1)
def G7 (id:Nat):Got→Bool
 | []=>true
 | (d,_,q)::l=>!J4 id d q&&G7 id l
def Qpa (o:Oper):Bool:=match o.dst with
 | none=>true
 | some _=>match o.op with
  | .call ⟨.builtin .append,_,_⟩=>true
  | _=>false
def Qiq (l0:List Oper) (p i:Nat):Bool:=(List.range p).all fun k=>Nat.ble k i||(match l0[k]? with
 | some o=>!Qpa o
 | none=>false)||Zj l0 l0.length k i
def Qpb (l0:List Oper) (p i:Nat) (acc:Got) (Zs:List (Nat×Ob)):List (Nat×Ob):=match Zs with
 | []=>[]
 | _=>bif Qiq l0 p i then Zs.filterMap fun q=>bif Nd l0 i q.1 acc 0 then (match Uy Us q.1 acc 0 (Qb Zs q.1) with
  | some ob=>some (q.1,ob)
  | none=>none) else none else []
section
variable {R:Type} (Y:TX) (n:Nat) (l0:List Oper) (ds:List Nat) (Zs:List (Nat×Ob)) (S0:XS)
def Ba (i:Nat) (acc:Got) (o:Oper):St:=⟨Qau l0 ds i acc S0.flat.env (E8 o),S0.flat.mem++Qpb l0 ds.length i acc Zs⟩
def Qkz (i:Nat) (acc:Got) (id:Nat):Option Ob:=bif Nd l0 i id acc 0 then Uy Us id acc 0 (Qb Zs id) else none
def Qtt (i:Nat) (acc:Got) (id:Nat):Option Ob:=bif Zk (Qb Zs id) then Qkz l0 Zs i acc id else none
def okZ (d:Nat) (acc:Got):Bool:=okB S0 d&&Qv d Zs&&G7 d acc
def Qpc (S:St) (op:Op) (k:(u:Ty)→TypeId→List u.De→Nat→Option R):Option R:=match op with
 | .makeSlice t lo co=>match Qe Y.T t,ev S [] lo,ev S [] co with
  | some te,some lv,some cv=>match Yi te.d,Za lv,Za cv with
   | some e,some (_,nl),some (_,nc)=>match Qe Y.T e,Jo Y.tys e with
    | some ee,some u=>match Xr u ee.z with
     | some za=>match asD [] za u with
      | some z=>bif Nat.beq ee.size u.size&&Nat.beq (Qh ee.z).length ee.size&&Nat.ble 1 ee.bytes then (mkL ee.bytes nl nc z).bind fun zs=>k u e zs nc.toNat else none
      | none=>none
     | none=>none
    | _,_=>none
   | _,_,_=>none
  | _,_,_=>none
 | _=>none
def Q41 (S:St) (op:Op) (k:AV→Option R):Option R:=match op with
 | .buildSlice t (m+1) ⟨ps⟩=>match Qe Y.T t with
  | some te=>match Yi te.d with
   | some e=>match Qe Y.T e,Jo Y.tys e with
    | some ee,some u=>match Yy S [] ps with
     | some vs=>match asLs S.mem u vs 0 with
      | some xs=>bif Nat.beq ee.size u.size&&Nat.beq xs.length (m+1)&&Nat.ble ((m+1)*ee.size) 16777216&&Nat.ble 1 ee.size&&Nat.beq (Qh ee.z).length ee.size then k (.d (.sl u) xs) else none
      | none=>none
     | none=>none
    | _,_=>none
   | none=>none
  | none=>none
 | _=>none
def Q42 (C:Nat→Option Ob) (S:St) (op:Op) (k:(u:Ty)→TypeId→List u.De→Nat→Option R):Option R:=match op with
 | .call ⟨.builtin .append,⟨[s,x]⟩,⟨[t,t']⟩⟩=>match Qe Y.T t,ev S [] s,ev S [] x with
  | some te,some (.s id),some xv=>match C id with
   | some (.tail e' u xs)=>match Yi te.d with
    | some e=>match Qe Y.T e,asD S.mem xv (.sl u) with
     | some ee,some ys=>bif Nat.beq t t'&&Nat.ble 1 ee.size&&Nat.ble 1 ee.bytes&&Nat.beq (Qh ee.z).length ee.size&&Nat.beq ee.size u.size&&Nat.beq e e'&&!Gt ys then (app ee.bytes xs ys).bind fun zs=>k u e zs id else none
     | _,_=>none
    | none=>none
   | _=>none
  | _,_,_=>none
 | _=>none
def Q9m (S:St):Op→Bool
 | .call ⟨.builtin .append,⟨[s,_]⟩,_⟩=>match ev S [] s with
  | some .ns=>true
  | _=>false
 | _=>false
def Q43 (S:St) (op:Op) (k:(u:Ty)→TypeId→List u.De→Nat→Option R):Option R:=match op with
 | .call ⟨.builtin .append,⟨[s,x]⟩,⟨[t,t']⟩⟩=>match Qe Y.T t,ev S [] s,ev S [] x with
  | some te,some .ns,some xv=>match Yi te.d with
   | some e=>match Qe Y.T e,Jo Y.tys e with
    | some ee,some u=>match asD S.mem xv (.sl u) with
     | some ys=>bif Nat.beq t t'&&Nat.ble 1 ee.size&&Nat.ble 1 ee.bytes&&Nat.beq (Qh ee.z).length ee.size&&Nat.beq ee.size u.size then (app ee.bytes [] ys).bind fun zs=>k u e zs 0 else none
     | none=>none
    | _,_=>none
   | none=>none
  | _,_,_=>none
 | _=>none
def Qf7 (op:Op) (k:TypeId→AV→Option R):Option R:=match op with
 | .alloc t=>match Qe Y.T t,Jo Y.tys t with
  | some e,some ty=>match Xr ty e.z with
   | some c=>bif c.isVal&&Gt (Q2 c) then k t c else none
   | none=>none
  | _,_=>none
 | _=>none
def C9 (acc:Got):List Nat→List Nat
 | []=>[]
 | t::ts=>bif Wq acc t then t::C9 acc ts else C9 acc ts
def Qav (l0:List Oper) (ds:List Nat) (i:Nat):List Nat→Bool
 | []=>true
 | t::ts=>Ku l0 i (ds.idxOf t)&&Qav l0 ds i ts
def Qpd (ds:List Nat):List En→List En
 | []=>[]
 | e::l=>bif Wr ds e.av then e::Qpd ds l else Qpd ds l
def Q44 (ns:List Nat) (S:St):St:=⟨ns.map (fun t=>⟨t,[],.s t⟩)++Qpd ds S.env,[]⟩
inductive Kd where
 | mk | lit | q | ap | al | bd
def Jbs:Op→Kd
 | .makeSlice _ _ _=>.mk
 | .buildSlice _ _ _=>.lit
 | .call ⟨.builtin .append,_,_⟩=>.ap
 | .alloc _=>.al
 | .build _ _=>.bd
 | _=>.q
def Qaw (S:St) (i:Nat) (acc:Got) (p:Operand):Option (Bool×Bool×Nat×List PS):=match ev S [] p with
 | some (.p id path)=>some (true,false,id,path)
 | some (.e id path)=>some (true,true,id,path)
 | some _=>none
 | none=>match p with
  | .tmp t=>bif B3 acc t&&Ku l0 i (ds.idxOf t) then some (false,false,t,[]) else none
  | _=>none
def Qf8 (S:St) (i:Nat) (acc:Got) (op:Op) (k:Nat→Ob→Option R):Option R:=match op with
 | .store t p x=>match Qe Y.T t,Qaw l0 ds S i acc p,ev S [] x with
  | some e,some (b,el,id,path),some v=>bif Nat.beq e.size v.size&&v.isVal&&v.inMem then (match Qkz l0 Zs i acc id,path with
   | some (.row et u xs),.i j sz::ps=>(idx xs j).bind fun y=>match Be ps (.d u y) v with
    | some c=>match asD S.mem c u with
     | some z=>bif b&&el&&Nat.beq sz u.size&&Nat.ble 1 u.size&&Zk (Qb Zs id) then k id (.row et u (xs.set j.toNat z)) else none
     | none=>none
    | none=>none
   | some (.var tid c),path=>match Be path c v with
    | some c'=>bif Wr ds c'&&!el&&(!b||Zk (Qb Zs id)) then k id (.var tid c') else none
    | none=>none
   | _,_=>none) else none
  | _,_,_=>none
 | _=>none
def Qpe (o:Oper) (i:Nat) (acc:Got) (k:Nat×AV×Gk→Option R):Option R:=match o.dst with
 | none=>bif Nat.beq (ds.getD i 0) (1000000000+i) then (match Oy l0 ds i acc o with
  | some true=>Qf8 Y l0 ds Zs (Ba l0 ds Zs S0 i acc o) i acc o.op fun id ob=>k (1000000000+i,.tp .nil,.w id ob)
  | _=>none) else none
 | some d=>bif okW n S0 d&&Nat.beq (ds.getD i 0) d then (match Oy l0 ds i acc o with
  | some false=>k (d,.tp .nil,.u)
  | some true=>match Qo7 l0 ds i acc o.op with
   | some t=>k (d,.s t,.c)
   | none=>match Jbs o.op with
    | .mk=>Qpc Y (Ba l0 ds Zs S0 i acc o) o.op fun u e zs c=>bif okZ Zs S0 d acc then k (d,.s d,.r u e zs c) else none
    | .lit=>Q41 Y (Ba l0 ds Zs S0 i acc o) o.op fun v=>k (d,v,.v)
    | .ap=>bif Q9m (Ba l0 ds Zs S0 i acc o) o.op then Q43 Y (Ba l0 ds Zs S0 i acc o) o.op fun u e zs c=>bif okZ Zs S0 d acc then k (d,.s d,.r u e zs c) else none
     else Q42 Y (Qtt l0 Zs i acc) (Ba l0 ds Zs S0 i acc o) o.op fun u e zs h=>bif okZ Zs S0 d acc then k (d,.s d,.t u e zs h) else none
    | .al=>Qf7 Y o.op fun t c=>bif okZ Zs S0 d acc then k (d,.p d [],.o t c) else none
    | .bd=>bif Gt (C9 acc (E8 o)) then A8 Y (Ba l0 ds Zs S0 i acc o) [] o.op fun v=>bif Wr ds v then k (d,v,.v) else none
     else bif Qav l0 ds i (C9 acc (E8 o)) then A8 Y (Q44 ds (C9 acc (E8 o)) (Ba l0 ds Zs S0 i acc o)) [] o.op fun v=>bif (Q2 v).all (fun j=>Hp ds j||J9 (C9 acc (E8 o)) j) then k (d,v,.b (C9 acc (E8 o))) else none
      else none
    | .q=>A8 Y (Ba l0 ds Zs S0 i acc o) [] o.op fun v=>bif Wr ds v then k (d,v,.v) else none
  | none=>none) else none
def Qcn:Nat→List Oper→Nat→Got→(List Oper→Nat→Got→Option R)→Option R
 | 0,l,i,acc,k=>k l i acc
 | _+1,[],_,_,_=>none
 | m+1,o::l,i,acc,k=>Qpe Y n l0 ds Zs S0 o i acc fun g=>Qcn m l (i+1) (acc++[g]) k
def Qpf:Got→Nat→Bool→Got
 | [],_,_=>[]
 | (d,v,q)::l,t,b=>bif Nat.beq d t then (d,.d .bool b,q)::l else (d,v,q)::Qpf l t b
def Fu (K:List Con):Hn→List Oper→Nat→Got→(Hn→Got→Option R)→Option R
 | .tl h,l,i,acc,k=>match l with
  | []=>k h acc
  | _::_=>none
 | .n m r,l,i,acc,k=>Qcn Y n l0 ds Zs S0 m l i acc fun l' i' acc'=>Fu K r l' i' acc' k
 | .call c r,l,i,acc,k=>match K[c]?,l with
  | some con,o::l'=>match o.dst with
   | some d=>bif okW n S0 d&&Nat.beq (ds.getD i 0) d then (match Oy l0 ds i acc o with
    | some true=>Qo9 con o.op (Ba l0 ds Zs S0 i acc o) fun v=>Fu K r l' (i+1) (acc++[(d,v,.v)]) k
    | _=>none) else none
   | none=>none
  | _,_=>none
 | .so t a b,l,i,acc,k=>match A9 acc t with
  | some (.d .bool v)=>if v=true then Fu K a l i (Qpf acc t true) k else Fu K b l i (Qpf acc t false) k
  | _=>none
 | _,_,_,_,_=>none
end
def Qk0:Got→List En
 | []=>[]
 | (_,_,.w _ _)::l=>Qk0 l
 | (d,v,_)::l=>⟨d,[],v⟩::Qk0 l
def Jm:Got→List Nat
 | []=>[]
 | (d,_,.r _ _ _ _)::l=>d::Jm l
 | (_,_,.v)::l=>Jm l
 | (_,_,.c)::l=>Jm l
 | (_,_,.u)::l=>Jm l
 | (_,_,.b _)::l=>Jm l
 | (d,_,.t _ _ _ _)::l=>d::Jm l
 | (d,_,.o _ _)::l=>d::Jm l
 | (_,_,.w _ _)::l=>Jm l
def Qtu (Zs:List (Nat×Ob)) (acc:Got):List (Nat×Ob):=(Ym Zs++Jm acc).filterMap fun id=>match Uy Us id acc 0 (Qb Zs id) with
 | some ob=>some (id,ob)
 | none=>none
def Da (env:List En):List Nat→List En
 | []=>env
 | d::ds=>Da (Jx (Y6 d env) d) ds
def R9 (S0:XS) (ds:List Nat) (Zs:List (Nat×Ob)) (acc:Got):XS:=⟨Qk0 acc++Da S0.env ds,S0.fix,Qtu Zs acc++S0.mem,S0.fixM,S0.prot⟩
def Qtv (l:List Oper) (p:Nat):Bool:=(List.range l.length).all fun k=>Nat.blt k p||(List.range k).all fun i=>Zj l l.length k i
def O4 (l:List Oper) (p:Nat) (ds:List Nat):Bool:=Nat.ble p l.length&&Nat.beq ds.length p&&backB l&&Qtv l p&&N6 ds
def Qpg (l:List Oper) (n:Nat):Bool:=bif Nat.blt n l.length then Region.lexTailB .any l.toArray n else Nat.beq n l.length&&Region.lexB .any l.toArray
def Vu:List (Nat×Ob)→Bool
 | []=>true
 | (_,.tail _ _ _)::_=>false
 | (_,.mapT _ _ _ _ _ _ _)::_=>false
 | _::l=>Vu l
structure EC where
 d:Nat
 av:AV
 has:Bool
 ups:List (Nat×Option Ob)
def Mm:List (Nat×Option Ob)→Nat→Option (Option Ob)
 | [],_=>none
 | (k,x)::l,id=>bif Nat.beq k id then some x else Mm l id
def upC (id:Nat) (e:EC) (c:Option Ob):Option Ob:=match Mm e.ups id with
 | some x=>x
 | none=>c
def Y0 (E:Nat→Bool) (id:Nat):List EC→Nat→Option Ob→Option Ob
 | [],_,c=>c
 | e::l,j,c=>Y0 E id l (j+1) (bif E j then upC id e c else c)
def U5 (id:Nat) (e:EC):Bool:=Zk (Mm e.ups id)
def Gu (E:Nat→Bool):List EC→Nat→List En
 | [],_=>[]
 | e::l,j=>bif E j&&e.has then ⟨e.d,[],e.av⟩::Gu E l (j+1) else Gu E l (j+1)
def Zc (id:Nat):Option Ob→Option (Nat×Ob)
 | some ob=>some (id,ob)
 | none=>none
def Wd (names:List Nat) (Zs:List (Nat×Ob)) (acc:List EC) (E:Nat→Bool):List (Nat×Ob):=names.filterMap fun id=>Zc id (Y0 E id acc 0 (Qb Zs id))
def HD.wr (h:HD):List Nat:=h.tch++h.bs
def HD.al (h:HD):List Nat:=h.tch++h.ro++h.bs
def Is:List EC→Nat→Option AV
 | [],_=>none
 | g::l,t=>bif Nat.beq g.d t&&g.has then some g.av else Is l t
def O5 (l0:List Oper) (ds:List Nat) (i:Nat) (acc:List EC) (B:List En):List Nat→List En
 | []=>Qcm B
 | t::ts=>match Is acc t with
  | some v=>bif Ku l0 i (ds.idxOf t) then ⟨t,[],v⟩::O5 l0 ds i acc B ts else O5 l0 ds i acc B ts
  | none=>bif Hp ds t then (match Zo B t with
   | some ⟨t',[],v⟩=>⟨t',[],v⟩::O5 l0 ds i acc B ts
   | _=>O5 l0 ds i acc B ts) else O5 l0 ds i acc B ts
def gTs (l0:List Oper) (o:Oper):List Nat:=match C3 l0 o with
 | some (some (t,_))=>[t]
 | _=>[]
def Bb (l m:List Nat):Bool:=l.all fun x=>!J9 m x
def Iu (l0:List Oper) (i j:Nat) (hi hj:HD):Bool:=((Bb hj.wr hi.al&&Bb hj.ro hi.wr)||Zj l0 l0.length i j)&&Bb hi.bs hj.wr
def Q9n (l0:List Oper) (hs:List HD):Bool:=(List.range hs.length).all fun i=>(List.range i).all fun j=>match hs[i]?,hs[j]? with
 | some hi,some hj=>Iu l0 i j hi hj
 | _,_=>true
def nmB (l0:List Oper) (hs:List HD):Bool:=(List.range hs.length).all fun i=>(List.range hs.length).all fun j=>Nat.beq i j||(match hs[i]?,hs[j]? with
 | some hi,some hj=>Bb hi.bs hj.nm||Zj l0 l0.length j i
 | _,_=>true)
def Zr:List HD→List Nat
 | []=>[]
 | h::l=>h.bs++Zr l
def Ws:HT→List Nat
 | .tl _=>[]
 | .op h r=>h.bs++Ws r
 | .so _ a b=>Ws a++Ws b
def Iv (l m:List Nat):List Nat:=l.filter fun x=>!J9 m x
def Db (ids:List Nat) (Zs:List (Nat×Ob)) (acc:List EC):List (Nat×Ob):=ids.filterMap fun id=>Zc id (Y0 Us id acc 0 (Qb Zs id))
def Qco:List EC→Nat→Bool→List EC
 | [],_,_=>[]
 | g::l,t,b=>bif Nat.beq g.d t&&g.has then ⟨g.d,.d .bool b,g.has,g.ups⟩::l else g::Qco l t b
def E9 (M:List (Nat×Ob)):AV→AV
 | .s id=>match Qb M id with
  | some (.tail _ t xs)=>.d (.sl t) xs
  | _=>.s id
 | .ag l=>.ag (E9 M l)
 | .cons x r=>.cons (E9 M x) (E9 M r)
 | x=>x
def Qax (M:List (Nat×Ob)):List Nat→Bool
 | []=>false
 | id::l=>match Qb M id with
  | some (.tail _ _ _)=>true
  | _=>Qax M l
def Qk1 (M:List (Nat×Ob)):List En→List En
 | []=>[]
 | e::l=>bif Qax M (S6 e.av) then ⟨e.t,e.cs,E9 M e.av⟩::Qk1 M l else Qk1 M l
section
variable {R:Type} (Y:TX) (K:List Con) (n:Nat) (l0:List Oper) (ds:List Nat) (Zs:List (Nat×Ob)) (B:List En) (prA:List Nat)
def O6 (hc:HD) (o:Oper) (i:Nat) (acc:List EC):XS:=⟨O5 l0 ds i acc B (E8 o++gTs l0 o),[],Db hc.tch Zs acc,Db hc.ro Zs acc,Iv prA hc.bs⟩
def Ds (hc:HD) (o:Oper) (i:Nat) (acc:List EC) (S1:XS):Option EC :=
 bif Vu (Db hc.tch Zs acc++Db hc.ro Zs acc)&&Kv hc.nm (Q3 S1.mem) then (match o.dst with
  | some d=>match Zo S1.env d with
   | some ⟨_,[],av⟩=>bif Nat.beq (ds.getD i 0) d&&Kv hc.nm (Q2 av)&&Nat.blt d n then some ⟨d,av,true,(hc.tch++hc.bs).map fun id=>(id,Qb S1.mem id)⟩ else none
   | _=>none
  | none=>bif Nat.beq (ds.getD i 0) (1000000000+i) then some ⟨1000000000+i,.tp .nil,false,(hc.tch++hc.bs).map fun id=>(id,Qb S1.mem id)⟩ else none) else none
def O7:HT→List Oper→Nat→List HD→List EC→(Hn→List HD→List EC→Option R)→Option R
 | .tl h,l,_,hs,acc,k=>match l with
  | []=>k h hs acc
  | _::_=>none
 | .op hc r,l,i,hs,acc,k=>match l with
  | o::l'=>Y7 Y K n l0 hc.h [o] (O6 l0 ds Zs B prA hc o i acc) fun S1=>match Ds n ds Zs hc o i acc S1 with
   | some g=>O7 r l' (i+1) (hs++[hc]) (acc++[g]) k
   | none=>none
  | []=>none
 | .so t a b,l,i,hs,acc,k=>match Is acc t with
  | some (.d .bool v)=>if v=true then O7 a l i hs (Qco acc t true) k else O7 b l i hs (Qco acc t false) k
  | _=>none
end
def Qtw (l0:List Oper) (ks:List Nat) (prB prA:List Nat) (hs:List HD):Bool:=Q9n l0 hs&&nmB l0 hs&&Wp (ks++Zr hs)&&Bb prB (Zr hs)&&Kv prA (ks++Zr hs) &&
 hs.all fun hc=>Wp hc.al&&Kv (ks++Zr hs) hc.al&&Kv prA hc.nm
def kfC (zf:List Nat) (hs:List HD):Bool:=hs.all fun hc=>Bb hc.wr zf
def Jbt (S:XS) (ds:List Nat) (Z1 Z2 M1:List (Nat×Ob)) (bsA:List Nat) (hs:List HD) (acc:List EC):XS:=⟨Gu Us acc 0++Da S.env (ds++bsA),S.fix,Wd (Ym Z1++Zr hs) (Z1++Z2) acc Us++M1,S.fixM,S.prot⟩
def Fa {R:Type}:Hn→XS→(XS→Option R)→Option R
 | .done,S,k=>k S
 | .fz id r,S,k=>Fa r { S with mem:=Va [id] S.mem } k
 | .mt id path e r,S,k=>match Qb S.mem id with
  | some (.map kk v [])=>match M8 v path with
   | some ⟨u,_⟩=>bif E7 S id then Fa r (S.swap id (.mapT kk v path e u [] none)) k else none
   | none=>none
  | _=>none
 | .op src id d r,S,k=>match Qb S.mem id with
  | some (.mapT kk v path e u xs none)=>match M8 v path,Q9l S src with
   | some ⟨u1,f⟩,some av=>match asD S.flat.mem av kk with
    | some key=>bif Ah kk&&E7 S id&&okB S d then Fa r ((S.swap id (.mapT kk v path e u xs (some (key,d)))).born d (.tail e u1 (Qf5 f (Qx key xs)))) k else none
    | none=>none
   | _,_=>none
  | _=>none
 | .fm id r,S,k=>match Qb S.mem id with
  | some (.mapT kk v _ _ _ xs none)=>Fa r (S.swap id (.map kk v xs)) k
  | _=>none
 | .dt id r,S,k=>match Qb S.mem id with
  | some (.var tid c)=>Fa r (S.set id (.var tid (E9 S.flat.mem c))) k
  | _=>none
 | _,_,_=>none
def Qph (S:XS) (t i:Nat):Bool:=match Zo S.env t with
 | some ⟨_,[],.d (.int _) v⟩=>match Qks v with
  | some j=>Nat.beq j i
  | none=>false
 | _=>false
def dcR (Y:TX) (K:List Con) (n:Nat) {R:Type} (ops:List Oper) (p:Nat) (ds:List Nat) (Z1 Z2 M1 F1:List (Nat×Ob)) (ht:HT) (S:XS) (B:List En) (prB:List Nat) (k:Hn→XS→Option R):Option R :=
 O7 Y K n ops ds (Z1++Z2) (Qk1 (M1++F1) B++B) (prB++Ym (Z1++Z2)++Ws ht) ht (ops.take p) 0 [] [] fun h hs acc =>
  bif Qtw ops (Ym (Z1++Z2)) prB (prB++Ym (Z1++Z2)++Ws ht) hs&&kfC (Ym Z2) hs then k h (Jbt S ds Z1 Z2 M1 (Ws ht) hs acc) else none
def dcI (Y:TX) (K:List Con) (n:Nat) {R:Type} (ops:List Oper) (p:Nat) (ds:List Nat) (Z1 Z2 M1 F1:List (Nat×Ob)) (ht:HT) (S:XS) (B:List En) (k:Hn→XS→Option R):Option R :=
 dcR Y K n ops p ds Z1 Z2 M1 F1 ht S B (Eh B++Q3 ((Z1++Z2)++(M1++F1))++S.prot) k
def Qf9 (ops:List Oper) (o1 o2 o3:Oper) (mo:Nat):Option (TypeId×Nat×Nat×Nat×Nat):=match ops.getLast?,o1,o2,o3 with
 | some ⟨some it,.range t (.tmp mt),_,_,_,none⟩,⟨some nx,.next (.tmp it1) false,_,_,_,none⟩,⟨some mo1,.extract (.tmp nx1) 0,_,_,_,none⟩,⟨some pr,.entry (.tmp it2),_,_,_,none⟩ =>
  bif Nat.beq it it1&&Nat.beq it it2&&Nat.beq nx nx1&&Nat.beq mo mo1 then some (t,mt,it,nx,pr) else none
 | _,_,_,_=>none
def mpE (S:XS) (ks ms:List Nat) (m:Nat):XS:=XS.ent ⟨S.env,S.fix,S.mem,S.fixM,m::S.prot⟩ ks ms
def mpB (E:XS) (it m:Nat):XS:=⟨[],⟨it,[],.p it []⟩::E.fix,[],J3 E.fixM m,it::E.prot⟩
def Qay (S:XS) (ks ms:List Nat) (nx mo:Nat) (S':St):XS:=S.out ks ms ⟨Jx (Jx S'.env nx) mo,S'.mem⟩
def Q45 (B:XS) (nx mo pr:Nat) (x:AV):XS:=⟨⟨pr,[],x⟩::Jx (Jx (Jx B.env nx) mo) pr,B.fix,B.mem,B.fixM,B.prot⟩
def Nn:List (Nat×SkO)→Bool
 | []=>true
 | (_,.tail _ _)::_=>false
 | (_,.mapT _ _ _ _ _)::_=>false
 | _::l=>Nn l
def Q46:TypeDesc→Bool
 | .map _ _=>true
 | _=>false
def Iw (out:Nat):Ex→Ex
 | .x i=>bif Nat.beq i out then .n else .x i
 | e=>e
def Q9o (n:Nat) (E B0:XS) (x0:St) (tk:TE) (it nx mo pr:Nat) (Γ:Shp):Bool:=Q46 tk.d&&(okW n E it&&G2 it x0.env)&&(B1 it x0.env&&B1 it E.fix)&&(Qv it x0.mem&&Qv it E.fixM&&!J9 E.prot it)&&(okW n B0 nx&&okW n B0 mo&&okW n B0 pr)&&Nn Γ.mem&&Vu B0.fixM&&!Nat.beq mo nx
def No {Γ:Shp} {exs:Exs} (nxt:Nat) (body:XS→(Ex→XS→Option (Γ.De⊕Bf exs))→Option (Γ.De⊕Bf exs)) (B0:XS) (nx mo pr:Nat) (kk vv:Ty) (e:kk.De×vv.De) (s:Γ.De):Option (Γ.De⊕Bf exs) :=
 body (Q45 (B0.re (enc Γ s)) nx mo pr (.tp (.cons (.d kk e.1) (.cons (.d vv e.2) .nil)))) fun e S'=>match Iw nxt e with
  | .n=>(match S'.dec Γ with
   | some s'=>some (.inl s')
   | none=>none)
  | .x i=>(match inj exs (.x i) S' with
   | some x=>some (.inr x)
   | none=>none)
  | .r=>(match inj exs .r S' with
   | some x=>some (.inr x)
   | none=>none)
noncomputable def Qpi {R:Type} (n:Nat) (S1:XS) (m it nx mo pr:Nat) (ks ms:List Nat) (Γ:Shp) (exs:Exs) (out nxt:Nat) (kk vv:Ty) (xs:List (kk.De×vv.De)) (tk:TE)
  (body:XS→(Ex→XS→Option (Γ.De⊕Bf exs))→Option (Γ.De⊕Bf exs)) (k:Ex→XS→Option R):Option R :=
 match (mpE S1 ks ms m).dec Γ with
 | some s0=>bif Q9o n (mpE S1 ks ms m) (mpB (mpE S1 ks ms m) it m) (enc Γ s0) tk it nx mo pr Γ then ((Nm (No nxt body (mpB (mpE S1 ks ms m) it m) nx mo pr kk vv) xs s0).bind fun z=>match z with
  | .inl s=>k .n (Qay S1 ks ms nx mo (enc Γ s))
  | .inr y=>Qci (mpB (mpE S1 ks ms m) it m) [] [] (fun e S'=>k (Iw out e) (Qay S1 ks ms nx mo ⟨S'.env,S'.mem⟩)) exs y) else none
 | none=>none
noncomputable def Uj (Y:TX) (K:List Con) (n N:Nat) {R:Type}:An→Code→XS→(Ex→XS→Option R)→Option R
 | .nil,.skip,S,k=>k .n S
 | .nil,.ret,S,k=>k .r S
 | .nil,.exit id,S,k=>k (.x id) S
 | .nil,.label _,S,k=>k .n S
 | .reg h,.region _ ⟨ops⟩ false,S,k=>Y7 Y K n ops h ops S (k .n)
 | .dr m h1 h2,.region _ ⟨ops⟩ true,S,k=>bif Qpg ops m then Hz Y n ops h1 (ops.take m) S fun S'=>Y7 Y K n ops h2 (ops.drop m) S' (k .n) else none
 | .dm p ds zs h2,.region _ ⟨ops⟩ true,S,k=>bif O4 ops p ds&&Nat.ble n 1000000000&&Wp (Ym (Je S.mem zs).2) then
   Fu Y n ops ds (Je S.mem zs).2 { S with mem:=(Je S.mem zs).1 } K h2 (ops.take p) 0 [] fun h3 acc=>Y7 Y K n ops h3 (ops.drop p) (R9 { S with mem:=(Je S.mem zs).1 } ds (Je S.mem zs).2 acc) (k .n) else none
 | .dc p ds zs zf ht,.region _ ⟨ops⟩ true,S,k =>
  bif O4 ops p ds&&ds.all (fun d=>G2 d S.fix) then
   dcI Y K n ops p ds (Je S.mem zs).2 (Je S.fixM zf).2 (Je S.mem zs).1 (Je S.fixM zf).1 ht S
    (Da S.env (ds++Ws ht)++S.fix) fun h3 S'=>Y7 Y K n ops h3 (ops.drop p) S' (k .n) else none
 | .gh g a,c,S,k=>Fa g S fun S'=>Uj Y K n N a c S' k
 | .ch t i a b,c,S,k=>bif Qph S t i then Uj Y K n N a c S k else Uj Y K n N b c S k
 | .two a b,.seq x y,S,k=>Uj Y K n N a x S fun e S'=>match e with
  | .n=>Uj Y K n N b y S' k
  | .x i=>k (.x i) S'
  | .r=>k .r S'
 | .two a b,.cond c x y,S,k=>match S.ev [] c with
  | some (.d .bool v)=>if v=true then Uj Y K n N a x S k else Uj Y K n N b y S k
  | _=>none
 | .un a,.block id c,S,k=>Uj Y K n N a c S fun e S'=>match e with
  | .n=>k .n S'
  | .x i=>bif Nat.beq i id then k .n S' else k (.x i) S'
  | .r=>k .r S'
 | .un a,.scope c,S,k=>Uj Y K n N a c S k
 | .lp ks ms Γ exs a,.loop c,S,k=>match (S.ent ks ms).dec Γ with
  | some s0=>(Jg (fun s=>Uj Y K n N (R:=Γ.De⊕Bf exs) a c ((S.ent ks ms).re (enc Γ s)) fun e S'=>match e with
    | .n=>(match S'.dec Γ with
     | some s'=>some (.inl s')
     | none=>none)
    | .x i=>(match inj exs (.x i) S' with
     | some x=>some (.inr x)
     | none=>none)
    | .r=>(match inj exs .r S' with
     | some x=>some (.inr x)
     | none=>none)) N s0).bind fun x=>Qci S ks ms k exs x
  | none=>none
 | .jn ks ms exs a,c,S,k=>(Uj Y K n N a c (S.ent ks ms) (inj exs)).bind fun x=>Qci S ks ms k exs x
 | .mp h ks ms Γ exs h3 a,.seq (.region _ ⟨ops⟩ false) (.block out (.loop (.seq (.region _ ⟨[o1,o2]⟩ false) (.seq (.cond (.tmp mo) .skip (.exit out')) (.block nxt (.seq (.region _ ⟨o3::ops3⟩ false) c)))))),S,k=>match Qf9 ops o1 o2 o3 mo with
  | some (t,mt,it,nx,pr)=>bif Nat.beq out out' then Y7 Y K n ops h ops.dropLast S fun S1=>match S1.ev [] (.tmp mt),Qe Y.T t with
   | some (.m m),some tk=>match Qb (mpE S1 ks ms m).fixM m with
    | some (.map kk vv xs)=>Qpi n S1 m it nx mo pr ks ms Γ exs out nxt kk vv xs tk (fun S3 k1=>Y7 (R:=Γ.De⊕Bf exs) Y K n (o3::ops3) h3 ops3 S3 fun S4=>Uj Y K n N a c S4 k1) k
    | _=>none
   | _,_=>none else none
  | none=>none
 | _,_,_,_=>none
def Qga (Y:TX) (S:XS):List ResultVar→Nat→Option (List En)
 | [],_=>some []
 | .cell ad t::l,i=>match Im Y S.flat [] (.load t (.tmp ad)),Qga Y S l (i+1) with
  | some v,some r=>bif Nat.blt i 100000 then some (⟨i,[],v⟩::r) else none
  | _,_=>none
 | .tmp t::l,i=>match S.ev [] (.tmp t),Qga Y S l (i+1) with
  | some v,some r=>bif Nat.blt i 100000 then some (⟨i,[],v⟩::r) else none
  | _,_=>none
def H1:List (Nat×Sk)→Nat→Bool
 | [],_=>true
 | (t,_)::l,i=>Nat.beq t i&&H1 l (i+1)
def fin (Y:TX) (fn:Func) (Δ:Shp) (S:XS):Option Δ.De:=match Qga Y S fn.results.toList 0 with
 | some es=>bif H1 Δ.env 0&&Nat.beq es.length Δ.env.length&&Nat.blt es.length 100000 then XS.dec ⟨es,[],S.mem,S.fixM,S.prot⟩ Δ else none
 | none=>none
def Ix (gl:List (Nat×Σ t:Ty,t.De)):List En:=gl.map fun q=>⟨100000+q.1,[],.a q.2.1 q.2.2⟩
noncomputable def Qtx (Y:TX) (K:List Con) (N:Nat) (fn:Func) (an:An) (ro:List Nat) (Γ Δ:Shp) (x:Γ.De):Option Δ.De:=match fn.body with
 | some c=>bif Nat.ble Γ.env.length fn.ntmps&&(H1 Γ.env 0&&Nat.blt Γ.env.length 100000) then Uj Y K fn.ntmps N an c ⟨(enc Γ x).env,Ix Y.gl,wrM ro (enc Γ x).mem,rdM ro (enc Γ x).mem,Γ.mem.map Prod.fst⟩ fun e S=>match e with
  | .x _=>none
  | .n=>fin Y fn Δ S
  | .r=>fin Y fn Δ S else none
 | none=>none
end Gx

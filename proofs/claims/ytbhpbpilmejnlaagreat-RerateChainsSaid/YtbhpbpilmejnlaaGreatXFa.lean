/- Elements of arrays that lie in variables; parts of such arrays as strings. -/
import Derived.Test.YtbhpbpilmejnlaaGreatXE
import Derived.StillTail
import Derived.Test.YtbhpbpilmejnlaaGreatGAppend
namespace Gx
open Go Go.RowKit Gd
set_option linter.unusedVariables false
set_option linter.unusedSimpArgs false
set_option linter.constructorNameAsVariable false
def Jck:List PS→Bool
 | []=>false
 | .f _ _::l=>Jck l
 | .i _ _::_=>true
section
variable {R:Type}
def Tg:List PS→AV→(AV→Option R)→Option R
 | [],x,k=>k x
 | .f i off::ps,x,k=>match nav [.f i off] x with
  | some y=>Tg ps y k
  | none=>none
 | .i j sz::ps,x,k=>match x with
  | .d (.arr _ u) xs=>bif Nat.beq sz u.size then (idx xs j).bind fun y=>Tg ps (.d u y) k else none
  | _=>none
def Rm (M:List (Nat×Ob)):List PS→AV→AV→(AV→Option R)→Option R
 | [],x,v,k=>bif M6 x v then k v else none
 | .f i off::ps,x,v,k=>match nav [.f i off] x with
  | some y=>Rm M ps y v fun z=>match Cl [.f i off] x z with
   | some x'=>k x'
   | none=>none
  | none=>none
 | .i j sz::ps,x,v,k=>match x with
  | .d (.arr n u) xs=>bif Nat.beq sz u.size then (idx xs j).bind fun y=>Rm M ps (.d u y) v fun z=>match asD M z u with
   | some y'=>k (.d (.arr n u) (xs.set j.toNat y'))
   | none=>none else none
  | _=>none
end
theorem Qmx {α:Type} {cs:List α} {o n p m:Nat} (h:p+m≤n):(((cs.drop o).take n).drop p).take m=(cs.drop (o+p)).take m:=by
 rw [List.drop_take,List.drop_drop,List.take_take,Nat.min_eq_left (by omega)]
theorem Qs8 {α:Type} {cs ds:List α} {o n p:Nat} (h:p+ds.length≤n) :
  cs.take o++(((cs.drop o).take n).take p++ds++((cs.drop o).take n).drop (p+ds.length))++cs.drop (o+n)=cs.take (o+p)++ds++cs.drop (o+p+ds.length):=by
 have e1:cs.take (o+p)=cs.take o++((cs.drop o).take n).take p:=by rw [List.take_add,List.take_take,Nat.min_eq_left (by omega)]
 have e2:cs.drop (o+p+ds.length)=((cs.drop o).take n).drop (p+ds.length)++cs.drop (o+n):=by
  have e3:cs.drop (o+n)=(cs.drop (o+(p+ds.length))).drop (n - (p+ds.length)):=by rw [List.drop_drop]; congr 1; omega
  rw [List.drop_take,List.drop_drop,e3,List.take_append_drop,Nat.add_assoc]
 rw [e1,e2]
 simp only [List.append_assoc]
theorem Qdq {u:Ty} {n:Nat} {xs:List u.De} {ok:Ok} {w:World} {cs:List Value} (h:(rt (.arr n u)).rep ok w xs cs) {j:Int} {y:u.De} (hy:idx xs j=some y) :
  (rt u).rep ok w y ((cs.drop (j.toNat*u.size)).take u.size)∧j.toNat*u.size+u.size≤cs.length∧0≤j∧j.toNat<n:=by
 obtain ⟨hn,ha⟩:=h
 have h0:=(Ky hy).1
 have hlt:=(List.getElem?_eq_some_iff.1 (Ky hy).2).1
 have hl:=Qfi ha
 have hr:=Wd ha (Ky hy).2
 rw [Jv] at hr hl
 refine ⟨hr,?_,h0,by omega⟩
 rw [hl]
 have:=Nat.mul_le_mul_right u.size (show j.toNat+1≤xs.length by omega)
 rw [Nat.add_mul] at this
 omega
theorem R2 {R:Type} {r:R}:∀{ps:List PS} {x:AV} {k:AV→Option R},Tg ps x k=some r →
  ∃y,k y=some r∧∀{β:Nat→Nat} {ρ:Nat→Value} {ok:Ok} {w:World} {cs:List Value},cr β ρ ok w false x cs→cr β ρ ok w false y ((cs.drop (J4 ps)).take y.size)∧J4 ps+y.size≤cs.length
 | [],x,k,h=>by
  refine ⟨x,h,fun {β ρ ok w cs} hc=>?_⟩
  have:=Us hc
  simp only [J4,List.drop_zero]
  rw [List.take_of_length_le (by omega)]
  exact ⟨hc,by omega⟩
 | .f i off::ps,x,k,h=>by
  simp only [Tg] at h
  split at h
  ·rename_i y hy
   obtain ⟨z,hz,hk⟩:=R2 h
   refine ⟨z,hz,fun {β ρ ok w cs} hc=>?_⟩
   obtain ⟨h1,h2⟩:=Dh hy hc
   obtain ⟨h3,h4⟩:=hk h1
   have hl:=Us h1
   rw [hl] at h4
   have e:J4 (PS.f i off::ps)=J4 [PS.f i off]+J4 ps:=by simp [J4]
   rw [Qmx h4] at h3
   rw [e]
   exact ⟨h3,by omega⟩
  ·cases h
 | .i j sz::ps,x,k,h=>by
  simp only [Tg] at h
  split at h
  ·rename_i n u xs
   obtain ⟨hb,h1⟩:=bvT h
   have hsz:=Nat.eq_of_beq_eq_true hb
   subst hsz
   obtain ⟨y,hy,h2⟩:=Yy h1
   obtain ⟨z,hz,hk⟩:=R2 h2
   refine ⟨z,hz,fun {β ρ ok w cs} hc=>?_⟩
   obtain ⟨h1,h2,_⟩:=Qdq hc hy
   have h1':cr β ρ ok w false (.d u y) ((cs.drop (j.toNat*u.size)).take u.size):=h1
   obtain ⟨h3,h4⟩:=hk h1'
   have hl:((cs.drop (j.toNat*u.size)).take u.size).length=u.size:=Us h1'
   rw [hl] at h4
   rw [Qmx h4] at h3
   exact ⟨h3,by simp only [J4,PS.off]; omega⟩
  ·cases h
theorem Qdr {R:Type} {r:R} {M:List (Nat×Ob)} {v:AV}:∀{ps:List PS} {x:AV} {k:AV→Option R},Rm M ps x v k=some r →
  ∃x',k x'=some r∧∀{β:Nat→Nat} {ρ:Nat→Value} {ok:Ok} {w:World} {cs ds:List Value},(∀id o,Qe M id=some o→(Q2 β ρ id o).p ok w)→cr β ρ ok w false v ds→cr β ρ ok w false x cs →
   cr β ρ ok w false x' (cs.take (J4 ps)++ds++cs.drop (J4 ps+ds.length))∧J4 ps+ds.length≤cs.length
 | [],x,k,h=>by
  simp only [Rm] at h
  obtain ⟨hb,h⟩:=bvT h
  refine ⟨v,h,fun {β ρ ok w cs ds} _ hv hc=>?_⟩
  have:Cl [] x v=some v:=by simp only [Cl,hb,cond_true]
  exact Wh hv this hc
 | .f i off::ps,x,k,h=>by
  simp only [Rm] at h
  split at h
  ·rename_i y hy
   obtain ⟨z,hz,hk⟩:=Qdr h
   split at hz
   ·rename_i x' hx'
    refine ⟨x',hz,fun {β ρ ok w cs ds} hM hv hc=>?_⟩
    obtain ⟨h1,h2⟩:=Dh hy hc
    have hl:=Us h1
    obtain ⟨h3,h4⟩:=hk hM hv h1
    rw [hl] at h4
    obtain ⟨h5,h6⟩:=Wh h3 hx' hc
    have hlen:(((cs.drop (J4 [PS.f i off])).take y.size).take (J4 ps)++ds++((cs.drop (J4 [PS.f i off])).take y.size).drop (J4 ps+ds.length)).length=y.size:=by
     simp only [List.length_append,List.length_take,List.length_drop]
     simp only [List.length_take,List.length_drop] at hl
     omega
    rw [hlen,Qs8 h4] at h5
    have e:J4 (PS.f i off::ps)=J4 [PS.f i off]+J4 ps:=by simp [J4]
    rw [e]
    exact ⟨h5,by omega⟩
   ·cases hz
  ·cases h
 | .i j sz::ps,x,k,h=>by
  simp only [Rm] at h
  split at h
  ·rename_i n u xs
   obtain ⟨hb,h1⟩:=bvT h
   have hsz:=Nat.eq_of_beq_eq_true hb
   subst hsz
   obtain ⟨y,hy,h2⟩:=Yy h1
   obtain ⟨z,hz,hk⟩:=Qdr h2
   split at hz
   ·rename_i y' hy'
    refine ⟨_,hz,fun {β ρ ok w cs ds} hM hv hc=>?_⟩
    obtain ⟨h1,h2,h0,hjn⟩:=Qdq hc hy
    have h1':cr β ρ ok w false (.d u y) ((cs.drop (j.toNat*u.size)).take u.size):=h1
    have hl:((cs.drop (j.toNat*u.size)).take u.size).length=u.size:=Us h1'
    obtain ⟨h3,h4⟩:=hk hM hv h1'
    rw [hl] at h4
    have h5:=Ut hM hy' h3
    obtain ⟨hn,ha⟩:=(show xs.length=n∧Z9 (rt u) ok w xs cs from hc)
    have h6:=Sv ha (i:=j.toNat) (by omega) h5
    have hlen:(((cs.drop (j.toNat*u.size)).take u.size).take (J4 ps)++ds++((cs.drop (j.toNat*u.size)).take u.size).drop (J4 ps+ds.length)).length=u.size:=by
     simp only [List.length_append,List.length_take,List.length_drop]
     simp only [List.length_take,List.length_drop] at hl
     omega
    rw [hlen,Jv,Qs8 h4] at h6
    exact ⟨⟨by simpa using hn,h6⟩,by simp only [J4,PS.off]; omega⟩
   ·cases hz
  ·cases h
def Ot:TypeDesc→Option (Nat×TypeId)
 | .array n e=>some (n,e)
 | _=>none
theorem Qcc {d:TypeDesc} {n:Nat} {e:TypeId} (h:Ot d=some (n,e)):d=.array n e:=by
 unfold Ot at h
 split at h
 ·simp at h; obtain ⟨rfl,rfl⟩:=h; rfl
 ·cases h
section
variable {R:Type} (Y:TX) (S:St) (cur:Vy)
def Qyz:Op→Nat
 | .indexAddr t _ _=>match Qi Y.T t with
  | some te=>bif isSomeA (Ot te.d) then 1 else 0
  | none=>0
 | .load _ x=>match ev S cur x with
  | some (.p _ path)=>bif Jck path then 2 else 0
  | _=>0
 | .slice t _ _ _ none=>match Qi Y.T t with
  | some te=>bif isSomeA (Ot te.d) then 3 else 0
  | none=>0
 | .convert _ _ x=>match ev S cur x with
  | some (.w _ _ _)=>4
  | _=>0
 | _=>0
where isSomeA {α:Type}:Option α→Bool
 | some _=>true
 | none=>false
def Qcd (op:Op) (k:AV→Option R):Option R:=match op with
 | .indexAddr t x i=>match Qi Y.T t,ev S cur x,ev S cur i with
  | some te,some v,some iv=>match Zf iv,Ot te.d with
   | some (_,j),some (n,e)=>match Qi Y.T e,v with
    | some ee,.a (.arr m u) xs=>bif Nat.beq m n&&Nat.beq ee.size u.size then (idx xs j).bind fun y=>k (.a u y) else none
    | some ee,.p id path=>match Qe S.mem id with
     | some (.var _ c)=>Tg path c fun y=>match y with
      | .d (.arr m u) xs=>bif Nat.beq m n&&Nat.beq ee.size u.size then (idx xs j).bind fun _=>k (.p id (path++[.i j u.size])) else none
      | _=>none
     | _=>none
    | _,_=>none
   | _,_=>none
  | _,_,_=>none
 | .load t x=>match Qi Y.T t,ev S cur x with
  | some e,some (.p id path)=>match Qe S.mem id with
   | some (.var _ c)=>Tg path c fun y=>bif Nat.beq e.size y.size&&(Uy e.d==y.isAgg)&&y.isVal&&(y.isAgg||Nat.beq y.size 1) then k y else none
   | _=>none
  | _,_=>none
 | .slice t x lo hi none=>match Qi Y.T t,ev S cur x with
  | some te,some (.p id [])=>match Ot te.d,Qe S.mem id with
   | some (n,e),some (.var _ (.d (.arr m (.int .u8)) xs))=>match Qi Y.T e,bnd S cur 0 lo,bnd S cur n hi with
    | some ee,some a,some b=>bif Nat.beq m n&&Nat.beq ee.size 1 then (slc xs a b).bind fun _=>k (.w id a (b - a)) else none
    | _,_,_=>none
   | _,_=>none
  | _,_=>none
 | .convert s t x=>match Qi Y.T s,Qi Y.T t,ev S cur x with
  | some se,some te,some (.w id a n)=>match Y7 se.d,te.d,Qe S.mem id with
   | some e,.string,some (.var _ (.d (.arr m (.int .u8)) xs))=>match Qi Y.T e with
    | some ⟨_,.int .u8,_,_,_⟩=>(slc xs a (a+n)).bind fun ys=>k (.d .str (Qbo ys))
    | _=>none
   | _,_,_=>none
  | _,_,_=>none
 | _=>none
def Ce (op:Op) (k:AV→Option R):Option R:=match Qyz Y S cur op with
 | 0=>Or Y S cur op k
 | _+1=>Qcd Y S cur op k
end
section
variable {P:Program} {X:Cx} {β:Nat→Nat} {ρ:Nat→Value} {S:St} {a:Act} {w:World} {cur:Vy} {ok:Ok}
theorem cell?_of_heap {b o:Nat} {cs:List Value} {t:TypeId} (h:w.heap[b]?=some (.cells cs.toArray t (0,0))):w.cell? ⟨b,o,none⟩=cs[o]?:=by simp [World.cell?,h]
theorem Qy0 {u:Ty} {n:Nat} {xs:List u.De} {v:Value} (h:Oc (rt (.arr n u)) ok w xs v) {j:Int} {y:u.De} (hy:idx xs j=some y) :
  ∃b of,v=.pointer (some ⟨b,of,none⟩)∧Oc (rt u) ok w y (.pointer (some ⟨b,of+j.toNat*u.size,none⟩))∧0≤j∧j<(n:Int):=by
 obtain ⟨b,of,cs,rfl,hr,hc⟩:=h
 obtain ⟨h1,h2,h3,h4⟩:=Qdq hr hy
 refine ⟨b,of,rfl,⟨b,_,_,rfl,h1,fun i z hz=>?_⟩,h3,by omega⟩
 have hi:=(List.getElem?_eq_some_iff.1 hz).1
 simp only [List.length_take,List.length_drop] at hi
 rw [List.getElem?_take_of_lt (by omega),List.getElem?_drop] at hz
 have:=hc _ z hz
 rw [Nat.add_assoc]
 exact this
theorem Qs9 {Y:TX} (hT:Jb P Y.T) {R:Type} {o:Oper} {op:Op} (hop:o.op=op) {k:AV→Option R} {r:R} (hv:Qcd Y S cur op k=some r):∃av,k av=some r∧Pz P S cur o av:=by
 unfold Qcd at hv
 split at hv
 ·
  rename_i t x i
  split at hv
  ·rename_i te v iv hte hx hi
   split at hv
   ·rename_i ki j n e hij hse
    have htd:=Qcc hse
    have run:∀{β:Nat→Nat} {ρ:Nat→Value} {ok:Ok} {a:Act} {w:World},Xn β ρ ok S a w→Ye a cur→∀{ee:TE} {b of:Nat},Qi Y.T e=some ee→a.eval x=.pointer (some ⟨b,of,none⟩)→0≤j→j<(n:Int) →
      (execOp a.eval o).run P w=.ok (.value (.pointer (some ⟨b,of+j.toNat*ee.size,none⟩))) w:=by
     intro β ρ ok a w h hc ee b of he hv h0 h1
     have hun:(underlying t).run P w=.ok (.array n e) w:=by rw [Jz hT w hte,htd]
     have hi':=h.int hc hi hij
     unfold execOp
     rw [hop]
     simp only [hv,hi']
     simp [Instr.indexAt,asIntOf,hun,Instr.sureAddr,h0,h1,Yg hT w he,Addr.add_lit]
    split at hv
    ·rename_i ee m u xs he
     obtain ⟨hb,hv1⟩:=bvT hv
     simp only [Bool.and_eq_true] at hb
     have hm:=Nat.eq_of_beq_eq_true hb.1
     have hsz:=Nat.eq_of_beq_eq_true hb.2
     obtain ⟨y,hy,hk⟩:=Yy hv1
     refine ⟨_,hk,fun {β ρ ok a w} h hc=>?_⟩
     obtain ⟨cs,h1,v0,rfl,hat⟩:=h.ev hc hx
     obtain ⟨b,of,rfl,h2,h3,h4⟩:=Qy0 hat hy
     refine ⟨[.pointer (some ⟨b,of+j.toNat*u.size,none⟩)],?_,_,rfl,h2⟩
     rw [←hsz]
     exact run h hc he h1 h3 (by omega)
    ·rename_i ee id path he
     split at hv
     ·rename_i tid c ho
      obtain ⟨y,hy,hnav⟩:=R2 hv
      split at hy
      ·rename_i m u xs
       obtain ⟨hb,hv1⟩:=bvT hy
       simp only [Bool.and_eq_true] at hb
       have hm:=Nat.eq_of_beq_eq_true hb.1
       have hsz:=Nat.eq_of_beq_eq_true hb.2
       obtain ⟨y,hy',hk⟩:=Yy hv1
       refine ⟨_,hk,fun {β ρ ok a w} h hc=>?_⟩
       obtain ⟨cs,h1,h2⟩:=h.ev hc hx
       have h2':cs=_:=h2
       subst h2'
       obtain ⟨cs0,hh,hcr⟩:=h.2 _ _ ho
       obtain ⟨q1,q2⟩:=hnav hcr
       obtain ⟨_,_,h3,h4⟩:=Qdq (show (rt (.arr m u)).rep ok w xs _ from q1) hy'
       refine ⟨[.pointer (some ⟨β id,J4 (path++[PS.i j u.size]),none⟩)],?_,rfl⟩
       have:=run h hc he h1 h3 (by omega)
       rw [this,hsz,Fh]
       simp [J4,PS.off,AV.val,AV.isAgg]
      ·cases hy
     ·cases hv
    ·cases hv
   ·cases hv
  ·cases hv
 ·
  rename_i t x
  split at hv
  ·rename_i e id path he hx
   split at hv
   ·rename_i tid c ho
    obtain ⟨y,hy,hnav⟩:=R2 hv
    obtain ⟨hb,hk⟩:=bvT hy
    simp only [Bool.and_eq_true] at hb
    obtain ⟨⟨⟨b1,b2⟩,b3⟩,b4⟩:=hb
    have b1:=Nat.eq_of_beq_eq_true b1
    have b2:=bEq b2
    refine ⟨_,hk,fun {β ρ ok a w} h hc=>?_⟩
    obtain ⟨cs,h1,h2⟩:=h.ev hc hx
    have h2':cs=_:=h2
    subst h2'
    obtain ⟨cs0,hh,hcr⟩:=h.2 _ _ ho
    obtain ⟨q1,q2⟩:=hnav hcr
    refine ⟨_,?_,q1⟩
    have h1':a.eval x=.pointer (some ⟨β id,J4 path,none⟩):=h1
    have hl:=Us q1
    unfold execOp
    rw [hop]
    simp only [h1',Sem.run_bind]
    have:=Wi (w:=w) hT he (b:=β id) (o:=J4 path) (y:=y) (cs:=(cs0.drop (J4 path)).take y.size) (by rw [hl]; exact b1) b2 (fun hf=>by
     rw [hl]
     rw [hf] at b4
     simp only [Bool.false_or] at b4
     exact Nat.eq_of_beq_eq_true b4) (fun i z hz=>by
     have hi:=(List.getElem?_eq_some_iff.1 hz).1
     rw [hl] at hi
     rw [List.getElem?_take_of_lt hi,List.getElem?_drop] at hz
     rw [cell?_of_heap hh]
     simpa using hz)
    rw [this]
    rfl
   ·cases hv
  ·cases hv
 ·
  rename_i t x lo hi
  split at hv
  ·rename_i te id hte hx
   split at hv
   ·rename_i n e tid m xs hse ho
    have htd:=Qcc hse
    split at hv
    ·rename_i ee na nb he hlo hhi
     obtain ⟨hb,hv1⟩:=bvT hv
     simp only [Bool.and_eq_true] at hb
     have hm:=Nat.eq_of_beq_eq_true hb.1
     have hsz:=Nat.eq_of_beq_eq_true hb.2
     obtain ⟨ys,hys,hk⟩:=Yy hv1
     refine ⟨_,hk,fun {β ρ ok a w} h hc=>?_⟩
     obtain ⟨cs,h1,h2⟩:=h.ev hc hx
     have h2':cs=_:=h2
     subst h2'
     obtain ⟨cs0,hh,hcr⟩:=h.2 _ _ ho
     have hxs:xs.length=m:=(show xs.length=m∧_ from hcr).1
     obtain ⟨s1,s2,s3,s4,s5⟩:=Gd.slc_ok hys
     have hbd:=Fi (P:=P) (w:=w) (isS:=false) (len:=n) (cap:=n) (h.bnd hc hlo) (h.bnd hc hhi) s1 s2 (by omega) (Nat.le_refl _)
     have hun:(underlying t).run P w=.ok (.array n e) w:=by rw [Jz hT w hte,htd]
     have h1':a.eval x=.pointer (some ⟨β id,0,none⟩):=h1
     refine ⟨[.slice (some (if n=na.toNat then ⟨β id,0,none⟩ else ⟨β id,na.toNat,none⟩)) (nb - na).toNat (n - na.toNat)],?_,_,_,rfl,fun hpos=>?_⟩
     ·unfold execOp
      rw [hop]
      simp only [h1']
      simp [Instr.sliceAt,hun,Instr.sureAddr,hbd,Yg hT w he,hsz,Addr.add_lit,AV.val,AV.isAgg]
      omega
     ·rw [if_neg (by omega)]
    ·cases hv
   ·cases hv
  ·cases hv
 ·
  rename_i s t x
  split at hv
  ·rename_i se te id na n hse hte hx
   split at hv
   ·rename_i e tid m xs hsd htd ho
    split at hv
    ·rename_i _ _ _ _ he
     obtain ⟨ys,hys,hk⟩:=Yy hv
     refine ⟨_,hk,fun {β ρ ok a w} h hc=>⟨[Y6 (Qbo ys)],?_,rfl⟩⟩
     obtain ⟨cs,h1,A,c,rfl,hA⟩:=h.ev hc hx
     obtain ⟨cs0,hh,hcr⟩:=h.2 _ _ ho
     obtain ⟨hxs,hrep⟩:=(show xs.length=m∧Z9 (A4 .u8) ok w xs cs0 from hcr)
     obtain ⟨s1,s2,s3,s4,s5⟩:=Gd.slc_ok hys
     have hsd':se.d=.slice e:=by
      unfold Y7 at hsd
      split at hsd
      ·rename_i hd; simp at hsd; subst hsd; assumption
      ·cases hsd
     have h1':a.eval x=.slice (some A) n.toNat c:=h1
     have hus:=(Yb hT hse).2; rw [hsd'] at hus
     have hut:=(Yb hT hte).2; rw [htd] at hut
     have hue:=(Yb hT he).2
     have hconv:=run_convert_bytes_string (P:=P) w s t e (some A) n.toNat c hus hue hut
     have hload:(loadCells A n.toNat).run P w=.ok (ys.map (Value.int .u8)).toArray w:=by
      have hyl:ys.length=n.toNat:=by rw [s5]; congr 1; omega
      have:=run_loadCells_list (P:=P) w A (ys.map (Value.int .u8)) (fun i v hi=>by
       rw [List.getElem?_map] at hi
       obtain ⟨y,hy,rfl⟩:=Option.map_eq_some_iff.1 hi
       have hi':=(List.getElem?_eq_some_iff.1 hy).1
       rw [hA (by omega),Xp]
       rw [s4,List.getElem?_take_of_lt (by omega),List.getElem?_drop] at hy
       have hr:=Wd hrep hy
       have hr':(cs0.drop ((na.toNat+i)*1)).take 1=[.int .u8 y]:=hr
       rw [Nat.mul_one] at hr'
       rw [cell?_of_heap hh]
       have:=congrArg (fun l=>l[0]?) hr'
       simp only [List.getElem?_cons_zero] at this
       rw [List.getElem?_take_of_lt (by omega),List.getElem?_drop] at this
       simpa using this)
      simpa [hyl] using this
     have hrun:=run_bytesToString w A n.toNat c ys hload
     have hf:=So ys []
     simp only [List.nil_append] at hf
     unfold execOp
     rw [hop]
     simp only [h1']
     simp only [Sem.run_bind,hconv,hrun]
     show Result.andThen (.ok (Value.string (ys.foldl _ (ByteArray.mk ([]:List UInt8).toArray))) w) _=_
     rw [hf]; rfl
    ·cases hv
   ·cases hv
  ·cases hv
 ·cases hv
theorem Dj {Y:TX} (hT:Jb P Y.T) {R:Type} {o:Oper} {op:Op} (hop:o.op=op) {k:AV→Option R} {r:R} (hv:Ce Y S cur op k=some r):∃av,k av=some r∧Pz P S cur o av:=by
 unfold Ce at hv
 split at hv
 ·exact Qp7 hT hop hv
 ·exact Qs9 hT hop hv
end
end Gx

/- Shapes of states; the interpreter. -/
namespace Gx
open Go Go.RowKit Gd
set_option linter.unusedVariables false
set_option linter.unusedSimpArgs false
inductive Sk where
 | d (t:Ty)
 | p (id:Nat) (path:List PS)
 | s (id:Nat) | m (id:Nat)
 | ns | np | nm | nf | z
 | f (fn:FuncId) (caps:Sk)
 | ag (l:Sk) | nil | cons (x r:Sk)
inductive SkO where
 | var (tid:TypeId) (c:Sk)
 | row (e:TypeId) (t:Ty)
 | tail (e:TypeId) (t:Ty)
 | map (k v:Ty)
 | mapT (k v:Ty) (path:List PS) (e:TypeId) (u:Ty)
 | mapO (k:Ty)
structure Shp where
 env:List (Nat×Sk)
 mem:List (Nat×SkO)
abbrev DV:=Σ t:Ty,t.De
def Sk.tys:Sk→List Ty
 | .d t=>[t]
 | .f _ c=>c.tys
 | .ag l=>l.tys
 | .cons x r=>x.tys++r.tys
 | _=>[]
def SkO.tys:SkO→List Ty
 | .var _ c=>c.tys
 | .row _ t=>[.sl t]
 | .tail _ t=>[.sl t]
 | .map k v=>[.sl (.pr k v)]
 | .mapT k v _ _ _=>[.sl (.pr k v)]
 | .mapO k=>[.sl (.pr k .ref)]
def Qta:List (Nat×Sk)→List Ty
 | []=>[]
 | q::l=>q.2.tys++Qta l
def Qtb:List (Nat×SkO)→List Ty
 | []=>[]
 | q::l=>q.2.tys++Qtb l
def Shp.tys (Γ:Shp):List Ty:=Qta Γ.env++Qtb Γ.mem
@[reducible] def Tup:List Ty→Type
 | []=>Unit
 | [t]=>t.De
 | t::u::ts=>t.De×Tup (u::ts)
abbrev Shp.De (Γ:Shp):Type:=Tup Γ.tys
def toL:(ts:List Ty)→Tup ts→List DV
 | [],_=>[]
 | [t],x=>[⟨t,x⟩]
 | t::u::ts,x=>⟨t,x.1⟩::toL (u::ts) x.2
def ofL:(ts:List Ty)→List DV→Option (Tup ts)
 | [],[]=>some ()
 | [t],[v]=>Ty.cast v.1 t v.2
 | t::u::ts,v::vs=>match Ty.cast v.1 t v.2,ofL (u::ts) vs with
  | some a,some b=>some (a,b)
  | _,_=>none
 | _,_=>none
def Ej:Sk→List DV→AV×List DV
 | .d t,v::vs=>(.d v.1 v.2,vs)
 | .d _,[]=>(.nil,[])
 | .p id path,vs=>(.p id path,vs)
 | .s id,vs=>(.s id,vs)
 | .m id,vs=>(.m id,vs)
 | .ns,vs=>(.ns,vs)
 | .np,vs=>(.np,vs)
 | .nm,vs=>(.nm,vs)
 | .nf,vs=>(.nf,vs)
 | .z,vs=>(.z,vs)
 | .f fn c,vs=>match Ej c vs with
  | (x,r)=>(.f fn x,r)
 | .ag l,vs=>match Ej l vs with
  | (x,r)=>(.ag x,r)
 | .nil,vs=>(.nil,vs)
 | .cons a b,vs=>match Ej a vs with
  | (x,r)=>match Ej b r with
   | (y,r')=>(.cons x y,r')
def Gb:SkO→List DV→Option (Ob×List DV)
 | .var tid c,vs=>match Ej c vs with
  | (x,r)=>some (.var tid x,r)
 | .row e t,v::vs=>match Ty.cast v.1 (.sl t) v.2 with
  | some xs=>some (.row e t xs,vs)
  | none=>none
 | .tail e t,v::vs=>match Ty.cast v.1 (.sl t) v.2 with
  | some xs=>some (.tail e t xs,vs)
  | none=>none
 | .map k u,v::vs=>match Ty.cast v.1 (.sl (.pr k u)) v.2 with
  | some xs=>some (.map k u xs,vs)
  | none=>none
 | .mapT k u path e t,v::vs=>match Ty.cast v.1 (.sl (.pr k u)) v.2 with
  | some xs=>some (.mapT k u path e t xs none,vs)
  | none=>none
 | .mapO k,v::vs=>match Ty.cast v.1 (.sl (.pr k .ref)) v.2 with
  | some xs=>some (.mapO k xs none,vs)
  | none=>none
 | _,[]=>none
def Ha:List (Nat×Sk)→List DV→List En×List DV
 | [],vs=>([],vs)
 | (t,s)::l,vs=>match Ej s vs with
  | (x,r)=>match Ha l r with
   | (es,r')=>(⟨t,[],x⟩::es,r')
def Uz:List (Nat×SkO)→List DV→List (Nat×Ob)
 | [],_=>[]
 | (t,s)::l,vs=>match Gb s vs with
  | some (x,r)=>(t,x)::Uz l r
  | none=>[]
structure XS where
 env:List En
 fix:List En
 mem:List (Nat×Ob)
 fixM:List (Nat×Ob)
 prot:List Nat
def XS.flat (S:XS):St:=⟨S.env++S.fix,S.mem++S.fixM⟩
abbrev XS.ev (S:XS) (cur:Vy) (x:Operand):Option AV:=Gx.ev S.flat cur x
def enc (Γ:Shp) (x:Γ.De):St:=match Ha Γ.env (toL Γ.tys x) with
 | (es,r)=>⟨es,Uz Γ.mem r⟩
def PS.beq:PS→PS→Bool
 | .f k o,.f k' o'=>Nat.beq k k'&&Nat.beq o o'
 | _,_=>false
def Th:List PS→List PS→Bool
 | [],[]=>true
 | a::l,b::m=>PS.beq a b&&Th l m
 | _,_=>false
def isNone {α:Type}:Option α→Bool
 | none=>true
 | some _=>false
def Qp8:Sk→AV→List (Nat×Nat)
 | .s id,.s c=>[(id,c)]
 | .p id _,.p c _=>[(id,c)]
 | .m id,.m c=>[(id,c)]
 | .f _ x,.f _ y=>Qp8 x y
 | .ag l,x=>match Fz x with
  | some y=>Qp8 l y
  | none=>[]
 | .cons a b,.cons x y=>Qp8 a x++Qp8 b y
 | _,_=>[]
def Qmy (env:List En):List (Nat×Sk)→List (Nat×Nat)
 | []=>[]
 | (t,s)::l=>match Zw env t with
  | some e=>Qp8 s e.av++Qmy env l
  | none=>Qmy env l
def Qce (M:List (Nat×Ob)):List (Nat×SkO)→List (Nat×Nat)→List (Nat×Nat)
 | [],ri=>ri
 | (id,.var _ c)::l,ri=>match J3 ri id with
  | some i=>match Qe M i with
   | some (.var _ x)=>Qce M l (ri++Qp8 c x)
   | _=>Qce M l ri
  | none=>Qce M l ri
 | _::l,ri=>Qce M l ri
def Jbv (Γ:Shp) (S:St):List (Nat×Nat):=Qce S.mem Γ.mem (Qmy S.env Γ.env)
def Yn:List Nat→Nat→Bool
 | [],_=>false
 | k::l,t=>Nat.beq k t||Yn l t
def Qcf:AV→List Nat
 | .s id=>[id]
 | .ag l=>Qcf l
 | .cons x r=>Qcf x++Qcf r
 | _=>[]
def Qp9:Sk→AV→List Nat
 | .d _,x=>Qcf x
 | .f _ a,.f _ x=>Qp9 a x
 | .ag l,x=>match Fz x with
  | some y=>Qp9 l y
  | none=>[]
 | .cons a b,.cons x y=>Qp9 a x++Qp9 b y
 | _,_=>[]
def Qtc (env:List En):List (Nat×Sk)→List Nat
 | []=>[]
 | (t,s)::l=>match Zw env t with
  | some e=>Qp9 s e.av++Qtc env l
  | none=>Qtc env l
def Qds (M:List (Nat×Ob)) (ri:List (Nat×Nat)):List (Nat×SkO)→List Nat
 | []=>[]
 | (id,.var _ c)::l=>match J3 ri id with
  | some i=>match Qe M i with
   | some (.var _ x)=>Qp9 c x++Qds M ri l
   | _=>Qds M ri l
  | none=>Qds M ri l
 | (id,.tail _ _)::l=>match J3 ri id with
  | some i=>i::Qds M ri l
  | none=>Qds M ri l
 | _::l=>Qds M ri l
def Vr (ks:List Nat):List (Nat×Ob)→List (Nat×Ob)
 | []=>[]
 | (id,.row e t xs)::l=>(bif Yn ks id&&Nat.ble 1 t.size then (id,.tail e t xs) else (id,.row e t xs))::Vr ks l
 | q::l=>q::Vr ks l
def Qka (ri:List (Nat×Nat)) (id c:Nat):Bool:=match J3 ri id with
 | some i=>Nat.beq i c
 | none=>false
def Sk.isL:Sk→Bool
 | .nil=>true
 | .cons _ b=>b.isL
 | _=>false
def Ui (M:List (Nat×Ob)) (ri:List (Nat×Nat)) (pr:List Nat):Sk→AV→Option (List DV)
 | .d t,v=>match asD M v t with
  | some x=>bif t.agg==v.isAgg then some [⟨t,x⟩] else none
  | none=>none
 | .p id path,.p c path'=>bif Qka ri id c&&Th path path' then some [] else none
 | .s id,.s c=>bif Qka ri id c&&!isNone (Qe M c) then some [] else none
 | .s id,.ns=>bif isNone (J3 ri id)&&!Yn pr id then some [] else none
 | .m id,.m c=>bif Qka ri id c then some [] else none
 | .ns,.ns=>some []
 | .np,.np=>some []
 | .nm,.nm=>some []
 | .nf,.nf=>some []
 | .z,.z=>some []
 | .f fn c,.f fn' x=>bif Nat.beq fn fn'&&c.isL then Ui M ri pr c x else none
 | .ag l,x=>match Fz x with
  | some y=>Ui M ri pr l y
  | none=>none
 | .nil,.nil=>some []
 | .cons a b,.cons x y=>match Ui M ri pr a x,Ui M ri pr b y with
  | some u,some v=>some (u++v)
  | _,_=>none
 | _,_=>none
def Ti (M:List (Nat×Ob)) (ri:List (Nat×Nat)) (pr:List Nat) (env:List En):List (Nat×Sk)→Option (List DV)
 | []=>some []
 | (t,s)::l=>match Zw env t with
  | some ⟨_,[],x⟩=>match Ui M ri pr s x,Ti M ri pr env l with
   | some u,some v=>some (u++v)
   | _,_=>none
  | _=>none
def Ek (M:List (Nat×Ob)) (ri:List (Nat×Nat)) (pr:List Nat):SkO→Option Ob→Option (List DV)
 | .var tid c,some (.var tid' x)=>bif Nat.beq tid tid' then Ui M ri pr c x else none
 | .row e t,some (.row e' t' xs)=>bif Nat.beq e e'&&Ty.beq t t' then some [⟨.sl t',xs⟩] else none
 | .row e t,none=>some [⟨.sl t,[]⟩]
 | .tail e t,some (.tail e' t' xs)=>bif Nat.beq e e'&&Ty.beq t t' then some [⟨.sl t',xs⟩] else none
 | .tail e t,none=>some [⟨.sl t,[]⟩]
 | .map k u,some (.map k' u' xs)=>bif Ty.beq k k'&&Ty.beq u u' then some [⟨.sl (.pr k' u'),xs⟩] else none
 | .mapT k u path e t,some (.mapT k' u' path' e' t' xs hole)=>bif Ty.beq k k'&&Ty.beq u u'&&Th path path'&&Nat.beq e e'&&Ty.beq t t'&&isNone hole then some [⟨.sl (.pr k' u'),xs⟩] else none
 | .mapO k,some (.mapO k' xs _)=>bif Ty.beq k k' then some [⟨.sl (.pr k' .ref),xs⟩] else none
 | _,_=>none
def Qmz (M:List (Nat×Ob)) (ri:List (Nat×Nat)) (id:Nat):Option (Option Ob):=match J3 ri id with
 | none=>some none
 | some c=>match Qe M c with
  | some o=>some (some o)
  | none=>none
def F0 (M F:List (Nat×Ob)) (ri:List (Nat×Nat)) (pr:List Nat):List (Nat×SkO)→Option (List DV)
 | []=>some []
 | (t,s)::l=>match Qmz M ri t with
  | some o=>match Ek (M++F) ri pr s o,F0 M F ri pr l with
   | some u,some v=>some (u++v)
   | _,_=>none
  | none=>none
def Wj (ri:List (Nat×Nat)):List (Nat×SkO)→List Nat→Bool
 | [],_=>true
 | (id,_)::l,cs=>match J3 ri id with
  | some c=>!Yn cs c&&Wj ri l (c::cs)
  | none=>Wj ri l cs
def Qtd:List (Nat×SkO)→List Nat→Bool
 | [],_=>true
 | (id,_)::l,cs=>!Yn cs id&&Qtd l (id::cs)
def frz (Γ:Shp) (ri:List (Nat×Nat)) (env:List En) (M:List (Nat×Ob)):List (Nat×Ob):=Vr (Qtc env Γ.env++Qds M ri Γ.mem) M
def Qm0 (ri:List (Nat×Nat)) (pr:List Nat):List (Nat×SkO)→Bool
 | []=>true
 | (id,_)::l=>(!Yn pr id||Qka ri id id)&&Qm0 ri pr l
def Qf5 (pr:List Nat):List (Nat×Nat)→Bool
 | []=>true
 | (id,c)::l=>(!Yn pr id||Nat.beq id c)&&Qf5 pr l
def Qqa (Γ:Shp) (ri:List (Nat×Nat)) (pr:List Nat) (env:List En) (M F:List (Nat×Ob)):Option Γ.De :=
 bif Wj ri Γ.mem []&&Qtd Γ.mem []&&Qm0 ri pr Γ.mem&&Qf5 pr ri then
  match Ti (M++F) ri pr env Γ.env,F0 M F ri pr Γ.mem with
  | some u,some v=>ofL Γ.tys (u++v)
  | _,_=>none
 else none
def decF (Γ:Shp) (ri:List (Nat×Nat)) (pr:List Nat) (env:List En) (M F:List (Nat×Ob)):Option Γ.De:=Qqa Γ ri pr env (frz Γ ri env M) F
def Jc:AV→List Nat
 | .p id _=>[id]
 | .e id _=>[id]
 | .s id=>[id]
 | .m id=>[id]
 | .w id _ _=>[id]
 | .f _ c=>Jc c
 | .ag l=>Jc l
 | .tp l=>Jc l
 | .cons x r=>Jc x++Jc r
 | _=>[]
def Fb:List En→List Nat
 | []=>[]
 | e::l=>Jc e.av++Fb l
def Zy {α:Type}:Option (α×Nat)→List Nat
 | some q=>[q.2]
 | none=>[]
def Jk:List (Nat×Ob)→List Nat
 | []=>[]
 | (id,.var _ c)::l=>id::(Jc c++Jk l)
 | (id,.mapT _ _ _ _ _ _ (some q))::l=>id::q.2::Jk l
 | (id,.mapO _ _ last)::l=>id::(Zy last++Jk l)
 | (id,_)::l=>id::Jk l
def Qte (pr:List Nat):List (Nat×SkO)→List (Nat×Nat)
 | []=>[]
 | (id,_)::l=>bif Yn pr id then (id,id)::Qte pr l else Qte pr l
def XS.dec (S:XS) (Γ:Shp):Option Γ.De:=decF Γ (Qce S.mem Γ.mem (Qmy (S.env++S.fix) Γ.env++Qte (S.prot++(Fb S.fix++Jk S.fixM)) Γ.mem)) (S.prot++(Fb S.fix++Jk S.fixM)) (S.env++S.fix) S.mem S.fixM
def Rn (env:List En):List Nat→List En
 | []=>[]
 | t::ts=>match Zw env t with
  | some e=>e::Rn env ts
  | none=>Rn env ts
def Jr:List (Nat×Ob)→List Nat→List (Nat×Ob)×List (Nat×Ob)
 | M,[]=>(M,[])
 | M,t::ts=>match Qe M t with
  | some o=>((Jr (Yi M t) ts).1,(t,o)::(Jr (Yi M t) ts).2)
  | none=>Jr M ts
def XS.ent (S:XS) (ks ms:List Nat):XS:=⟨S.env,Rn S.env ks++S.fix,(Jr S.mem ms).1,(Jr S.mem ms).2++S.fixM,S.prot⟩
def XS.re (S:XS) (S1:St):XS:=⟨S1.env,S.fix,S1.mem,S.fixM,S.prot⟩
def XS.out (S:XS) (ks ms:List Nat) (S1:St):XS:=⟨S1.env++Rn S.env ks,S.fix,S1.mem++(Jr S.mem ms).2,S.fixM,S.prot⟩
inductive Ex where
 | n | x (id:Nat) | r
def Ex.beq:Ex→Ex→Bool
 | .n,.n=>true
 | .r,.r=>true
 | .x a,.x b=>Nat.beq a b
 | _,_=>false
abbrev Exs:=List (Ex×Shp)
@[reducible] def Cm:Exs→Type
 | []=>Empty
 | [q]=>q.2.De
 | q::r::l=>q.2.De⊕Cm (r::l)
def inj:(l:Exs)→Ex→XS→Option (Cm l)
 | [],_,_=>none
 | [q],e,S=>bif Ex.beq q.1 e then S.dec q.2 else none
 | q::r::l,e,S=>bif Ex.beq q.1 e then (match S.dec q.2 with
   | some x=>some (.inl x)
   | none=>none) else (match inj (r::l) e S with
   | some x=>some (.inr x)
   | none=>none)
def Qf6 {R:Type} (S:XS) (ks ms:List Nat) (k:Ex→XS→Option R):(l:Exs)→Cm l→Option R
 | [],_=>none
 | [q],x=>k q.1 (S.out ks ms (enc q.2 x))
 | q::r::l,x=>match x with
  | .inl y=>k q.1 (S.out ks ms (enc q.2 y))
  | .inr z=>Qf6 S ks ms k (r::l) z
def Qx {σ τ:Type} (f:σ→Option (σ⊕τ)):Nat→σ→Option τ
 | 0,_=>none
 | n+1,s=>(f s).bind fun
  | .inl s'=>Qx f n s'
  | .inr r=>some r
structure Con where
 f:FuncId
 Γ:Shp
 Δ:Shp
 fn:Γ.De→Option Δ.De
 ro:List Nat
def Y0 (Zs:List (Nat×Ob)):List Nat:=Zs.map Prod.fst
def wrM (ro:List Nat) (M:List (Nat×Ob)):List (Nat×Ob):=M.filter fun q=>!Yn ro q.1
def rdM (ro:List Nat) (M:List (Nat×Ob)):List (Nat×Ob):=M.filter fun q=>Yn ro q.1
def wrG (ro:List Nat) (M:List (Nat×SkO)):List (Nat×SkO):=M.filter fun q=>!Yn ro q.1
def rdG (ro:List Nat) (M:List (Nat×SkO)):List (Nat×SkO):=M.filter fun q=>Yn ro q.1
def roM (c:Con) (x:c.Γ.De):List (Nat×Ob):=rdM c.ro (enc c.Γ x).mem
def L0:Sk→AV→Bool
 | .d _,.d _ _=>true
 | .p _ _,.p _ _=>true
 | .s _,.s _=>true
 | .m _,.m _=>true
 | .ns,.ns=>true
 | .np,.np=>true
 | .nm,.nm=>true
 | .nf,.nf=>true
 | .z,.z=>true
 | .f _ c,.f _ x=>L0 c x
 | .ag l,.ag y=>L0 l y
 | .nil,.nil=>true
 | .cons a b,.cons x y=>L0 a x&&L0 b y
 | _,_=>false
def Jbw:SkO→Ob→Bool
 | .var _ c,.var _ x=>L0 c x
 | .row _ _,.row _ _ _=>true
 | .map _ _,.map _ _ _=>true
 | _,_=>false
def Qcg (ri:List (Nat×Nat)) (M:List (Nat×Ob)):List (Nat×SkO)→Bool
 | []=>true
 | (id,s)::l=>(match J3 ri id with
  | some c=>(match Qe M c with
   | some ob=>Jbw s ob
   | none=>false)
  | none=>false)&&Qcg ri M l
def Ko (g:Nat→Nat):AV→AV
 | .p id path=>.p (g id) path
 | .e id path=>.e (g id) path
 | .s id=>.s (g id)
 | .m id=>.m (g id)
 | .w id j n=>.w (g id) j n
 | .f fn c=>.f fn (Ko g c)
 | .ag l=>.ag (Ko g l)
 | .tp l=>.tp (Ko g l)
 | .cons x r=>.cons (Ko g x) (Ko g r)
 | x=>x
def L1 (g:Nat→Nat):Ob→Ob
 | .var tid c=>.var tid (Ko g c)
 | .mapT k v path e u xs (some q)=>.mapT k v path e u xs (some (q.1,g q.2))
 | .mapO k xs last=>.mapO k xs (last.map fun q=>(q.1,g q.2))
 | o=>o
def J8 (ri:List (Nat×Nat)) (d j:Nat):Nat:=match J3 ri j with
 | some c=>c
 | none=>10000+100*d+j
def Qf7 (S:XS):List Operand→Nat→Option (List En)
 | [],_=>some []
 | x::l,i=>match S.ev [] x,Qf7 S l (i+1) with
  | some v,some r=>bif Nat.blt i 100000 then some (⟨i,[],v⟩::r) else none
  | _,_=>none
def Qtf:AV→Nat→Option (List En)
 | .nil,_=>some []
 | .cons x r,i=>match Qtf r (i+1) with
  | some l=>bif Nat.blt i 100000 then some (⟨i,[],x⟩::l) else none
  | none=>none
 | _,_=>none
def Qch:List En→AV
 | []=>.nil
 | e::l=>.cons e.av (Qch l)
def Fj (es:List En):AV:=match es with
 | [e]=>e.av
 | es=>.tp (Qch es)
def Yx (ri:List (Nat×Nat)):List (Nat×SkO)→List Nat
 | []=>[]
 | (id,_)::l=>match J3 ri id with
  | some c=>c::Yx ri l
  | none=>Yx ri l
def Ou:List (Nat×SkO)→Bool
 | []=>true
 | (_,.tail _ _)::_=>false
 | (_,.mapT _ _ _ _ _)::_=>false
 | _::l=>Ou l
def K7 (ks:List Nat):List Nat→Bool
 | []=>true
 | i::l=>Yn ks i&&K7 ks l
def Gc:List Nat→Bool
 | []=>true
 | i::l=>!Yn l i&&Gc l
def Kh {α:Type}:Option α→Bool
 | some _=>true
 | none=>false
def Zz (g:Nat→Nat) (M:List (Nat×Ob)):List (Nat×Ob):=M.map fun q=>(g q.1,L1 g q.2)
inductive Src where
 | t (n:Nat)
 | v (id:Nat) (path:List PS)
inductive Hn where
 | done
 | n (m:Nat) (r:Hn)
 | nl (m:Nat) (r:Hn)
 | md (mode:Nat) (r:Hn)
 | keep (ts:List Nat) (r:Hn)
 | fz (id:Nat) (r:Hn)
 | sp (t:Nat) (m:Nat) (ks ms:List Nat) (Γ:Shp) (a b r:Hn)
 | call (c:Nat) (r:Hn)
 | tl (h:Hn)
 | so (t:Nat) (a b:Hn)
 | mt (id:Nat) (path:List PS) (e:TypeId) (r:Hn)
 | op (src:Src) (id d:Nat) (r:Hn)
 | fm (id:Nat) (r:Hn)
 | dt (id:Nat) (r:Hn)
 | si (t:Nat) (n:Int) (a b:Hn)
 | br (r:Hn)
structure HD where
 h:Hn
 tch:List Nat
 ro:List Nat
 bs:List Nat
 nm:List Nat
inductive HT where
 | tl (h:Hn)
 | op (h:HD) (r:HT)
 | so (t:Nat) (a b:HT)
def Ae {ε σ τ:Type} (f:ε→σ→Option (σ⊕τ)):List ε→σ→Option (σ⊕τ)
 | [],s=>some (.inl s)
 | e::l,s=>match f e s with
  | some (.inl s')=>Ae f l s'
  | some (.inr x)=>some (.inr x)
  | none=>none
open Classical in
noncomputable def Qf8 {ε σ τ:Type} (f:ε→σ→Option (σ⊕τ)) (l:List ε) (s:σ):Option (σ⊕τ) :=
 if ∀ys:List ε,ys.Perm l→Ae f ys s=Ae f l s then Ae f l s else none
noncomputable def Qdt {ε σ τ:Type} (f:ε→σ→Option (σ⊕τ)):List ε→σ→Option (σ⊕τ)
 | [],s=>some (.inl s)
 | [e],s=>f e s
 | e::e'::l,s=>Qf8 f (e::e'::l) s
inductive An where
 | nil
 | mp (h:Hn) (ks ms:List Nat) (Γ:Shp) (exs:Exs) (h3:Hn) (a:An)
 | reg (h:Hn)
 | two (a b:An)
 | un (a:An)
 | lp (ks ms:List Nat) (Γ:Shp) (exs:Exs) (a:An)
 | jn (ks ms:List Nat) (exs:Exs) (a:An)
 | dr (m:Nat) (h1 h2:Hn)
 | dm (m:Nat) (ds zs:List Nat) (h2:Hn)
 | dc (m:Nat) (ds zs zf:List Nat) (ht:HT)
 | ch (t n:Nat) (a b:An)
 | gh (g:Hn) (a:An)
abbrev An.t (k:Nat) (a:An):An:=.two (.reg (.n k .done)) a
def La (ops:List Oper) (o:Oper):Option (Option (Nat×Bool)):=match o.guard with
 | none=>some none
 | some (j,want)=>match ops[j]? with
  | some p=>match p.dst with
   | some t=>some (some (t,want))
   | none=>none
  | none=>none
def Uj (d:Nat):AV→Bool
 | .p id _=>!Nat.beq id d
 | .e id _=>!Nat.beq id d
 | .s id=>!Nat.beq id d
 | .m id=>!Nat.beq id d
 | .w id _ _=>!Nat.beq id d
 | .f _ c=>Uj d c
 | .ag l=>Uj d l
 | .tp l=>Uj d l
 | .cons x r=>Uj d x&&Uj d r
 | _=>true
def P0 {α:Type} (d:Nat):Option (α×Nat)→Bool
 | some q=>!Nat.beq q.2 d
 | none=>true
def Q7 (d:Nat):List (Nat×Ob)→Bool
 | []=>true
 | (k,.var _ c)::l=>!Nat.beq k d&&Uj d c&&Q7 d l
 | (k,.mapT _ _ _ _ _ _ (some q))::l=>!Nat.beq k d&&!Nat.beq q.2 d&&Q7 d l
 | (k,.mapO _ _ last)::l=>!Nat.beq k d&&P0 d last&&Q7 d l
 | (k,_)::l=>!Nat.beq k d&&Q7 d l
def Ud (d:Nat):List En→List En
 | []=>[]
 | e::l=>bif Uj d e.av then e::Ud d l else Ud d l
def Ho (d:Nat):List En→Bool
 | []=>true
 | e::l=>!(Nat.beq e.t d||Cc d e.cs)&&Ho d l
def Dk (d:Nat):List En→Bool
 | []=>true
 | e::l=>Uj d e.av&&Dk d l
def Qm1 (ri:List (Nat×Nat)) (d:Nat) (Γk:List Nat) (S:XS) (M:List (Nat×Ob)):List Nat→Bool
 | []=>true
 | j::l=>(bif Kh (J3 ri j) then Yn Γk j else
   Q7 (J8 ri d j) M&&Q7 (J8 ri d j) S.fixM&&Dk (J8 ri d j) S.fix&&Dk (J8 ri d j) S.env&&!Yn S.prot (J8 ri d j)&&!Yn Γk j)&&Qm1 ri d Γk S M l
def XS.put (S:XS) (d:Nat) (cs:Vy) (x:AV):XS:={ S with env:=⟨d,cs,x⟩::Yu S.env d }
def XS.born (S:XS) (d:Nat) (o:Ob):XS:={ S with env:=Ud d S.env,mem:=(d,o)::S.mem }
def XS.set (S:XS) (id:Nat) (o:Ob):XS:={ S with mem:=Lu S.mem id o }
def Qdu:List PS→AV→Option AV
 | [],x=>some x
 | .f k off::ps,.ag l=>match kid l k with
  | some (y,o)=>bif Nat.beq o off then Qdu ps y else none
  | none=>none
 | _,_=>none
def noS (d:Nat):AV→Bool
 | .e id _=>!Nat.beq id d
 | .s id=>!Nat.beq id d
 | .f _ c=>noS d c
 | .ag l=>noS d l
 | .tp l=>noS d l
 | .cons x r=>noS d x&&noS d r
 | _=>true
def Qtg (d:Nat):List En→Bool
 | []=>true
 | e::l=>noS d e.av&&Qtg d l
def Cn (d:Nat):List (Nat×Ob)→Bool
 | []=>true
 | (k,.var _ c)::l=>!Nat.beq k d&&noS d c&&Cn d l
 | (k,.mapT _ _ _ _ _ _ (some q))::l=>!Nat.beq k d&&!Nat.beq q.2 d&&Cn d l
 | (k,_)::l=>!Nat.beq k d&&Cn d l
def XS.swap (S:XS) (id:Nat) (o:Ob):XS:={ S with mem:=(id,o)::Yi S.mem id }
def F2 (S:XS) (id:Nat):Bool:=Qtg id S.env&&Qtg id S.fix&&Cn id (Yi S.mem id)&&Cn id S.fixM&&!Yn S.prot id
def Qkb {ν τ:Type} (f:ν→List τ):Option ν→List τ
 | some y=>f y
 | none=>[]
def Jkp (S:XS):Src→Option AV
 | .t n=>S.ev [] (.tmp n)
 | .v id path=>match Qe S.flat.mem id with
  | some (.var _ c)=>nav path c
  | _=>none
section
variable {R:Type} (Y:TX) (n:Nat)
def okW (S:XS) (d:Nat):Bool:=Nat.blt d n&&Nat.blt d 100000&&Ho d S.fix
def okB (S:XS) (d:Nat):Bool:=Q7 d S.mem&&Q7 d S.fixM&&Dk d S.fix&&!Yn S.prot d
def asR (M:List (Nat×Ob)) (xv:AV) (u:Ty):Option (List u.De):=match asD M xv (.sl u) with
 | some ys=>some ys
 | none=>match xv with
  | .s id=>match Qe M id with
   | some (.row _ t ys)=>Ty.cast (.sl t) (.sl u) ys
   | _=>none
  | _=>none
def Ov (o:Oper) (S:XS) (k:XS→Option R):Option R :=
 match o.op,o.dst with
 | .alloc t,some d=>match Qi Y.T t,J3 Y.tys t with
  | some e,some ty=>match Ga ty e.z with
   | some c=>bif okW n S d&&okB S d&&c.isVal&&Uj d c then k ((S.born d (.var t c)).put d [] (.p d [])) else none
   | none=>none
  | _,_=>none
 | .box t x,some d=>match S.ev [] x with
  | some c=>bif okW n S d&&okB S d&&c.isVal&&c.inMem&&Uj d c then k ((S.born d (.var t c)).put d [] (.p d [])) else none
  | none=>none
 | .store t p x,none=>match Qi Y.T t,S.ev [] p,S.ev [] x with
  | some e,some (.p id path),some v=>match Qe S.mem id with
   | some (.var tid c)=>match Cl path c v with
    | some c'=>bif Nat.beq e.size v.size&&v.isVal&&v.inMem then k (S.set id (.var tid c')) else none
    | none=>none
   | _=>none
  | some e,some (.e id (.i j sz::ps)),some v=>match Qe S.mem id with
   | some (.row et u xs)=>(idx xs j).bind fun y=>match Cl ps (.d u y) v with
    | some c=>match asD S.flat.mem c u with
     | some z=>bif Nat.beq e.size v.size&&Nat.beq sz u.size&&Nat.ble 1 u.size&&v.isVal&&v.inMem then k (S.set id (.row et u (xs.set j.toNat z))) else none
     | none=>none
    | none=>none
   | _=>none
  | _,_,_=>none
 | .makeMap t rs,some d=>match Qi Y.T t with
  | some te=>match te.d with
   | .map kt et=>match J3 Y.tys kt,J3 Y.tys et with
    | some kk,some v=>bif okW n S d&&okB S d&&isNone rs then k ((S.born d (.map kk v [])).put d [] (.m d)) else none
    | _,_=>none
   | _=>none
  | none=>none
 | .mapUpdate t m ky x,none=>match Qi Y.T t,S.ev [] m,S.ev [] ky,S.ev [] x with
  | some te,some (.m id),some kv,some xv=>match te.d,Qe S.mem id with
   | .map kt et,some (.map kk v xs)=>match Qi Y.T kt,asD [] kv kk,asD S.flat.mem xv v with
    | some tk,some key,some y=>bif Vk Y.T kk tk.d&&(kk.agg==kv.isAgg)&&(v.agg==xv.isAgg) then k (S.set id (.map kk v (Vq key y xs))) else none
    | _,_,_=>none
   | .map kt et,some (.mapT kk v path e u xs (some (kh,h0)))=>match Qi Y.T kt,asD [] kv kk,asD S.flat.mem xv v,Qdu path xv with
    | some tk,some key,some y,some (.s h1)=>match Qe S.mem h1 with
     | some (.tail e1 u1 _)=>bif Vk Y.T kk tk.d&&(kk.agg==kv.isAgg)&&(v.agg==xv.isAgg)&&Nat.beq e e1&&Ty.beq u u1&&F2 { S with mem:=Yi S.mem h1 } id then
       (chk (eqK kk key kh)).bind fun _=>k (XS.swap { S with mem:=Yi S.mem h1 } id (.mapT kk v path e u (Vq kh y xs) none)) else none
     | _=>none
    | _,_,_,_=>none
   | _,_=>none
  | _,_,_,_=>none
 | .makeSlice t l c,some d=>match Qi Y.T t,S.ev [] l,S.ev [] c with
  | some te,some lv,some cv=>match Y7 te.d,Zf lv,Zf cv with
   | some e,some (_,nl),some (_,nc)=>match Qi Y.T e,J3 Y.tys e with
    | some ee,some u=>match Ga u ee.z with
     | some za=>match asD [] za u with
      | some z=>bif okW n S d&&okB S d&&Nat.beq ee.size u.size&&Nat.beq (Qm ee.z).length ee.size&&Nat.ble 1 ee.bytes then
        (mkL ee.bytes nl nc z).bind fun zs=>k ((S.born d (.row e u zs)).put d [] (.s d)) else none
      | none=>none
     | none=>none
    | _,_=>none
   | _,_,_=>none
  | _,_,_=>none
 | .buildSlice t len ⟨parts⟩,some d=>match Qi Y.T t with
  | some te=>match Y7 te.d with
   | some e=>match Qi Y.T e,J3 Y.tys e with
    | some ee,some u=>bif okW n S d&&Nat.beq ee.size u.size then (match len,parts with
     | 0,[]=>bif okB S d then k ((S.born d (.row e u [])).put d [] (.s d)) else none
     | 0,_=>none
     | m+1,ps=>match Vb S.flat [] ps with
      | some vs=>match asLs S.flat.mem u vs 0 with
       | some xs=>bif Nat.beq xs.length (m+1)&&Nat.ble ((m+1)*ee.size) 16777216&&Nat.ble 1 ee.size&&Nat.beq (Qm ee.z).length ee.size then k (S.put d [] (.d (.sl u) xs)) else none
       | none=>none
      | none=>none) else none
    | _,_=>none
   | none=>none
  | none=>none
 | .call ⟨.builtin .append,⟨[s,x]⟩,⟨[t,t']⟩⟩,some d=>match Qi Y.T t,S.ev [] s,S.ev [] x with
  | some te,some sv,some xv=>match Y7 te.d with
   | some e=>match Qi Y.T e with
    | some ee=>bif okW n S d&&Nat.beq t t'&&Nat.ble 1 ee.size&&Nat.ble 1 ee.bytes&&Nat.beq (Qm ee.z).length ee.size then (match sv with
     | .ns=>match J3 Y.tys e with
      | some u=>match asR S.flat.mem xv u with
       | some ys=>bif okB S d&&Nat.beq ee.size u.size then (app ee.bytes [] ys).bind fun zs=>k ((S.born d (.row e u zs)).put d [] (.s d)) else none
       | none=>none
      | none=>none
     | .z=>match J3 Y.tys e with
      | some u=>match asR S.flat.mem xv u with
       | some ys=>bif okB S d&&Nat.beq ee.size u.size then (app ee.bytes [] ys).bind fun zs=>k ((S.born d (.row e u zs)).put d [] (.s d)) else none
       | none=>none
      | none=>none
     | .s id=>match Qe S.mem id with
      | some (.row e' u xs)=>match asR S.flat.mem xv u with
       | some ys=>bif okB ⟨S.env,S.fix,Yi S.mem id,S.fixM,S.prot⟩ d&&Nat.beq ee.size u.size&&Nat.beq e e' then
         (app ee.bytes xs ys).bind fun zs=>k (({ S with mem:=Yi S.mem id }.born d (.row e u zs)).put d [] (.s d)) else none
       | none=>none
      | some (.tail e' u xs)=>match asD S.flat.mem xv (.sl u) with
       | some ys=>bif okB ⟨S.env,S.fix,Yi S.mem id,S.fixM,S.prot⟩ d&&Nat.beq ee.size u.size&&Nat.beq e e' then
         (app ee.bytes xs ys).bind fun zs=>k (({ S with mem:=Yi S.mem id }.born d (.tail e u zs)).put d [] (.s d)) else none
       | none=>none
      | _=>none
     | _=>none) else none
    | none=>none
   | none=>none
  | _,_,_=>none
 | op,some d=>bif okW n S d then Ce Y S.flat [] op fun v=>k (S.put d [] v) else none
 | _,none=>none
def Jcl:AV→Bool
 | .np=>true
 | .p _ _=>true
 | _=>false
def Qqb:List (Nat×AV)→Nat→Option AV
 | [],_=>some .nil
 | (i,v)::l,j=>bif Nat.beq i j&&Jcl v then (match Qqb l (j+1) with
  | some r=>some (.cons v r)
  | none=>none) else none
def Na {k:Ty} {ν:Type} (key:k.De):List (k.De×ν)→List (k.De×ν)
 | []=>[]
 | x::l=>bif eqK k key x.1 then l else x::Na key l
def Ww {α:Type} (xs ys:List α):List α:=ys.take (Nat.min ys.length xs.length)++xs.drop (Nat.min ys.length xs.length)
def Lh {α:Type} (xs ys:List α):Int:=(Nat.min ys.length xs.length:Nat)
def Qy1 (o:Oper) (S:XS):Nat:=match o.op with
 | .call ⟨.builtin .append,⟨[_,x]⟩,_⟩=>match S.ev [] x with
  | some (.d .str _)=>1
  | _=>0
 | .convert _ t x=>match S.ev [] x with
  | some (.d .str _)=>match Qi Y.T t with
   | some te=>match Y7 te.d with
    | some _=>2
    | none=>0
   | none=>0
  | _=>0
 | .store _ p _=>match S.ev [] p with
  | some (.p _ path)=>bif Jck path then 3 else 0
  | _=>0
 | .call ⟨.builtin .copy,_,_⟩=>4
 | .call ⟨.builtin .delete,_,_⟩=>5
 | .buildSlice t (_+1) _=>match Qi Y.T t with
  | some te=>match Y7 te.d with
   | some e=>match J3 Y.tys e with
    | none=>7
    | some u=>bif Ty.beq u .ref then 7 else 0
   | none=>0
  | none=>0
 | .slice _ x none _ none=>match S.ev [] x with
  | some (.s id)=>match Qe S.mem id with
   | some (.row _ _ _)=>6
   | _=>0
  | _=>0
 | .slice _ x none (some _) (some _)=>match S.ev [] x with
  | some (.s id)=>match Qe S.mem id with
   | some (.row _ _ _)=>8
   | _=>0
  | _=>0
 | _=>0
def Jcm:Value→Bool
 | .int .u8 0=>true
 | _=>false
def Jcn:TypeDesc→Bool
 | .int .u8=>true
 | _=>false
def Qkc:TypeDesc→Bool
 | .string=>true
 | _=>false
def U8 (l:Str):List Int:=l.map fun b=>(b.toNat:Int)
def Qci (o:Oper) (S:XS) (k:XS→Option R):Option R:=match o.op,o.dst with
 | .call ⟨.builtin .append,⟨[s,x]⟩,⟨[t,t']⟩⟩,some d=>match Qi Y.T t,Qi Y.T t',S.ev [] s,S.ev [] x with
  | some te,some te',some sv,some (.d .str l)=>match Y7 te.d with
   | some e=>match Qi Y.T e with
    | some ee=>bif okW n S d&&Qkc te'.d&&Jcm ee.z&&Nat.beq ee.size 1&&Nat.beq ee.bytes 1 then (match sv with
     | .ns=>bif okB S d then (app 1 [] (U8 l)).bind fun zs=>k ((S.born d (.row e (.int .u8) zs)).put d [] (.s d)) else none
     | .s id=>match Qe S.mem id with
      | some (.row e' (.int .u8) xs)=>bif okB ⟨S.env,S.fix,Yi S.mem id,S.fixM,S.prot⟩ d&&Nat.beq e e' then
        (app 1 xs (U8 l)).bind fun zs=>k (({ S with mem:=Yi S.mem id }.born d (.row e (.int .u8) zs)).put d [] (.s d)) else none
      | _=>none
     | _=>none) else none
    | none=>none
   | none=>none
  | _,_,_,_=>none
 | .convert s t x,some d=>match Qi Y.T s,Qi Y.T t,S.ev [] x with
  | some se,some te,some (.d .str l)=>match Y7 te.d with
   | some e=>match Qi Y.T e with
    | some ee=>bif okW n S d&&okB S d&&Jcn ee.d then (app 1 [] (U8 l)).bind fun zs=>k ((S.born d (.row e (.int .u8) zs)).put d [] (.s d)) else none
    | none=>none
   | none=>none
  | _,_,_=>none
 | .store t p x,none=>match Qi Y.T t,S.ev [] p,S.ev [] x with
  | some e,some (.p id path),some v=>match Qe S.mem id with
   | some (.var tid c)=>Rm S.flat.mem path c v fun c'=>bif Nat.beq e.size v.size&&v.isVal&&v.inMem then k (S.set id (.var tid c')) else none
   | _=>none
  | _,_,_=>none
 | .call ⟨.builtin .copy,⟨[dst,src]⟩,⟨[t,t']⟩⟩,some d=>match Qi Y.T t,S.ev [] dst,S.ev [] src with
  | some te,some (.s id),some xv=>match Y7 te.d with
   | some e=>match Qi Y.T e,Qe S.mem id with
    | some ee,some (.row et u xs)=>match asD S.flat.mem xv (.sl u) with
     | some ys=>bif okW n S d&&Nat.beq ee.size u.size&&Nat.ble 1 u.size then k ((S.set id (.row et u (Ww xs ys))).put d [] (.d (.int .i64) (Lh xs ys))) else none
     | none=>none
    | _,_=>none
   | none=>none
  | _,_,_=>none
 | .call ⟨.builtin .delete,⟨[m,ky]⟩,⟨[t,t']⟩⟩,none=>match Qi Y.T t,S.ev [] m,S.ev [] ky with
  | some te,some (.m id),some kv=>match te.d,Qe S.mem id with
   | .map kt et,some (.map kk v xs)=>match Qi Y.T kt,asD [] kv kk with
    | some tk,some key=>bif Vk Y.T kk tk.d&&(kk.agg==kv.isAgg) then k (S.set id (.map kk v (Na key xs))) else none
    | _,_=>none
   | _,_=>none
  | _,_,_=>none
 | .buildSlice t (m+1) ⟨ps⟩,some d=>match Qi Y.T t with
  | some te=>match Y7 te.d with
   | some e=>match Qi Y.T e,Vb S.flat [] ps with
    | some ee,some vs=>match Qqb vs 0 with
     | some c=>bif okW n S d&&okB S d&&Uj d c&&Nat.beq vs.length (m+1)&&Nat.beq ee.size 1&&Nat.beq (Qm ee.z).length 1&&Nat.ble (m+1) 16777216 then k ((S.born d (.var e (.ag c))).put d [] (.w d 0 ((m+1:Nat):Int))) else none
     | none=>none
    | _,_=>none
   | none=>none
  | none=>none
 | .slice t x none hi none,some d=>match Qi Y.T t,S.ev [] x with
  | some te,some (.s id)=>match Y7 te.d,Qe S.mem id with
   | some e,some (.row e' u xs)=>match Qi Y.T e,bnd S.flat [] xs.length hi with
    | some ee,some q=>bif okW n S d&&okB ⟨S.env,S.fix,Yi S.mem id,S.fixM,S.prot⟩ d&&Nat.beq ee.size u.size&&Nat.beq e e' then
      (slc xs 0 q).bind fun ys=>k (({ S with mem:=Yi S.mem id }.born d (.row e u ys)).put d [] (.s d)) else none
    | _,_=>none
   | _,_=>none
  | _,_=>none
 | .slice t x none (some hi) (some mx),some d=>match Qi Y.T t,S.ev [] x,S.ev [] hi,S.ev [] mx with
  | some te,some (.s id),some hv,some mv=>match Y7 te.d,Qe S.mem id,Zf hv,Zf mv with
   | some e,some (.row e' u xs),some (_,q),some (_,m)=>match Qi Y.T e with
    | some ee=>bif okW n S d&&okB ⟨S.env,S.fix,Yi S.mem id,S.fixM,S.prot⟩ d&&Nat.beq ee.size u.size&&Nat.beq e e' then
      (chk (decide (q≤m)&&decide (m≤(xs.length:Int)))).bind fun _=>(slc xs 0 q).bind fun ys=>k (({ S with mem:=Yi S.mem id }.born d (.row e u ys)).put d [] (.s d)) else none
    | _=>none
   | _,_,_,_=>none
  | _,_,_,_=>none
 | _,_=>none
def P1 (o:Oper) (S:XS) (k:XS→Option R):Option R:=match Qy1 Y o S with
 | 0=>Ov Y n o S k
 | _+1=>Qci Y n o S k
def Tj:Value→Bool
 | .map none=>true
 | _=>false
def Li (o:Oper) (S:XS) (k:XS→Option R):Option R:=match o.op,o.dst with
 | .buildSlice t (m+1) ⟨ps⟩,some d=>match Qi Y.T t with
  | some te=>match Y7 te.d with
   | some e=>match Qi Y.T e,J3 Y.tys e,Vb S.flat [] ps with
    | some ee,some u,some vs=>match asLs S.flat.mem u vs 0 with
     | some xs=>bif okW n S d&&okB S d&&Nat.beq ee.size u.size&&Nat.beq xs.length (m+1)&&Nat.ble ((m+1)*ee.size) 16777216&&Nat.ble 1 ee.size&&Nat.beq (Qm ee.z).length ee.size then k ((S.born d (.row e u xs)).put d [] (.s d)) else none
     | none=>none
    | _,_,_=>none
   | none=>none
  | none=>none
 | .makeMap t rs,some d=>match Qi Y.T t with
  | some te=>match te.d with
   | .map kt _=>match J3 Y.tys kt with
    | some kk=>bif okW n S d&&okB S d&&isNone rs then k ((S.born d (.mapO kk [] none)).put d [] (.m d)) else none
    | none=>none
   | _=>none
  | none=>none
 | .mapUpdate t m ky x,none=>match Qi Y.T t,S.ev [] m,S.ev [] ky,S.ev [] x with
  | some te,some (.m id),some kv,some (.m j)=>match te.d,Qe S.mem id with
   | .map kt _,some (.mapO kk xs _)=>match Qi Y.T kt,asD [] kv kk with
    | some tk,some key=>bif Vk Y.T kk tk.d&&(kk.agg==kv.isAgg) then k (S.set id (.mapO kk (Vq key () xs) (some (key,j)))) else none
    | _,_=>none
   | _,_=>none
  | _,_,_,_=>none
 | .lookup t m ky false,some d=>match Qi Y.T t,S.ev [] ky with
  | some te,some kv=>match te.d with
   | .map kt et=>match Qi Y.T kt,Qi Y.T et,S.ev [] m with
    | some tk,some tz,some (.m id)=>match Qe S.flat.mem id with
     | some (.mapO kk xs last)=>match asD [] kv kk with
      | some key=>bif okW n S d&&Vk Y.T kk tk.d&&(kk.agg==kv.isAgg)&&Tj tz.z then (match last with
       | some q=>(chk (eqK kk key q.1)).bind fun _=>k (S.put d [] (.m q.2))
       | none=>(chk (isNone (Q0 key xs))).bind fun _=>k (S.put d [] .nm)) else none
      | none=>none
     | _=>none
    | some tk,some tz,some .nm=>match J3 Y.tys kt,J3 Y.tys et with
     | some kk,some v=>match asD [] kv kk,Ga v tz.z with
      | some key,some za=>match asD [] za v with
       | some z=>bif okW n S d&&Vk Y.T kk tk.d&&(kk.agg==kv.isAgg)&&(v.agg==On tz.z) then k (S.put d [] (.d v z)) else none
       | none=>none
      | _,_=>none
     | _,_=>none
    | _,_,_=>none
   | _=>none
  | _,_=>none
 | _,_=>none
def Zg (c:Con) (o:Oper) (S:XS) (k:XS→Option R):Option R :=
 match o.op,o.dst with
 | .call ⟨.value x,⟨xs⟩,_⟩,some d=>match S.ev [] x with
  | some (.f f caps)=>bif Nat.beq c.f f&&okW n S d then (match Qf7 S xs 0,Qtf caps xs.length with
   | some es0,some cs=>callE c d S (es0++cs) (Jbv c.Γ ⟨es0++cs,S.mem++S.fixM⟩) k
   | _,_=>none) else none
  | _=>none
 | _,_=>none
where
 callE (c:Con) (d:Nat) (S:XS) (es:List En) (ri:List (Nat×Nat)) (k:XS→Option R):Option R :=
  match Qqa c.Γ ri [] es (frz c.Γ ri es S.mem++S.fixM) [] with
  | some x=>bif Ou c.Γ.mem&&Nat.beq es.length c.Γ.env.length&&K7 (Y0 S.mem) (Yx ri (wrG c.ro c.Γ.mem))&&Qcg ri (frz c.Γ ri es S.mem++S.fixM) (rdG c.ro c.Γ.mem) then
   (c.fn x).bind fun y=>callR c d S ri (Jr (frz c.Γ ri es S.mem) (Yx ri (wrG c.ro c.Γ.mem))).1 (enc c.Δ y) (roM c x) k else none
  | none=>none
 callR (c:Con) (d:Nat) (S:XS) (ri:List (Nat×Nat)) (M:List (Nat×Ob)) (S1:St) (RO:List (Nat×Ob)) (k:XS→Option R):Option R :=
  bif Qm1 ri d (c.Γ.mem.map Prod.fst) S M (S1.mem.map Prod.fst)&&Gc ((S1.mem++RO).map fun q=>J8 ri d q.1)&&K7 ((S1.mem++RO).map Prod.fst) (Fb S1.env)&&K7 ((S1.mem++RO).map Prod.fst) (Jk (S1.mem++RO)) then
   k (XS.put ⟨S.env,S.fix,Zz (J8 ri d) S1.mem++M,S.fixM,S.prot⟩ d [] (Ko (J8 ri d) (Fj S1.env))) else none
def Nb (t:Nat) (want:Bool) (o:Oper) (S:XS) (k:XS→Option R):Option R :=
 match Zw S.flat.env t,o.dst with
 | some ⟨_,cs,.d .bool _⟩,some d=>bif okW n S d&&!Nat.beq t d&&!Cc d cs then (match M7 Y S.flat ((t,want)::cs) o.op with
   | some v=>k (S.put d ((t,want)::cs) v)
   | none=>none) else none
 | _,_=>none
def Nc (ops:List Oper) (o:Oper) (S:XS) (k:XS→Option R):Option R:=match La ops o with
 | some none=>P1 Y n o S k
 | some (some (t,want))=>Nb Y n t want o S k
 | none=>none
def Dl (o:Oper) (S:XS) (k:XS→Option R):Option R:=match o.dst with
 | some d=>bif okW n S d then k (S.put d [] (.tp .nil)) else none
 | none=>k S
def stepL (ops:List Oper) (o:Oper) (S:XS) (k:XS→Option R):Option R:=match La ops o with
 | some none=>P1 Y n o S k
 | some (some (t,want))=>match Zw S.flat.env t with
  | some ⟨_,[],.d .bool b⟩=>match b==want with
   | true=>P1 Y n o S k
   | false=>Dl n o S k
  | some ⟨_,[],.tp .nil⟩=>Dl n o S k
  | _=>none
 | none=>none
def Ro (st:Oper→XS→(XS→Option R)→Option R):List Oper→XS→(XS→Option R)→Option R
 | [],S,k=>k S
 | o::l,S,k=>st o S fun S'=>Ro st l S' k
end
def Vj (Y:TX) (K:List Con) (n:Nat) (ops:List Oper) {R:Type}:Hn→List Oper→XS→(XS→Option R)→Option R
 | .done,l,S,k=>match l with
  | []=>k S
  | _::_=>none
 | .n m r,l,S,k=>Ro (Nc Y n ops) (l.take m) S fun S'=>Vj Y K n ops r (l.drop m) S' k
 | .nl m r,l,S,k=>Ro (stepL Y n ops) (l.take m) S fun S'=>Vj Y K n ops r (l.drop m) S' k
 | .call c r,l,S,k=>match K[c]?,l with
  | some con,o::l'=>match La ops o with
   | some none=>Zg n con o S fun S'=>Vj Y K n ops r l' S' k
   | some (some (t,want))=>match Zw S.flat.env t with
    | some ⟨_,[],.d .bool b⟩=>match b==want with
     | true=>Zg n con o S fun S'=>Vj Y K n ops r l' S' k
     | false=>none
    | _=>none
   | none=>none
  | _,_=>none
 | .br r,l,S,k=>match l with
  | o::l'=>match La ops o with
   | some none=>Li Y n o S fun S'=>Vj Y K n ops r l' S' k
   | some (some (t,want))=>match Zw S.flat.env t with
    | some ⟨_,[],.d .bool b⟩=>match b==want with
     | true=>Li Y n o S fun S'=>Vj Y K n ops r l' S' k
     | false=>none
    | _=>none
   | none=>none
  | []=>none
 | .fz id r,l,S,k=>Vj Y K n ops r l { S with mem:=Vr [id] S.mem } k
 | .keep ts r,l,S,k=>Vj Y K n ops r l { S with env:=Rn S.env ts } k
 | .si t i a b,l,S,k=>match Zw S.env t with
  | some ⟨_,[],.d (.int kd) v⟩=>bif Ho t S.fix then (if v=i then Vj Y K n ops a l (S.put t [] (.d (.int kd) i)) k else Vj Y K n ops b l S k) else none
  | _=>none
 | .mt id path e r,l,S,k=>match Qe S.mem id with
  | some (.map kk v [])=>match Rk v path with
   | some ⟨u,_⟩=>bif F2 S id then Vj Y K n ops r l (S.swap id (.mapT kk v path e u [] none)) k else none
   | none=>none
  | _=>none
 | .op src id d r,l,S,k=>match Qe S.mem id with
  | some (.mapT kk v path e u xs none)=>match Rk v path,Jkp S src with
   | some ⟨u1,f⟩,some av=>match asD S.flat.mem av kk with
    | some key=>bif Ck kk&&F2 S id&&okB S d then Vj Y K n ops r l ((S.swap id (.mapT kk v path e u xs (some (key,d)))).born d (.tail e u1 (Qkb f (Q0 key xs)))) k else none
    | none=>none
   | _,_=>none
  | _=>none
 | .fm id r,l,S,k=>match Qe S.mem id with
  | some (.mapT kk v _ _ _ xs none)=>Vj Y K n ops r l (S.swap id (.map kk v xs)) k
  | _=>none
 | .sp t m ks ms Γ a b r,l,S,k=>match Zw S.env t with
  | some ⟨_,[],.d .bool v⟩=>bif Ho t S.fix then
    (if v=true then Vj Y K n ops (R:=Γ.De) a (l.take m) ((XS.put S t [] (.d .bool true)).ent ks ms) (fun S'=>S'.dec Γ)
     else Vj Y K n ops (R:=Γ.De) b (l.take m) ((XS.put S t [] (.d .bool false)).ent ks ms) (fun S'=>S'.dec Γ)).bind
     fun y=>Vj Y K n ops r (l.drop m) (XS.out (XS.put S t [] (.d .bool v)) ks ms (enc Γ y)) k else none
  | _=>none
 | _,_,_,_=>none
section
variable {R:Type} (Y:TX) (n:Nat)
def Qf9 (o:Oper) (S:XS) (k:XS→Option R):Option R:=match o.dst with
 | some d=>bif okW n S d then Ce Y S.flat [] o.op fun v=>k (S.put d [] v) else none
 | none=>none
def Qdv (ops:List Oper) (o:Oper) (S:XS) (k:XS→Option R):Option R:=match La ops o with
 | some none=>Qf9 Y n o S k
 | some (some (t,want))=>Nb Y n t want o S k
 | none=>none
def Qdw (ops:List Oper) (o:Oper) (S:XS) (k:XS→Option R):Option R:=match La ops o with
 | some none=>Qf9 Y n o S k
 | some (some (t,want))=>match Zw S.flat.env t with
  | some ⟨_,[],.d .bool b⟩=>match b==want with
   | true=>Qf9 Y n o S k
   | false=>Dl n o S k
  | some ⟨_,[],.tp .nil⟩=>Dl n o S k
  | _=>none
 | none=>none
end
def El (Y:TX) (n:Nat) (ops:List Oper) {R:Type}:Hn→List Oper→XS→(XS→Option R)→Option R
 | .done,l,S,k=>match l with
  | []=>k S
  | _::_=>none
 | .n m r,l,S,k=>Ro (Qdv Y n ops) (l.take m) S fun S'=>El Y n ops r (l.drop m) S' k
 | .nl m r,l,S,k=>Ro (Qdw Y n ops) (l.take m) S fun S'=>El Y n ops r (l.drop m) S' k
 | .sp t m ks ms Γ a b r,l,S,k=>match Zw S.env t with
  | some ⟨_,[],.d .bool v⟩=>bif Ho t S.fix then
    (if v=true then El Y n ops (R:=Γ.De) a (l.take m) ((XS.put S t [] (.d .bool true)).ent ks ms) (fun S'=>S'.dec Γ)
     else El Y n ops (R:=Γ.De) b (l.take m) ((XS.put S t [] (.d .bool false)).ent ks ms) (fun S'=>S'.dec Γ)).bind
     fun y=>El Y n ops r (l.drop m) (XS.out (XS.put S t [] (.d .bool v)) ks ms (enc Γ y)) k else none
  | _=>none
 | _,_,_,_=>none
inductive Gk where
 | v
 | r (u:Ty) (e:TypeId) (zs:List u.De) (c:Nat)
 | c
 | u
 | t (u:Ty) (e:TypeId) (zs:List u.De) (h:Nat)
 | o (t:TypeId) (c:AV)
 | b (ns:List Nat)
 | w (id:Nat) (ob:Ob)
abbrev Got:=List (Nat×AV×Gk)
def Cf:Got→Nat→Option AV
 | [],_=>none
 | (d,v,.v)::l,t=>bif Nat.beq d t then some v else Cf l t
 | (d,_,_)::l,t=>bif Nat.beq d t then none else Cf l t
def Ge:Got→Nat→Bool
 | [],_=>false
 | (d,_,.r _ _ _ _)::l,t=>Nat.beq d t||Ge l t
 | _::l,t=>Ge l t
def Dm:Got→Nat→Bool
 | [],_=>false
 | (d,_,.o _ _)::l,t=>Nat.beq d t||Dm l t
 | _::l,t=>Dm l t
def Ir:Got→Nat→Bool
 | [],_=>false
 | (d,_,.u)::l,t=>Nat.beq d t||Ir l t
 | (d,_,_)::l,t=>bif Nat.beq d t then false else Ir l t
def Qth (l0:List Oper) (ds:List Nat) (i:Nat) (acc:Got):Op→Option Nat
 | .move (.tmp t)=>bif Ge acc t&&K6 l0 i (ds.idxOf t) then some t else none
 | .assign (.tmp t)=>bif Ge acc t&&K6 l0 i (ds.idxOf t) then some t else none
 | _=>none
def F3 (o:Oper):List Nat:=o.op.operands.toList.filterMap fun x=>match x with
 | .tmp t=>some t
 | _=>none
def Qga:List En→List En
 | []=>[]
 | e::l=>bif Nat.blt e.t 100000 then Qga l else (match e.cs with
  | []=>e::Qga l
  | _::_=>Qga l)
def Qdx (l0:List Oper) (ds:List Nat) (i:Nat) (acc:Got) (env:List En):List Nat→List En
 | []=>Qga env
 | t::ts=>match Cf acc t with
  | some v=>bif K6 l0 i (ds.idxOf t) then ⟨t,[],v⟩::Qdx l0 ds i acc env ts else Qdx l0 ds i acc env ts
  | none=>bif Ec ds t then (match Zw env t with
   | some ⟨t',[],v⟩=>⟨t',[],v⟩::Qdx l0 ds i acc env ts
   | _=>Qdx l0 ds i acc env ts) else Qdx l0 ds i acc env ts
def Gf (ds:List Nat):AV→Bool:=fun x=>ds.all fun d=>Uj d x
def Tk (l0:List Oper) (ds:List Nat) (i:Nat) (acc:Got) (o:Oper):Option Bool:=match La l0 o with
 | none=>none
 | some none=>some true
 | some (some (t,want))=>bif K6 l0 i (ds.idxOf t) then (match Cf acc t with
  | some (.d .bool b)=>some (b==want)
  | some _=>none
  | none=>bif Ir acc t then some false else none) else none
def Qti (S:St):List Operand→Nat→Option (List En)
 | [],_=>some []
 | x::l,i=>match ev S [] x,Qti S l (i+1) with
  | some v,some r=>bif Nat.blt i 100000 then some (⟨i,[],v⟩::r) else none
  | _,_=>none
def Hb {α:Type}:List α→Bool
 | []=>true
 | _=>false
def Qtj {R:Type} (c:Con) (op:Op) (S:St) (k:AV→Option R):Option R:=match op with
 | .call ⟨.value (.func f),⟨xs⟩,_⟩=>bif Nat.beq c.f f&&Hb c.Γ.mem&&Hb c.Δ.mem then (match Qti S xs 0 with
  | some es=>bif Nat.beq es.length c.Γ.env.length then (match Qqa c.Γ [] [] es S.mem [] with
   | some x=>(c.fn x).bind fun y=>bif Hb (Fb (enc c.Δ y).env) then k (Fj (enc c.Δ y).env) else none
   | none=>none) else none
  | none=>none) else none
 | _=>none
def Em (id d:Nat):Gk→Option Ob→Option Ob
 | .r u e zs _,c=>bif Nat.beq d id then some (.row e u zs) else c
 | .t u e zs h,c=>bif Nat.beq d id then some (.tail e u zs) else (bif Nat.beq h id then none else c)
 | .o t x,c=>bif Nat.beq d id then some (.var t x) else c
 | .w j ob,c=>bif Nat.beq j id then some ob else c
 | _,c=>c
def Yj (id d:Nat):Gk→Bool
 | .r _ _ _ _=>Nat.beq d id
 | .t _ _ _ h=>Nat.beq d id||Nat.beq h id
 | .o _ _=>Nat.beq d id
 | .w j _=>Nat.beq j id
 | _=>false
def U0 (E:Nat→Bool) (id:Nat):Got→Nat→Option Ob→Option Ob
 | [],_,c=>c
 | (d,_,q)::l,j,c=>U0 E id l (j+1) (bif E j then Em id d q c else c)
def Uu:Nat→Bool:=fun _=>true
def Rp (l0:List Oper) (i id:Nat):Got→Nat→Bool
 | [],_=>true
 | (d,_,q)::l,j=>(!Yj id d q||Zt l0 l0.length i j)&&Rp l0 i id l (j+1)
def Ht (id:Nat):Got→Bool
 | []=>true
 | (d,_,q)::l=>!Yj id d q&&Ht id l
def Qtk (o:Oper):Bool:=match o.dst with
 | none=>true
 | some _=>match o.op with
  | .call ⟨.builtin .append,_,_⟩=>true
  | _=>false
def Qm2 (l0:List Oper) (p i:Nat):Bool:=(List.range p).all fun k=>Nat.ble k i||(match l0[k]? with
 | some o=>!Qtk o
 | none=>false)||Zt l0 l0.length k i
def Qtl (l0:List Oper) (p i:Nat) (acc:Got) (Zs:List (Nat×Ob)):List (Nat×Ob):=match Zs with
 | []=>[]
 | _=>bif Qm2 l0 p i then Zs.filterMap fun q=>bif Rp l0 i q.1 acc 0 then (match U0 Uu q.1 acc 0 (Qe Zs q.1) with
  | some ob=>some (q.1,ob)
  | none=>none) else none else []
section
variable {R:Type} (Y:TX) (n:Nat) (l0:List Oper) (ds:List Nat) (Zs:List (Nat×Ob)) (S0:XS)
def Cg (i:Nat) (acc:Got) (o:Oper):St:=⟨Qdx l0 ds i acc S0.flat.env (F3 o),S0.flat.mem++Qtl l0 ds.length i acc Zs⟩
def Qqc (i:Nat) (acc:Got) (id:Nat):Option Ob:=bif Rp l0 i id acc 0 then U0 Uu id acc 0 (Qe Zs id) else none
def Qy2 (i:Nat) (acc:Got) (id:Nat):Option Ob:=bif Kh (Qe Zs id) then Qqc l0 Zs i acc id else none
def okZ (d:Nat) (acc:Got):Bool:=okB S0 d&&Q7 d Zs&&Ht d acc
def Qtm (S:St) (op:Op) (k:(u:Ty)→TypeId→List u.De→Nat→Option R):Option R:=match op with
 | .makeSlice t lo co=>match Qi Y.T t,ev S [] lo,ev S [] co with
  | some te,some lv,some cv=>match Y7 te.d,Zf lv,Zf cv with
   | some e,some (_,nl),some (_,nc)=>match Qi Y.T e,J3 Y.tys e with
    | some ee,some u=>match Ga u ee.z with
     | some za=>match asD [] za u with
      | some z=>bif Nat.beq ee.size u.size&&Nat.beq (Qm ee.z).length ee.size&&Nat.ble 1 ee.bytes then (mkL ee.bytes nl nc z).bind fun zs=>k u e zs nc.toNat else none
      | none=>none
     | none=>none
    | _,_=>none
   | _,_,_=>none
  | _,_,_=>none
 | _=>none
def Jco (S:St) (op:Op) (k:AV→Option R):Option R:=match op with
 | .buildSlice t (m+1) ⟨ps⟩=>match Qi Y.T t with
  | some te=>match Y7 te.d with
   | some e=>match Qi Y.T e,J3 Y.tys e with
    | some ee,some u=>match Vb S [] ps with
     | some vs=>match asLs S.mem u vs 0 with
      | some xs=>bif Nat.beq ee.size u.size&&Nat.beq xs.length (m+1)&&Nat.ble ((m+1)*ee.size) 16777216&&Nat.ble 1 ee.size&&Nat.beq (Qm ee.z).length ee.size then k (.d (.sl u) xs) else none
      | none=>none
     | none=>none
    | _,_=>none
   | none=>none
  | none=>none
 | _=>none
def Jcp (C:Nat→Option Ob) (S:St) (op:Op) (k:(u:Ty)→TypeId→List u.De→Nat→Option R):Option R:=match op with
 | .call ⟨.builtin .append,⟨[s,x]⟩,⟨[t,t']⟩⟩=>match Qi Y.T t,ev S [] s,ev S [] x with
  | some te,some (.s id),some xv=>match C id with
   | some (.tail e' u xs)=>match Y7 te.d with
    | some e=>match Qi Y.T e,asD S.mem xv (.sl u) with
     | some ee,some ys=>bif Nat.beq t t'&&Nat.ble 1 ee.size&&Nat.ble 1 ee.bytes&&Nat.beq (Qm ee.z).length ee.size&&Nat.beq ee.size u.size&&Nat.beq e e'&&!Hb ys then (app ee.bytes xs ys).bind fun zs=>k u e zs id else none
     | _,_=>none
    | none=>none
   | _=>none
  | _,_,_=>none
 | _=>none
def Jkq (S:St):Op→Bool
 | .call ⟨.builtin .append,⟨[s,_]⟩,_⟩=>match ev S [] s with
  | some .ns=>true
  | _=>false
 | _=>false
def Jcq (S:St) (op:Op) (k:(u:Ty)→TypeId→List u.De→Nat→Option R):Option R:=match op with
 | .call ⟨.builtin .append,⟨[s,x]⟩,⟨[t,t']⟩⟩=>match Qi Y.T t,ev S [] s,ev S [] x with
  | some te,some .ns,some xv=>match Y7 te.d with
   | some e=>match Qi Y.T e,J3 Y.tys e with
    | some ee,some u=>match asD S.mem xv (.sl u) with
     | some ys=>bif Nat.beq t t'&&Nat.ble 1 ee.size&&Nat.ble 1 ee.bytes&&Nat.beq (Qm ee.z).length ee.size&&Nat.beq ee.size u.size then (app ee.bytes [] ys).bind fun zs=>k u e zs 0 else none
     | none=>none
    | _,_=>none
   | none=>none
  | _,_,_=>none
 | _=>none
def Qkd (op:Op) (k:TypeId→AV→Option R):Option R:=match op with
 | .alloc t=>match Qi Y.T t,J3 Y.tys t with
  | some e,some ty=>match Ga ty e.z with
   | some c=>bif c.isVal&&Hb (Jc c) then k t c else none
   | none=>none
  | _,_=>none
 | _=>none
def Lj (acc:Got):List Nat→List Nat
 | []=>[]
 | t::ts=>bif Ge acc t then t::Lj acc ts else Lj acc ts
def Qdy (l0:List Oper) (ds:List Nat) (i:Nat):List Nat→Bool
 | []=>true
 | t::ts=>K6 l0 i (ds.idxOf t)&&Qdy l0 ds i ts
def Qtn (ds:List Nat):List En→List En
 | []=>[]
 | e::l=>bif Gf ds e.av then e::Qtn ds l else Qtn ds l
def Jcr (ns:List Nat) (S:St):St:=⟨ns.map (fun t=>⟨t,[],.s t⟩)++Qtn ds S.env,[]⟩
inductive Kd where
 | mk | lit | q | ap | al | bd
def Jm3:Op→Kd
 | .makeSlice _ _ _=>.mk
 | .buildSlice _ _ _=>.lit
 | .call ⟨.builtin .append,_,_⟩=>.ap
 | .alloc _=>.al
 | .build _ _=>.bd
 | _=>.q
def Qdz (S:St) (i:Nat) (acc:Got) (p:Operand):Option (Bool×Bool×Nat×List PS):=match ev S [] p with
 | some (.p id path)=>some (true,false,id,path)
 | some (.e id path)=>some (true,true,id,path)
 | some _=>none
 | none=>match p with
  | .tmp t=>bif Dm acc t&&K6 l0 i (ds.idxOf t) then some (false,false,t,[]) else none
  | _=>none
def Qke (S:St) (i:Nat) (acc:Got) (op:Op) (k:Nat→Ob→Option R):Option R:=match op with
 | .store t p x=>match Qi Y.T t,Qdz l0 ds S i acc p,ev S [] x with
  | some e,some (b,el,id,path),some v=>bif Nat.beq e.size v.size&&v.isVal&&v.inMem then (match Qqc l0 Zs i acc id,path with
   | some (.row et u xs),.i j sz::ps=>(idx xs j).bind fun y=>match Cl ps (.d u y) v with
    | some c=>match asD S.mem c u with
     | some z=>bif b&&el&&Nat.beq sz u.size&&Nat.ble 1 u.size&&Kh (Qe Zs id) then k id (.row et u (xs.set j.toNat z)) else none
     | none=>none
    | none=>none
   | some (.var tid c),path=>match Cl path c v with
    | some c'=>bif Gf ds c'&&!el&&(!b||Kh (Qe Zs id)) then k id (.var tid c') else none
    | none=>none
   | _,_=>none) else none
  | _,_,_=>none
 | _=>none
def Qto (o:Oper) (i:Nat) (acc:Got) (k:Nat×AV×Gk→Option R):Option R:=match o.dst with
 | none=>bif Nat.beq (ds.getD i 0) (1000000000+i) then (match Tk l0 ds i acc o with
  | some true=>Qke Y l0 ds Zs (Cg l0 ds Zs S0 i acc o) i acc o.op fun id ob=>k (1000000000+i,.tp .nil,.w id ob)
  | _=>none) else none
 | some d=>bif okW n S0 d&&Nat.beq (ds.getD i 0) d then (match Tk l0 ds i acc o with
  | some false=>k (d,.tp .nil,.u)
  | some true=>match Qth l0 ds i acc o.op with
   | some t=>k (d,.s t,.c)
   | none=>match Jm3 o.op with
    | .mk=>Qtm Y (Cg l0 ds Zs S0 i acc o) o.op fun u e zs c=>bif okZ Zs S0 d acc then k (d,.s d,.r u e zs c) else none
    | .lit=>Jco Y (Cg l0 ds Zs S0 i acc o) o.op fun v=>k (d,v,.v)
    | .ap=>bif Jkq (Cg l0 ds Zs S0 i acc o) o.op then Jcq Y (Cg l0 ds Zs S0 i acc o) o.op fun u e zs c=>bif okZ Zs S0 d acc then k (d,.s d,.r u e zs c) else none
     else Jcp Y (Qy2 l0 Zs i acc) (Cg l0 ds Zs S0 i acc o) o.op fun u e zs h=>bif okZ Zs S0 d acc then k (d,.s d,.t u e zs h) else none
    | .al=>Qkd Y o.op fun t c=>bif okZ Zs S0 d acc then k (d,.p d [],.o t c) else none
    | .bd=>bif Hb (Lj acc (F3 o)) then Ce Y (Cg l0 ds Zs S0 i acc o) [] o.op fun v=>bif Gf ds v then k (d,v,.v) else none
     else bif Qdy l0 ds i (Lj acc (F3 o)) then Ce Y (Jcr ds (Lj acc (F3 o)) (Cg l0 ds Zs S0 i acc o)) [] o.op fun v=>bif (Jc v).all (fun j=>Ec ds j||Yn (Lj acc (F3 o)) j) then k (d,v,.b (Lj acc (F3 o))) else none
      else none
    | .q=>Ce Y (Cg l0 ds Zs S0 i acc o) [] o.op fun v=>bif Gf ds v then k (d,v,.v) else none
  | none=>none) else none
def Qgb:Nat→List Oper→Nat→Got→(List Oper→Nat→Got→Option R)→Option R
 | 0,l,i,acc,k=>k l i acc
 | _+1,[],_,_,_=>none
 | m+1,o::l,i,acc,k=>Qto Y n l0 ds Zs S0 o i acc fun g=>Qgb m l (i+1) (acc++[g]) k
def Qtp:Got→Nat→Bool→Got
 | [],_,_=>[]
 | (d,v,q)::l,t,b=>bif Nat.beq d t then (d,.d .bool b,q)::l else (d,v,q)::Qtp l t b
def Af (K:List Con):Hn→List Oper→Nat→Got→(Hn→Got→Option R)→Option R
 | .tl h,l,i,acc,k=>match l with
  | []=>k h acc
  | _::_=>none
 | .n m r,l,i,acc,k=>Qgb Y n l0 ds Zs S0 m l i acc fun l' i' acc'=>Af K r l' i' acc' k
 | .call c r,l,i,acc,k=>match K[c]?,l with
  | some con,o::l'=>match o.dst with
   | some d=>bif okW n S0 d&&Nat.beq (ds.getD i 0) d then (match Tk l0 ds i acc o with
    | some true=>Qtj con o.op (Cg l0 ds Zs S0 i acc o) fun v=>Af K r l' (i+1) (acc++[(d,v,.v)]) k
    | _=>none) else none
   | none=>none
  | _,_=>none
 | .so t a b,l,i,acc,k=>match Cf acc t with
  | some (.d .bool v)=>if v=true then Af K a l i (Qtp acc t true) k else Af K b l i (Qtp acc t false) k
  | _=>none
 | _,_,_,_,_=>none
end
def Qqd:Got→List En
 | []=>[]
 | (_,_,.w _ _)::l=>Qqd l
 | (d,v,_)::l=>⟨d,[],v⟩::Qqd l
def J0:Got→List Nat
 | []=>[]
 | (d,_,.r _ _ _ _)::l=>d::J0 l
 | (_,_,.v)::l=>J0 l
 | (_,_,.c)::l=>J0 l
 | (_,_,.u)::l=>J0 l
 | (_,_,.b _)::l=>J0 l
 | (d,_,.t _ _ _ _)::l=>d::J0 l
 | (d,_,.o _ _)::l=>d::J0 l
 | (_,_,.w _ _)::l=>J0 l
def Qy3 (Zs:List (Nat×Ob)) (acc:Got):List (Nat×Ob):=(Y0 Zs++J0 acc).filterMap fun id=>match U0 Uu id acc 0 (Qe Zs id) with
 | some ob=>some (id,ob)
 | none=>none
def Lk (env:List En):List Nat→List En
 | []=>env
 | d::ds=>Lk (Yu (Ud d env) d) ds
def Qbq (S0:XS) (ds:List Nat) (Zs:List (Nat×Ob)) (acc:Got):XS:=⟨Qqd acc++Lk S0.env ds,S0.fix,Qy3 Zs acc++S0.mem,S0.fixM,S0.prot⟩
def Qy4 (l:List Oper) (p:Nat):Bool:=(List.range l.length).all fun k=>Nat.blt k p||(List.range k).all fun i=>Zt l l.length k i
def Tl (l:List Oper) (p:Nat) (ds:List Nat):Bool:=Nat.ble p l.length&&Nat.beq ds.length p&&backB l&&Qy4 l p&&Sp ds
def Qtq (l:List Oper) (n:Nat):Bool:=bif Nat.blt n l.length then Region.lexTailB .any l.toArray n else Nat.beq n l.length&&Region.lexB .any l.toArray
def V2:List (Nat×Ob)→Bool
 | []=>true
 | (_,.tail _ _ _)::_=>false
 | (_,.mapT _ _ _ _ _ _ _)::_=>false
 | _::l=>V2 l
structure EC where
 d:Nat
 av:AV
 has:Bool
 ups:List (Nat×Option Ob)
def P2:List (Nat×Option Ob)→Nat→Option (Option Ob)
 | [],_=>none
 | (k,x)::l,id=>bif Nat.beq k id then some x else P2 l id
def upC (id:Nat) (e:EC) (c:Option Ob):Option Ob:=match P2 e.ups id with
 | some x=>x
 | none=>c
def Vc (E:Nat→Bool) (id:Nat):List EC→Nat→Option Ob→Option Ob
 | [],_,c=>c
 | e::l,j,c=>Vc E id l (j+1) (bif E j then upC id e c else c)
def U9 (id:Nat) (e:EC):Bool:=Kh (P2 e.ups id)
def Hc (E:Nat→Bool):List EC→Nat→List En
 | [],_=>[]
 | e::l,j=>bif E j&&e.has then ⟨e.d,[],e.av⟩::Hc E l (j+1) else Hc E l (j+1)
def Zh (id:Nat):Option Ob→Option (Nat×Ob)
 | some ob=>some (id,ob)
 | none=>none
def Wk (names:List Nat) (Zs:List (Nat×Ob)) (acc:List EC) (E:Nat→Bool):List (Nat×Ob):=names.filterMap fun id=>Zh id (Vc E id acc 0 (Qe Zs id))
def HD.wr (h:HD):List Nat:=h.tch++h.bs
def HD.al (h:HD):List Nat:=h.tch++h.ro++h.bs
def Nd:List EC→Nat→Option AV
 | [],_=>none
 | g::l,t=>bif Nat.beq g.d t&&g.has then some g.av else Nd l t
def Tm (l0:List Oper) (ds:List Nat) (i:Nat) (acc:List EC) (B:List En):List Nat→List En
 | []=>Qga B
 | t::ts=>match Nd acc t with
  | some v=>bif K6 l0 i (ds.idxOf t) then ⟨t,[],v⟩::Tm l0 ds i acc B ts else Tm l0 ds i acc B ts
  | none=>bif Ec ds t then (match Zw B t with
   | some ⟨t',[],v⟩=>⟨t',[],v⟩::Tm l0 ds i acc B ts
   | _=>Tm l0 ds i acc B ts) else Tm l0 ds i acc B ts
def gTs (l0:List Oper) (o:Oper):List Nat:=match La l0 o with
 | some (some (t,_))=>[t]
 | _=>[]
def Ch (l m:List Nat):Bool:=l.all fun x=>!Yn m x
def Nf (l0:List Oper) (i j:Nat) (hi hj:HD):Bool:=((Ch hj.wr hi.al&&Ch hj.ro hi.wr)||Zt l0 l0.length i j)&&Ch hi.bs hj.wr
def Jkr (l0:List Oper) (hs:List HD):Bool:=(List.range hs.length).all fun i=>(List.range i).all fun j=>match hs[i]?,hs[j]? with
 | some hi,some hj=>Nf l0 i j hi hj
 | _,_=>true
def nmB (l0:List Oper) (hs:List HD):Bool:=(List.range hs.length).all fun i=>(List.range hs.length).all fun j=>Nat.beq i j||(match hs[i]?,hs[j]? with
 | some hi,some hj=>Ch hi.bs hj.nm||Zt l0 l0.length j i
 | _,_=>true)
def Z0:List HD→List Nat
 | []=>[]
 | h::l=>h.bs++Z0 l
def Gg:HT→List Nat
 | .tl _=>[]
 | .op h r=>h.bs++Gg r
 | .so _ a b=>Gg a++Gg b
def Ng (l m:List Nat):List Nat:=l.filter fun x=>!Yn m x
def Ll (ids:List Nat) (Zs:List (Nat×Ob)) (acc:List EC):List (Nat×Ob):=ids.filterMap fun id=>Zh id (Vc Uu id acc 0 (Qe Zs id))
def Qgc:List EC→Nat→Bool→List EC
 | [],_,_=>[]
 | g::l,t,b=>bif Nat.beq g.d t&&g.has then ⟨g.d,.d .bool b,g.has,g.ups⟩::l else g::Qgc l t b
def F4 (M:List (Nat×Ob)):AV→AV
 | .s id=>match Qe M id with
  | some (.tail _ t xs)=>.d (.sl t) xs
  | _=>.s id
 | .ag l=>.ag (F4 M l)
 | .cons x r=>.cons (F4 M x) (F4 M r)
 | x=>x
def Qd0 (M:List (Nat×Ob)):List Nat→Bool
 | []=>false
 | id::l=>match Qe M id with
  | some (.tail _ _ _)=>true
  | _=>Qd0 M l
def Qqe (M:List (Nat×Ob)):List En→List En
 | []=>[]
 | e::l=>bif Qd0 M (Qcf e.av) then ⟨e.t,e.cs,F4 M e.av⟩::Qqe M l else Qqe M l
section
variable {R:Type} (Y:TX) (K:List Con) (n:Nat) (l0:List Oper) (ds:List Nat) (Zs:List (Nat×Ob)) (B:List En) (prA:List Nat)
def Tn (hc:HD) (o:Oper) (i:Nat) (acc:List EC):XS:=⟨Tm l0 ds i acc B (F3 o++gTs l0 o),[],Ll hc.tch Zs acc,Ll hc.ro Zs acc,Ng prA hc.bs⟩
def L2 (hc:HD) (o:Oper) (i:Nat) (acc:List EC) (S1:XS):Option EC :=
 bif V2 (Ll hc.tch Zs acc++Ll hc.ro Zs acc)&&K7 hc.nm (Jk S1.mem) then (match o.dst with
  | some d=>match Zw S1.env d with
   | some ⟨_,[],av⟩=>bif Nat.beq (ds.getD i 0) d&&K7 hc.nm (Jc av)&&Nat.blt d n then some ⟨d,av,true,(hc.tch++hc.bs).map fun id=>(id,Qe S1.mem id)⟩ else none
   | _=>none
  | none=>bif Nat.beq (ds.getD i 0) (1000000000+i) then some ⟨1000000000+i,.tp .nil,false,(hc.tch++hc.bs).map fun id=>(id,Qe S1.mem id)⟩ else none) else none
def Tp:HT→List Oper→Nat→List HD→List EC→(Hn→List HD→List EC→Option R)→Option R
 | .tl h,l,_,hs,acc,k=>match l with
  | []=>k h hs acc
  | _::_=>none
 | .op hc r,l,i,hs,acc,k=>match l with
  | o::l'=>Vj Y K n l0 hc.h [o] (Tn l0 ds Zs B prA hc o i acc) fun S1=>match L2 n ds Zs hc o i acc S1 with
   | some g=>Tp r l' (i+1) (hs++[hc]) (acc++[g]) k
   | none=>none
  | []=>none
 | .so t a b,l,i,hs,acc,k=>match Nd acc t with
  | some (.d .bool v)=>if v=true then Tp a l i hs (Qgc acc t true) k else Tp b l i hs (Qgc acc t false) k
  | _=>none
end
def Qy5 (l0:List Oper) (ks:List Nat) (prB prA:List Nat) (hs:List HD):Bool:=Jkr l0 hs&&nmB l0 hs&&Gc (ks++Z0 hs)&&Ch prB (Z0 hs)&&K7 prA (ks++Z0 hs) &&
 hs.all fun hc=>Gc hc.al&&K7 (ks++Z0 hs) hc.al&&K7 prA hc.nm
def kfC (zf:List Nat) (hs:List HD):Bool:=hs.all fun hc=>Ch hc.wr zf
def Jm4 (S:XS) (ds:List Nat) (Z1 Z2 M1:List (Nat×Ob)) (bsA:List Nat) (hs:List HD) (acc:List EC):XS:=⟨Hc Uu acc 0++Lk S.env (ds++bsA),S.fix,Wk (Y0 Z1++Z0 hs) (Z1++Z2) acc Uu++M1,S.fixM,S.prot⟩
def F5 {R:Type}:Hn→XS→(XS→Option R)→Option R
 | .done,S,k=>k S
 | .fz id r,S,k=>F5 r { S with mem:=Vr [id] S.mem } k
 | .mt id path e r,S,k=>match Qe S.mem id with
  | some (.map kk v [])=>match Rk v path with
   | some ⟨u,_⟩=>bif F2 S id then F5 r (S.swap id (.mapT kk v path e u [] none)) k else none
   | none=>none
  | _=>none
 | .op src id d r,S,k=>match Qe S.mem id with
  | some (.mapT kk v path e u xs none)=>match Rk v path,Jkp S src with
   | some ⟨u1,f⟩,some av=>match asD S.flat.mem av kk with
    | some key=>bif Ck kk&&F2 S id&&okB S d then F5 r ((S.swap id (.mapT kk v path e u xs (some (key,d)))).born d (.tail e u1 (Qkb f (Q0 key xs)))) k else none
    | none=>none
   | _,_=>none
  | _=>none
 | .fm id r,S,k=>match Qe S.mem id with
  | some (.mapT kk v _ _ _ xs none)=>F5 r (S.swap id (.map kk v xs)) k
  | _=>none
 | .dt id r,S,k=>match Qe S.mem id with
  | some (.var tid c)=>F5 r (S.set id (.var tid (F4 S.flat.mem c))) k
  | _=>none
 | _,_,_=>none
def Qtr (S:XS) (t i:Nat):Bool:=match Zw S.env t with
 | some ⟨_,[],.d (.int _) v⟩=>match Qp5 v with
  | some j=>Nat.beq j i
  | none=>false
 | _=>false
def dcR (Y:TX) (K:List Con) (n:Nat) {R:Type} (ops:List Oper) (p:Nat) (ds:List Nat) (Z1 Z2 M1 F1:List (Nat×Ob)) (ht:HT) (S:XS) (B:List En) (prB:List Nat) (k:Hn→XS→Option R):Option R :=
 Tp Y K n ops ds (Z1++Z2) (Qqe (M1++F1) B++B) (prB++Y0 (Z1++Z2)++Gg ht) ht (ops.take p) 0 [] [] fun h hs acc =>
  bif Qy5 ops (Y0 (Z1++Z2)) prB (prB++Y0 (Z1++Z2)++Gg ht) hs&&kfC (Y0 Z2) hs then k h (Jm4 S ds Z1 Z2 M1 (Gg ht) hs acc) else none
def dcI (Y:TX) (K:List Con) (n:Nat) {R:Type} (ops:List Oper) (p:Nat) (ds:List Nat) (Z1 Z2 M1 F1:List (Nat×Ob)) (ht:HT) (S:XS) (B:List En) (k:Hn→XS→Option R):Option R :=
 dcR Y K n ops p ds Z1 Z2 M1 F1 ht S B (Fb B++Jk ((Z1++Z2)++(M1++F1))++S.prot) k
def Qkf (ops:List Oper) (o1 o2 o3:Oper) (mo:Nat):Option (TypeId×Nat×Nat×Nat×Nat):=match ops.getLast?,o1,o2,o3 with
 | some ⟨some it,.range t (.tmp mt),_,_,_,none⟩,⟨some nx,.next (.tmp it1) false,_,_,_,none⟩,⟨some mo1,.extract (.tmp nx1) 0,_,_,_,none⟩,⟨some pr,.entry (.tmp it2),_,_,_,none⟩ =>
  bif Nat.beq it it1&&Nat.beq it it2&&Nat.beq nx nx1&&Nat.beq mo mo1 then some (t,mt,it,nx,pr) else none
 | _,_,_,_=>none
def mpE (S:XS) (ks ms:List Nat) (m:Nat):XS:=XS.ent ⟨S.env,S.fix,S.mem,S.fixM,m::S.prot⟩ ks ms
def mpB (E:XS) (it m:Nat):XS:=⟨[],⟨it,[],.p it []⟩::E.fix,[],Yi E.fixM m,it::E.prot⟩
def Qd1 (S:XS) (ks ms:List Nat) (nx mo:Nat) (S':St):XS:=S.out ks ms ⟨Yu (Yu S'.env nx) mo,S'.mem⟩
def Jcs (B:XS) (nx mo pr:Nat) (x:AV):XS:=⟨⟨pr,[],x⟩::Yu (Yu (Yu B.env nx) mo) pr,B.fix,B.mem,B.fixM,B.prot⟩
def R3:List (Nat×SkO)→Bool
 | []=>true
 | (_,.tail _ _)::_=>false
 | (_,.mapT _ _ _ _ _)::_=>false
 | _::l=>R3 l
def Jct:TypeDesc→Bool
 | .map _ _=>true
 | _=>false
def Nh (out:Nat):Ex→Ex
 | .x i=>bif Nat.beq i out then .n else .x i
 | e=>e
def Jks (n:Nat) (E B0:XS) (x0:St) (tk:TE) (it nx mo pr:Nat) (Γ:Shp):Bool:=Jct tk.d&&(okW n E it&&Ho it x0.env)&&(Dk it x0.env&&Dk it E.fix)&&(Q7 it x0.mem&&Q7 it E.fixM&&!Yn E.prot it)&&(okW n B0 nx&&okW n B0 mo&&okW n B0 pr)&&R3 Γ.mem&&V2 B0.fixM&&!Nat.beq mo nx
def R4 {Γ:Shp} {exs:Exs} (nxt:Nat) (body:XS→(Ex→XS→Option (Γ.De⊕Cm exs))→Option (Γ.De⊕Cm exs)) (B0:XS) (nx mo pr:Nat) (kk vv:Ty) (e:kk.De×vv.De) (s:Γ.De):Option (Γ.De⊕Cm exs) :=
 body (Jcs (B0.re (enc Γ s)) nx mo pr (.tp (.cons (.d kk e.1) (.cons (.d vv e.2) .nil)))) fun e S'=>match Nh nxt e with
  | .n=>(match S'.dec Γ with
   | some s'=>some (.inl s')
   | none=>none)
  | .x i=>(match inj exs (.x i) S' with
   | some x=>some (.inr x)
   | none=>none)
  | .r=>(match inj exs .r S' with
   | some x=>some (.inr x)
   | none=>none)
noncomputable def Qts {R:Type} (n:Nat) (S1:XS) (m it nx mo pr:Nat) (ks ms:List Nat) (Γ:Shp) (exs:Exs) (out nxt:Nat) (kk vv:Ty) (xs:List (kk.De×vv.De)) (tk:TE)
  (body:XS→(Ex→XS→Option (Γ.De⊕Cm exs))→Option (Γ.De⊕Cm exs)) (k:Ex→XS→Option R):Option R :=
 match (mpE S1 ks ms m).dec Γ with
 | some s0=>bif Jks n (mpE S1 ks ms m) (mpB (mpE S1 ks ms m) it m) (enc Γ s0) tk it nx mo pr Γ then ((Qdt (R4 nxt body (mpB (mpE S1 ks ms m) it m) nx mo pr kk vv) xs s0).bind fun z=>match z with
  | .inl s=>k .n (Qd1 S1 ks ms nx mo (enc Γ s))
  | .inr y=>Qf6 (mpB (mpE S1 ks ms m) it m) [] [] (fun e S'=>k (Nh out e) (Qd1 S1 ks ms nx mo ⟨S'.env,S'.mem⟩)) exs y) else none
 | none=>none
noncomputable def Za (Y:TX) (K:List Con) (n N:Nat) {R:Type}:An→Code→XS→(Ex→XS→Option R)→Option R
 | .nil,.skip,S,k=>k .n S
 | .nil,.ret,S,k=>k .r S
 | .nil,.exit id,S,k=>k (.x id) S
 | .nil,.label _,S,k=>k .n S
 | .reg h,.region _ ⟨ops⟩ false,S,k=>Vj Y K n ops h ops S (k .n)
 | .dr m h1 h2,.region _ ⟨ops⟩ true,S,k=>bif Qtq ops m then El Y n ops h1 (ops.take m) S fun S'=>Vj Y K n ops h2 (ops.drop m) S' (k .n) else none
 | .dm p ds zs h2,.region _ ⟨ops⟩ true,S,k=>bif Tl ops p ds&&Nat.ble n 1000000000&&Gc (Y0 (Jr S.mem zs).2) then
   Af Y n ops ds (Jr S.mem zs).2 { S with mem:=(Jr S.mem zs).1 } K h2 (ops.take p) 0 [] fun h3 acc=>Vj Y K n ops h3 (ops.drop p) (Qbq { S with mem:=(Jr S.mem zs).1 } ds (Jr S.mem zs).2 acc) (k .n) else none
 | .dc p ds zs zf ht,.region _ ⟨ops⟩ true,S,k =>
  bif Tl ops p ds&&ds.all (fun d=>Ho d S.fix) then
   dcI Y K n ops p ds (Jr S.mem zs).2 (Jr S.fixM zf).2 (Jr S.mem zs).1 (Jr S.fixM zf).1 ht S
    (Lk S.env (ds++Gg ht)++S.fix) fun h3 S'=>Vj Y K n ops h3 (ops.drop p) S' (k .n) else none
 | .gh g a,c,S,k=>F5 g S fun S'=>Za Y K n N a c S' k
 | .ch t i a b,c,S,k=>bif Qtr S t i then Za Y K n N a c S k else Za Y K n N b c S k
 | .two a b,.seq x y,S,k=>Za Y K n N a x S fun e S'=>match e with
  | .n=>Za Y K n N b y S' k
  | .x i=>k (.x i) S'
  | .r=>k .r S'
 | .two a b,.cond c x y,S,k=>match S.ev [] c with
  | some (.d .bool v)=>if v=true then Za Y K n N a x S k else Za Y K n N b y S k
  | _=>none
 | .un a,.block id c,S,k=>Za Y K n N a c S fun e S'=>match e with
  | .n=>k .n S'
  | .x i=>bif Nat.beq i id then k .n S' else k (.x i) S'
  | .r=>k .r S'
 | .un a,.scope c,S,k=>Za Y K n N a c S k
 | .lp ks ms Γ exs a,.loop c,S,k=>match (S.ent ks ms).dec Γ with
  | some s0=>(Qx (fun s=>Za Y K n N (R:=Γ.De⊕Cm exs) a c ((S.ent ks ms).re (enc Γ s)) fun e S'=>match e with
    | .n=>(match S'.dec Γ with
     | some s'=>some (.inl s')
     | none=>none)
    | .x i=>(match inj exs (.x i) S' with
     | some x=>some (.inr x)
     | none=>none)
    | .r=>(match inj exs .r S' with
     | some x=>some (.inr x)
     | none=>none)) N s0).bind fun x=>Qf6 S ks ms k exs x
  | none=>none
 | .jn ks ms exs a,c,S,k=>(Za Y K n N a c (S.ent ks ms) (inj exs)).bind fun x=>Qf6 S ks ms k exs x
 | .mp h ks ms Γ exs h3 a,.seq (.region _ ⟨ops⟩ false) (.block out (.loop (.seq (.region _ ⟨[o1,o2]⟩ false) (.seq (.cond (.tmp mo) .skip (.exit out')) (.block nxt (.seq (.region _ ⟨o3::ops3⟩ false) c)))))),S,k=>match Qkf ops o1 o2 o3 mo with
  | some (t,mt,it,nx,pr)=>bif Nat.beq out out' then Vj Y K n ops h ops.dropLast S fun S1=>match S1.ev [] (.tmp mt),Qi Y.T t with
   | some (.m m),some tk=>match Qe (mpE S1 ks ms m).fixM m with
    | some (.map kk vv xs)=>Qts n S1 m it nx mo pr ks ms Γ exs out nxt kk vv xs tk (fun S3 k1=>Vj (R:=Γ.De⊕Cm exs) Y K n (o3::ops3) h3 ops3 S3 fun S4=>Za Y K n N a c S4 k1) k
    | _=>none
   | _,_=>none else none
  | none=>none
 | _,_,_,_=>none
def Qkg (Y:TX) (S:XS):List ResultVar→Nat→Option (List En)
 | [],_=>some []
 | .cell ad t::l,i=>match M7 Y S.flat [] (.load t (.tmp ad)),Qkg Y S l (i+1) with
  | some v,some r=>bif Nat.blt i 100000 then some (⟨i,[],v⟩::r) else none
  | _,_=>none
 | .tmp t::l,i=>match S.ev [] (.tmp t),Qkg Y S l (i+1) with
  | some v,some r=>bif Nat.blt i 100000 then some (⟨i,[],v⟩::r) else none
  | _,_=>none
def F6:List (Nat×Sk)→Nat→Bool
 | [],_=>true
 | (t,_)::l,i=>Nat.beq t i&&F6 l (i+1)
def fin (Y:TX) (fn:Func) (Δ:Shp) (S:XS):Option Δ.De:=match Qkg Y S fn.results.toList 0 with
 | some es=>bif F6 Δ.env 0&&Nat.beq es.length Δ.env.length&&Nat.blt es.length 100000 then XS.dec ⟨es,[],S.mem,S.fixM,S.prot⟩ Δ else none
 | none=>none
def Ni (gl:List (Nat×Σ t:Ty,t.De)):List En:=gl.map fun q=>⟨100000+q.1,[],.a q.2.1 q.2.2⟩
noncomputable def Qy6 (Y:TX) (K:List Con) (N:Nat) (fn:Func) (an:An) (ro:List Nat) (Γ Δ:Shp) (x:Γ.De):Option Δ.De:=match fn.body with
 | some c=>bif Nat.ble Γ.env.length fn.ntmps&&(F6 Γ.env 0&&Nat.blt Γ.env.length 100000) then Za Y K fn.ntmps N an c ⟨(enc Γ x).env,Ni Y.gl,wrM ro (enc Γ x).mem,rdM ro (enc Γ x).mem,Γ.mem.map Prod.fst⟩ fun e S=>match e with
  | .x _=>none
  | .n=>fin Y fn Δ S
  | .r=>fin Y fn Δ S else none
 | none=>none
end Gx

/- What a step gives does not depend on what comes behind it. -/
namespace Gx
open Go Go.RowKit Gd
set_option linter.unusedVariables false
set_option linter.unusedSimpArgs false
theorem U1 {R A:Type} {b:Bool} {x:Option R} {y:Option A} {k:A→Option R} (h:x=y.bind k):(bif b then x else none)=(bif b then y else none).bind k:=by
 cases b
 ·rfl
 ·exact h
theorem Wl {T R A:Type} {x:Option T} {f:T→Option R} {g:T→Option A} {k:A→Option R} (h:∀t,f t=(g t).bind k):x.bind f=(x.bind g).bind k:=by
 cases x
 ·rfl
 ·exact h _
section
variable {R:Type} {Y:TX} {n:Nat}
theorem Qy7 {S:St} {cur:Vy} {op:Op} {k:AV→Option R}:tot Y S cur op k=(tot Y S cur op some).bind k:=by
 unfold tot
 split<;>rfl
theorem Tq {A:Type} {k:A→Option R}:∀{ps:List PS} {x:AV} {f:AV→Option R} {g:AV→Option A},(∀y,f y=(g y).bind k)→Tg ps x f=(Tg ps x g).bind k
 | [],x,f,g,h=>h x
 | .f i off::ps,x,f,g,h=>by
  simp only [Tg]
  split
  ·exact Tq h
  ·rfl
 | .i j sz::ps,x,f,g,h=>by
  simp only [Tg]
  split
  ·exact U1 (Wl fun _=>Tq h)
  ·rfl
theorem Tt {A:Type} {k:A→Option R} {M:List (Nat×Ob)}:∀{ps:List PS} {x v:AV} {f:AV→Option R} {g:AV→Option A},(∀y,f y=(g y).bind k)→Rm M ps x v f=(Rm M ps x v g).bind k
 | [],x,v,f,g,h=>by
  simp only [Rm]
  exact U1 (h v)
 | .f i off::ps,x,v,f,g,h=>by
  simp only [Rm]
  split
  ·refine Tt fun x1=>?_
   split
   ·exact h _
   ·rfl
  ·rfl
 | .i j sz::ps,x,v,f,g,h=>by
  simp only [Rm]
  split
  ·refine U1 (Wl fun _=>Tt fun x1=>?_)
   split
   ·exact h _
   ·rfl
  ·rfl
theorem Qkh {S:St} {cur:Vy} {op:Op} {k:AV→Option R}:Or Y S cur op k=(Or Y S cur op some).bind k:=by
 unfold Or
 repeat' (first | rfl | exact Qy7 | (refine U1 ?_) | (refine Wl fun _=>?_) | split)
theorem Qqf {S:St} {cur:Vy} {op:Op} {k:AV→Option R}:Qcd Y S cur op k=(Qcd Y S cur op some).bind k:=by
 unfold Qcd
 repeat' (first | rfl | (refine U1 ?_) | (refine Wl fun _=>?_) | (refine Tq fun _=>?_) | split)
theorem Qcj {S:St} {cur:Vy} {op:Op} {k:AV→Option R}:Ce Y S cur op k=(Ce Y S cur op some).bind k:=by
 unfold Ce
 split
 ·exact Qkh
 ·exact Qqf
theorem Qki {A:Type} {S:St} {cur:Vy} {op:Op} {f:AV→Option R} {g:AV→Option A} {k:A→Option R} (h:∀y,f y=(g y).bind k):Ce Y S cur op f=(Ce Y S cur op g).bind k:=by
 rw [Qcj (k:=f),Qcj (k:=g),Option.bind_assoc]
 exact congrArg _ (funext h)
theorem Qkj {o:Oper} {S:XS} {k:XS→Option R}:Ov Y n o S k=(Ov Y n o S some).bind k:=by
 unfold Ov
 repeat' (first | rfl | (refine U1 ?_) | (refine Wl fun _=>?_) | (refine Qki fun _=>?_) | split)
theorem Qqg {o:Oper} {S:XS} {k:XS→Option R}:Qci Y n o S k=(Qci Y n o S some).bind k:=by
 unfold Qci
 repeat' (first | rfl | (refine U1 ?_) | (refine Wl fun _=>?_) | (refine Tt fun _=>?_) | split)
theorem Qck {o:Oper} {S:XS} {k:XS→Option R}:P1 Y n o S k=(P1 Y n o S some).bind k:=by
 unfold P1
 split
 ·exact Qkj
 ·exact Qqg
theorem Qd2 {c:Con} {o:Oper} {S:XS} {k:XS→Option R}:Zg n c o S k=(Zg n c o S some).bind k:=by
 unfold Zg Zg.callE Zg.callR
 repeat' (first | rfl | (refine U1 ?_) | (refine Wl fun _=>?_) | split)
theorem Qqh {o:Oper} {S:XS} {k:XS→Option R}:Li Y n o S k=(Li Y n o S some).bind k:=by
 unfold Li
 repeat' (first | rfl | (refine U1 ?_) | (refine Wl fun _=>?_) | split)
theorem Qqi {t:Nat} {want:Bool} {o:Oper} {S:XS} {k:XS→Option R}:Nb Y n t want o S k=(Nb Y n t want o S some).bind k:=by
 unfold Nb
 repeat' (first | rfl | (refine U1 ?_) | split)
theorem Qqj {o:Oper} {S:XS} {k:XS→Option R}:Dl n o S k=(Dl n o S some).bind k:=by
 unfold Dl
 repeat' (first | rfl | (refine U1 ?_) | split)
theorem Qqk {ops:List Oper} {o:Oper} {S:XS} {k:XS→Option R}:Nc Y n ops o S k=(Nc Y n ops o S some).bind k:=by
 unfold Nc
 repeat' (first | rfl | exact Qck | exact Qqi | split)
theorem Qql {ops:List Oper} {o:Oper} {S:XS} {k:XS→Option R}:stepL Y n ops o S k=(stepL Y n ops o S some).bind k:=by
 unfold stepL
 repeat' (first | rfl | exact Qck | exact Qqj | split)
theorem Tu {st:{R:Type}→Oper→XS→(XS→Option R)→Option R} (hst:∀{R A:Type} (o:Oper) (S:XS) (f:XS→Option R) (g:XS→Option A) (k:A→Option R),(∀S',f S'=(g S').bind k)→st o S f=(st o S g).bind k) :
  ∀{A:Type} {k:A→Option R} {l:List Oper} {S:XS} {f:XS→Option R} {g:XS→Option A},(∀S',f S'=(g S').bind k)→Ro st l S f=(Ro st l S g).bind k
 | A,k,[],S,f,g,h=>h S
 | A,k,o::l,S,f,g,h=>by
  simp only [Ro]
  exact hst o S _ _ k fun S'=>Tu hst h
theorem Qy8 {A:Type} {st:{R:Type}→Oper→XS→(XS→Option R)→Option R} {o:Oper} {S:XS} (h:∀{R:Type} {k:XS→Option R},st o S k=(st o S some).bind k) {f:XS→Option R} {g:XS→Option A} {k:A→Option R} (h2:∀S',f S'=(g S').bind k):st o S f=(st o S g).bind k:=by
 rw [h (k:=f),h (k:=g),Option.bind_assoc]
 exact congrArg _ (funext h2)
end
theorem Z3 {Y:TX} {K:List Con} {n:Nat} {ops:List Oper}:∀{R A:Type} {h:Hn} {l:List Oper} {S:XS} {f:XS→Option R} {g:XS→Option A} {k:A→Option R},(∀S',f S'=(g S').bind k)→Vj Y K n ops h l S f=(Vj Y K n ops h l S g).bind k
 | R,A,.done,l,S,f,g,k,hk=>by
  simp only [Vj]
  split
  ·exact hk S
  ·rfl
 | R,A,.n m r,l,S,f,g,k,hk=>by
  simp only [Vj]
  exact Tu (st:=fun {R}=>Nc Y n ops) (fun o S f g k h=>Qy8 (st:=fun {R}=>Nc Y n ops) Qqk h) fun S'=>Z3 hk
 | R,A,.nl m r,l,S,f,g,k,hk=>by
  simp only [Vj]
  exact Tu (st:=fun {R}=>stepL Y n ops) (fun o S f g k h=>Qy8 (st:=fun {R}=>stepL Y n ops) Qql h) fun S'=>Z3 hk
 | R,A,.call c r,l,S,f,g,k,hk=>by
  simp only [Vj]
  have hc:∀{con:Con} {o:Oper} {l':List Oper},Zg n con o S (fun S'=>Vj Y K n ops r l' S' f)=(Zg n con o S (fun S'=>Vj Y K n ops r l' S' g)).bind k:=fun {con o l'}=>Qy8 (st:=fun {R}=>Zg n con) Qd2 fun S'=>Z3 hk
  repeat' (first | rfl | exact hc | split)
 | R,A,.br r,l,S,f,g,k,hk=>by
  simp only [Vj]
  have hc:∀{o:Oper} {l':List Oper},Li Y n o S (fun S'=>Vj Y K n ops r l' S' f)=(Li Y n o S (fun S'=>Vj Y K n ops r l' S' g)).bind k:=fun {o l'}=>Qy8 (st:=fun {R}=>Li Y n) Qqh fun S'=>Z3 hk
  repeat' (first | rfl | exact hc | split)
 | R,A,.fz id r,l,S,f,g,k,hk=>by
  simp only [Vj]
  exact Z3 hk
 | R,A,.keep ts r,l,S,f,g,k,hk=>by
  simp only [Vj]
  exact Z3 hk
 | R,A,.mt id path e r,l,S,f,g,k,hk=>by
  simp only [Vj]
  repeat' (first | rfl | exact Z3 hk | (refine U1 ?_) | split)
 | R,A,.op src id d r,l,S,f,g,k,hk=>by
  simp only [Vj]
  repeat' (first | rfl | exact Z3 hk | (refine U1 ?_) | split)
 | R,A,.fm id r,l,S,f,g,k,hk=>by
  simp only [Vj]
  repeat' (first | rfl | exact Z3 hk | split)
 | R,A,.sp t m ks ms Γ a b r,l,S,f,g,k,hk=>by
  simp only [Vj]
  split
  ·exact U1 (Wl fun _=>Z3 hk)
  ·rfl
 | R,A,.si t i a b,l,S,f,g,k,hk=>by
  simp only [Vj]
  split
  ·refine U1 ?_
   split
   ·exact Z3 hk
   ·exact Z3 hk
  ·rfl
 | R,A,.md _ _,l,S,f,g,k,hk=>by simp only [Vj]; rfl
 | R,A,.tl _,l,S,f,g,k,hk=>by simp only [Vj]; rfl
 | R,A,.dt _ _,l,S,f,g,k,hk=>by simp only [Vj]; rfl
 | R,A,.so _ _ _,l,S,f,g,k,hk=>by simp only [Vj]; rfl
theorem Tv {Y:TX} {K:List Con} {n:Nat} {ops:List Oper} {R:Type} {r:R} {h:Hn} {l:List Oper} {S:XS} {k:XS→Option R} (hs:Vj Y K n ops h l S k=some r):∃S1,k S1=some r∧Vj (R:=XS) Y K n ops h l S some=some S1:=by
 have e:=Z3 (Y:=Y) (K:=K) (n:=n) (ops:=ops) (h:=h) (l:=l) (S:=S) (f:=k) (g:=some) (k:=k) fun S'=>rfl
 rw [e] at hs
 obtain ⟨S1,h1,h2⟩:=Option.bind_eq_some_iff.1 hs
 exact ⟨S1,h2,h1⟩
end Gx

/- Elements of arrays that lie in variables; parts of such arrays as strings. -/
import Derived.Test.YtbhpbpilmejnlaaGreatXE
import Derived.StillTail
import Derived.Test.YtbhpbpilmejnlaaGreatGAppend
namespace Gx
open Go Go.RowKit Gd
set_option linter.unusedVariables false
set_option linter.unusedSimpArgs false
set_option linter.constructorNameAsVariable false
def hasI:List PS→Bool
  | []=>false
  | .f _ _::l=>hasI l
  | .i _ _::_=>true
section
variable {R:Type}
def navC:List PS→AV→(AV→Option R)→Option R
  | [],x,k=>k x
  | .f i off::ps,x,k=>match nav [.f i off] x with
    | some y=>navC ps y k
    | none=>none
  | .i j sz::ps,x,k=>match x with
    | .d (.arr _ u) xs=>bif Nat.beq sz u.size then (idx xs j).bind fun y=>navC ps (.d u y) k else none
    | _=>none
def setC (M:List (Nat×Ob)):List PS→AV→AV→(AV→Option R)→Option R
  | [],x,v,k=>bif okNew x v then k v else none
  | .f i off::ps,x,v,k=>match nav [.f i off] x with
    | some y=>setC M ps y v fun z=>match setP [.f i off] x z with
      | some x'=>k x'
      | none=>none
    | none=>none
  | .i j sz::ps,x,v,k=>match x with
    | .d (.arr n u) xs=>bif Nat.beq sz u.size then (idx xs j).bind fun y=>setC M ps (.d u y) v fun z=>match asD M z u with
      | some y'=>k (.d (.arr n u) (xs.set j.toNat y'))
      | none=>none else none
    | _=>none
end
theorem sub_sub {α:Type} {cs:List α} {o n p m:Nat} (h:p+m≤n):(((cs.drop o).take n).drop p).take m=(cs.drop (o+p)).take m:=by
  rw [List.drop_take,List.drop_drop,List.take_take,Nat.min_eq_left (by omega)]
theorem splice {α:Type} {cs ds:List α} {o n p:Nat} (h:p+ds.length≤n) :
    cs.take o++(((cs.drop o).take n).take p++ds++((cs.drop o).take n).drop (p+ds.length))++cs.drop (o+n)=cs.take (o+p)++ds++cs.drop (o+p+ds.length):=by
  have e1:cs.take (o+p)=cs.take o++((cs.drop o).take n).take p:=by rw [List.take_add,List.take_take,Nat.min_eq_left (by omega)]
  have e2:cs.drop (o+p+ds.length)=((cs.drop o).take n).drop (p+ds.length)++cs.drop (o+n):=by
    have e3:cs.drop (o+n)=(cs.drop (o+(p+ds.length))).drop (n - (p+ds.length)):=by rw [List.drop_drop]; congr 1; omega
    rw [List.drop_take,List.drop_drop,e3,List.take_append_drop,Nat.add_assoc]
  rw [e1,e2]
  simp only [List.append_assoc]
theorem arr_at {u:Ty} {n:Nat} {xs:List u.De} {ok:Ok} {w:World} {cs:List Value} (h:(rt (.arr n u)).rep ok w xs cs) {j:Int} {y:u.De} (hy:idx xs j=some y) :
    (rt u).rep ok w y ((cs.drop (j.toNat*u.size)).take u.size)∧j.toNat*u.size+u.size≤cs.length∧0≤j∧j.toNat<n:=by
  obtain ⟨hn,ha⟩:=h
  have h0:=(idx_ok hy).1
  have hlt:=(List.getElem?_eq_some_iff.1 (idx_ok hy).2).1
  have hl:=repA_len ha
  have hr:=repA_at ha (idx_ok hy).2
  rw [rt_size] at hr hl
  refine ⟨hr,?_,h0,by omega⟩
  rw [hl]
  have:=Nat.mul_le_mul_right u.size (show j.toNat+1≤xs.length by omega)
  rw [Nat.add_mul] at this
  omega
theorem navC_ok {R:Type} {r:R}:∀{ps:List PS} {x:AV} {k:AV→Option R},navC ps x k=some r →
    ∃y,k y=some r∧∀{β:Nat→Nat} {ρ:Nat→Value} {ok:Ok} {w:World} {cs:List Value},cr β ρ ok w false x cs→cr β ρ ok w false y ((cs.drop (offP ps)).take y.size)∧offP ps+y.size≤cs.length
  | [],x,k,h=>by
    refine ⟨x,h,fun {β ρ ok w cs} hc=>?_⟩
    have:=cr_len hc
    simp only [offP,List.drop_zero]
    rw [List.take_of_length_le (by omega)]
    exact ⟨hc,by omega⟩
  | .f i off::ps,x,k,h=>by
    simp only [navC] at h
    split at h
    · rename_i y hy
      obtain ⟨z,hz,hk⟩:=navC_ok h
      refine ⟨z,hz,fun {β ρ ok w cs} hc=>?_⟩
      obtain ⟨h1,h2⟩:=nav_ok hy hc
      obtain ⟨h3,h4⟩:=hk h1
      have hl:=cr_len h1
      rw [hl] at h4
      have e:offP (PS.f i off::ps)=offP [PS.f i off]+offP ps:=by simp [offP]
      rw [sub_sub h4] at h3
      rw [e]
      exact ⟨h3,by omega⟩
    · cases h
  | .i j sz::ps,x,k,h=>by
    simp only [navC] at h
    split at h
    · rename_i n u xs
      obtain ⟨hb,h1⟩:=bvT h
      have hsz:=Nat.eq_of_beq_eq_true hb
      subst hsz
      obtain ⟨y,hy,h2⟩:=bindE h1
      obtain ⟨z,hz,hk⟩:=navC_ok h2
      refine ⟨z,hz,fun {β ρ ok w cs} hc=>?_⟩
      obtain ⟨h1,h2,_⟩:=arr_at hc hy
      have h1':cr β ρ ok w false (.d u y) ((cs.drop (j.toNat*u.size)).take u.size):=h1
      obtain ⟨h3,h4⟩:=hk h1'
      have hl:((cs.drop (j.toNat*u.size)).take u.size).length=u.size:=cr_len h1'
      rw [hl] at h4
      rw [sub_sub h4] at h3
      exact ⟨h3,by simp only [offP,PS.off]; omega⟩
    · cases h
theorem setC_ok {R:Type} {r:R} {M:List (Nat×Ob)} {v:AV}:∀{ps:List PS} {x:AV} {k:AV→Option R},setC M ps x v k=some r →
    ∃x',k x'=some r∧∀{β:Nat→Nat} {ρ:Nat→Value} {ok:Ok} {w:World} {cs ds:List Value},(∀id o,lookM M id=some o→(tlOf β ρ id o).p ok w)→cr β ρ ok w false v ds→cr β ρ ok w false x cs →
      cr β ρ ok w false x' (cs.take (offP ps)++ds++cs.drop (offP ps+ds.length))∧offP ps+ds.length≤cs.length
  | [],x,k,h=>by
    simp only [setC] at h
    obtain ⟨hb,h⟩:=bvT h
    refine ⟨v,h,fun {β ρ ok w cs ds} _ hv hc=>?_⟩
    have:setP [] x v=some v:=by simp only [setP,hb,cond_true]
    exact setP_ok hv this hc
  | .f i off::ps,x,k,h=>by
    simp only [setC] at h
    split at h
    · rename_i y hy
      obtain ⟨z,hz,hk⟩:=setC_ok h
      split at hz
      · rename_i x' hx'
        refine ⟨x',hz,fun {β ρ ok w cs ds} hM hv hc=>?_⟩
        obtain ⟨h1,h2⟩:=nav_ok hy hc
        have hl:=cr_len h1
        obtain ⟨h3,h4⟩:=hk hM hv h1
        rw [hl] at h4
        obtain ⟨h5,h6⟩:=setP_ok h3 hx' hc
        have hlen:(((cs.drop (offP [PS.f i off])).take y.size).take (offP ps)++ds++((cs.drop (offP [PS.f i off])).take y.size).drop (offP ps+ds.length)).length=y.size:=by
          simp only [List.length_append,List.length_take,List.length_drop]
          simp only [List.length_take,List.length_drop] at hl
          omega
        rw [hlen,splice h4] at h5
        have e:offP (PS.f i off::ps)=offP [PS.f i off]+offP ps:=by simp [offP]
        rw [e]
        exact ⟨h5,by omega⟩
      · cases hz
    · cases h
  | .i j sz::ps,x,k,h=>by
    simp only [setC] at h
    split at h
    · rename_i n u xs
      obtain ⟨hb,h1⟩:=bvT h
      have hsz:=Nat.eq_of_beq_eq_true hb
      subst hsz
      obtain ⟨y,hy,h2⟩:=bindE h1
      obtain ⟨z,hz,hk⟩:=setC_ok h2
      split at hz
      · rename_i y' hy'
        refine ⟨_,hz,fun {β ρ ok w cs ds} hM hv hc=>?_⟩
        obtain ⟨h1,h2,h0,hjn⟩:=arr_at hc hy
        have h1':cr β ρ ok w false (.d u y) ((cs.drop (j.toNat*u.size)).take u.size):=h1
        have hl:((cs.drop (j.toNat*u.size)).take u.size).length=u.size:=cr_len h1'
        obtain ⟨h3,h4⟩:=hk hM hv h1'
        rw [hl] at h4
        have h5:=asD_ok hM hy' h3
        obtain ⟨hn,ha⟩:=(show xs.length=n∧repA (rt u) ok w xs cs from hc)
        have h6:=repA_set ha (i:=j.toNat) (by omega) h5
        have hlen:(((cs.drop (j.toNat*u.size)).take u.size).take (offP ps)++ds++((cs.drop (j.toNat*u.size)).take u.size).drop (offP ps+ds.length)).length=u.size:=by
          simp only [List.length_append,List.length_take,List.length_drop]
          simp only [List.length_take,List.length_drop] at hl
          omega
        rw [hlen,rt_size,splice h4] at h6
        exact ⟨⟨by simpa using hn,h6⟩,by simp only [offP,PS.off]; omega⟩
      · cases hz
    · cases h
def isArrD:TypeDesc→Option (Nat×TypeId)
  | .array n e=>some (n,e)
  | _=>none
theorem isArrD_ok {d:TypeDesc} {n:Nat} {e:TypeId} (h:isArrD d=some (n,e)):d=.array n e:=by
  unfold isArrD at h
  split at h
  · simp at h; obtain ⟨rfl,rfl⟩:=h; rfl
  · cases h
section
variable {R:Type} (Y:TX) (S:St) (cur:Conds)
def arrKind:Op→Nat
  | .indexAddr t _ _=>match lookT Y.T t with
    | some te=>bif isSomeA (isArrD te.d) then 1 else 0
    | none=>0
  | .load _ x=>match ev S cur x with
    | some (.p _ path)=>bif hasI path then 2 else 0
    | _=>0
  | .slice t _ _ _ none=>match lookT Y.T t with
    | some te=>bif isSomeA (isArrD te.d) then 3 else 0
    | none=>0
  | .convert _ _ x=>match ev S cur x with
    | some (.w _ _ _)=>4
    | _=>0
  | _=>0
where isSomeA {α:Type}:Option α→Bool
  | some _=>true
  | none=>false
def arrOp (op:Op) (k:AV→Option R):Option R:=match op with
  | .indexAddr t x i=>match lookT Y.T t,ev S cur x,ev S cur i with
    | some te,some v,some iv=>match isInt iv,isArrD te.d with
      | some (_,j),some (n,e)=>match lookT Y.T e,v with
        | some ee,.a (.arr m u) xs=>bif Nat.beq m n&&Nat.beq ee.size u.size then (idx xs j).bind fun y=>k (.a u y) else none
        | some ee,.p id path=>match lookM S.mem id with
          | some (.var _ c)=>navC path c fun y=>match y with
            | .d (.arr m u) xs=>bif Nat.beq m n&&Nat.beq ee.size u.size then (idx xs j).bind fun _=>k (.p id (path++[.i j u.size])) else none
            | _=>none
          | _=>none
        | _,_=>none
      | _,_=>none
    | _,_,_=>none
  | .load t x=>match lookT Y.T t,ev S cur x with
    | some e,some (.p id path)=>match lookM S.mem id with
      | some (.var _ c)=>navC path c fun y=>bif Nat.beq e.size y.size&&(isAggD e.d==y.isAgg)&&y.isVal&&(y.isAgg||Nat.beq y.size 1) then k y else none
      | _=>none
    | _,_=>none
  | .slice t x lo hi none=>match lookT Y.T t,ev S cur x with
    | some te,some (.p id [])=>match isArrD te.d,lookM S.mem id with
      | some (n,e),some (.var _ (.d (.arr m (.int .u8)) xs))=>match lookT Y.T e,bnd S cur 0 lo,bnd S cur n hi with
        | some ee,some a,some b=>bif Nat.beq m n&&Nat.beq ee.size 1 then (slc xs a b).bind fun _=>k (.w id a (b - a)) else none
        | _,_,_=>none
      | _,_=>none
    | _,_=>none
  | .convert s t x=>match lookT Y.T s,lookT Y.T t,ev S cur x with
    | some se,some te,some (.w id a n)=>match isSliceD se.d,te.d,lookM S.mem id with
      | some e,.string,some (.var _ (.d (.arr m (.int .u8)) xs))=>match lookT Y.T e with
        | some ⟨_,.int .u8,_,_,_⟩=>(slc xs a (a+n)).bind fun ys=>k (.d .str (bstr ys))
        | _=>none
      | _,_,_=>none
    | _,_,_=>none
  | _=>none
def stepQ (op:Op) (k:AV→Option R):Option R:=match arrKind Y S cur op with
  | 0=>stepQ0 Y S cur op k
  | _+1=>arrOp Y S cur op k
end
section
variable {P:Program} {X:Cx} {β:Nat→Nat} {ρ:Nat→Value} {S:St} {a:Act} {w:World} {cur:Conds} {ok:Ok}
theorem cell?_of_heap {b o:Nat} {cs:List Value} {t:TypeId} (h:w.heap[b]?=some (.cells cs.toArray t (0,0))):w.cell? ⟨b,o,none⟩=cs[o]?:=by simp [World.cell?,h]
theorem isAt_el {u:Ty} {n:Nat} {xs:List u.De} {v:Value} (h:isAt (rt (.arr n u)) ok w xs v) {j:Int} {y:u.De} (hy:idx xs j=some y) :
    ∃b of,v=.pointer (some ⟨b,of,none⟩)∧isAt (rt u) ok w y (.pointer (some ⟨b,of+j.toNat*u.size,none⟩))∧0≤j∧j<(n:Int):=by
  obtain ⟨b,of,cs,rfl,hr,hc⟩:=h
  obtain ⟨h1,h2,h3,h4⟩:=arr_at hr hy
  refine ⟨b,of,rfl,⟨b,_,_,rfl,h1,fun i z hz=>?_⟩,h3,by omega⟩
  have hi:=(List.getElem?_eq_some_iff.1 hz).1
  simp only [List.length_take,List.length_drop] at hi
  rw [List.getElem?_take_of_lt (by omega),List.getElem?_drop] at hz
  have:=hc _ z hz
  rw [Nat.add_assoc]
  exact this
theorem arrOp_ok {Y:TX} (hT:TabOk P Y.T) {R:Type} {o:Oper} {op:Op} (hop:o.op=op) {k:AV→Option R} {r:R} (hv:arrOp Y S cur op k=some r):∃av,k av=some r∧OpSem P S cur o av:=by
  unfold arrOp at hv
  split at hv
  ·
    rename_i t x i
    split at hv
    · rename_i te v iv hte hx hi
      split at hv
      · rename_i ki j n e hij hse
        have htd:=isArrD_ok hse
        have run:∀{β:Nat→Nat} {ρ:Nat→Value} {ok:Ok} {a:Act} {w:World},RelW β ρ ok S a w→holdsC a cur→∀{ee:TE} {b of:Nat},lookT Y.T e=some ee→a.eval x=.pointer (some ⟨b,of,none⟩)→0≤j→j<(n:Int) →
            (execOp a.eval o).run P w=.ok (.value (.pointer (some ⟨b,of+j.toNat*ee.size,none⟩))) w:=by
          intro β ρ ok a w h hc ee b of he hv h0 h1
          have hun:(underlying t).run P w=.ok (.array n e) w:=by rw [run_under hT w hte,htd]
          have hi':=h.int hc hi hij
          unfold execOp
          rw [hop]
          simp only [hv,hi']
          simp [Instr.indexAt,asIntOf,hun,Instr.sureAddr,h0,h1,run_sizeOf' hT w he,Addr.add_lit]
        split at hv
        · rename_i ee m u xs he
          obtain ⟨hb,hv1⟩:=bvT hv
          simp only [Bool.and_eq_true] at hb
          have hm:=Nat.eq_of_beq_eq_true hb.1
          have hsz:=Nat.eq_of_beq_eq_true hb.2
          obtain ⟨y,hy,hk⟩:=bindE hv1
          refine ⟨_,hk,fun {β ρ ok a w} h hc=>?_⟩
          obtain ⟨cs,h1,v0,rfl,hat⟩:=h.ev hc hx
          obtain ⟨b,of,rfl,h2,h3,h4⟩:=isAt_el hat hy
          refine ⟨[.pointer (some ⟨b,of+j.toNat*u.size,none⟩)],?_,_,rfl,h2⟩
          rw [←hsz]
          exact run h hc he h1 h3 (by omega)
        · rename_i ee id path he
          split at hv
          · rename_i tid c ho
            obtain ⟨y,hy,hnav⟩:=navC_ok hv
            split at hy
            · rename_i m u xs
              obtain ⟨hb,hv1⟩:=bvT hy
              simp only [Bool.and_eq_true] at hb
              have hm:=Nat.eq_of_beq_eq_true hb.1
              have hsz:=Nat.eq_of_beq_eq_true hb.2
              obtain ⟨y,hy',hk⟩:=bindE hv1
              refine ⟨_,hk,fun {β ρ ok a w} h hc=>?_⟩
              obtain ⟨cs,h1,h2⟩:=h.ev hc hx
              have h2':cs=_:=h2
              subst h2'
              obtain ⟨cs0,hh,hcr⟩:=h.2 _ _ ho
              obtain ⟨q1,q2⟩:=hnav hcr
              obtain ⟨_,_,h3,h4⟩:=arr_at (show (rt (.arr m u)).rep ok w xs _ from q1) hy'
              refine ⟨[.pointer (some ⟨β id,offP (path++[PS.i j u.size]),none⟩)],?_,rfl⟩
              have:=run h hc he h1 h3 (by omega)
              rw [this,hsz,offP_append]
              simp [offP,PS.off,AV.val,AV.isAgg]
            · cases hy
          · cases hv
        · cases hv
      · cases hv
    · cases hv
  ·
    rename_i t x
    split at hv
    · rename_i e id path he hx
      split at hv
      · rename_i tid c ho
        obtain ⟨y,hy,hnav⟩:=navC_ok hv
        obtain ⟨hb,hk⟩:=bvT hy
        simp only [Bool.and_eq_true] at hb
        obtain ⟨⟨⟨b1,b2⟩,b3⟩,b4⟩:=hb
        have b1:=Nat.eq_of_beq_eq_true b1
        have b2:=bEq b2
        refine ⟨_,hk,fun {β ρ ok a w} h hc=>?_⟩
        obtain ⟨cs,h1,h2⟩:=h.ev hc hx
        have h2':cs=_:=h2
        subst h2'
        obtain ⟨cs0,hh,hcr⟩:=h.2 _ _ ho
        obtain ⟨q1,q2⟩:=hnav hcr
        refine ⟨_,?_,q1⟩
        have h1':a.eval x=.pointer (some ⟨β id,offP path,none⟩):=h1
        have hl:=cr_len q1
        unfold execOp
        rw [hop]
        simp only [h1',Sem.run_bind]
        have:=run_load_cells (w:=w) hT he (b:=β id) (o:=offP path) (y:=y) (cs:=(cs0.drop (offP path)).take y.size) (by rw [hl]; exact b1) b2 (fun hf=>by
          rw [hl]
          rw [hf] at b4
          simp only [Bool.false_or] at b4
          exact Nat.eq_of_beq_eq_true b4) (fun i z hz=>by
          have hi:=(List.getElem?_eq_some_iff.1 hz).1
          rw [hl] at hi
          rw [List.getElem?_take_of_lt hi,List.getElem?_drop] at hz
          rw [cell?_of_heap hh]
          simpa using hz)
        rw [this]
        rfl
      · cases hv
    · cases hv
  ·
    rename_i t x lo hi
    split at hv
    · rename_i te id hte hx
      split at hv
      · rename_i n e tid m xs hse ho
        have htd:=isArrD_ok hse
        split at hv
        · rename_i ee na nb he hlo hhi
          obtain ⟨hb,hv1⟩:=bvT hv
          simp only [Bool.and_eq_true] at hb
          have hm:=Nat.eq_of_beq_eq_true hb.1
          have hsz:=Nat.eq_of_beq_eq_true hb.2
          obtain ⟨ys,hys,hk⟩:=bindE hv1
          refine ⟨_,hk,fun {β ρ ok a w} h hc=>?_⟩
          obtain ⟨cs,h1,h2⟩:=h.ev hc hx
          have h2':cs=_:=h2
          subst h2'
          obtain ⟨cs0,hh,hcr⟩:=h.2 _ _ ho
          have hxs:xs.length=m:=(show xs.length=m∧_ from hcr).1
          obtain ⟨s1,s2,s3,s4,s5⟩:=Gd.slc_ok hys
          have hbd:=run_bounds' (P:=P) (w:=w) (isS:=false) (len:=n) (cap:=n) (h.bnd hc hlo) (h.bnd hc hhi) s1 s2 (by omega) (Nat.le_refl _)
          have hun:(underlying t).run P w=.ok (.array n e) w:=by rw [run_under hT w hte,htd]
          have h1':a.eval x=.pointer (some ⟨β id,0,none⟩):=h1
          refine ⟨[.slice (some (if n=na.toNat then ⟨β id,0,none⟩ else ⟨β id,na.toNat,none⟩)) (nb - na).toNat (n - na.toNat)],?_,_,_,rfl,fun hpos=>?_⟩
          · unfold execOp
            rw [hop]
            simp only [h1']
            simp [Instr.sliceAt,hun,Instr.sureAddr,hbd,run_sizeOf' hT w he,hsz,Addr.add_lit,AV.val,AV.isAgg]
            omega
          · rw [if_neg (by omega)]
        · cases hv
      · cases hv
    · cases hv
  ·
    rename_i s t x
    split at hv
    · rename_i se te id na n hse hte hx
      split at hv
      · rename_i e tid m xs hsd htd ho
        split at hv
        · rename_i _ _ _ _ he
          obtain ⟨ys,hys,hk⟩:=bindE hv
          refine ⟨_,hk,fun {β ρ ok a w} h hc=>⟨[strV (bstr ys)],?_,rfl⟩⟩
          obtain ⟨cs,h1,A,c,rfl,hA⟩:=h.ev hc hx
          obtain ⟨cs0,hh,hcr⟩:=h.2 _ _ ho
          obtain ⟨hxs,hrep⟩:=(show xs.length=m∧repA (rInt .u8) ok w xs cs0 from hcr)
          obtain ⟨s1,s2,s3,s4,s5⟩:=Gd.slc_ok hys
          have hsd':se.d=.slice e:=by
            unfold isSliceD at hsd
            split at hsd
            · rename_i hd; simp at hsd; subst hsd; assumption
            · cases hsd
          have h1':a.eval x=.slice (some A) n.toNat c:=h1
          have hus:=(lookT_ok hT hse).2; rw [hsd'] at hus
          have hut:=(lookT_ok hT hte).2; rw [htd] at hut
          have hue:=(lookT_ok hT he).2
          have hconv:=run_convert_bytes_string (P:=P) w s t e (some A) n.toNat c hus hue hut
          have hload:(loadCells A n.toNat).run P w=.ok (ys.map (Value.int .u8)).toArray w:=by
            have hyl:ys.length=n.toNat:=by rw [s5]; congr 1; omega
            have:=run_loadCells_list (P:=P) w A (ys.map (Value.int .u8)) (fun i v hi=>by
              rw [List.getElem?_map] at hi
              obtain ⟨y,hy,rfl⟩:=Option.map_eq_some_iff.1 hi
              have hi':=(List.getElem?_eq_some_iff.1 hy).1
              rw [hA (by omega),addr_add]
              rw [s4,List.getElem?_take_of_lt (by omega),List.getElem?_drop] at hy
              have hr:=repA_at hrep hy
              have hr':(cs0.drop ((na.toNat+i)*1)).take 1=[.int .u8 y]:=hr
              rw [Nat.mul_one] at hr'
              rw [cell?_of_heap hh]
              have:=congrArg (fun l=>l[0]?) hr'
              simp only [List.getElem?_cons_zero] at this
              rw [List.getElem?_take_of_lt (by omega),List.getElem?_drop] at this
              simpa using this)
            simpa [hyl] using this
          have hrun:=run_bytesToString w A n.toNat c ys hload
          have hf:=foldl_push ys []
          simp only [List.nil_append] at hf
          unfold execOp
          rw [hop]
          simp only [h1']
          simp only [Sem.run_bind,hconv,hrun]
          show Result.andThen (.ok (Value.string (ys.foldl _ (ByteArray.mk ([]:List UInt8).toArray))) w) _=_
          rw [hf]; rfl
        · cases hv
      · cases hv
    · cases hv
  · cases hv
theorem stepQ_ok {Y:TX} (hT:TabOk P Y.T) {R:Type} {o:Oper} {op:Op} (hop:o.op=op) {k:AV→Option R} {r:R} (hv:stepQ Y S cur op k=some r):∃av,k av=some r∧OpSem P S cur o av:=by
  unfold stepQ at hv
  split at hv
  · exact stepQ0_ok hT hop hv
  · exact arrOp_ok hT hop hv
end
end Gx

/- Shapes of states; the interpreter. -/
namespace Gx
open Go Go.RowKit Gd
set_option linter.unusedVariables false
set_option linter.unusedSimpArgs false
inductive Sk where
  | d (t:Ty)
  | p (id:Nat) (path:List PS)
  | s (id:Nat) | m (id:Nat)
  | ns | np | nm | nf | z
  | f (fn:FuncId) (caps:Sk)
  | ag (l:Sk) | nil | cons (x r:Sk)
inductive SkO where
  | var (tid:TypeId) (c:Sk)
  | row (e:TypeId) (t:Ty)
  | tail (e:TypeId) (t:Ty)
  | map (k v:Ty)
  | mapT (k v:Ty) (path:List PS) (e:TypeId) (u:Ty)
  | mapO (k:Ty)
structure Shp where
  env:List (Nat×Sk)
  mem:List (Nat×SkO)
abbrev DV:=Σ t:Ty,t.De
def Sk.tys:Sk→List Ty
  | .d t=>[t]
  | .f _ c=>c.tys
  | .ag l=>l.tys
  | .cons x r=>x.tys++r.tys
  | _=>[]
def SkO.tys:SkO→List Ty
  | .var _ c=>c.tys
  | .row _ t=>[.sl t]
  | .tail _ t=>[.sl t]
  | .map k v=>[.sl (.pr k v)]
  | .mapT k v _ _ _=>[.sl (.pr k v)]
  | .mapO k=>[.sl (.pr k .ref)]
def envTys:List (Nat×Sk)→List Ty
  | []=>[]
  | q::l=>q.2.tys++envTys l
def memTys:List (Nat×SkO)→List Ty
  | []=>[]
  | q::l=>q.2.tys++memTys l
def Shp.tys (Γ:Shp):List Ty:=envTys Γ.env++memTys Γ.mem
@[reducible] def Tup:List Ty→Type
  | []=>Unit
  | [t]=>t.De
  | t::u::ts=>t.De×Tup (u::ts)
abbrev Shp.De (Γ:Shp):Type:=Tup Γ.tys
def toL:(ts:List Ty)→Tup ts→List DV
  | [],_=>[]
  | [t],x=>[⟨t,x⟩]
  | t::u::ts,x=>⟨t,x.1⟩::toL (u::ts) x.2
def ofL:(ts:List Ty)→List DV→Option (Tup ts)
  | [],[]=>some ()
  | [t],[v]=>Ty.cast v.1 t v.2
  | t::u::ts,v::vs=>match Ty.cast v.1 t v.2,ofL (u::ts) vs with
    | some a,some b=>some (a,b)
    | _,_=>none
  | _,_=>none
def encSk:Sk→List DV→AV×List DV
  | .d t,v::vs=>(.d v.1 v.2,vs)
  | .d _,[]=>(.nil,[])
  | .p id path,vs=>(.p id path,vs)
  | .s id,vs=>(.s id,vs)
  | .m id,vs=>(.m id,vs)
  | .ns,vs=>(.ns,vs)
  | .np,vs=>(.np,vs)
  | .nm,vs=>(.nm,vs)
  | .nf,vs=>(.nf,vs)
  | .z,vs=>(.z,vs)
  | .f fn c,vs=>match encSk c vs with
    | (x,r)=>(.f fn x,r)
  | .ag l,vs=>match encSk l vs with
    | (x,r)=>(.ag x,r)
  | .nil,vs=>(.nil,vs)
  | .cons a b,vs=>match encSk a vs with
    | (x,r)=>match encSk b r with
      | (y,r')=>(.cons x y,r')
def encO:SkO→List DV→Option (Ob×List DV)
  | .var tid c,vs=>match encSk c vs with
    | (x,r)=>some (.var tid x,r)
  | .row e t,v::vs=>match Ty.cast v.1 (.sl t) v.2 with
    | some xs=>some (.row e t xs,vs)
    | none=>none
  | .tail e t,v::vs=>match Ty.cast v.1 (.sl t) v.2 with
    | some xs=>some (.tail e t xs,vs)
    | none=>none
  | .map k u,v::vs=>match Ty.cast v.1 (.sl (.pr k u)) v.2 with
    | some xs=>some (.map k u xs,vs)
    | none=>none
  | .mapT k u path e t,v::vs=>match Ty.cast v.1 (.sl (.pr k u)) v.2 with
    | some xs=>some (.mapT k u path e t xs none,vs)
    | none=>none
  | .mapO k,v::vs=>match Ty.cast v.1 (.sl (.pr k .ref)) v.2 with
    | some xs=>some (.mapO k xs none,vs)
    | none=>none
  | _,[]=>none
def encEnv:List (Nat×Sk)→List DV→List En×List DV
  | [],vs=>([],vs)
  | (t,s)::l,vs=>match encSk s vs with
    | (x,r)=>match encEnv l r with
      | (es,r')=>(⟨t,[],x⟩::es,r')
def encMem:List (Nat×SkO)→List DV→List (Nat×Ob)
  | [],_=>[]
  | (t,s)::l,vs=>match encO s vs with
    | some (x,r)=>(t,x)::encMem l r
    | none=>[]
structure XS where
  env:List En
  fix:List En
  mem:List (Nat×Ob)
  fixM:List (Nat×Ob)
  prot:List Nat
def XS.flat (S:XS):St:=⟨S.env++S.fix,S.mem++S.fixM⟩
abbrev XS.ev (S:XS) (cur:Conds) (x:Operand):Option AV:=Gx.ev S.flat cur x
def enc (Γ:Shp) (x:Γ.De):St:=match encEnv Γ.env (toL Γ.tys x) with
  | (es,r)=>⟨es,encMem Γ.mem r⟩
def PS.beq:PS→PS→Bool
  | .f k o,.f k' o'=>Nat.beq k k'&&Nat.beq o o'
  | _,_=>false
def pathEq:List PS→List PS→Bool
  | [],[]=>true
  | a::l,b::m=>PS.beq a b&&pathEq l m
  | _,_=>false
def isNone {α:Type}:Option α→Bool
  | none=>true
  | some _=>false
def frSk:Sk→AV→List (Nat×Nat)
  | .s id,.s c=>[(id,c)]
  | .p id _,.p c _=>[(id,c)]
  | .m id,.m c=>[(id,c)]
  | .f _ x,.f _ y=>frSk x y
  | .ag l,x=>match kidsOf x with
    | some y=>frSk l y
    | none=>[]
  | .cons a b,.cons x y=>frSk a x++frSk b y
  | _,_=>[]
def frEnv (env:List En):List (Nat×Sk)→List (Nat×Nat)
  | []=>[]
  | (t,s)::l=>match lookE env t with
    | some e=>frSk s e.av++frEnv env l
    | none=>frEnv env l
def frMem (M:List (Nat×Ob)):List (Nat×SkO)→List (Nat×Nat)→List (Nat×Nat)
  | [],ri=>ri
  | (id,.var _ c)::l,ri=>match lookN ri id with
    | some i=>match lookM M i with
      | some (.var _ x)=>frMem M l (ri++frSk c x)
      | _=>frMem M l ri
    | none=>frMem M l ri
  | _::l,ri=>frMem M l ri
def findR (Γ:Shp) (S:St):List (Nat×Nat):=frMem S.mem Γ.mem (frEnv S.env Γ.env)
def memN:List Nat→Nat→Bool
  | [],_=>false
  | k::l,t=>Nat.beq k t||memN l t
def idsOf:AV→List Nat
  | .s id=>[id]
  | .ag l=>idsOf l
  | .cons x r=>idsOf x++idsOf r
  | _=>[]
def dIds:Sk→AV→List Nat
  | .d _,x=>idsOf x
  | .f _ a,.f _ x=>dIds a x
  | .ag l,x=>match kidsOf x with
    | some y=>dIds l y
    | none=>[]
  | .cons a b,.cons x y=>dIds a x++dIds b y
  | _,_=>[]
def dEnv (env:List En):List (Nat×Sk)→List Nat
  | []=>[]
  | (t,s)::l=>match lookE env t with
    | some e=>dIds s e.av++dEnv env l
    | none=>dEnv env l
def dMem (M:List (Nat×Ob)) (ri:List (Nat×Nat)):List (Nat×SkO)→List Nat
  | []=>[]
  | (id,.var _ c)::l=>match lookN ri id with
    | some i=>match lookM M i with
      | some (.var _ x)=>dIds c x++dMem M ri l
      | _=>dMem M ri l
    | none=>dMem M ri l
  | (id,.tail _ _)::l=>match lookN ri id with
    | some i=>i::dMem M ri l
    | none=>dMem M ri l
  | _::l=>dMem M ri l
def freezeX (ks:List Nat):List (Nat×Ob)→List (Nat×Ob)
  | []=>[]
  | (id,.row e t xs)::l=>(bif memN ks id&&Nat.ble 1 t.size then (id,.tail e t xs) else (id,.row e t xs))::freezeX ks l
  | q::l=>q::freezeX ks l
def isId (ri:List (Nat×Nat)) (id c:Nat):Bool:=match lookN ri id with
  | some i=>Nat.beq i c
  | none=>false
def Sk.isL:Sk→Bool
  | .nil=>true
  | .cons _ b=>b.isL
  | _=>false
def decSk (M:List (Nat×Ob)) (ri:List (Nat×Nat)) (pr:List Nat):Sk→AV→Option (List DV)
  | .d t,v=>match asD M v t with
    | some x=>bif t.agg==v.isAgg then some [⟨t,x⟩] else none
    | none=>none
  | .p id path,.p c path'=>bif isId ri id c&&pathEq path path' then some [] else none
  | .s id,.s c=>bif isId ri id c&&!isNone (lookM M c) then some [] else none
  | .s id,.ns=>bif isNone (lookN ri id)&&!memN pr id then some [] else none
  | .m id,.m c=>bif isId ri id c then some [] else none
  | .ns,.ns=>some []
  | .np,.np=>some []
  | .nm,.nm=>some []
  | .nf,.nf=>some []
  | .z,.z=>some []
  | .f fn c,.f fn' x=>bif Nat.beq fn fn'&&c.isL then decSk M ri pr c x else none
  | .ag l,x=>match kidsOf x with
    | some y=>decSk M ri pr l y
    | none=>none
  | .nil,.nil=>some []
  | .cons a b,.cons x y=>match decSk M ri pr a x,decSk M ri pr b y with
    | some u,some v=>some (u++v)
    | _,_=>none
  | _,_=>none
def decEnv (M:List (Nat×Ob)) (ri:List (Nat×Nat)) (pr:List Nat) (env:List En):List (Nat×Sk)→Option (List DV)
  | []=>some []
  | (t,s)::l=>match lookE env t with
    | some ⟨_,[],x⟩=>match decSk M ri pr s x,decEnv M ri pr env l with
      | some u,some v=>some (u++v)
      | _,_=>none
    | _=>none
def decO (M:List (Nat×Ob)) (ri:List (Nat×Nat)) (pr:List Nat):SkO→Option Ob→Option (List DV)
  | .var tid c,some (.var tid' x)=>bif Nat.beq tid tid' then decSk M ri pr c x else none
  | .row e t,some (.row e' t' xs)=>bif Nat.beq e e'&&Ty.beq t t' then some [⟨.sl t',xs⟩] else none
  | .row e t,none=>some [⟨.sl t,[]⟩]
  | .tail e t,some (.tail e' t' xs)=>bif Nat.beq e e'&&Ty.beq t t' then some [⟨.sl t',xs⟩] else none
  | .tail e t,none=>some [⟨.sl t,[]⟩]
  | .map k u,some (.map k' u' xs)=>bif Ty.beq k k'&&Ty.beq u u' then some [⟨.sl (.pr k' u'),xs⟩] else none
  | .mapT k u path e t,some (.mapT k' u' path' e' t' xs hole)=>bif Ty.beq k k'&&Ty.beq u u'&&pathEq path path'&&Nat.beq e e'&&Ty.beq t t'&&isNone hole then some [⟨.sl (.pr k' u'),xs⟩] else none
  | .mapO k,some (.mapO k' xs _)=>bif Ty.beq k k' then some [⟨.sl (.pr k' .ref),xs⟩] else none
  | _,_=>none
def lookR (M:List (Nat×Ob)) (ri:List (Nat×Nat)) (id:Nat):Option (Option Ob):=match lookN ri id with
  | none=>some none
  | some c=>match lookM M c with
    | some o=>some (some o)
    | none=>none
def decMem (M F:List (Nat×Ob)) (ri:List (Nat×Nat)) (pr:List Nat):List (Nat×SkO)→Option (List DV)
  | []=>some []
  | (t,s)::l=>match lookR M ri t with
    | some o=>match decO (M++F) ri pr s o,decMem M F ri pr l with
      | some u,some v=>some (u++v)
      | _,_=>none
    | none=>none
def nodupR (ri:List (Nat×Nat)):List (Nat×SkO)→List Nat→Bool
  | [],_=>true
  | (id,_)::l,cs=>match lookN ri id with
    | some c=>!memN cs c&&nodupR ri l (c::cs)
    | none=>nodupR ri l cs
def nodupK:List (Nat×SkO)→List Nat→Bool
  | [],_=>true
  | (id,_)::l,cs=>!memN cs id&&nodupK l (id::cs)
def frz (Γ:Shp) (ri:List (Nat×Nat)) (env:List En) (M:List (Nat×Ob)):List (Nat×Ob):=freezeX (dEnv env Γ.env++dMem M ri Γ.mem) M
def protR (ri:List (Nat×Nat)) (pr:List Nat):List (Nat×SkO)→Bool
  | []=>true
  | (id,_)::l=>(!memN pr id||isId ri id id)&&protR ri pr l
def protI (pr:List Nat):List (Nat×Nat)→Bool
  | []=>true
  | (id,c)::l=>(!memN pr id||Nat.beq id c)&&protI pr l
def decR (Γ:Shp) (ri:List (Nat×Nat)) (pr:List Nat) (env:List En) (M F:List (Nat×Ob)):Option Γ.De :=
  bif nodupR ri Γ.mem []&&nodupK Γ.mem []&&protR ri pr Γ.mem&&protI pr ri then
    match decEnv (M++F) ri pr env Γ.env,decMem M F ri pr Γ.mem with
    | some u,some v=>ofL Γ.tys (u++v)
    | _,_=>none
  else none
def decF (Γ:Shp) (ri:List (Nat×Nat)) (pr:List Nat) (env:List En) (M F:List (Nat×Ob)):Option Γ.De:=decR Γ ri pr env (frz Γ ri env M) F
def allIds:AV→List Nat
  | .p id _=>[id]
  | .e id _=>[id]
  | .s id=>[id]
  | .m id=>[id]
  | .w id _ _=>[id]
  | .f _ c=>allIds c
  | .ag l=>allIds l
  | .tp l=>allIds l
  | .cons x r=>allIds x++allIds r
  | _=>[]
def idsE:List En→List Nat
  | []=>[]
  | e::l=>allIds e.av++idsE l
def lastI {α:Type}:Option (α×Nat)→List Nat
  | some q=>[q.2]
  | none=>[]
def idsM:List (Nat×Ob)→List Nat
  | []=>[]
  | (id,.var _ c)::l=>id::(allIds c++idsM l)
  | (id,.mapT _ _ _ _ _ _ (some q))::l=>id::q.2::idsM l
  | (id,.mapO _ _ last)::l=>id::(lastI last++idsM l)
  | (id,_)::l=>id::idsM l
def seedR (pr:List Nat):List (Nat×SkO)→List (Nat×Nat)
  | []=>[]
  | (id,_)::l=>bif memN pr id then (id,id)::seedR pr l else seedR pr l
def XS.dec (S:XS) (Γ:Shp):Option Γ.De:=decF Γ (frMem S.mem Γ.mem (frEnv (S.env++S.fix) Γ.env++seedR (S.prot++(idsE S.fix++idsM S.fixM)) Γ.mem)) (S.prot++(idsE S.fix++idsM S.fixM)) (S.env++S.fix) S.mem S.fixM
def selE (env:List En):List Nat→List En
  | []=>[]
  | t::ts=>match lookE env t with
    | some e=>e::selE env ts
    | none=>selE env ts
def splitM:List (Nat×Ob)→List Nat→List (Nat×Ob)×List (Nat×Ob)
  | M,[]=>(M,[])
  | M,t::ts=>match lookM M t with
    | some o=>((splitM (remM M t) ts).1,(t,o)::(splitM (remM M t) ts).2)
    | none=>splitM M ts
def XS.ent (S:XS) (ks ms:List Nat):XS:=⟨S.env,selE S.env ks++S.fix,(splitM S.mem ms).1,(splitM S.mem ms).2++S.fixM,S.prot⟩
def XS.re (S:XS) (S1:St):XS:=⟨S1.env,S.fix,S1.mem,S.fixM,S.prot⟩
def XS.out (S:XS) (ks ms:List Nat) (S1:St):XS:=⟨S1.env++selE S.env ks,S.fix,S1.mem++(splitM S.mem ms).2,S.fixM,S.prot⟩
inductive Ex where
  | n | x (id:Nat) | r
def Ex.beq:Ex→Ex→Bool
  | .n,.n=>true
  | .r,.r=>true
  | .x a,.x b=>Nat.beq a b
  | _,_=>false
abbrev Exs:=List (Ex×Shp)
@[reducible] def SumT:Exs→Type
  | []=>Empty
  | [q]=>q.2.De
  | q::r::l=>q.2.De⊕SumT (r::l)
def inj:(l:Exs)→Ex→XS→Option (SumT l)
  | [],_,_=>none
  | [q],e,S=>bif Ex.beq q.1 e then S.dec q.2 else none
  | q::r::l,e,S=>bif Ex.beq q.1 e then (match S.dec q.2 with
      | some x=>some (.inl x)
      | none=>none) else (match inj (r::l) e S with
      | some x=>some (.inr x)
      | none=>none)
def outS {R:Type} (S:XS) (ks ms:List Nat) (k:Ex→XS→Option R):(l:Exs)→SumT l→Option R
  | [],_=>none
  | [q],x=>k q.1 (S.out ks ms (enc q.2 x))
  | q::r::l,x=>match x with
    | .inl y=>k q.1 (S.out ks ms (enc q.2 y))
    | .inr z=>outS S ks ms k (r::l) z
def loopN {σ τ:Type} (f:σ→Option (σ⊕τ)):Nat→σ→Option τ
  | 0,_=>none
  | n+1,s=>(f s).bind fun
    | .inl s'=>loopN f n s'
    | .inr r=>some r
structure Con where
  f:FuncId
  Γ:Shp
  Δ:Shp
  fn:Γ.De→Option Δ.De
  ro:List Nat
def keysM (Zs:List (Nat×Ob)):List Nat:=Zs.map Prod.fst
def wrM (ro:List Nat) (M:List (Nat×Ob)):List (Nat×Ob):=M.filter fun q=>!memN ro q.1
def rdM (ro:List Nat) (M:List (Nat×Ob)):List (Nat×Ob):=M.filter fun q=>memN ro q.1
def wrG (ro:List Nat) (M:List (Nat×SkO)):List (Nat×SkO):=M.filter fun q=>!memN ro q.1
def rdG (ro:List Nat) (M:List (Nat×SkO)):List (Nat×SkO):=M.filter fun q=>memN ro q.1
def roM (c:Con) (x:c.Γ.De):List (Nat×Ob):=rdM c.ro (enc c.Γ x).mem
def sameSk:Sk→AV→Bool
  | .d _,.d _ _=>true
  | .p _ _,.p _ _=>true
  | .s _,.s _=>true
  | .m _,.m _=>true
  | .ns,.ns=>true
  | .np,.np=>true
  | .nm,.nm=>true
  | .nf,.nf=>true
  | .z,.z=>true
  | .f _ c,.f _ x=>sameSk c x
  | .ag l,.ag y=>sameSk l y
  | .nil,.nil=>true
  | .cons a b,.cons x y=>sameSk a x&&sameSk b y
  | _,_=>false
def sameO:SkO→Ob→Bool
  | .var _ c,.var _ x=>sameSk c x
  | .row _ _,.row _ _ _=>true
  | .map _ _,.map _ _ _=>true
  | _,_=>false
def sameG (ri:List (Nat×Nat)) (M:List (Nat×Ob)):List (Nat×SkO)→Bool
  | []=>true
  | (id,s)::l=>(match lookN ri id with
    | some c=>(match lookM M c with
      | some ob=>sameO s ob
      | none=>false)
    | none=>false)&&sameG ri M l
def renAV (g:Nat→Nat):AV→AV
  | .p id path=>.p (g id) path
  | .e id path=>.e (g id) path
  | .s id=>.s (g id)
  | .m id=>.m (g id)
  | .w id j n=>.w (g id) j n
  | .f fn c=>.f fn (renAV g c)
  | .ag l=>.ag (renAV g l)
  | .tp l=>.tp (renAV g l)
  | .cons x r=>.cons (renAV g x) (renAV g r)
  | x=>x
def renO (g:Nat→Nat):Ob→Ob
  | .var tid c=>.var tid (renAV g c)
  | .mapT k v path e u xs (some q)=>.mapT k v path e u xs (some (q.1,g q.2))
  | .mapO k xs last=>.mapO k xs (last.map fun q=>(q.1,g q.2))
  | o=>o
def newId (ri:List (Nat×Nat)) (d j:Nat):Nat:=match lookN ri j with
  | some c=>c
  | none=>10000+100*d+j
def argE (S:XS):List Operand→Nat→Option (List En)
  | [],_=>some []
  | x::l,i=>match S.ev [] x,argE S l (i+1) with
    | some v,some r=>bif Nat.blt i 100000 then some (⟨i,[],v⟩::r) else none
    | _,_=>none
def capE:AV→Nat→Option (List En)
  | .nil,_=>some []
  | .cons x r,i=>match capE r (i+1) with
    | some l=>bif Nat.blt i 100000 then some (⟨i,[],x⟩::l) else none
    | none=>none
  | _,_=>none
def valsE:List En→AV
  | []=>.nil
  | e::l=>.cons e.av (valsE l)
def resAV (es:List En):AV:=match es with
  | [e]=>e.av
  | es=>.tp (valsE es)
def lentIds (ri:List (Nat×Nat)):List (Nat×SkO)→List Nat
  | []=>[]
  | (id,_)::l=>match lookN ri id with
    | some c=>c::lentIds ri l
    | none=>lentIds ri l
def noTail:List (Nat×SkO)→Bool
  | []=>true
  | (_,.tail _ _)::_=>false
  | (_,.mapT _ _ _ _ _)::_=>false
  | _::l=>noTail l
def allMem (ks:List Nat):List Nat→Bool
  | []=>true
  | i::l=>memN ks i&&allMem ks l
def nodupN:List Nat→Bool
  | []=>true
  | i::l=>!memN l i&&nodupN l
def isSomeN {α:Type}:Option α→Bool
  | some _=>true
  | none=>false
def renMem (g:Nat→Nat) (M:List (Nat×Ob)):List (Nat×Ob):=M.map fun q=>(g q.1,renO g q.2)
inductive Src where
  | t (n:Nat)
  | v (id:Nat) (path:List PS)
inductive Hn where
  | done
  | n (m:Nat) (r:Hn)
  | nl (m:Nat) (r:Hn)
  | md (mode:Nat) (r:Hn)
  | keep (ts:List Nat) (r:Hn)
  | fz (id:Nat) (r:Hn)
  | sp (t:Nat) (m:Nat) (ks ms:List Nat) (Γ:Shp) (a b r:Hn)
  | call (c:Nat) (r:Hn)
  | tl (h:Hn)
  | so (t:Nat) (a b:Hn)
  | mt (id:Nat) (path:List PS) (e:TypeId) (r:Hn)
  | op (src:Src) (id d:Nat) (r:Hn)
  | fm (id:Nat) (r:Hn)
  | dt (id:Nat) (r:Hn)
  | si (t:Nat) (n:Int) (a b:Hn)
  | br (r:Hn)
structure HD where
  h:Hn
  tch:List Nat
  ro:List Nat
  bs:List Nat
  nm:List Nat
inductive HT where
  | tl (h:Hn)
  | op (h:HD) (r:HT)
  | so (t:Nat) (a b:HT)
inductive An where
  | nil
  | reg (h:Hn)
  | two (a b:An)
  | un (a:An)
  | lp (ks ms:List Nat) (Γ:Shp) (exs:Exs) (a:An)
  | jn (ks ms:List Nat) (exs:Exs) (a:An)
  | dr (m:Nat) (h1 h2:Hn)
  | dm (m:Nat) (ds zs:List Nat) (h2:Hn)
  | dc (m:Nat) (ds zs zf:List Nat) (ht:HT)
  | ch (t n:Nat) (a b:An)
  | gh (g:Hn) (a:An)
abbrev An.t (k:Nat) (a:An):An:=.two (.reg (.n k .done)) a
def gTmp (ops:List Oper) (o:Oper):Option (Option (Nat×Bool)):=match o.guard with
  | none=>some none
  | some (j,want)=>match ops[j]? with
    | some p=>match p.dst with
      | some t=>some (some (t,want))
      | none=>none
    | none=>none
def noId (d:Nat):AV→Bool
  | .p id _=>!Nat.beq id d
  | .e id _=>!Nat.beq id d
  | .s id=>!Nat.beq id d
  | .m id=>!Nat.beq id d
  | .w id _ _=>!Nat.beq id d
  | .f _ c=>noId d c
  | .ag l=>noId d l
  | .tp l=>noId d l
  | .cons x r=>noId d x&&noId d r
  | _=>true
def lastF {α:Type} (d:Nat):Option (α×Nat)→Bool
  | some q=>!Nat.beq q.2 d
  | none=>true
def freshM (d:Nat):List (Nat×Ob)→Bool
  | []=>true
  | (k,.var _ c)::l=>!Nat.beq k d&&noId d c&&freshM d l
  | (k,.mapT _ _ _ _ _ _ (some q))::l=>!Nat.beq k d&&!Nat.beq q.2 d&&freshM d l
  | (k,.mapO _ _ last)::l=>!Nat.beq k d&&lastF d last&&freshM d l
  | (k,_)::l=>!Nat.beq k d&&freshM d l
def dropId (d:Nat):List En→List En
  | []=>[]
  | e::l=>bif noId d e.av then e::dropId d l else dropId d l
def offF (d:Nat):List En→Bool
  | []=>true
  | e::l=>!(Nat.beq e.t d||usesT d e.cs)&&offF d l
def offI (d:Nat):List En→Bool
  | []=>true
  | e::l=>noId d e.av&&offI d l
def newOk (ri:List (Nat×Nat)) (d:Nat) (Γk:List Nat) (S:XS) (M:List (Nat×Ob)):List Nat→Bool
  | []=>true
  | j::l=>(bif isSomeN (lookN ri j) then memN Γk j else
      freshM (newId ri d j) M&&freshM (newId ri d j) S.fixM&&offI (newId ri d j) S.fix&&offI (newId ri d j) S.env&&!memN S.prot (newId ri d j)&&!memN Γk j)&&newOk ri d Γk S M l
def XS.put (S:XS) (d:Nat) (cs:Conds) (x:AV):XS:={ S with env:=⟨d,cs,x⟩::remE S.env d }
def XS.born (S:XS) (d:Nat) (o:Ob):XS:={ S with env:=dropId d S.env,mem:=(d,o)::S.mem }
def XS.set (S:XS) (id:Nat) (o:Ob):XS:={ S with mem:=setM S.mem id o }
def navA:List PS→AV→Option AV
  | [],x=>some x
  | .f k off::ps,.ag l=>match kid l k with
    | some (y,o)=>bif Nat.beq o off then navA ps y else none
    | none=>none
  | _,_=>none
def noS (d:Nat):AV→Bool
  | .e id _=>!Nat.beq id d
  | .s id=>!Nat.beq id d
  | .f _ c=>noS d c
  | .ag l=>noS d l
  | .tp l=>noS d l
  | .cons x r=>noS d x&&noS d r
  | _=>true
def noSE (d:Nat):List En→Bool
  | []=>true
  | e::l=>noS d e.av&&noSE d l
def noSM (d:Nat):List (Nat×Ob)→Bool
  | []=>true
  | (k,.var _ c)::l=>!Nat.beq k d&&noS d c&&noSM d l
  | (k,.mapT _ _ _ _ _ _ (some q))::l=>!Nat.beq k d&&!Nat.beq q.2 d&&noSM d l
  | (k,_)::l=>!Nat.beq k d&&noSM d l
def XS.swap (S:XS) (id:Nat) (o:Ob):XS:={ S with mem:=(id,o)::remM S.mem id }
def quietS (S:XS) (id:Nat):Bool:=noSE id S.env&&noSE id S.fix&&noSM id (remM S.mem id)&&noSM id S.fixM&&!memN S.prot id
def optL {ν τ:Type} (f:ν→List τ):Option ν→List τ
  | some y=>f y
  | none=>[]
def srcV (S:XS):Src→Option AV
  | .t n=>S.ev [] (.tmp n)
  | .v id path=>match lookM S.flat.mem id with
    | some (.var _ c)=>nav path c
    | _=>none
section
variable {R:Type} (Y:TX) (n:Nat)
def okW (S:XS) (d:Nat):Bool:=Nat.blt d n&&Nat.blt d 100000&&offF d S.fix
def okB (S:XS) (d:Nat):Bool:=freshM d S.mem&&freshM d S.fixM&&offI d S.fix&&!memN S.prot d
def asR (M:List (Nat×Ob)) (xv:AV) (u:Ty):Option (List u.De):=match asD M xv (.sl u) with
  | some ys=>some ys
  | none=>match xv with
    | .s id=>match lookM M id with
      | some (.row _ t ys)=>Ty.cast (.sl t) (.sl u) ys
      | _=>none
    | _=>none
def stepS0 (o:Oper) (S:XS) (k:XS→Option R):Option R :=
  match o.op,o.dst with
  | .alloc t,some d=>match lookT Y.T t,lookN Y.tys t with
    | some e,some ty=>match zeroAV ty e.z with
      | some c=>bif okW n S d&&okB S d&&c.isVal&&noId d c then k ((S.born d (.var t c)).put d [] (.p d [])) else none
      | none=>none
    | _,_=>none
  | .box t x,some d=>match S.ev [] x with
    | some c=>bif okW n S d&&okB S d&&c.isVal&&c.inMem&&noId d c then k ((S.born d (.var t c)).put d [] (.p d [])) else none
    | none=>none
  | .store t p x,none=>match lookT Y.T t,S.ev [] p,S.ev [] x with
    | some e,some (.p id path),some v=>match lookM S.mem id with
      | some (.var tid c)=>match setP path c v with
        | some c'=>bif Nat.beq e.size v.size&&v.isVal&&v.inMem then k (S.set id (.var tid c')) else none
        | none=>none
      | _=>none
    | some e,some (.e id (.i j sz::ps)),some v=>match lookM S.mem id with
      | some (.row et u xs)=>(idx xs j).bind fun y=>match setP ps (.d u y) v with
        | some c=>match asD S.flat.mem c u with
          | some z=>bif Nat.beq e.size v.size&&Nat.beq sz u.size&&Nat.ble 1 u.size&&v.isVal&&v.inMem then k (S.set id (.row et u (xs.set j.toNat z))) else none
          | none=>none
        | none=>none
      | _=>none
    | _,_,_=>none
  | .makeMap t rs,some d=>match lookT Y.T t with
    | some te=>match te.d with
      | .map kt et=>match lookN Y.tys kt,lookN Y.tys et with
        | some kk,some v=>bif okW n S d&&okB S d&&isNone rs then k ((S.born d (.map kk v [])).put d [] (.m d)) else none
        | _,_=>none
      | _=>none
    | none=>none
  | .mapUpdate t m ky x,none=>match lookT Y.T t,S.ev [] m,S.ev [] ky,S.ev [] x with
    | some te,some (.m id),some kv,some xv=>match te.d,lookM S.mem id with
      | .map kt et,some (.map kk v xs)=>match lookT Y.T kt,asD [] kv kk,asD S.flat.mem xv v with
        | some tk,some key,some y=>bif descK Y.T kk tk.d&&(kk.agg==kv.isAgg)&&(v.agg==xv.isAgg) then k (S.set id (.map kk v (putL key y xs))) else none
        | _,_,_=>none
      | .map kt et,some (.mapT kk v path e u xs (some (kh,h0)))=>match lookT Y.T kt,asD [] kv kk,asD S.flat.mem xv v,navA path xv with
        | some tk,some key,some y,some (.s h1)=>match lookM S.mem h1 with
          | some (.tail e1 u1 _)=>bif descK Y.T kk tk.d&&(kk.agg==kv.isAgg)&&(v.agg==xv.isAgg)&&Nat.beq e e1&&Ty.beq u u1&&quietS { S with mem:=remM S.mem h1 } id then
              (chk (eqK kk key kh)).bind fun _=>k (XS.swap { S with mem:=remM S.mem h1 } id (.mapT kk v path e u (putL kh y xs) none)) else none
          | _=>none
        | _,_,_,_=>none
      | _,_=>none
    | _,_,_,_=>none
  | .makeSlice t l c,some d=>match lookT Y.T t,S.ev [] l,S.ev [] c with
    | some te,some lv,some cv=>match isSliceD te.d,isInt lv,isInt cv with
      | some e,some (_,nl),some (_,nc)=>match lookT Y.T e,lookN Y.tys e with
        | some ee,some u=>match zeroAV u ee.z with
          | some za=>match asD [] za u with
            | some z=>bif okW n S d&&okB S d&&Nat.beq ee.size u.size&&Nat.beq (cellsL ee.z).length ee.size&&Nat.ble 1 ee.bytes then
                (mkL ee.bytes nl nc z).bind fun zs=>k ((S.born d (.row e u zs)).put d [] (.s d)) else none
            | none=>none
          | none=>none
        | _,_=>none
      | _,_,_=>none
    | _,_,_=>none
  | .buildSlice t len ⟨parts⟩,some d=>match lookT Y.T t with
    | some te=>match isSliceD te.d with
      | some e=>match lookT Y.T e,lookN Y.tys e with
        | some ee,some u=>bif okW n S d&&Nat.beq ee.size u.size then (match len,parts with
          | 0,[]=>bif okB S d then k ((S.born d (.row e u [])).put d [] (.s d)) else none
          | 0,_=>none
          | m+1,ps=>match evParts' S.flat [] ps with
            | some vs=>match asLs S.flat.mem u vs 0 with
              | some xs=>bif Nat.beq xs.length (m+1)&&Nat.ble ((m+1)*ee.size) 16777216&&Nat.ble 1 ee.size&&Nat.beq (cellsL ee.z).length ee.size then k (S.put d [] (.d (.sl u) xs)) else none
              | none=>none
            | none=>none) else none
        | _,_=>none
      | none=>none
    | none=>none
  | .call ⟨.builtin .append,⟨[s,x]⟩,⟨[t,t']⟩⟩,some d=>match lookT Y.T t,S.ev [] s,S.ev [] x with
    | some te,some sv,some xv=>match isSliceD te.d with
      | some e=>match lookT Y.T e with
        | some ee=>bif okW n S d&&Nat.beq t t'&&Nat.ble 1 ee.size&&Nat.ble 1 ee.bytes&&Nat.beq (cellsL ee.z).length ee.size then (match sv with
          | .ns=>match lookN Y.tys e with
            | some u=>match asR S.flat.mem xv u with
              | some ys=>bif okB S d&&Nat.beq ee.size u.size then (app ee.bytes [] ys).bind fun zs=>k ((S.born d (.row e u zs)).put d [] (.s d)) else none
              | none=>none
            | none=>none
          | .z=>match lookN Y.tys e with
            | some u=>match asR S.flat.mem xv u with
              | some ys=>bif okB S d&&Nat.beq ee.size u.size then (app ee.bytes [] ys).bind fun zs=>k ((S.born d (.row e u zs)).put d [] (.s d)) else none
              | none=>none
            | none=>none
          | .s id=>match lookM S.mem id with
            | some (.row e' u xs)=>match asR S.flat.mem xv u with
              | some ys=>bif okB ⟨S.env,S.fix,remM S.mem id,S.fixM,S.prot⟩ d&&Nat.beq ee.size u.size&&Nat.beq e e' then
                  (app ee.bytes xs ys).bind fun zs=>k (({ S with mem:=remM S.mem id }.born d (.row e u zs)).put d [] (.s d)) else none
              | none=>none
            | some (.tail e' u xs)=>match asD S.flat.mem xv (.sl u) with
              | some ys=>bif okB ⟨S.env,S.fix,remM S.mem id,S.fixM,S.prot⟩ d&&Nat.beq ee.size u.size&&Nat.beq e e' then
                  (app ee.bytes xs ys).bind fun zs=>k (({ S with mem:=remM S.mem id }.born d (.tail e u zs)).put d [] (.s d)) else none
              | none=>none
            | _=>none
          | _=>none) else none
        | none=>none
      | none=>none
    | _,_,_=>none
  | op,some d=>bif okW n S d then stepQ Y S.flat [] op fun v=>k (S.put d [] v) else none
  | _,none=>none
def isPtrV:AV→Bool
  | .np=>true
  | .p _ _=>true
  | _=>false
def ptrL:List (Nat×AV)→Nat→Option AV
  | [],_=>some .nil
  | (i,v)::l,j=>bif Nat.beq i j&&isPtrV v then (match ptrL l (j+1) with
    | some r=>some (.cons v r)
    | none=>none) else none
def delL {k:Ty} {ν:Type} (key:k.De):List (k.De×ν)→List (k.De×ν)
  | []=>[]
  | x::l=>bif eqK k key x.1 then l else x::delL key l
def copyL {α:Type} (xs ys:List α):List α:=ys.take (Nat.min ys.length xs.length)++xs.drop (Nat.min ys.length xs.length)
def copyN {α:Type} (xs ys:List α):Int:=(Nat.min ys.length xs.length:Nat)
def extKind (o:Oper) (S:XS):Nat:=match o.op with
  | .call ⟨.builtin .append,⟨[_,x]⟩,_⟩=>match S.ev [] x with
    | some (.d .str _)=>1
    | _=>0
  | .convert _ t x=>match S.ev [] x with
    | some (.d .str _)=>match lookT Y.T t with
      | some te=>match isSliceD te.d with
        | some _=>2
        | none=>0
      | none=>0
    | _=>0
  | .store _ p _=>match S.ev [] p with
    | some (.p _ path)=>bif hasI path then 3 else 0
    | _=>0
  | .call ⟨.builtin .copy,_,_⟩=>4
  | .call ⟨.builtin .delete,_,_⟩=>5
  | .buildSlice t (_+1) _=>match lookT Y.T t with
    | some te=>match isSliceD te.d with
      | some e=>match lookN Y.tys e with
        | none=>7
        | some u=>bif Ty.beq u .ref then 7 else 0
      | none=>0
    | none=>0
  | .slice _ x none _ none=>match S.ev [] x with
    | some (.s id)=>match lookM S.mem id with
      | some (.row _ _ _)=>6
      | _=>0
    | _=>0
  | .slice _ x none (some _) (some _)=>match S.ev [] x with
    | some (.s id)=>match lookM S.mem id with
      | some (.row _ _ _)=>8
      | _=>0
    | _=>0
  | _=>0
def isZ8:Value→Bool
  | .int .u8 0=>true
  | _=>false
def isU8:TypeDesc→Bool
  | .int .u8=>true
  | _=>false
def isStrD:TypeDesc→Bool
  | .string=>true
  | _=>false
def sbytes (l:Str):List Int:=l.map fun b=>(b.toNat:Int)
def stepX (o:Oper) (S:XS) (k:XS→Option R):Option R:=match o.op,o.dst with
  | .call ⟨.builtin .append,⟨[s,x]⟩,⟨[t,t']⟩⟩,some d=>match lookT Y.T t,lookT Y.T t',S.ev [] s,S.ev [] x with
    | some te,some te',some sv,some (.d .str l)=>match isSliceD te.d with
      | some e=>match lookT Y.T e with
        | some ee=>bif okW n S d&&isStrD te'.d&&isZ8 ee.z&&Nat.beq ee.size 1&&Nat.beq ee.bytes 1 then (match sv with
          | .ns=>bif okB S d then (app 1 [] (sbytes l)).bind fun zs=>k ((S.born d (.row e (.int .u8) zs)).put d [] (.s d)) else none
          | .s id=>match lookM S.mem id with
            | some (.row e' (.int .u8) xs)=>bif okB ⟨S.env,S.fix,remM S.mem id,S.fixM,S.prot⟩ d&&Nat.beq e e' then
                (app 1 xs (sbytes l)).bind fun zs=>k (({ S with mem:=remM S.mem id }.born d (.row e (.int .u8) zs)).put d [] (.s d)) else none
            | _=>none
          | _=>none) else none
        | none=>none
      | none=>none
    | _,_,_,_=>none
  | .convert s t x,some d=>match lookT Y.T s,lookT Y.T t,S.ev [] x with
    | some se,some te,some (.d .str l)=>match isSliceD te.d with
      | some e=>match lookT Y.T e with
        | some ee=>bif okW n S d&&okB S d&&isU8 ee.d then (app 1 [] (sbytes l)).bind fun zs=>k ((S.born d (.row e (.int .u8) zs)).put d [] (.s d)) else none
        | none=>none
      | none=>none
    | _,_,_=>none
  | .store t p x,none=>match lookT Y.T t,S.ev [] p,S.ev [] x with
    | some e,some (.p id path),some v=>match lookM S.mem id with
      | some (.var tid c)=>setC S.flat.mem path c v fun c'=>bif Nat.beq e.size v.size&&v.isVal&&v.inMem then k (S.set id (.var tid c')) else none
      | _=>none
    | _,_,_=>none
  | .call ⟨.builtin .copy,⟨[dst,src]⟩,⟨[t,t']⟩⟩,some d=>match lookT Y.T t,S.ev [] dst,S.ev [] src with
    | some te,some (.s id),some xv=>match isSliceD te.d with
      | some e=>match lookT Y.T e,lookM S.mem id with
        | some ee,some (.row et u xs)=>match asD S.flat.mem xv (.sl u) with
          | some ys=>bif okW n S d&&Nat.beq ee.size u.size&&Nat.ble 1 u.size then k ((S.set id (.row et u (copyL xs ys))).put d [] (.d (.int .i64) (copyN xs ys))) else none
          | none=>none
        | _,_=>none
      | none=>none
    | _,_,_=>none
  | .call ⟨.builtin .delete,⟨[m,ky]⟩,⟨[t,t']⟩⟩,none=>match lookT Y.T t,S.ev [] m,S.ev [] ky with
    | some te,some (.m id),some kv=>match te.d,lookM S.mem id with
      | .map kt et,some (.map kk v xs)=>match lookT Y.T kt,asD [] kv kk with
        | some tk,some key=>bif descK Y.T kk tk.d&&(kk.agg==kv.isAgg) then k (S.set id (.map kk v (delL key xs))) else none
        | _,_=>none
      | _,_=>none
    | _,_,_=>none
  | .buildSlice t (m+1) ⟨ps⟩,some d=>match lookT Y.T t with
    | some te=>match isSliceD te.d with
      | some e=>match lookT Y.T e,evParts' S.flat [] ps with
        | some ee,some vs=>match ptrL vs 0 with
          | some c=>bif okW n S d&&okB S d&&noId d c&&Nat.beq vs.length (m+1)&&Nat.beq ee.size 1&&Nat.beq (cellsL ee.z).length 1&&Nat.ble (m+1) 16777216 then k ((S.born d (.var e (.ag c))).put d [] (.w d 0 ((m+1:Nat):Int))) else none
          | none=>none
        | _,_=>none
      | none=>none
    | none=>none
  | .slice t x none hi none,some d=>match lookT Y.T t,S.ev [] x with
    | some te,some (.s id)=>match isSliceD te.d,lookM S.mem id with
      | some e,some (.row e' u xs)=>match lookT Y.T e,bnd S.flat [] xs.length hi with
        | some ee,some q=>bif okW n S d&&okB ⟨S.env,S.fix,remM S.mem id,S.fixM,S.prot⟩ d&&Nat.beq ee.size u.size&&Nat.beq e e' then
            (slc xs 0 q).bind fun ys=>k (({ S with mem:=remM S.mem id }.born d (.row e u ys)).put d [] (.s d)) else none
        | _,_=>none
      | _,_=>none
    | _,_=>none
  | .slice t x none (some hi) (some mx),some d=>match lookT Y.T t,S.ev [] x,S.ev [] hi,S.ev [] mx with
    | some te,some (.s id),some hv,some mv=>match isSliceD te.d,lookM S.mem id,isInt hv,isInt mv with
      | some e,some (.row e' u xs),some (_,q),some (_,m)=>match lookT Y.T e with
        | some ee=>bif okW n S d&&okB ⟨S.env,S.fix,remM S.mem id,S.fixM,S.prot⟩ d&&Nat.beq ee.size u.size&&Nat.beq e e' then
            (chk (decide (q≤m)&&decide (m≤(xs.length:Int)))).bind fun _=>(slc xs 0 q).bind fun ys=>k (({ S with mem:=remM S.mem id }.born d (.row e u ys)).put d [] (.s d)) else none
        | _=>none
      | _,_,_,_=>none
    | _,_,_,_=>none
  | _,_=>none
def stepS (o:Oper) (S:XS) (k:XS→Option R):Option R:=match extKind Y o S with
  | 0=>stepS0 Y n o S k
  | _+1=>stepX Y n o S k
def isNilMap:Value→Bool
  | .map none=>true
  | _=>false
def stepB (o:Oper) (S:XS) (k:XS→Option R):Option R:=match o.op,o.dst with
  | .buildSlice t (m+1) ⟨ps⟩,some d=>match lookT Y.T t with
    | some te=>match isSliceD te.d with
      | some e=>match lookT Y.T e,lookN Y.tys e,evParts' S.flat [] ps with
        | some ee,some u,some vs=>match asLs S.flat.mem u vs 0 with
          | some xs=>bif okW n S d&&okB S d&&Nat.beq ee.size u.size&&Nat.beq xs.length (m+1)&&Nat.ble ((m+1)*ee.size) 16777216&&Nat.ble 1 ee.size&&Nat.beq (cellsL ee.z).length ee.size then k ((S.born d (.row e u xs)).put d [] (.s d)) else none
          | none=>none
        | _,_,_=>none
      | none=>none
    | none=>none
  | .makeMap t rs,some d=>match lookT Y.T t with
    | some te=>match te.d with
      | .map kt _=>match lookN Y.tys kt with
        | some kk=>bif okW n S d&&okB S d&&isNone rs then k ((S.born d (.mapO kk [] none)).put d [] (.m d)) else none
        | none=>none
      | _=>none
    | none=>none
  | .mapUpdate t m ky x,none=>match lookT Y.T t,S.ev [] m,S.ev [] ky,S.ev [] x with
    | some te,some (.m id),some kv,some (.m j)=>match te.d,lookM S.mem id with
      | .map kt _,some (.mapO kk xs _)=>match lookT Y.T kt,asD [] kv kk with
        | some tk,some key=>bif descK Y.T kk tk.d&&(kk.agg==kv.isAgg) then k (S.set id (.mapO kk (putL key () xs) (some (key,j)))) else none
        | _,_=>none
      | _,_=>none
    | _,_,_,_=>none
  | .lookup t m ky false,some d=>match lookT Y.T t,S.ev [] ky with
    | some te,some kv=>match te.d with
      | .map kt et=>match lookT Y.T kt,lookT Y.T et,S.ev [] m with
        | some tk,some tz,some (.m id)=>match lookM S.flat.mem id with
          | some (.mapO kk xs last)=>match asD [] kv kk with
            | some key=>bif okW n S d&&descK Y.T kk tk.d&&(kk.agg==kv.isAgg)&&isNilMap tz.z then (match last with
              | some q=>(chk (eqK kk key q.1)).bind fun _=>k (S.put d [] (.m q.2))
              | none=>(chk (isNone (findL key xs))).bind fun _=>k (S.put d [] .nm)) else none
            | none=>none
          | _=>none
        | some tk,some tz,some .nm=>match lookN Y.tys kt,lookN Y.tys et with
          | some kk,some v=>match asD [] kv kk,zeroAV v tz.z with
            | some key,some za=>match asD [] za v with
              | some z=>bif okW n S d&&descK Y.T kk tk.d&&(kk.agg==kv.isAgg)&&(v.agg==isAggV tz.z) then k (S.put d [] (.d v z)) else none
              | none=>none
            | _,_=>none
          | _,_=>none
        | _,_,_=>none
      | _=>none
    | _,_=>none
  | _,_=>none
def stepCall (c:Con) (o:Oper) (S:XS) (k:XS→Option R):Option R :=
  match o.op,o.dst with
  | .call ⟨.value x,⟨xs⟩,_⟩,some d=>match S.ev [] x with
    | some (.f f caps)=>bif Nat.beq c.f f&&okW n S d then (match argE S xs 0,capE caps xs.length with
      | some es0,some cs=>callE c d S (es0++cs) (findR c.Γ ⟨es0++cs,S.mem++S.fixM⟩) k
      | _,_=>none) else none
    | _=>none
  | _,_=>none
where
  callE (c:Con) (d:Nat) (S:XS) (es:List En) (ri:List (Nat×Nat)) (k:XS→Option R):Option R :=
    match decR c.Γ ri [] es (frz c.Γ ri es S.mem++S.fixM) [] with
    | some x=>bif noTail c.Γ.mem&&Nat.beq es.length c.Γ.env.length&&allMem (keysM S.mem) (lentIds ri (wrG c.ro c.Γ.mem))&&sameG ri (frz c.Γ ri es S.mem++S.fixM) (rdG c.ro c.Γ.mem) then
      (c.fn x).bind fun y=>callR c d S ri (splitM (frz c.Γ ri es S.mem) (lentIds ri (wrG c.ro c.Γ.mem))).1 (enc c.Δ y) (roM c x) k else none
    | none=>none
  callR (c:Con) (d:Nat) (S:XS) (ri:List (Nat×Nat)) (M:List (Nat×Ob)) (S1:St) (RO:List (Nat×Ob)) (k:XS→Option R):Option R :=
    bif newOk ri d (c.Γ.mem.map Prod.fst) S M (S1.mem.map Prod.fst)&&nodupN ((S1.mem++RO).map fun q=>newId ri d q.1)&&allMem ((S1.mem++RO).map Prod.fst) (idsE S1.env)&&allMem ((S1.mem++RO).map Prod.fst) (idsM (S1.mem++RO)) then
      k (XS.put ⟨S.env,S.fix,renMem (newId ri d) S1.mem++M,S.fixM,S.prot⟩ d [] (renAV (newId ri d) (resAV S1.env))) else none
def stepC (t:Nat) (want:Bool) (o:Oper) (S:XS) (k:XS→Option R):Option R :=
  match lookE S.flat.env t,o.dst with
  | some ⟨_,cs,.d .bool _⟩,some d=>bif okW n S d&&!Nat.beq t d&&!usesT d cs then (match evalP Y S.flat ((t,want)::cs) o.op with
      | some v=>k (S.put d ((t,want)::cs) v)
      | none=>none) else none
  | _,_=>none
def stepG (ops:List Oper) (o:Oper) (S:XS) (k:XS→Option R):Option R:=match gTmp ops o with
  | some none=>stepS Y n o S k
  | some (some (t,want))=>stepC Y n t want o S k
  | none=>none
def skipO (o:Oper) (S:XS) (k:XS→Option R):Option R:=match o.dst with
  | some d=>bif okW n S d then k (S.put d [] (.tp .nil)) else none
  | none=>k S
def stepL (ops:List Oper) (o:Oper) (S:XS) (k:XS→Option R):Option R:=match gTmp ops o with
  | some none=>stepS Y n o S k
  | some (some (t,want))=>match lookE S.flat.env t with
    | some ⟨_,[],.d .bool b⟩=>match b==want with
      | true=>stepS Y n o S k
      | false=>skipO n o S k
    | some ⟨_,[],.tp .nil⟩=>skipO n o S k
    | _=>none
  | none=>none
def runN (st:Oper→XS→(XS→Option R)→Option R):List Oper→XS→(XS→Option R)→Option R
  | [],S,k=>k S
  | o::l,S,k=>st o S fun S'=>runN st l S' k
end
def runH (Y:TX) (K:List Con) (n:Nat) (ops:List Oper) {R:Type}:Hn→List Oper→XS→(XS→Option R)→Option R
  | .done,l,S,k=>match l with
    | []=>k S
    | _::_=>none
  | .n m r,l,S,k=>runN (stepG Y n ops) (l.take m) S fun S'=>runH Y K n ops r (l.drop m) S' k
  | .nl m r,l,S,k=>runN (stepL Y n ops) (l.take m) S fun S'=>runH Y K n ops r (l.drop m) S' k
  | .call c r,l,S,k=>match K[c]?,l with
    | some con,o::l'=>match gTmp ops o with
      | some none=>stepCall n con o S fun S'=>runH Y K n ops r l' S' k
      | some (some (t,want))=>match lookE S.flat.env t with
        | some ⟨_,[],.d .bool b⟩=>match b==want with
          | true=>stepCall n con o S fun S'=>runH Y K n ops r l' S' k
          | false=>none
        | _=>none
      | none=>none
    | _,_=>none
  | .br r,l,S,k=>match l with
    | o::l'=>match gTmp ops o with
      | some none=>stepB Y n o S fun S'=>runH Y K n ops r l' S' k
      | some (some (t,want))=>match lookE S.flat.env t with
        | some ⟨_,[],.d .bool b⟩=>match b==want with
          | true=>stepB Y n o S fun S'=>runH Y K n ops r l' S' k
          | false=>none
        | _=>none
      | none=>none
    | []=>none
  | .fz id r,l,S,k=>runH Y K n ops r l { S with mem:=freezeX [id] S.mem } k
  | .keep ts r,l,S,k=>runH Y K n ops r l { S with env:=selE S.env ts } k
  | .si t i a b,l,S,k=>match lookE S.env t with
    | some ⟨_,[],.d (.int kd) v⟩=>bif offF t S.fix then (if v=i then runH Y K n ops a l (S.put t [] (.d (.int kd) i)) k else runH Y K n ops b l S k) else none
    | _=>none
  | .mt id path e r,l,S,k=>match lookM S.mem id with
    | some (.map kk v [])=>match slAt v path with
      | some ⟨u,_⟩=>bif quietS S id then runH Y K n ops r l (S.swap id (.mapT kk v path e u [] none)) k else none
      | none=>none
    | _=>none
  | .op src id d r,l,S,k=>match lookM S.mem id with
    | some (.mapT kk v path e u xs none)=>match slAt v path,srcV S src with
      | some ⟨u1,f⟩,some av=>match asD S.flat.mem av kk with
        | some key=>bif keyT kk&&quietS S id&&okB S d then runH Y K n ops r l ((S.swap id (.mapT kk v path e u xs (some (key,d)))).born d (.tail e u1 (optL f (findL key xs)))) k else none
        | none=>none
      | _,_=>none
    | _=>none
  | .fm id r,l,S,k=>match lookM S.mem id with
    | some (.mapT kk v _ _ _ xs none)=>runH Y K n ops r l (S.swap id (.map kk v xs)) k
    | _=>none
  | .sp t m ks ms Γ a b r,l,S,k=>match lookE S.env t with
    | some ⟨_,[],.d .bool v⟩=>bif offF t S.fix then
        (if v=true then runH Y K n ops (R:=Γ.De) a (l.take m) ((XS.put S t [] (.d .bool true)).ent ks ms) (fun S'=>S'.dec Γ)
          else runH Y K n ops (R:=Γ.De) b (l.take m) ((XS.put S t [] (.d .bool false)).ent ks ms) (fun S'=>S'.dec Γ)).bind
          fun y=>runH Y K n ops r (l.drop m) (XS.out (XS.put S t [] (.d .bool v)) ks ms (enc Γ y)) k else none
    | _=>none
  | _,_,_,_=>none
section
variable {R:Type} (Y:TX) (n:Nat)
def stepT (o:Oper) (S:XS) (k:XS→Option R):Option R:=match o.dst with
  | some d=>bif okW n S d then stepQ Y S.flat [] o.op fun v=>k (S.put d [] v) else none
  | none=>none
def stepGT (ops:List Oper) (o:Oper) (S:XS) (k:XS→Option R):Option R:=match gTmp ops o with
  | some none=>stepT Y n o S k
  | some (some (t,want))=>stepC Y n t want o S k
  | none=>none
def stepLT (ops:List Oper) (o:Oper) (S:XS) (k:XS→Option R):Option R:=match gTmp ops o with
  | some none=>stepT Y n o S k
  | some (some (t,want))=>match lookE S.flat.env t with
    | some ⟨_,[],.d .bool b⟩=>match b==want with
      | true=>stepT Y n o S k
      | false=>skipO n o S k
    | some ⟨_,[],.tp .nil⟩=>skipO n o S k
    | _=>none
  | none=>none
end
def runT (Y:TX) (n:Nat) (ops:List Oper) {R:Type}:Hn→List Oper→XS→(XS→Option R)→Option R
  | .done,l,S,k=>match l with
    | []=>k S
    | _::_=>none
  | .n m r,l,S,k=>runN (stepGT Y n ops) (l.take m) S fun S'=>runT Y n ops r (l.drop m) S' k
  | .nl m r,l,S,k=>runN (stepLT Y n ops) (l.take m) S fun S'=>runT Y n ops r (l.drop m) S' k
  | .sp t m ks ms Γ a b r,l,S,k=>match lookE S.env t with
    | some ⟨_,[],.d .bool v⟩=>bif offF t S.fix then
        (if v=true then runT Y n ops (R:=Γ.De) a (l.take m) ((XS.put S t [] (.d .bool true)).ent ks ms) (fun S'=>S'.dec Γ)
          else runT Y n ops (R:=Γ.De) b (l.take m) ((XS.put S t [] (.d .bool false)).ent ks ms) (fun S'=>S'.dec Γ)).bind
          fun y=>runT Y n ops r (l.drop m) (XS.out (XS.put S t [] (.d .bool v)) ks ms (enc Γ y)) k else none
    | _=>none
  | _,_,_,_=>none
inductive Gk where
  | v
  | r (u:Ty) (e:TypeId) (zs:List u.De) (c:Nat)
  | c
  | u
  | t (u:Ty) (e:TypeId) (zs:List u.De) (h:Nat)
  | o (t:TypeId) (c:AV)
  | b (ns:List Nat)
  | w (id:Nat) (ob:Ob)
abbrev Got:=List (Nat×AV×Gk)
def lookG:Got→Nat→Option AV
  | [],_=>none
  | (d,v,.v)::l,t=>bif Nat.beq d t then some v else lookG l t
  | (d,_,_)::l,t=>bif Nat.beq d t then none else lookG l t
def isRowG:Got→Nat→Bool
  | [],_=>false
  | (d,_,.r _ _ _ _)::l,t=>Nat.beq d t||isRowG l t
  | _::l,t=>isRowG l t
def isVarG:Got→Nat→Bool
  | [],_=>false
  | (d,_,.o _ _)::l,t=>Nat.beq d t||isVarG l t
  | _::l,t=>isVarG l t
def isSkipG:Got→Nat→Bool
  | [],_=>false
  | (d,_,.u)::l,t=>Nat.beq d t||isSkipG l t
  | (d,_,_)::l,t=>bif Nat.beq d t then false else isSkipG l t
def cpRow (l0:List Oper) (ds:List Nat) (i:Nat) (acc:Got):Op→Option Nat
  | .move (.tmp t)=>bif isRowG acc t&&predB l0 i (ds.idxOf t) then some t else none
  | .assign (.tmp t)=>bif isRowG acc t&&predB l0 i (ds.idxOf t) then some t else none
  | _=>none
def opTmps (o:Oper):List Nat:=o.op.operands.toList.filterMap fun x=>match x with
  | .tmp t=>some t
  | _=>none
def varE:List En→List En
  | []=>[]
  | e::l=>bif Nat.blt e.t 100000 then varE l else (match e.cs with
    | []=>e::varE l
    | _::_=>varE l)
def locE (l0:List Oper) (ds:List Nat) (i:Nat) (acc:Got) (env:List En):List Nat→List En
  | []=>varE env
  | t::ts=>match lookG acc t with
    | some v=>bif predB l0 i (ds.idxOf t) then ⟨t,[],v⟩::locE l0 ds i acc env ts else locE l0 ds i acc env ts
    | none=>bif notIn ds t then (match lookE env t with
      | some ⟨t',[],v⟩=>⟨t',[],v⟩::locE l0 ds i acc env ts
      | _=>locE l0 ds i acc env ts) else locE l0 ds i acc env ts
def noneOf (ds:List Nat):AV→Bool:=fun x=>ds.all fun d=>noId d x
def guardD (l0:List Oper) (ds:List Nat) (i:Nat) (acc:Got) (o:Oper):Option Bool:=match gTmp l0 o with
  | none=>none
  | some none=>some true
  | some (some (t,want))=>bif predB l0 i (ds.idxOf t) then (match lookG acc t with
    | some (.d .bool b)=>some (b==want)
    | some _=>none
    | none=>bif isSkipG acc t then some false else none) else none
def argD (S:St):List Operand→Nat→Option (List En)
  | [],_=>some []
  | x::l,i=>match ev S [] x,argD S l (i+1) with
    | some v,some r=>bif Nat.blt i 100000 then some (⟨i,[],v⟩::r) else none
    | _,_=>none
def isNilL {α:Type}:List α→Bool
  | []=>true
  | _=>false
def callD {R:Type} (c:Con) (op:Op) (S:St) (k:AV→Option R):Option R:=match op with
  | .call ⟨.value (.func f),⟨xs⟩,_⟩=>bif Nat.beq c.f f&&isNilL c.Γ.mem&&isNilL c.Δ.mem then (match argD S xs 0 with
    | some es=>bif Nat.beq es.length c.Γ.env.length then (match decR c.Γ [] [] es S.mem [] with
      | some x=>(c.fn x).bind fun y=>bif isNilL (idsE (enc c.Δ y).env) then k (resAV (enc c.Δ y).env) else none
      | none=>none) else none
    | none=>none) else none
  | _=>none
def curG (id d:Nat):Gk→Option Ob→Option Ob
  | .r u e zs _,c=>bif Nat.beq d id then some (.row e u zs) else c
  | .t u e zs h,c=>bif Nat.beq d id then some (.tail e u zs) else (bif Nat.beq h id then none else c)
  | .o t x,c=>bif Nat.beq d id then some (.var t x) else c
  | .w j ob,c=>bif Nat.beq j id then some ob else c
  | _,c=>c
def touches (id d:Nat):Gk→Bool
  | .r _ _ _ _=>Nat.beq d id
  | .t _ _ _ h=>Nat.beq d id||Nat.beq h id
  | .o _ _=>Nat.beq d id
  | .w j _=>Nat.beq j id
  | _=>false
def curO (E:Nat→Bool) (id:Nat):Got→Nat→Option Ob→Option Ob
  | [],_,c=>c
  | (d,_,q)::l,j,c=>curO E id l (j+1) (bif E j then curG id d q c else c)
def allE:Nat→Bool:=fun _=>true
def behT (l0:List Oper) (i id:Nat):Got→Nat→Bool
  | [],_=>true
  | (d,_,q)::l,j=>(!touches id d q||behindB l0 l0.length i j)&&behT l0 i id l (j+1)
def noTouch (id:Nat):Got→Bool
  | []=>true
  | (d,_,q)::l=>!touches id d q&&noTouch id l
def mayT (o:Oper):Bool:=match o.dst with
  | none=>true
  | some _=>match o.op with
    | .call ⟨.builtin .append,_,_⟩=>true
    | _=>false
def lateT (l0:List Oper) (p i:Nat):Bool:=(List.range p).all fun k=>Nat.ble k i||(match l0[k]? with
  | some o=>!mayT o
  | none=>false)||behindB l0 l0.length k i
def visZ (l0:List Oper) (p i:Nat) (acc:Got) (Zs:List (Nat×Ob)):List (Nat×Ob):=match Zs with
  | []=>[]
  | _=>bif lateT l0 p i then Zs.filterMap fun q=>bif behT l0 i q.1 acc 0 then (match curO allE q.1 acc 0 (lookM Zs q.1) with
    | some ob=>some (q.1,ob)
    | none=>none) else none else []
section
variable {R:Type} (Y:TX) (n:Nat) (l0:List Oper) (ds:List Nat) (Zs:List (Nat×Ob)) (S0:XS)
def locOf (i:Nat) (acc:Got) (o:Oper):St:=⟨locE l0 ds i acc S0.flat.env (opTmps o),S0.flat.mem++visZ l0 ds.length i acc Zs⟩
def curA (i:Nat) (acc:Got) (id:Nat):Option Ob:=bif behT l0 i id acc 0 then curO allE id acc 0 (lookM Zs id) else none
def curB (i:Nat) (acc:Got) (id:Nat):Option Ob:=bif isSomeN (lookM Zs id) then curA l0 Zs i acc id else none
def okZ (d:Nat) (acc:Got):Bool:=okB S0 d&&freshM d Zs&&noTouch d acc
def makeD (S:St) (op:Op) (k:(u:Ty)→TypeId→List u.De→Nat→Option R):Option R:=match op with
  | .makeSlice t lo co=>match lookT Y.T t,ev S [] lo,ev S [] co with
    | some te,some lv,some cv=>match isSliceD te.d,isInt lv,isInt cv with
      | some e,some (_,nl),some (_,nc)=>match lookT Y.T e,lookN Y.tys e with
        | some ee,some u=>match zeroAV u ee.z with
          | some za=>match asD [] za u with
            | some z=>bif Nat.beq ee.size u.size&&Nat.beq (cellsL ee.z).length ee.size&&Nat.ble 1 ee.bytes then (mkL ee.bytes nl nc z).bind fun zs=>k u e zs nc.toNat else none
            | none=>none
          | none=>none
        | _,_=>none
      | _,_,_=>none
    | _,_,_=>none
  | _=>none
def litD (S:St) (op:Op) (k:AV→Option R):Option R:=match op with
  | .buildSlice t (m+1) ⟨ps⟩=>match lookT Y.T t with
    | some te=>match isSliceD te.d with
      | some e=>match lookT Y.T e,lookN Y.tys e with
        | some ee,some u=>match evParts' S [] ps with
          | some vs=>match asLs S.mem u vs 0 with
            | some xs=>bif Nat.beq ee.size u.size&&Nat.beq xs.length (m+1)&&Nat.ble ((m+1)*ee.size) 16777216&&Nat.ble 1 ee.size&&Nat.beq (cellsL ee.z).length ee.size then k (.d (.sl u) xs) else none
            | none=>none
          | none=>none
        | _,_=>none
      | none=>none
    | none=>none
  | _=>none
def appD (C:Nat→Option Ob) (S:St) (op:Op) (k:(u:Ty)→TypeId→List u.De→Nat→Option R):Option R:=match op with
  | .call ⟨.builtin .append,⟨[s,x]⟩,⟨[t,t']⟩⟩=>match lookT Y.T t,ev S [] s,ev S [] x with
    | some te,some (.s id),some xv=>match C id with
      | some (.tail e' u xs)=>match isSliceD te.d with
        | some e=>match lookT Y.T e,asD S.mem xv (.sl u) with
          | some ee,some ys=>bif Nat.beq t t'&&Nat.ble 1 ee.size&&Nat.ble 1 ee.bytes&&Nat.beq (cellsL ee.z).length ee.size&&Nat.beq ee.size u.size&&Nat.beq e e'&&!isNilL ys then (app ee.bytes xs ys).bind fun zs=>k u e zs id else none
          | _,_=>none
        | none=>none
      | _=>none
    | _,_,_=>none
  | _=>none
def isNs (S:St):Op→Bool
  | .call ⟨.builtin .append,⟨[s,_]⟩,_⟩=>match ev S [] s with
    | some .ns=>true
    | _=>false
  | _=>false
def napD (S:St) (op:Op) (k:(u:Ty)→TypeId→List u.De→Nat→Option R):Option R:=match op with
  | .call ⟨.builtin .append,⟨[s,x]⟩,⟨[t,t']⟩⟩=>match lookT Y.T t,ev S [] s,ev S [] x with
    | some te,some .ns,some xv=>match isSliceD te.d with
      | some e=>match lookT Y.T e,lookN Y.tys e with
        | some ee,some u=>match asD S.mem xv (.sl u) with
          | some ys=>bif Nat.beq t t'&&Nat.ble 1 ee.size&&Nat.ble 1 ee.bytes&&Nat.beq (cellsL ee.z).length ee.size&&Nat.beq ee.size u.size then (app ee.bytes [] ys).bind fun zs=>k u e zs 0 else none
          | none=>none
        | _,_=>none
      | none=>none
    | _,_,_=>none
  | _=>none
def allocD (op:Op) (k:TypeId→AV→Option R):Option R:=match op with
  | .alloc t=>match lookT Y.T t,lookN Y.tys t with
    | some e,some ty=>match zeroAV ty e.z with
      | some c=>bif c.isVal&&isNilL (allIds c) then k t c else none
      | none=>none
    | _,_=>none
  | _=>none
def rowsG (acc:Got):List Nat→List Nat
  | []=>[]
  | t::ts=>bif isRowG acc t then t::rowsG acc ts else rowsG acc ts
def predsB (l0:List Oper) (ds:List Nat) (i:Nat):List Nat→Bool
  | []=>true
  | t::ts=>predB l0 i (ds.idxOf t)&&predsB l0 ds i ts
def filE (ds:List Nat):List En→List En
  | []=>[]
  | e::l=>bif noneOf ds e.av then e::filE ds l else filE ds l
def locB (ns:List Nat) (S:St):St:=⟨ns.map (fun t=>⟨t,[],.s t⟩)++filE ds S.env,[]⟩
inductive Kd where
  | mk | lit | q | ap | al | bd
def kdOf:Op→Kd
  | .makeSlice _ _ _=>.mk
  | .buildSlice _ _ _=>.lit
  | .call ⟨.builtin .append,_,_⟩=>.ap
  | .alloc _=>.al
  | .build _ _=>.bd
  | _=>.q
def targetD (S:St) (i:Nat) (acc:Got) (p:Operand):Option (Bool×Bool×Nat×List PS):=match ev S [] p with
  | some (.p id path)=>some (true,false,id,path)
  | some (.e id path)=>some (true,true,id,path)
  | some _=>none
  | none=>match p with
    | .tmp t=>bif isVarG acc t&&predB l0 i (ds.idxOf t) then some (false,false,t,[]) else none
    | _=>none
def storeD (S:St) (i:Nat) (acc:Got) (op:Op) (k:Nat→Ob→Option R):Option R:=match op with
  | .store t p x=>match lookT Y.T t,targetD l0 ds S i acc p,ev S [] x with
    | some e,some (b,el,id,path),some v=>bif Nat.beq e.size v.size&&v.isVal&&v.inMem then (match curA l0 Zs i acc id,path with
      | some (.row et u xs),.i j sz::ps=>(idx xs j).bind fun y=>match setP ps (.d u y) v with
        | some c=>match asD S.mem c u with
          | some z=>bif b&&el&&Nat.beq sz u.size&&Nat.ble 1 u.size&&isSomeN (lookM Zs id) then k id (.row et u (xs.set j.toNat z)) else none
          | none=>none
        | none=>none
      | some (.var tid c),path=>match setP path c v with
        | some c'=>bif noneOf ds c'&&!el&&(!b||isSomeN (lookM Zs id)) then k id (.var tid c') else none
        | none=>none
      | _,_=>none) else none
    | _,_,_=>none
  | _=>none
def stepD (o:Oper) (i:Nat) (acc:Got) (k:Nat×AV×Gk→Option R):Option R:=match o.dst with
  | none=>bif Nat.beq (ds.getD i 0) (1000000000+i) then (match guardD l0 ds i acc o with
    | some true=>storeD Y l0 ds Zs (locOf l0 ds Zs S0 i acc o) i acc o.op fun id ob=>k (1000000000+i,.tp .nil,.w id ob)
    | _=>none) else none
  | some d=>bif okW n S0 d&&Nat.beq (ds.getD i 0) d then (match guardD l0 ds i acc o with
    | some false=>k (d,.tp .nil,.u)
    | some true=>match cpRow l0 ds i acc o.op with
      | some t=>k (d,.s t,.c)
      | none=>match kdOf o.op with
        | .mk=>makeD Y (locOf l0 ds Zs S0 i acc o) o.op fun u e zs c=>bif okZ Zs S0 d acc then k (d,.s d,.r u e zs c) else none
        | .lit=>litD Y (locOf l0 ds Zs S0 i acc o) o.op fun v=>k (d,v,.v)
        | .ap=>bif isNs (locOf l0 ds Zs S0 i acc o) o.op then napD Y (locOf l0 ds Zs S0 i acc o) o.op fun u e zs c=>bif okZ Zs S0 d acc then k (d,.s d,.r u e zs c) else none
          else appD Y (curB l0 Zs i acc) (locOf l0 ds Zs S0 i acc o) o.op fun u e zs h=>bif okZ Zs S0 d acc then k (d,.s d,.t u e zs h) else none
        | .al=>allocD Y o.op fun t c=>bif okZ Zs S0 d acc then k (d,.p d [],.o t c) else none
        | .bd=>bif isNilL (rowsG acc (opTmps o)) then stepQ Y (locOf l0 ds Zs S0 i acc o) [] o.op fun v=>bif noneOf ds v then k (d,v,.v) else none
          else bif predsB l0 ds i (rowsG acc (opTmps o)) then stepQ Y (locB ds (rowsG acc (opTmps o)) (locOf l0 ds Zs S0 i acc o)) [] o.op fun v=>bif (allIds v).all (fun j=>notIn ds j||memN (rowsG acc (opTmps o)) j) then k (d,v,.b (rowsG acc (opTmps o))) else none
            else none
        | .q=>stepQ Y (locOf l0 ds Zs S0 i acc o) [] o.op fun v=>bif noneOf ds v then k (d,v,.v) else none
    | none=>none) else none
def runDn:Nat→List Oper→Nat→Got→(List Oper→Nat→Got→Option R)→Option R
  | 0,l,i,acc,k=>k l i acc
  | _+1,[],_,_,_=>none
  | m+1,o::l,i,acc,k=>stepD Y n l0 ds Zs S0 o i acc fun g=>runDn m l (i+1) (acc++[g]) k
def setG:Got→Nat→Bool→Got
  | [],_,_=>[]
  | (d,v,q)::l,t,b=>bif Nat.beq d t then (d,.d .bool b,q)::l else (d,v,q)::setG l t b
def runD (K:List Con):Hn→List Oper→Nat→Got→(Hn→Got→Option R)→Option R
  | .tl h,l,i,acc,k=>match l with
    | []=>k h acc
    | _::_=>none
  | .n m r,l,i,acc,k=>runDn Y n l0 ds Zs S0 m l i acc fun l' i' acc'=>runD K r l' i' acc' k
  | .call c r,l,i,acc,k=>match K[c]?,l with
    | some con,o::l'=>match o.dst with
      | some d=>bif okW n S0 d&&Nat.beq (ds.getD i 0) d then (match guardD l0 ds i acc o with
        | some true=>callD con o.op (locOf l0 ds Zs S0 i acc o) fun v=>runD K r l' (i+1) (acc++[(d,v,.v)]) k
        | _=>none) else none
      | none=>none
    | _,_=>none
  | .so t a b,l,i,acc,k=>match lookG acc t with
    | some (.d .bool v)=>if v=true then runD K a l i (setG acc t true) k else runD K b l i (setG acc t false) k
    | _=>none
  | _,_,_,_,_=>none
end
def gotE:Got→List En
  | []=>[]
  | (_,_,.w _ _)::l=>gotE l
  | (d,v,_)::l=>⟨d,[],v⟩::gotE l
def rowIds:Got→List Nat
  | []=>[]
  | (d,_,.r _ _ _ _)::l=>d::rowIds l
  | (_,_,.v)::l=>rowIds l
  | (_,_,.c)::l=>rowIds l
  | (_,_,.u)::l=>rowIds l
  | (_,_,.b _)::l=>rowIds l
  | (d,_,.t _ _ _ _)::l=>d::rowIds l
  | (d,_,.o _ _)::l=>d::rowIds l
  | (_,_,.w _ _)::l=>rowIds l
def gotM (Zs:List (Nat×Ob)) (acc:Got):List (Nat×Ob):=(keysM Zs++rowIds acc).filterMap fun id=>match curO allE id acc 0 (lookM Zs id) with
  | some ob=>some (id,ob)
  | none=>none
def remEs (env:List En):List Nat→List En
  | []=>env
  | d::ds=>remEs (remE (dropId d env) d) ds
def gotS (S0:XS) (ds:List Nat) (Zs:List (Nat×Ob)) (acc:Got):XS:=⟨gotE acc++remEs S0.env ds,S0.fix,gotM Zs acc++S0.mem,S0.fixM,S0.prot⟩
def finL (l:List Oper) (p:Nat):Bool:=(List.range l.length).all fun k=>Nat.blt k p||(List.range k).all fun i=>behindB l l.length k i
def drawB (l:List Oper) (p:Nat) (ds:List Nat):Bool:=Nat.ble p l.length&&Nat.beq ds.length p&&backB l&&finL l p&&nodupB ds
def orderB (l:List Oper) (n:Nat):Bool:=bif Nat.blt n l.length then Region.lexTailB .any l.toArray n else Nat.beq n l.length&&Region.lexB .any l.toArray
def noTailM:List (Nat×Ob)→Bool
  | []=>true
  | (_,.tail _ _ _)::_=>false
  | (_,.mapT _ _ _ _ _ _ _)::_=>false
  | _::l=>noTailM l
structure EC where
  d:Nat
  av:AV
  has:Bool
  ups:List (Nat×Option Ob)
def lookU:List (Nat×Option Ob)→Nat→Option (Option Ob)
  | [],_=>none
  | (k,x)::l,id=>bif Nat.beq k id then some x else lookU l id
def upC (id:Nat) (e:EC) (c:Option Ob):Option Ob:=match lookU e.ups id with
  | some x=>x
  | none=>c
def curC (E:Nat→Bool) (id:Nat):List EC→Nat→Option Ob→Option Ob
  | [],_,c=>c
  | e::l,j,c=>curC E id l (j+1) (bif E j then upC id e c else c)
def touchC (id:Nat) (e:EC):Bool:=isSomeN (lookU e.ups id)
def envC (E:Nat→Bool):List EC→Nat→List En
  | [],_=>[]
  | e::l,j=>bif E j&&e.has then ⟨e.d,[],e.av⟩::envC E l (j+1) else envC E l (j+1)
def optP (id:Nat):Option Ob→Option (Nat×Ob)
  | some ob=>some (id,ob)
  | none=>none
def objC (names:List Nat) (Zs:List (Nat×Ob)) (acc:List EC) (E:Nat→Bool):List (Nat×Ob):=names.filterMap fun id=>optP id (curC E id acc 0 (lookM Zs id))
def HD.wr (h:HD):List Nat:=h.tch++h.bs
def HD.al (h:HD):List Nat:=h.tch++h.ro++h.bs
def lookC:List EC→Nat→Option AV
  | [],_=>none
  | g::l,t=>bif Nat.beq g.d t&&g.has then some g.av else lookC l t
def visE (l0:List Oper) (ds:List Nat) (i:Nat) (acc:List EC) (B:List En):List Nat→List En
  | []=>varE B
  | t::ts=>match lookC acc t with
    | some v=>bif predB l0 i (ds.idxOf t) then ⟨t,[],v⟩::visE l0 ds i acc B ts else visE l0 ds i acc B ts
    | none=>bif notIn ds t then (match lookE B t with
      | some ⟨t',[],v⟩=>⟨t',[],v⟩::visE l0 ds i acc B ts
      | _=>visE l0 ds i acc B ts) else visE l0 ds i acc B ts
def gTs (l0:List Oper) (o:Oper):List Nat:=match gTmp l0 o with
  | some (some (t,_))=>[t]
  | _=>[]
def apart (l m:List Nat):Bool:=l.all fun x=>!memN m x
def settled (l0:List Oper) (i j:Nat) (hi hj:HD):Bool:=((apart hj.wr hi.al&&apart hj.ro hi.wr)||behindB l0 l0.length i j)&&apart hi.bs hj.wr
def cflB (l0:List Oper) (hs:List HD):Bool:=(List.range hs.length).all fun i=>(List.range i).all fun j=>match hs[i]?,hs[j]? with
  | some hi,some hj=>settled l0 i j hi hj
  | _,_=>true
def nmB (l0:List Oper) (hs:List HD):Bool:=(List.range hs.length).all fun i=>(List.range hs.length).all fun j=>Nat.beq i j||(match hs[i]?,hs[j]? with
  | some hi,some hj=>apart hi.bs hj.nm||behindB l0 l0.length j i
  | _,_=>true)
def allBs:List HD→List Nat
  | []=>[]
  | h::l=>h.bs++allBs l
def allBsT:HT→List Nat
  | .tl _=>[]
  | .op h r=>h.bs++allBsT r
  | .so _ a b=>allBsT a++allBsT b
def withoutN (l m:List Nat):List Nat:=l.filter fun x=>!memN m x
def objsC (ids:List Nat) (Zs:List (Nat×Ob)) (acc:List EC):List (Nat×Ob):=ids.filterMap fun id=>optP id (curC allE id acc 0 (lookM Zs id))
def setEC:List EC→Nat→Bool→List EC
  | [],_,_=>[]
  | g::l,t,b=>bif Nat.beq g.d t&&g.has then ⟨g.d,.d .bool b,g.has,g.ups⟩::l else g::setEC l t b
def datA (M:List (Nat×Ob)):AV→AV
  | .s id=>match lookM M id with
    | some (.tail _ t xs)=>.d (.sl t) xs
    | _=>.s id
  | .ag l=>.ag (datA M l)
  | .cons x r=>.cons (datA M x) (datA M r)
  | x=>x
def anyTail (M:List (Nat×Ob)):List Nat→Bool
  | []=>false
  | id::l=>match lookM M id with
    | some (.tail _ _ _)=>true
    | _=>anyTail M l
def datE (M:List (Nat×Ob)):List En→List En
  | []=>[]
  | e::l=>bif anyTail M (idsOf e.av) then ⟨e.t,e.cs,datA M e.av⟩::datE M l else datE M l
section
variable {R:Type} (Y:TX) (K:List Con) (n:Nat) (l0:List Oper) (ds:List Nat) (Zs:List (Nat×Ob)) (B:List En) (prA:List Nat)
def seenC (hc:HD) (o:Oper) (i:Nat) (acc:List EC):XS:=⟨visE l0 ds i acc B (opTmps o++gTs l0 o),[],objsC hc.tch Zs acc,objsC hc.ro Zs acc,withoutN prA hc.bs⟩
def stepDC (hc:HD) (o:Oper) (i:Nat) (acc:List EC) (S1:XS):Option EC :=
  bif noTailM (objsC hc.tch Zs acc++objsC hc.ro Zs acc)&&allMem hc.nm (idsM S1.mem) then (match o.dst with
    | some d=>match lookE S1.env d with
      | some ⟨_,[],av⟩=>bif Nat.beq (ds.getD i 0) d&&allMem hc.nm (allIds av)&&Nat.blt d n then some ⟨d,av,true,(hc.tch++hc.bs).map fun id=>(id,lookM S1.mem id)⟩ else none
      | _=>none
    | none=>bif Nat.beq (ds.getD i 0) (1000000000+i) then some ⟨1000000000+i,.tp .nil,false,(hc.tch++hc.bs).map fun id=>(id,lookM S1.mem id)⟩ else none) else none
def runC:HT→List Oper→Nat→List HD→List EC→(Hn→List HD→List EC→Option R)→Option R
  | .tl h,l,_,hs,acc,k=>match l with
    | []=>k h hs acc
    | _::_=>none
  | .op hc r,l,i,hs,acc,k=>match l with
    | o::l'=>runH Y K n l0 hc.h [o] (seenC l0 ds Zs B prA hc o i acc) fun S1=>match stepDC n ds Zs hc o i acc S1 with
      | some g=>runC r l' (i+1) (hs++[hc]) (acc++[g]) k
      | none=>none
    | []=>none
  | .so t a b,l,i,hs,acc,k=>match lookC acc t with
    | some (.d .bool v)=>if v=true then runC a l i hs (setEC acc t true) k else runC b l i hs (setEC acc t false) k
    | _=>none
end
def chkC (l0:List Oper) (ks:List Nat) (prB prA:List Nat) (hs:List HD):Bool:=cflB l0 hs&&nmB l0 hs&&nodupN (ks++allBs hs)&&apart prB (allBs hs)&&allMem prA (ks++allBs hs) &&
  hs.all fun hc=>nodupN hc.al&&allMem (ks++allBs hs) hc.al&&allMem prA hc.nm
def kfC (zf:List Nat) (hs:List HD):Bool:=hs.all fun hc=>apart hc.wr zf
def gotC (S:XS) (ds:List Nat) (Z1 Z2 M1:List (Nat×Ob)) (bsA:List Nat) (hs:List HD) (acc:List EC):XS:=⟨envC allE acc 0++remEs S.env (ds++bsA),S.fix,objC (keysM Z1++allBs hs) (Z1++Z2) acc allE++M1,S.fixM,S.prot⟩
def runG {R:Type}:Hn→XS→(XS→Option R)→Option R
  | .done,S,k=>k S
  | .fz id r,S,k=>runG r { S with mem:=freezeX [id] S.mem } k
  | .mt id path e r,S,k=>match lookM S.mem id with
    | some (.map kk v [])=>match slAt v path with
      | some ⟨u,_⟩=>bif quietS S id then runG r (S.swap id (.mapT kk v path e u [] none)) k else none
      | none=>none
    | _=>none
  | .op src id d r,S,k=>match lookM S.mem id with
    | some (.mapT kk v path e u xs none)=>match slAt v path,srcV S src with
      | some ⟨u1,f⟩,some av=>match asD S.flat.mem av kk with
        | some key=>bif keyT kk&&quietS S id&&okB S d then runG r ((S.swap id (.mapT kk v path e u xs (some (key,d)))).born d (.tail e u1 (optL f (findL key xs)))) k else none
        | none=>none
      | _,_=>none
    | _=>none
  | .fm id r,S,k=>match lookM S.mem id with
    | some (.mapT kk v _ _ _ xs none)=>runG r (S.swap id (.map kk v xs)) k
    | _=>none
  | .dt id r,S,k=>match lookM S.mem id with
    | some (.var tid c)=>runG r (S.set id (.var tid (datA S.flat.mem c))) k
    | _=>none
  | _,_,_=>none
def isLitE (S:XS) (t i:Nat):Bool:=match lookE S.env t with
  | some ⟨_,[],.d (.int _) v⟩=>match litN v with
    | some j=>Nat.beq j i
    | none=>false
  | _=>false
def dcR (Y:TX) (K:List Con) (n:Nat) {R:Type} (ops:List Oper) (p:Nat) (ds:List Nat) (Z1 Z2 M1 F1:List (Nat×Ob)) (ht:HT) (S:XS) (B:List En) (prB:List Nat) (k:Hn→XS→Option R):Option R :=
  runC Y K n ops ds (Z1++Z2) (datE (M1++F1) B++B) (prB++keysM (Z1++Z2)++allBsT ht) ht (ops.take p) 0 [] [] fun h hs acc =>
    bif chkC ops (keysM (Z1++Z2)) prB (prB++keysM (Z1++Z2)++allBsT ht) hs&&kfC (keysM Z2) hs then k h (gotC S ds Z1 Z2 M1 (allBsT ht) hs acc) else none
def dcI (Y:TX) (K:List Con) (n:Nat) {R:Type} (ops:List Oper) (p:Nat) (ds:List Nat) (Z1 Z2 M1 F1:List (Nat×Ob)) (ht:HT) (S:XS) (B:List En) (k:Hn→XS→Option R):Option R :=
  dcR Y K n ops p ds Z1 Z2 M1 F1 ht S B (idsE B++idsM ((Z1++Z2)++(M1++F1))++S.prot) k
def runI (Y:TX) (K:List Con) (n N:Nat) {R:Type}:An→Code→XS→(Ex→XS→Option R)→Option R
  | .nil,.skip,S,k=>k .n S
  | .nil,.ret,S,k=>k .r S
  | .nil,.exit id,S,k=>k (.x id) S
  | .nil,.label _,S,k=>k .n S
  | .reg h,.region _ ⟨ops⟩ false,S,k=>runH Y K n ops h ops S (k .n)
  | .dr m h1 h2,.region _ ⟨ops⟩ true,S,k=>bif orderB ops m then runT Y n ops h1 (ops.take m) S fun S'=>runH Y K n ops h2 (ops.drop m) S' (k .n) else none
  | .dm p ds zs h2,.region _ ⟨ops⟩ true,S,k=>bif drawB ops p ds&&Nat.ble n 1000000000&&nodupN (keysM (splitM S.mem zs).2) then
      runD Y n ops ds (splitM S.mem zs).2 { S with mem:=(splitM S.mem zs).1 } K h2 (ops.take p) 0 [] fun h3 acc=>runH Y K n ops h3 (ops.drop p) (gotS { S with mem:=(splitM S.mem zs).1 } ds (splitM S.mem zs).2 acc) (k .n) else none
  | .dc p ds zs zf ht,.region _ ⟨ops⟩ true,S,k =>
    bif drawB ops p ds&&ds.all (fun d=>offF d S.fix) then
      dcI Y K n ops p ds (splitM S.mem zs).2 (splitM S.fixM zf).2 (splitM S.mem zs).1 (splitM S.fixM zf).1 ht S
        (remEs S.env (ds++allBsT ht)++S.fix) fun h3 S'=>runH Y K n ops h3 (ops.drop p) S' (k .n) else none
  | .gh g a,c,S,k=>runG g S fun S'=>runI Y K n N a c S' k
  | .ch t i a b,c,S,k=>bif isLitE S t i then runI Y K n N a c S k else runI Y K n N b c S k
  | .two a b,.seq x y,S,k=>runI Y K n N a x S fun e S'=>match e with
    | .n=>runI Y K n N b y S' k
    | .x i=>k (.x i) S'
    | .r=>k .r S'
  | .two a b,.cond c x y,S,k=>match S.ev [] c with
    | some (.d .bool v)=>if v=true then runI Y K n N a x S k else runI Y K n N b y S k
    | _=>none
  | .un a,.block id c,S,k=>runI Y K n N a c S fun e S'=>match e with
    | .n=>k .n S'
    | .x i=>bif Nat.beq i id then k .n S' else k (.x i) S'
    | .r=>k .r S'
  | .un a,.scope c,S,k=>runI Y K n N a c S k
  | .lp ks ms Γ exs a,.loop c,S,k=>match (S.ent ks ms).dec Γ with
    | some s0=>(loopN (fun s=>runI Y K n N (R:=Γ.De⊕SumT exs) a c ((S.ent ks ms).re (enc Γ s)) fun e S'=>match e with
        | .n=>(match S'.dec Γ with
          | some s'=>some (.inl s')
          | none=>none)
        | .x i=>(match inj exs (.x i) S' with
          | some x=>some (.inr x)
          | none=>none)
        | .r=>(match inj exs .r S' with
          | some x=>some (.inr x)
          | none=>none)) N s0).bind fun x=>outS S ks ms k exs x
    | none=>none
  | .jn ks ms exs a,c,S,k=>(runI Y K n N a c (S.ent ks ms) (inj exs)).bind fun x=>outS S ks ms k exs x
  | _,_,_,_=>none
def resE (Y:TX) (S:XS):List ResultVar→Nat→Option (List En)
  | [],_=>some []
  | .cell ad t::l,i=>match evalP Y S.flat [] (.load t (.tmp ad)),resE Y S l (i+1) with
    | some v,some r=>bif Nat.blt i 100000 then some (⟨i,[],v⟩::r) else none
    | _,_=>none
  | .tmp t::l,i=>match S.ev [] (.tmp t),resE Y S l (i+1) with
    | some v,some r=>bif Nat.blt i 100000 then some (⟨i,[],v⟩::r) else none
    | _,_=>none
def keysUp:List (Nat×Sk)→Nat→Bool
  | [],_=>true
  | (t,_)::l,i=>Nat.beq t i&&keysUp l (i+1)
def fin (Y:TX) (fn:Func) (Δ:Shp) (S:XS):Option Δ.De:=match resE Y S fn.results.toList 0 with
  | some es=>bif keysUp Δ.env 0&&Nat.beq es.length Δ.env.length&&Nat.blt es.length 100000 then XS.dec ⟨es,[],S.mem,S.fixM,S.prot⟩ Δ else none
  | none=>none
def globE (gl:List (Nat×Σ t:Ty,t.De)):List En:=gl.map fun q=>⟨100000+q.1,[],.a q.2.1 q.2.2⟩
def runF (Y:TX) (K:List Con) (N:Nat) (fn:Func) (an:An) (ro:List Nat) (Γ Δ:Shp) (x:Γ.De):Option Δ.De:=match fn.body with
  | some c=>bif Nat.ble Γ.env.length fn.ntmps&&(keysUp Γ.env 0&&Nat.blt Γ.env.length 100000) then runI Y K fn.ntmps N an c ⟨(enc Γ x).env,globE Y.gl,wrM ro (enc Γ x).mem,rdM ro (enc Γ x).mem,Γ.mem.map Prod.fst⟩ fun e S=>match e with
    | .x _=>none
    | .n=>fin Y fn Δ S
    | .r=>fin Y fn Δ S else none
  | none=>none
end Gx

/- What a step gives does not depend on what comes behind it. -/
namespace Gx
open Go Go.RowKit Gd
set_option linter.unusedVariables false
set_option linter.unusedSimpArgs false
theorem nat_cond {R A:Type} {b:Bool} {x:Option R} {y:Option A} {k:A→Option R} (h:x=y.bind k):(bif b then x else none)=(bif b then y else none).bind k:=by
  cases b
  · rfl
  · exact h
theorem nat_bind {T R A:Type} {x:Option T} {f:T→Option R} {g:T→Option A} {k:A→Option R} (h:∀t,f t=(g t).bind k):x.bind f=(x.bind g).bind k:=by
  cases x
  · rfl
  · exact h _
section
variable {R:Type} {Y:TX} {n:Nat}
theorem tot_nat {S:St} {cur:Conds} {op:Op} {k:AV→Option R}:tot Y S cur op k=(tot Y S cur op some).bind k:=by
  unfold tot
  split<;>rfl
theorem navC_nat {A:Type} {k:A→Option R}:∀{ps:List PS} {x:AV} {f:AV→Option R} {g:AV→Option A},(∀y,f y=(g y).bind k)→navC ps x f=(navC ps x g).bind k
  | [],x,f,g,h=>h x
  | .f i off::ps,x,f,g,h=>by
    simp only [navC]
    split
    · exact navC_nat h
    · rfl
  | .i j sz::ps,x,f,g,h=>by
    simp only [navC]
    split
    · exact nat_cond (nat_bind fun _=>navC_nat h)
    · rfl
theorem setC_nat {A:Type} {k:A→Option R} {M:List (Nat×Ob)}:∀{ps:List PS} {x v:AV} {f:AV→Option R} {g:AV→Option A},(∀y,f y=(g y).bind k)→setC M ps x v f=(setC M ps x v g).bind k
  | [],x,v,f,g,h=>by
    simp only [setC]
    exact nat_cond (h v)
  | .f i off::ps,x,v,f,g,h=>by
    simp only [setC]
    split
    · refine setC_nat fun x1=>?_
      split
      · exact h _
      · rfl
    · rfl
  | .i j sz::ps,x,v,f,g,h=>by
    simp only [setC]
    split
    · refine nat_cond (nat_bind fun _=>setC_nat fun x1=>?_)
      split
      · exact h _
      · rfl
    · rfl
theorem stepQ0_nat {S:St} {cur:Conds} {op:Op} {k:AV→Option R}:stepQ0 Y S cur op k=(stepQ0 Y S cur op some).bind k:=by
  unfold stepQ0
  repeat' (first | rfl | exact tot_nat | (refine nat_cond ?_) | (refine nat_bind fun _=>?_) | split)
theorem arrOp_nat {S:St} {cur:Conds} {op:Op} {k:AV→Option R}:arrOp Y S cur op k=(arrOp Y S cur op some).bind k:=by
  unfold arrOp
  repeat' (first | rfl | (refine nat_cond ?_) | (refine nat_bind fun _=>?_) | (refine navC_nat fun _=>?_) | split)
theorem stepQ_nat {S:St} {cur:Conds} {op:Op} {k:AV→Option R}:stepQ Y S cur op k=(stepQ Y S cur op some).bind k:=by
  unfold stepQ
  split
  · exact stepQ0_nat
  · exact arrOp_nat
theorem stepQ_nat2 {A:Type} {S:St} {cur:Conds} {op:Op} {f:AV→Option R} {g:AV→Option A} {k:A→Option R} (h:∀y,f y=(g y).bind k):stepQ Y S cur op f=(stepQ Y S cur op g).bind k:=by
  rw [stepQ_nat (k:=f),stepQ_nat (k:=g),Option.bind_assoc]
  exact congrArg _ (funext h)
theorem stepS0_nat {o:Oper} {S:XS} {k:XS→Option R}:stepS0 Y n o S k=(stepS0 Y n o S some).bind k:=by
  unfold stepS0
  repeat' (first | rfl | (refine nat_cond ?_) | (refine nat_bind fun _=>?_) | (refine stepQ_nat2 fun _=>?_) | split)
theorem stepX_nat {o:Oper} {S:XS} {k:XS→Option R}:stepX Y n o S k=(stepX Y n o S some).bind k:=by
  unfold stepX
  repeat' (first | rfl | (refine nat_cond ?_) | (refine nat_bind fun _=>?_) | (refine setC_nat fun _=>?_) | split)
theorem stepS_nat {o:Oper} {S:XS} {k:XS→Option R}:stepS Y n o S k=(stepS Y n o S some).bind k:=by
  unfold stepS
  split
  · exact stepS0_nat
  · exact stepX_nat
theorem stepCall_nat {c:Con} {o:Oper} {S:XS} {k:XS→Option R}:stepCall n c o S k=(stepCall n c o S some).bind k:=by
  unfold stepCall stepCall.callE stepCall.callR
  repeat' (first | rfl | (refine nat_cond ?_) | (refine nat_bind fun _=>?_) | split)
theorem stepB_nat {o:Oper} {S:XS} {k:XS→Option R}:stepB Y n o S k=(stepB Y n o S some).bind k:=by
  unfold stepB
  repeat' (first | rfl | (refine nat_cond ?_) | (refine nat_bind fun _=>?_) | split)
theorem stepC_nat {t:Nat} {want:Bool} {o:Oper} {S:XS} {k:XS→Option R}:stepC Y n t want o S k=(stepC Y n t want o S some).bind k:=by
  unfold stepC
  repeat' (first | rfl | (refine nat_cond ?_) | split)
theorem skipO_nat {o:Oper} {S:XS} {k:XS→Option R}:skipO n o S k=(skipO n o S some).bind k:=by
  unfold skipO
  repeat' (first | rfl | (refine nat_cond ?_) | split)
theorem stepG_nat {ops:List Oper} {o:Oper} {S:XS} {k:XS→Option R}:stepG Y n ops o S k=(stepG Y n ops o S some).bind k:=by
  unfold stepG
  repeat' (first | rfl | exact stepS_nat | exact stepC_nat | split)
theorem stepL_nat {ops:List Oper} {o:Oper} {S:XS} {k:XS→Option R}:stepL Y n ops o S k=(stepL Y n ops o S some).bind k:=by
  unfold stepL
  repeat' (first | rfl | exact stepS_nat | exact skipO_nat | split)
theorem runN_nat {st:{R:Type}→Oper→XS→(XS→Option R)→Option R} (hst:∀{R A:Type} (o:Oper) (S:XS) (f:XS→Option R) (g:XS→Option A) (k:A→Option R),(∀S',f S'=(g S').bind k)→st o S f=(st o S g).bind k) :
    ∀{A:Type} {k:A→Option R} {l:List Oper} {S:XS} {f:XS→Option R} {g:XS→Option A},(∀S',f S'=(g S').bind k)→runN st l S f=(runN st l S g).bind k
  | A,k,[],S,f,g,h=>h S
  | A,k,o::l,S,f,g,h=>by
    simp only [runN]
    exact hst o S _ _ k fun S'=>runN_nat hst h
theorem nat2 {A:Type} {st:{R:Type}→Oper→XS→(XS→Option R)→Option R} {o:Oper} {S:XS} (h:∀{R:Type} {k:XS→Option R},st o S k=(st o S some).bind k) {f:XS→Option R} {g:XS→Option A} {k:A→Option R} (h2:∀S',f S'=(g S').bind k):st o S f=(st o S g).bind k:=by
  rw [h (k:=f),h (k:=g),Option.bind_assoc]
  exact congrArg _ (funext h2)
end
theorem runH_nat {Y:TX} {K:List Con} {n:Nat} {ops:List Oper}:∀{R A:Type} {h:Hn} {l:List Oper} {S:XS} {f:XS→Option R} {g:XS→Option A} {k:A→Option R},(∀S',f S'=(g S').bind k)→runH Y K n ops h l S f=(runH Y K n ops h l S g).bind k
  | R,A,.done,l,S,f,g,k,hk=>by
    simp only [runH]
    split
    · exact hk S
    · rfl
  | R,A,.n m r,l,S,f,g,k,hk=>by
    simp only [runH]
    exact runN_nat (st:=fun {R}=>stepG Y n ops) (fun o S f g k h=>nat2 (st:=fun {R}=>stepG Y n ops) stepG_nat h) fun S'=>runH_nat hk
  | R,A,.nl m r,l,S,f,g,k,hk=>by
    simp only [runH]
    exact runN_nat (st:=fun {R}=>stepL Y n ops) (fun o S f g k h=>nat2 (st:=fun {R}=>stepL Y n ops) stepL_nat h) fun S'=>runH_nat hk
  | R,A,.call c r,l,S,f,g,k,hk=>by
    simp only [runH]
    have hc:∀{con:Con} {o:Oper} {l':List Oper},stepCall n con o S (fun S'=>runH Y K n ops r l' S' f)=(stepCall n con o S (fun S'=>runH Y K n ops r l' S' g)).bind k:=fun {con o l'}=>nat2 (st:=fun {R}=>stepCall n con) stepCall_nat fun S'=>runH_nat hk
    repeat' (first | rfl | exact hc | split)
  | R,A,.br r,l,S,f,g,k,hk=>by
    simp only [runH]
    have hc:∀{o:Oper} {l':List Oper},stepB Y n o S (fun S'=>runH Y K n ops r l' S' f)=(stepB Y n o S (fun S'=>runH Y K n ops r l' S' g)).bind k:=fun {o l'}=>nat2 (st:=fun {R}=>stepB Y n) stepB_nat fun S'=>runH_nat hk
    repeat' (first | rfl | exact hc | split)
  | R,A,.fz id r,l,S,f,g,k,hk=>by
    simp only [runH]
    exact runH_nat hk
  | R,A,.keep ts r,l,S,f,g,k,hk=>by
    simp only [runH]
    exact runH_nat hk
  | R,A,.mt id path e r,l,S,f,g,k,hk=>by
    simp only [runH]
    repeat' (first | rfl | exact runH_nat hk | (refine nat_cond ?_) | split)
  | R,A,.op src id d r,l,S,f,g,k,hk=>by
    simp only [runH]
    repeat' (first | rfl | exact runH_nat hk | (refine nat_cond ?_) | split)
  | R,A,.fm id r,l,S,f,g,k,hk=>by
    simp only [runH]
    repeat' (first | rfl | exact runH_nat hk | split)
  | R,A,.sp t m ks ms Γ a b r,l,S,f,g,k,hk=>by
    simp only [runH]
    split
    · exact nat_cond (nat_bind fun _=>runH_nat hk)
    · rfl
  | R,A,.si t i a b,l,S,f,g,k,hk=>by
    simp only [runH]
    split
    · refine nat_cond ?_
      split
      · exact runH_nat hk
      · exact runH_nat hk
    · rfl
  | R,A,.md _ _,l,S,f,g,k,hk=>by simp only [runH]; rfl
  | R,A,.tl _,l,S,f,g,k,hk=>by simp only [runH]; rfl
  | R,A,.dt _ _,l,S,f,g,k,hk=>by simp only [runH]; rfl
  | R,A,.so _ _ _,l,S,f,g,k,hk=>by simp only [runH]; rfl
theorem runH_one {Y:TX} {K:List Con} {n:Nat} {ops:List Oper} {R:Type} {r:R} {h:Hn} {l:List Oper} {S:XS} {k:XS→Option R} (hs:runH Y K n ops h l S k=some r):∃S1,k S1=some r∧runH (R:=XS) Y K n ops h l S some=some S1:=by
  have e:=runH_nat (Y:=Y) (K:=K) (n:=n) (ops:=ops) (h:=h) (l:=l) (S:=S) (f:=k) (g:=some) (k:=k) fun S'=>rfl
  rw [e] at hs
  obtain ⟨S1,h1,h2⟩:=Option.bind_eq_some_iff.1 hs
  exact ⟨S1,h2,h1⟩
end Gx

/- The plain laws for SessionChecks. -/
import Derived.Test.YtgnpojenbefoiaaGreatXFns
import Derived.Test.YtgnpojenbefoiaaGreatGAppend
import Derived.KernelRfl
import Derived.Test.YtgnpojenbefoiaaGreatXRl
namespace Gx
open Go Gd
set_option linter.unusedVariables false
set_option linter.unusedSimpArgs false
theorem U2 {σ τ:Type} {f:σ→Option (σ⊕τ)} (k:Nat) (I:Nat→σ→Prop) (R:τ→Prop)
  (step:∀i s,i≤k→I i s→(∃s',i<k∧f s=some (.inl s')∧I (i+1) s')∨(∃r,f s=some (.inr r)∧R r)) :
  ∀{n:Nat} {s:σ},k<n→I 0 s→∃r,Qx f n s=some r∧R r:=by
 have main:∀(d i n:Nat) (s:σ),i+d=k→d<n→I i s→∃r,Qx f n s=some r∧R r:=by
  intro d
  induction d with
  | zero =>
   intro i n s hi hn hI
   obtain ⟨m,rfl⟩:∃m,n=m+1:=⟨n - 1,by omega⟩
   rcases step i s (by omega) hI with ⟨s',h,_⟩ | ⟨r,h1,h2⟩
   ·omega
   ·exact ⟨r,by simp [Qx,h1],h2⟩
  | succ d ih =>
   intro i n s hi hn hI
   obtain ⟨m,rfl⟩:∃m,n=m+1:=⟨n - 1,by omega⟩
   rcases step i s (by omega) hI with ⟨s',_,h1,h2⟩ | ⟨r,h1,h2⟩
   ·obtain ⟨r,h3,h4⟩:=ih (i+1) m s' (by omega) (by omega) h2
    exact ⟨r,by simp [Qx,h1,h3],h4⟩
   ·exact ⟨r,by simp [Qx,h1],h2⟩
 intro n s hn hI
 exact main k 0 n s (by omega) hn hI
theorem I0 {α σ ρ τ:Type} (l:List α) (hl:l.length≤maxLen) {f:ρ→Option (ρ⊕τ)} (mk:σ→Int→ρ) (Inv:Nat→σ→Prop) (go:σ→List α→τ)
  (h0:∀s,Inv l.length s→decide (((l.length:Nat):Int)<(l.length:Int))=false→f (mk s (l.length:Int))=some (.inr (go s [])))
  (h1:∀s (i:Nat) x xs,l[i]?=some x→decide ((i:Int)<(l.length:Int))=true→idx l (i:Int)=some x→IntKind.wrap .i64 ((i:Int)+1)=((i+1:Nat):Int)→l.drop i=x::xs→Inv i s →
   (∃s',f (mk s (i:Int))=some (.inl (mk s' ((i+1:Nat):Int)))∧Inv (i+1) s'∧go s (x::xs)=go s' xs)∨f (mk s (i:Int))=some (.inr (go s (x::xs))))
  {n:Nat} {s:σ} (hn:l.length<n) (hs:Inv 0 s):Qx f n (mk s 0)=some (go s l):=by
 have main:∀(k i n:Nat) (s:σ),l.length=i+k→k<n→Inv i s→Qx f n (mk s (i:Int))=some (go s (l.drop i)):=by
  intro k
  induction k with
  | zero =>
   intro i n s hk hn hI
   obtain ⟨m,rfl⟩:∃m,n=m+1:=⟨n - 1,by omega⟩
   have hi:i=l.length:=by omega
   subst hi
   rw [List.drop_length]
   simp [Qx,h0 s hI (by simp)]
  | succ k ih =>
   intro i n s hk hn hI
   obtain ⟨m,rfl⟩:∃m,n=m+1:=⟨n - 1,by omega⟩
   have hlt:i<l.length:=by omega
   have hd:=List.drop_eq_getElem_cons hlt
   rw [hd]
   rcases h1 s i _ _ (List.getElem?_eq_getElem hlt) (by simpa using hlt) (Qmp (List.getElem?_eq_getElem hlt)) (Ui (by omega)) hd hI with ⟨s',e1,e2,e3⟩ | e1
   ·simp only [Qx,e1,Option.bind_some,e3]
    exact ih (i+1) m s' (by omega) (by omega) e2
   ·simp only [Qx,e1,Option.bind_some]
 simpa using main l.length 0 n s (by omega) hn hs
theorem Ze {α:Type} {l:List α} {i:Nat} (h:i<l.length):idx l (i:Int)=some l[i]:=Qmp (List.getElem?_eq_getElem h)
end Gx
namespace Gx
open Go
theorem Q6s (M:Nat):Vv (M+64)=some true:=by kernel_rfl
end Gx
namespace Gx
open Go Go.RowKit Gd Go.WideShapes Go.ChangeShapes
set_option linter.unusedVariables false
set_option linter.unusedSimpArgs false
def B2 {τ:Type} (P:Program) (r:RT τ) (t:TypeId) (good:τ→Prop):Prop :=
 P.cellsOf t=r.size∧(∀{w:World} {rc:Reach} {b:Nat} {v:Value},Value.okWide P w rc b t v→(r.agg=true→∃cs,v=.agg cs)∧(r.agg=false→∃c,v.cells=#[c]∧v=c)) ∧
 ∀{H:Type} (enc:TypeId×Value→H) (w:World) (n:Nat) (cs:List Value) (x:DataW H×List MemPlace),
  DataW.trod enc P w 0 (fun _=>true) true n t cs=some x→(x.1.weights P t).all (·≤reachBytes)=true→∃y,r.rep (lt w) w y cs∧good y
def mb:Ty→Nat
 | .int .i64=>8
 | .str=>16
 | .sl _=>24
 | .pr f r=>mb f+mb r
 | .st fs=>mb fs
 | _=>1
def gz:(t:Ty)→t.De→Prop
 | .int k,x=>Qbv k x
 | .bool,_=>True
 | .str,x=>List.length x≤140737488351232
 | .sl e,x=>List.length x*mb e≤140737488351232∧∀y∈x,gz e y
 | .arr _ e,x=>∀y∈x,gz e y
 | .unit,_=>True
 | .pr f r,x=>gz f x.1∧gz r x.2
 | .st fs,x=>gz fs x
 | .ref,_=>True
 | .rose _,_=>True
abbrev Ym (P:Program) (t:TypeId) (ty:Ty):Prop:=B2 P (rt ty) t (gz ty)
section
variable {P:Program}
theorem Qc5 {t:TypeId} {ty:Ty} (h:Od P t ty) (hg:∀x,gd ty x→gz ty x):Ym P t ty :=
 ⟨h.1,h.2.1,fun enc w n cs x hx _=>let ⟨y,h1,h2⟩:=h.2.2 enc w n cs x hx; ⟨y,h1,hg y h2⟩⟩
theorem Qc6 {t:TypeId} {k:IntKind} (ht:P.underlying t=some (.int k)) (hc:P.cellsOf t=1):Ym P t (.int k):=Qc5 (Qqi ht hc) fun _ h=>h
theorem Qmh {t:TypeId} (ht:P.underlying t=some .bool) (hc:P.cellsOf t=1):Ym P t .bool:=Qc5 (Qkc ht hc) fun _ _=>trivial
theorem Qq0 {t:TypeId} (ht:P.underlying t=some .string) (hc:P.cellsOf t=1):Ym P t .str:=by
 refine ⟨hc,(Qqj ht hc).2.1,fun enc w n cs x h hw=>?_⟩
 obtain ⟨s,rfl,rfl,hs⟩:=DataW.trod_string ht h
 refine ⟨s.data.toList,?_,?_⟩
 ·show [Value.string s]=[Yn s.data.toList]
  simp [Yn]
 ·simp only [DataW.weights,List.all_cons,Bool.and_eq_true,decide_eq_true_eq] at hw
  exact hw.1
theorem Ic {H:Type} {e:TypeId}:∀{l:List (DataW H)},(DataW.weightsAll P e l).all (·≤reachBytes)=true→∀(i:Nat) d,l[i]?=some d→(d.weights P e).all (·≤reachBytes)=true
 | [],_,i,d,h=>by simp at h
 | x::l,hw,i,d,h=>by
  simp only [DataW.weightsAll,List.all_append,Bool.and_eq_true] at hw
  cases i with
  | zero=>simp at h; subst h; exact hw.1
  | succ i=>exact Ic hw.2 i d (by simpa using h)
theorem Ch {H:Type}:∀{ts:List TypeId} {l:List (DataW H)},(DataW.weightsEach P ts l).all (·≤reachBytes)=true→∀(i:Nat) t d,ts[i]?=some t→l[i]?=some d→(d.weights P t).all (·≤reachBytes)=true
 | [],l,_,i,t,d,h,_=>by simp at h
 | t0::ts,[],_,i,t,d,_,h=>by simp at h
 | t0::ts,x::l,hw,i,t,d,ht,h=>by
  simp only [DataW.weightsEach,List.all_append,Bool.and_eq_true] at hw
  cases i with
  | zero=>simp at h ht; subst h; subst ht; exact hw.1
  | succ i=>exact Ch hw.2 i t d (by simpa using ht) (by simpa using h)
theorem Es {t e:TypeId} {ty:Ty} (ht:P.underlying t=some (.slice e)) (hc:P.cellsOf t=1) (he:Ym P e ty) (hpos:Nat.ble 1 ty.size=true) (hby:Nat.ble (mb ty) (P.bytesOf e)=true):Ym P t (.sl ty):=by
 have hby:=Nat.le_of_ble_eq_true hby
 have hps:0<(rt ty).size:=by rw [Jc]; exact Nat.le_of_ble_eq_true hpos
 refine ⟨hc,fun hv=>⟨fun h=>(nomatch h),fun _=>?_⟩,fun enc w n cs x h hw=>?_⟩
 ·obtain ⟨a,l,c,rfl⟩:=okWide_slice ht hv
  exact ⟨_,rfl,rfl⟩
 ·rcases DataW.trod_slice ht h with ⟨rfl,_⟩ | ⟨a,len,cap,elems,rest,m,_,rfl,rfl,_,hlc,hcm,hel,hall,_⟩
  ·exact ⟨([]:List ty.De),⟨_,rfl,none,0,0,rfl,rfl,Nat.le_refl _,fun h0=>absurd h0 (by omega)⟩,by simp,fun y hy=>by cases hy⟩
  ·simp only [DataW.weights,ht,List.all_cons,List.all_append,Bool.and_eq_true,decide_eq_true_eq,List.length_map] at hw
   obtain ⟨hw1,hw2,_⟩:=hw
   have hsz:P.cellsOf e=(rt ty).size:=he.1
   have h1:∀i,i<len→∃y cs,(rt ty).rep (lt w) w y cs∧gz ty y∧w.cells? 0 (a.add (i*P.cellsOf e)) (P.cellsOf e)=some cs:=by
    intro i hi
    have:=hall i hi
    obtain ⟨z,hz⟩:∃z,elems[i]?=some z:=⟨elems[i]'(by omega),List.getElem?_eq_getElem (by omega)⟩
    rw [hz] at this
    obtain ⟨cs,hcs,hz2⟩:=Option.bind_eq_some_iff.1 this
    obtain ⟨y,hy,hg⟩:=he.2.2 enc w m cs z hz2 (Ic hw2 i z.1 (by rw [List.getElem?_map,hz]; rfl))
    exact ⟨y,cs,hy,hg,hcs⟩
   have h2:∀k,k≤len→∃ys:List ty.De,ys.length=k∧∀i y,ys[i]?=some y→∃cs,(rt ty).rep (lt w) w y cs∧gz ty y∧w.cells? 0 (a.add (i*P.cellsOf e)) (P.cellsOf e)=some cs:=by
    intro k
    induction k with
    | zero=>exact fun _=>⟨[],rfl,fun i y h=>by simp at h⟩
    | succ k ih =>
     intro hk
     obtain ⟨ys,hl,hys⟩:=ih (by omega)
     obtain ⟨y,cs,hy,hg,hcs⟩:=h1 k (by omega)
     refine ⟨ys++[y],by simp [hl],fun i z hz=>?_⟩
     rcases Nat.lt_or_ge i k with hlt | hge
     ·rw [List.getElem?_append_left (by omega)] at hz
      exact hys i z hz
     ·rw [List.getElem?_append_right (by omega)] at hz
      have:i - ys.length=0:=by
       rcases Nat.eq_zero_or_pos (i - ys.length) with h | h
       ·exact h
       ·rw [List.getElem?_eq_none (by simp; omega)] at hz; cases hz
      rw [this] at hz
      simp at hz
      subst hz
      have hik:i=k:=by omega
      subst hik
      exact ⟨cs,hy,hg,hcs⟩
   obtain ⟨ys,hl,hys⟩:=h2 len (Nat.le_refl _)
   refine ⟨ys,⟨_,rfl,some a,len,cap,rfl,hl,hlc,fun h0=>?_⟩,?_,fun y hy=>?_⟩
   ·have hsp:a.spot=none:=by
     obtain ⟨y,cs,_,_,hcs⟩:=h1 0 h0
     obtain ⟨_,hlen,hcell⟩:=World.cells?_some hcs
     have g0:=hcell 0 (by omega)
     obtain ⟨c0,hc0⟩:∃c0,cs[0]?=some c0:=⟨cs[0]'(by omega),List.getElem?_eq_getElem (by omega)⟩
     rw [hc0] at g0
     simpa [Addr.add] using World.cell?_spot g0
    obtain ⟨b,o,sp⟩:=a
    simp only at hsp
    subst hsp
    refine ⟨b,o,rfl,fun i y hi=>?_⟩
    obtain ⟨cs,hy,_,hcs⟩:=hys i y hi
    obtain ⟨_,hlen,hcell⟩:=World.cells?_some hcs
    refine ⟨cs,hy,fun j u hu=>?_⟩
    have hj:j<P.cellsOf e:=by rw [←hlen]; exact (List.getElem?_eq_some_iff.1 hu).1
    have:=hcell j hj
    rw [hu,add_plain,add_plain,hsz] at this
    refine ⟨?_,this⟩
    show b<w.heap.size
    unfold World.cell? at this
    rcases Nat.lt_or_ge b w.heap.size with hlt | hge
    ·exact hlt
    ·rw [Array.getElem?_eq_none hge] at this; cases this
   ·have hl':List.length ys=len:=hl
    have:len*mb ty≤(elems.length+rest.length)*P.bytesOf e:=Nat.mul_le_mul (by omega) hby
    rw [hl']
    exact Nat.le_trans this hw1
   ·obtain ⟨i,hi⟩:=List.getElem?_of_mem hy
    obtain ⟨_,_,hg,_⟩:=hys i y hi
    exact hg
theorem B2.fld {τ:Type} {r:RT τ} {t:TypeId} {g:τ→Prop} (ho:B2 P r t g) {H:Type} {enc:TypeId×Value→H} {w:World} {n:Nat} {cs:List Value} {fs:Array Field} {xs:List (DataW H×List MemPlace)}
  (hlen:xs.length=fs.size) (hf:∀(i:Nat) (f:Field),fs[i]?=some f→DataW.trod enc P w 0 (fun _=>true) true n f.type ((cs.drop f.offset).take (P.cellsOf f.type))=xs[i]?)
  (hw:(DataW.weightsEach P (fs.toList.map (·.type)) (xs.map (·.1))).all (·≤reachBytes)=true)
  (i:Nat) (o:Nat) {f:Field} (hi:fs[i]?=some f) (ht:f.type=t) (hof:f.offset=o):∃y,r.rep (lt w) w y ((cs.drop o).take r.size)∧g y:=by
 have h1:=hf i f hi
 have hlt:=(Array.getElem?_eq_some_iff.1 hi).1
 have hx:xs[i]?=some xs[i]:=List.getElem?_eq_getElem (by omega)
 rw [hx,ht,hof,ho.1] at h1
 refine ho.2.2 enc w n _ _ h1 (Ch hw i t xs[i].1 ?_ ?_)
 ·rw [List.getElem?_map,Array.getElem?_toList,hi]
  show some f.type=some t
  rw [ht]
 ·rw [List.getElem?_map,hx]; rfl
inductive Qbc (P:Program) (ff:Array Field):Ty→Nat→Nat→Prop
 | last {ty:Ty} {i off t:Nat} {f:Field} (ho:Ym P t ty) (hi:ff[i]?=some f) (ht:f.type=t) (hoff:f.offset=off):Qbc P ff ty i off
 | pr {ty r:Ty} {i off t:Nat} {f:Field} (ho:Ym P t ty) (hi:ff[i]?=some f) (ht:f.type=t) (hoff:f.offset=off) (hr:Qbc P ff r (i+1) (off+ty.size)):Qbc P ff (.pr ty r) i off
theorem Qmi {ff:Array Field} {H:Type} {enc:TypeId×Value→H} {w:World} {n:Nat} {cs:List Value} {xs:List (DataW H×List MemPlace)}
  (hlen:xs.length=ff.size) (hf:∀(i:Nat) (f:Field),ff[i]?=some f→DataW.trod enc P w 0 (fun _=>true) true n f.type ((cs.drop f.offset).take (P.cellsOf f.type))=xs[i]?)
  (hw:(DataW.weightsEach P (ff.toList.map (·.type)) (xs.map (·.1))).all (·≤reachBytes)=true) :
  ∀{ty:Ty} {i off:Nat},Qbc P ff ty i off→cs.length=off+ty.size→∃y,(rt ty).rep (lt w) w y (cs.drop off)∧gz ty y:=by
 intro ty i off h
 induction h with
 | last ho hi ht hoff =>
  intro hl
  obtain ⟨y,h1,h2⟩:=B2.fld ho hlen hf hw _ _ hi ht hoff
  rw [List.take_of_length_le (by simp; rw [Jc]; omega)] at h1
  exact ⟨y,h1,h2⟩
 | pr ho hi ht hoff hr ih =>
  intro hl
  rename_i ty r i off t f
  obtain ⟨y,h1,h2⟩:=B2.fld ho hlen hf hw _ _ hi ht hoff
  have hl':cs.length=off+ty.size+r.size:=by
   have:(Ty.pr ty r).size=ty.size+r.size:=rfl
   omega
  obtain ⟨z,h3,h4⟩:=ih hl'
  refine ⟨(y,z),⟨_,cs.drop (off+ty.size),?_,h1,h3⟩,h2,h4⟩
  rw [Jc,←List.drop_drop]
  exact (List.take_append_drop _ _).symm
theorem Kz {t:TypeId} {fs:Ty} {ff:Array Field} (ht:P.underlying t=some (.struct ff)) (hc:P.cellsOf t=fs.size) (ho:Qbc P ff fs 0 0):Ym P t (.st fs):=by
 refine ⟨by rw [hc,Jc]; rfl,fun hv=>⟨fun _=>?_,fun h=>nomatch h⟩,fun enc w n cs x h hw=>?_⟩
 ·obtain ⟨c,rfl,_⟩:=okWide_struct ht hv; exact ⟨_,rfl⟩
 ·obtain ⟨xs,m,_,rfl,hl,hlen,hf⟩:=DataW.trod_struct ht h
  simp only [DataW.weights,ht] at hw
  obtain ⟨y,h1,h2⟩:=Qmi hlen hf hw ho (by rw [hl,hc]; simp)
  exact ⟨y,by simpa [rt,Q7p] using h1,h2⟩
theorem B2.arg {τ:Type} {r:RT τ} {t:TypeId} {g:τ→Prop} (ho:B2 P r t g) {H:Type} {enc:TypeId×Value→H} {w:World} {rc:Reach} {b:Nat} {v:Value} {d:DataW H} {ps:List MemPlace}
  (hv:Value.okWide P w rc b t v) (h:DataW.Trod enc P w 0 (fun _=>true) true t v d ps) (hw:(d.weights P t).all (·≤reachBytes)=true):∃y,isV r (lt w) w y v∧g y:=by
 obtain ⟨n,hn⟩:=h
 obtain ⟨y,hy,hg⟩:=ho.2.2 enc w n _ _ hn hw
 refine ⟨y,⟨_,hy,?_⟩,hg⟩
 unfold RT.val
 cases ha:r.agg with
 | true =>
  obtain ⟨cs,rfl⟩:=(ho.2.1 hv).1 ha
  simp [Value.cells]
 | false =>
  obtain ⟨c,hc,rfl⟩:=(ho.2.1 hv).2 ha
  rw [hc]; simp
end
section
variable {H:Type} {enc:TypeId×Value→H} {P:Program} {W:World} {base:Nat} {vs:List String} {us:List TypeId}
theorem Q9u {t1 t2:TypeId} {args:Array Value} {ds gs:List (DataW H)} {before:List MemPlace} {ts:Array TypeId} (hts:ts=#[t1,t2])
  (hval:∀(j:Nat) t v,ts[j]?=some t→args[j]?=some v→Value.okWide P W .any base t v) (hW:DataW.Whole enc P ts.toList vs false W args.toList ds gs before)
  (hz:(DataW.weightsEach P (ts.toList++us) (ds++gs)).all (·≤reachBytes)=true)
  {τ1 τ2:Type} {r1:RT τ1} {r2:RT τ2} {g1:τ1→Prop} {g2:τ2→Prop} (ho1:B2 P r1 t1 g1) (ho2:B2 P r2 t2 g2) :
  ∃v1 v2 y1 y2,args=⟨[v1,v2]⟩∧isV r1 (lt W) W y1 v1∧g1 y1∧isV r2 (lt W) W y2 v2∧g2 y2:=by
 subst hts
 obtain ⟨p,q,hA,_⟩:=hW
 obtain ⟨v1,vs1,d1,ds1,p1,q1,hargs,rfl,rfl,h1,k1⟩:=trodAll_cons hA
 obtain ⟨v2,vs2,d2,ds2,p2,q2,rfl,rfl,rfl,h2,k2⟩:=trodAll_cons k1
 obtain ⟨rfl,rfl,rfl⟩:=trodAll_nil k2
 obtain rfl:args=⟨[v1,v2]⟩:=by cases args; simp_all
 simp only [List.cons_append,DataW.weightsEach,List.all_append,Bool.and_eq_true] at hz
 obtain ⟨y1,hy1,hg1⟩:=ho1.arg (hval 0 t1 v1 rfl rfl) h1 hz.1
 obtain ⟨y2,hy2,hg2⟩:=ho2.arg (hval 1 t2 v2 rfl rfl) h2 hz.2.1
 exact ⟨v1,v2,y1,y2,rfl,hy1,hg1,hy2,hg2⟩
end
end Gx
namespace Gx
open Go Gd
set_option linter.unusedVariables false
set_option linter.unusedSimpArgs false
def mtB (b:Qa) (t:Qw):Bool:=(b.Sub==t.Sub)&&((b.Product==t.Product)&&((b.Index==t.Index)&&((b.Valid.From==t.From)&&true)))
def Ew (bs:List Qa) (t:Qw):Int:=match bs.findIdx? (fun b=>mtB b t) with | none => -1 | some j=>(j:Int)
def Ng (b:Qa) (n:Int):Qa:=(b.Account,b.Sub,b.Product,b.Index,b.Kind,b.Zones,b.Valid,b.Units,n,b.Priority,b.Shared)
def G5 (bs:List Qa) (t:Qw):List Qa⊕Int:=match bs.findIdx? (fun b=>mtB b t) with
 | none=>.inr 11
 | some j=>match bs[j]? with
  | none=>.inr 6
  | some b=>if b.Left+t.Units≤b.Units then .inl (bs.set j (Ng b (b.Left+t.Units))) else .inr 6
def Ci:List Qa→List Qw→List Qa⊕Int
 | bs,[]=>.inl bs
 | bs,t::ts=>match G5 bs t with
  | .inl bs'=>Ci bs' ts
  | .inr e=>.inr e
def L5 (n:Int):Prop := -9223372036854775808≤n∧n≤9223372036854775807
def okT (t:Qw):Prop:=1≤t.Units∧t.Units≤2199023255552
def inB (b:Qa):Prop:=L5 b.Left∧L5 b.Units
theorem Q6t {L t U:Int} (hL:L5 L) (hU:L5 U) (h1:1≤t) (h2:t≤2199023255552) (N:Nat):Fd N L t U=some (decide (L+t≤U)):=by
 unfold L5 at hL hU
 unfold Fd
 by_cases h0:L>0
 ·have hw:IntKind.wrap .i64 (9223372036854775807 - L)=9223372036854775807 - L:=Ww (by omega) (by omega)
  rw [hw]
  by_cases h3:t>9223372036854775807 - L
  ·rw [if_pos (by simp [h0,h3])]
   congr 1
   exact (decide_eq_false (by omega)).symm
  ·rw [if_neg (by simp [h3]),Ww (by omega) (by omega)]
 ·rw [if_neg (by simp [h0]),Ww (by omega) (by omega)]
theorem Q9v {L t U:Int} (hL:L5 L) (hU:L5 U) (h1:1≤t) (h2:t≤2199023255552):((decide (L>U))||((decide ((IntKind.wrap .i64 (U - L))≥0))&&(decide (t>(IntKind.wrap .i64 (U - L))))))=!decide (L+t≤U):=by
 unfold L5 at hL hU
 by_cases h0:L>U
 ·simp [h0]
  omega
 ·have hn:(decide (L>U))=false:=decide_eq_false h0
  rw [hn,Bool.false_or]
  by_cases h3:U - L≤9223372036854775807
  ·rw [Ww (by omega) (by omega)]
   rw [show decide (U - L≥0)=true from decide_eq_true (by omega),Bool.true_and,Bool.eq_iff_iff]
   simp
   omega
  ·have hw:IntKind.wrap .i64 (U - L)=U - L - 18446744073709551616:=by
    simp [IntKind.wrap,IntKind.bits,IntKind.signed]
    omega
   rw [hw,show decide (U - L - 18446744073709551616≥0)=false from decide_eq_false (by omega),Bool.false_and]
   simp
   omega
theorem Qvr {τ:Type} {f:τ→Option (τ⊕Int)} {mk:Int→τ} {bs:List Qa} {t:Qw} (hl:bs.length≤12) (miss:Int) (hend:f (mk (bs.length:Int))=some (.inr (-1)))
  (hstep:∀(i:Nat) (h:i<bs.length),f (mk (i:Int))=if mtB bs[i] t=true then some (.inr (i:Int)) else some (.inl (mk ((i+1:Nat):Int)))):Qx f 128 (mk 0)=some (Ew bs t):=by
 obtain ⟨r,e1,rfl⟩:=U2 (f:=f) bs.length (fun i s=>s=mk (i:Int)∧∀(k:Nat) (h:k<bs.length),k<i→mtB bs[k] t=false) (fun r=>r=Ew bs t) (fun i s hi ⟨hs,hI⟩=>by
  subst hs
  by_cases hlt:i<bs.length
  ·rw [hstep i hlt]
   cases hb:mtB bs[i] t with
   | true =>
    refine .inr ⟨_,rfl,?_⟩
    unfold Ew
    rw [show bs.findIdx? (fun b=>mtB b t)=some i from List.findIdx?_eq_some_iff_getElem.2 ⟨hlt,hb,fun j hj=>by rw [hI j (by omega) hj]; simp⟩]
   | false =>
    refine .inl ⟨_,hlt,rfl,rfl,fun k hk hki=>?_⟩
    rcases Nat.lt_or_ge k i with h | h
    ·exact hI k hk h
    ·have:k=i:=by omega
     subst this
     exact hb
  ·have hie:i=bs.length:=by omega
   subst hie
   refine .inr ⟨_,hend,?_⟩
   unfold Ew
   rw [List.findIdx?_eq_none_iff.2 fun x hx=>by
    obtain ⟨k,hk,rfl⟩:=List.getElem_of_mem hx
    exact hI k hk hk]) (n:=128) (s:=mk 0) (by omega) ⟨rfl,fun k hk h=>by omega⟩
 exact e1
theorem Qvs {bs:List Qa} (t:Qw) (hl:bs.length≤12):Qx (Wk 128 bs t) 128 ((-1),0)=some (Ew bs t):=by
 refine Qvr (mk:=fun i=>((-1:Int),i)) hl 0 ?_ fun i h=>?_
 ·unfold Wk
  dsimp only
  rw [if_neg (by simp)]
 ·have hw:IntKind.wrap .i64 ((i:Int)+1)=((i+1:Nat):Int):=Ui (by rw [J2]; omega)
  unfold Wk
  dsimp only
  rw [if_pos (by simpa using h)]
  simp only [Ze h,Option.bind_some,Og,hw]
  rfl
theorem Qvt {bs:List Qa} (t:Qw) (hl:bs.length≤12):Zc 128 t bs=some (Ew bs t):=by
 unfold Zc
 have h:∃r:Unit⊕Int,Qx (V7 128 bs t) 128 0=some r∧(match r with | .inl _=>Ew bs t = -1 | .inr v=>Ew bs t=v):=by
  refine U2 (f:=V7 128 bs t) bs.length (fun i s=>s=(i:Int)∧∀(k:Nat) (h:k<bs.length),k<i→mtB bs[k] t=false) (fun r=>match r with | .inl _=>Ew bs t = -1 | .inr v=>Ew bs t=v) (fun i s hi ⟨hs,hI⟩=>?_) (n:=128) (s:=0) (by omega) ⟨rfl,fun k hk h=>by omega⟩
  subst hs
  unfold V7
  by_cases hlt:i<bs.length
  ·have hw:IntKind.wrap .i64 ((i:Int)+1)=((i+1:Nat):Int):=Ui (by rw [J2]; omega)
   rw [if_pos (by simpa using hlt)]
   simp only [Ze hlt,Option.bind_some,hw]
   have hm:((((bs[i].Sub==t.Sub)&&(bs[i].Product==t.Product))&&(bs[i].Index==t.Index))&&(bs[i].Valid.From==t.From))=mtB bs[i] t:=by
    unfold mtB
    simp only [Bool.and_true,Bool.and_assoc]
   rw [hm]
   cases hb:mtB bs[i] t with
   | true =>
    refine .inr ⟨_,rfl,?_⟩
    show Ew bs t=(i:Int)
    unfold Ew
    rw [show bs.findIdx? (fun b=>mtB b t)=some i from List.findIdx?_eq_some_iff_getElem.2 ⟨hlt,hb,fun j hj=>by rw [hI j (by omega) hj]; simp⟩]
   | false =>
    refine .inl ⟨_,hlt,rfl,rfl,fun k hk hki=>?_⟩
    rcases Nat.lt_or_ge k i with h | h
    ·exact hI k hk h
    ·have:k=i:=by omega
     subst this
     exact hb
  ·have hie:i=bs.length:=by omega
   subst hie
   rw [if_neg (by simp)]
   refine .inr ⟨_,rfl,?_⟩
   show Ew bs t = -1
   unfold Ew
   rw [List.findIdx?_eq_none_iff.2 fun x hx=>by
    obtain ⟨k,hk,rfl⟩:=List.getElem_of_mem hx
    exact hI k hk hk]
 obtain ⟨r,e1,p1⟩:=h
 rw [e1,Option.bind_some]
 cases r with
 | inl _=>exact congrArg some p1.symm
 | inr v=>exact congrArg some p1.symm
theorem Qi4 {bs bs':List Qa} {t:Qw} (ht:okT t) (hl:bs.length≤12) (hb:∀b∈bs,inB b) (h:G5 bs t=.inl bs'):bs'.length≤12∧∀b∈bs',inB b:=by
 unfold G5 at h
 split at h
 ·cases h
 ·split at h
  ·cases h
  ·rename_i j hj b hbj
   split at h
   ·rename_i hle
    injection h with h; subst h
    refine ⟨by simpa using hl,fun x hx=>?_⟩
    have hbm:=hb b (List.mem_of_getElem? hbj)
    rcases List.mem_or_eq_of_mem_set hx with h1 | rfl
    ·exact hb x h1
    ·have h1:L5 b.Left∧L5 b.Units:=hbm
     show L5 (b.Left+t.Units)∧L5 b.Units
     unfold L5 okT at *
     omega
   ·cases h
theorem Qq1 {ts:List Qw} (hts:∀t∈ts,okT t) (hl:ts.length≤64) {bs:List Qa} (hbl:bs.length≤12) (hb:∀b∈bs,inB b):Qx (Wl 128 ts) 128 (0,bs)=some (Ci bs ts):=by
 refine I0 (σ:=List Qa) ts (by rw [J2]; omega) (fun s i=>(i,s)) (fun _ s=>s.length≤12∧∀b∈s,inB b) (fun s l=>Ci s l) (fun s _ hd=>?_) (fun s i y ys hy hd hi hw hdr hI=>?_) (s:=bs) (by omega) ⟨hbl,hb⟩
 ·unfold Wl; dsimp only; rw [if_neg (by rw [hd]; simp)]; rfl
 ·have ht:okT y:=hts y (List.mem_of_getElem? hy)
  unfold Wl; dsimp only
  rw [if_pos hd,hi,Option.bind_some,if_neg (by unfold okT at ht; simp; omega),Qvs y hI.1,Option.bind_some,hw]
  have hgo:Ci s (y::ys)=match G5 s y with | .inl bs'=>Ci bs' ys | .inr e=>.inr e:=rfl
  cases hf:s.findIdx? (fun b=>mtB b y) with
  | none =>
   have hp:Ew s y = -1:=by unfold Ew; rw [hf]
   have hst:G5 s y=.inr 11:=by unfold G5; rw [hf]
   rw [hp,if_pos (by decide)]
   exact .inr (by rw [hgo,hst])
  | some j =>
   obtain ⟨hj,_,_⟩:=List.findIdx?_eq_some_iff_getElem.1 hf
   have hp:Ew s y=(j:Int):=by unfold Ew; rw [hf]
   have hin:=hI.2 s[j] (List.getElem_mem hj)
   rw [hp,if_neg (by simp)]
   simp only [Ze hj,Option.bind_some]
   rw [Q6t hin.1 hin.2 ht.1 ht.2,Option.bind_some]
   by_cases hle:s[j].Left+y.Units≤s[j].Units
   ·have hst:G5 s y=.inl (s.set j (Ng s[j] (s[j].Left+y.Units))):=by unfold G5; rw [hf]; simp only [List.getElem?_eq_getElem hj]; rw [if_pos hle]
    rw [if_neg (by simp [hle])]
    have hwr:IntKind.wrap .i64 (s[j].Left+y.Units)=s[j].Left+y.Units:=by
     unfold okT at ht
     unfold inB L5 at hin
     exact Ww (by omega) (by omega)
    refine .inl ⟨s.set j (Ng s[j] (s[j].Left+y.Units)),?_,Qi4 ht hI.1 hI.2 hst,by rw [hgo,hst]⟩
    rw [hwr]
    rfl
   ·have hst:G5 s y=.inr 6:=by unfold G5; rw [hf]; simp only [List.getElem?_eq_getElem hj]; rw [if_neg hle]
    rw [if_pos (by simp [hle])]
    exact .inr (by rw [hgo,hst])
theorem Qvu {ts:List Qw} (hts:∀t∈ts,okT t) (hl:ts.length≤64) {bs:List Qa} (hbl:bs.length≤12) (hb:∀b∈bs,inB b):Qx (Zd 128 ts) 128 (0,bs)=some (Ci bs ts):=by
 refine I0 (σ:=List Qa) ts (by rw [J2]; omega) (fun s i=>(i,s)) (fun _ s=>s.length≤12∧∀b∈s,inB b) (fun s l=>Ci s l) (fun s _ hd=>?_) (fun s i y ys hy hd hi hw hdr hI=>?_) (s:=bs) (by omega) ⟨hbl,hb⟩
 ·unfold Zd; dsimp only; rw [if_neg (by rw [hd]; simp)]; rfl
 ·have ht:okT y:=hts y (List.mem_of_getElem? hy)
  unfold Zd; dsimp only
  rw [if_pos hd,hi,Option.bind_some,if_neg (by unfold okT at ht; simp; omega),Qvt y hI.1,Option.bind_some,hw]
  have hgo:Ci s (y::ys)=match G5 s y with | .inl bs'=>Ci bs' ys | .inr e=>.inr e:=rfl
  cases hf:s.findIdx? (fun b=>mtB b y) with
  | none =>
   have hp:Ew s y = -1:=by unfold Ew; rw [hf]
   have hst:G5 s y=.inr 11:=by unfold G5; rw [hf]
   rw [hp,if_pos (by decide)]
   exact .inr (by rw [hgo,hst])
  | some j =>
   obtain ⟨hj,_,_⟩:=List.findIdx?_eq_some_iff_getElem.1 hf
   have hp:Ew s y=(j:Int):=by unfold Ew; rw [hf]
   have hin:=hI.2 s[j] (List.getElem_mem hj)
   rw [hp,if_neg (by simp)]
   simp only [Ze hj,Option.bind_some]
   rw [Q9v hin.1 hin.2 ht.1 ht.2]
   by_cases hle:s[j].Left+y.Units≤s[j].Units
   ·have hst:G5 s y=.inl (s.set j (Ng s[j] (s[j].Left+y.Units))):=by unfold G5; rw [hf]; simp only [List.getElem?_eq_getElem hj]; rw [if_pos hle]
    rw [if_neg (by simp [hle])]
    have hwr:IntKind.wrap .i64 (s[j].Left+y.Units)=s[j].Left+y.Units:=by
     unfold okT at ht
     unfold inB L5 at hin
     exact Ww (by omega) (by omega)
    refine .inl ⟨s.set j (Ng s[j] (s[j].Left+y.Units)),?_,Qi4 ht hI.1 hI.2 hst,by rw [hgo,hst]⟩
    rw [hwr]
    rfl
   ·have hst:G5 s y=.inr 6:=by unfold G5; rw [hf]; simp only [List.getElem?_eq_getElem hj]; rw [if_neg hle]
    rw [if_pos (by simp [hle])]
    exact .inr (by rw [hgo,hst])
end Gx
namespace Gx
open Go Gd
set_option linter.unusedVariables false
set_option linter.unusedSimpArgs false
structure OkS (x0:Je):Prop where
 b:x0.Buckets.length≤12
 w:x0.Wallets.length≤12
 c:x0.Counters.length*40≤140737488351232
 z:∀b∈x0.Buckets,b.Zones.length*16≤140737488351232
 i:∀b∈x0.Buckets,inB b
theorem I1 {α:Type} {e:Nat} {xs:List α} (h:xs.length*e≤140737488355328):Xg e xs=some xs:=by
 unfold Xg
 rw [Lm (by simpa using h)]
 simp
theorem Q6u {x0:Je} (h:OkS x0):Zb 128 x0=some (x0.Buckets,x0.Wallets,x0.Counters):=by
 unfold Zb
 have hb:=h.b
 have hw:=h.w
 have hc:=h.c
 rw [I1 (by omega),Option.bind_some,I1 (by omega),Option.bind_some,I1 (by omega),Option.bind_some]
 obtain ⟨r,e1,rfl⟩:=U2 (f:=Ky 128 x0.Buckets) x0.Buckets.length (fun i s=>s=((i:Int),x0.Buckets)) (fun r=>r=x0.Buckets) (fun i s hi hs=>by
  subst hs
  unfold Ky
  dsimp only
  by_cases hlt:i<x0.Buckets.length
  ·have hw:IntKind.wrap .i64 ((i:Int)+1)=((i+1:Nat):Int):=Ui (by rw [J2]; omega)
   have hz:=h.z _ (List.getElem_mem hlt)
   rw [if_pos (by simpa using hlt)]
   simp only [Ze hlt,Option.bind_some,hw]
   rw [I1 (by omega),Option.bind_some]
   refine .inl ⟨_,hlt,rfl,?_⟩
   show (_,List.set x0.Buckets (Int.toNat (i:Int)) x0.Buckets[i])=_
   rw [Int.toNat_natCast,List.set_getElem_self]
  ·rw [if_neg (by simpa using hlt)]
   exact .inr ⟨_,rfl,rfl⟩) (n:=128) (s:=(0,x0.Buckets)) (by omega) rfl
 rw [e1]; rfl
theorem Qq2 {bs:List Qa} (hb:bs.length≤12) (hz:∀b∈bs,b.Zones.length*16≤140737488351232):Xl 128 bs=some bs:=by
 unfold Xl
 obtain ⟨r,e1,rfl⟩:=U2 (f:=Gf 128 bs) bs.length (fun i s=>s=((i:Int),bs.take i)) (fun r=>r=bs) (fun i s hi hs=>by
  subst hs
  unfold Gf
  dsimp only
  by_cases hlt:i<bs.length
  ·have hw:IntKind.wrap .i64 ((i:Int)+1)=((i+1:Nat):Int):=Ui (by rw [J2]; omega)
   have hz:=hz _ (List.getElem_mem hlt)
   rw [if_pos (by simpa using hlt),Ze hlt,Option.bind_some]
   unfold Bp
   rw [Lm (by simp; omega),Option.bind_some,Option.bind_some]
   dsimp only
   rw [Lm (by simp; omega),Option.bind_some,hw]
   refine .inl ⟨_,hlt,rfl,?_⟩
   rw [List.take_add_one,List.getElem?_eq_getElem hlt]; rfl
  ·rw [if_neg (by simpa using hlt)]
   have hie:i=bs.length:=by omega
   exact .inr ⟨_,rfl,by rw [hie,List.take_length]⟩) (n:=128) (s:=(0,[])) (by omega) rfl
 rw [e1]; rfl
theorem Qq3 {bs:List Qa} (hb:bs.length≤12) (hz:∀b∈bs,b.Zones.length*16≤140737488351232):Zm 128 bs=some bs:=by
 unfold Zm
 obtain ⟨r,e1,rfl⟩:=U2 (f:=Z9 128 bs) bs.length (fun i s=>s=((i:Int),bs.take i)) (fun r=>r=bs) (fun i s hi hs=>by
  subst hs
  unfold Z9
  dsimp only
  by_cases hlt:i<bs.length
  ·have hw:IntKind.wrap .i64 ((i:Int)+1)=((i+1:Nat):Int):=Ui (by rw [J2]; omega)
   have hz:=hz _ (List.getElem_mem hlt)
   rw [if_pos (by simpa using hlt),Ze hlt,Option.bind_some]
   unfold Wm
   rw [Lm (by simp; omega),Option.bind_some,Option.bind_some]
   dsimp only
   rw [Lm (by simp; omega),Option.bind_some,hw]
   refine .inl ⟨_,hlt,rfl,?_⟩
   rw [List.take_add_one,List.getElem?_eq_getElem hlt]; rfl
  ·rw [if_neg (by simpa using hlt)]
   have hie:i=bs.length:=by omega
   exact .inr ⟨_,rfl,by rw [hie,List.take_length]⟩) (n:=128) (s:=(0,[])) (by omega) rfl
 rw [e1]; rfl
def Q6v (bs:List Qa) (ts:List Qw):Int×List Qa:=match Ci bs ts with | .inl l=>(0,l) | .inr e=>(e,[])
theorem Qvv {x0:Je} (h:OkS x0) {ts:List Qw} (hts:∀t∈ts,okT t) (hl:ts.length≤64):Ff 128 x0.Buckets ts=some (Q6v x0.Buckets ts):=by
 unfold Ff Q6v
 rw [Qq2 h.b h.z,Option.bind_some,Qq1 hts hl h.b h.i,Option.bind_some]
 cases Ci x0.Buckets ts<;>rfl
theorem Qvw {x0:Je} (h:OkS x0) {ts:List Qw} (hts:∀t∈ts,okT t) (hl:ts.length≤64):Kn 128 x0.Buckets ts=some (Q6v x0.Buckets ts):=by
 unfold Kn Q6v
 rw [Qq3 h.b h.z,Option.bind_some,Qvu hts hl h.b h.i,Option.bind_some]
 cases Ci x0.Buckets ts<;>rfl
theorem Q9w {x0:Je} (g:gz Ye x0) (hb:x0.Buckets.length≤12) (hw:x0.Wallets.length≤12):OkS x0:=by
 obtain ⟨g1,g2,g3⟩:=g
 refine ⟨hb,hw,g3.1,fun b hb=>?_,fun b hb=>?_⟩
 ·have:=g1.2 b hb
  exact this.2.2.2.2.2.1.1
 ·have:=g1.2 b hb
  have h1:Qbv .i64 b.Left:=this.2.2.2.2.2.2.2.2.1
  have h2:Qbv .i64 b.Units:=this.2.2.2.2.2.2.2.1
  have e1:IntKind.min .i64 = -9223372036854775808:=by decide
  have e2:IntKind.max .i64=9223372036854775807:=by decide
  obtain ⟨a1,a2⟩:=h1
  obtain ⟨a3,a4⟩:=h2
  rw [e1] at a1 a3; rw [e2] at a2 a4
  exact ⟨⟨a1,a2⟩,a3,a4⟩
end Gx
namespace Gx
open Go Gd
set_option linter.unusedVariables false
set_option linter.unusedSimpArgs false
def bT (t:Qw):Bool:=decide (1≤t.Units)&&decide (t.Units≤2199023255552)
theorem Qvx {t:Qw}:bT t=true↔okT t:=by unfold bT okT; simp
def Fy:List Qw→Int
 | []=>0
 | t::ts=>t.Units+Fy ts
theorem Qi5:∀{ts:List Qw},ts.all bT=true→0≤Fy ts
 | [],_=>by simp [Fy]
 | t::ts,h=>by
  rw [List.all_cons,Bool.and_eq_true,Qvx] at h
  have:=Qi5 h.2
  have:=h.1.1
  simp only [Fy]; omega
def goT:Int→List Qw→Unit⊕Bool
 | l,[]=>.inl ()
 | l,t::ts=>bif bT t&&decide (t.Units≤l) then goT (l - t.Units) ts else .inr false
theorem Qvy:∀{ts:List Qw} {l:Int},0≤l→goT l ts=bif ts.all bT&&decide (Fy ts≤l) then .inl () else .inr false
 | [],l,h=>by simp [goT,Fy,h]
 | t::ts,l,h=>by
  show (bif bT t&&decide (t.Units≤l) then goT (l - t.Units) ts else .inr false)=bif (bT t&&ts.all bT)&&decide (t.Units+Fy ts≤l) then .inl () else .inr false
  cases hb:bT t with
  | false=>rfl
  | true =>
   have ht:=Qvx.1 hb
   unfold okT at ht
   simp only [Bool.true_and]
   by_cases hle:t.Units≤l
   ·rw [decide_eq_true hle]
    simp only [cond_true]
    rw [Qvy (by omega)]
    have he:(ts.all bT&&decide (Fy ts≤l - t.Units))=(ts.all bT&&decide (t.Units+Fy ts≤l)):=by
     congr 1
     rw [Bool.eq_iff_iff]
     simp only [decide_eq_true_eq]
     omega
    rw [he]
   ·rw [decide_eq_false hle]
    simp only [cond_false]
    have he:(ts.all bT&&decide (t.Units+Fy ts≤l))=false:=by
     cases ha:ts.all bT with
     | false=>rfl
     | true =>
      have:=Qi5 ha
      simp
      omega
    rw [he]; rfl
theorem Qmj (s:Qd) (hl:s.Takes.length≤8) (hg:0≤s.Granted∧s.Granted≤1125899906842624):Qx (K8 128 s) 128 (s.Granted,0)=some (bif s.Takes.all bT&&decide (Fy s.Takes≤s.Granted) then .inl () else .inr false):=by
 rw [←Qvy hg.1]
 refine I0 (σ:=Int) s.Takes (by rw [J2]; omega) (fun v i=>(v,i)) (fun _ v=>0≤v∧v≤1125899906842624) (fun v l=>goT v l) (fun v _ hd=>?_) (fun v i y ys hy hd hi hw hdr hI=>?_) (s:=s.Granted) (by omega) hg
 ·unfold K8; dsimp only; rw [if_neg (by rw [hd]; simp)]; rfl
 ·unfold K8; dsimp only
  rw [if_pos hd,hi,Option.bind_some,hw]
  by_cases hc:(((decide (y.Units<1))||(decide (y.Units>2199023255552)))||(decide (y.Units>v)))=true
  ·rw [if_pos hc]
   refine .inr ?_
   have:(bT y&&decide (y.Units≤v))=false:=by
    unfold bT
    simp only [Bool.or_eq_true,decide_eq_true_eq] at hc
    simp
    omega
   simp only [goT,this,cond_false]
  ·rw [if_neg hc]
   simp only [Bool.or_eq_true,decide_eq_true_eq,not_or] at hc
   have:(bT y&&decide (y.Units≤v))=true:=by
    unfold bT
    simp
    omega
   exact .inl ⟨v - y.Units,by rw [Ww (by omega) (by omega)],by omega,by simp only [goT,this,cond_true]⟩
theorem Qq4 (s:Qd) (hl:s.Takes.length≤8):Qx (Vn 128 s) 128 (0,0)=some (bif s.Takes.all bT then .inl (Fy s.Takes) else .inr false):=by
 have key:Qx (Vn 128 s) 128 (0,0)=some (bif s.Takes.all bT then .inl (0+Fy s.Takes) else .inr false):=by
  refine I0 (σ:=Int) s.Takes (by rw [J2]; omega) (fun v i=>(v,i)) (fun i v=>0≤v∧v≤(i:Int)*2199023255552) (fun v l=>(bif l.all bT then .inl (v+Fy l) else .inr false:Int⊕Bool)) (fun v _ hd=>?_) (fun v i y ys hy hd hi hw hdr hI=>?_) (s:=(0:Int)) (by omega) (by omega)
  ·unfold Vn; dsimp only; rw [if_neg (by rw [hd]; simp)]; simp [Fy]
  ·have hlt:i<s.Takes.length:=(List.getElem?_eq_some_iff.1 hy).1
   unfold Vn; dsimp only
   rw [if_pos hd]
   simp only [hi,Option.bind_some,hw]
   by_cases h1:y.Units<1
   ·refine .inr ?_
    have hb:bT y=false:=by unfold bT; simp; omega
    simp [h1,hb]
   ·by_cases h2:y.Units>2199023255552
    ·refine .inr ?_
     have hb:bT y=false:=by unfold bT; simp; omega
     simp [h1,h2,hb]
    ·have hb:bT y=true:=by unfold bT; simp; omega
     refine .inl ⟨v+y.Units,?_,by omega,?_⟩
     ·rw [Ww (by omega) (by omega)]
      simp [h1,h2]
     ·simp only [List.all_cons,hb,Bool.true_and,Fy]
      rw [show v+y.Units+Fy ys=v+(y.Units+Fy ys) by omega]
 rw [key]; simp
def Xh (s:Qd):Bool:=!((((decide (s.Granted<0))||(decide (s.Granted>1125899906842624)))||(decide (s.Held<0)))||(decide (s.Held>1125899906842624)))&&(s.Takes.all bT&&decide (Fy s.Takes≤s.Granted)&&((!s.Closed)||(((s.Granted==0)&&(s.Held==0))&&((List.length s.Takes:Int)==0))))
theorem Qmk (s:Qd) (hl:s.Takes.length≤8):Y4 128 s=some (Xh s):=by
 unfold Y4 Xh
 cases hc:((((decide (s.Granted<0))||(decide (s.Granted>1125899906842624)))||(decide (s.Held<0)))||(decide (s.Held>1125899906842624))) with
 | true=>simp
 | false =>
  simp only [Bool.false_eq_true,if_false,Bool.not_false,Bool.true_and]
  rw [Qq4 s hl,Option.bind_some]
  cases ha:s.Takes.all bT with
  | true=>simp
  | false=>simp
theorem I2 {s:Qd} (h:Xh s=true):0≤s.Granted∧s.Granted≤1125899906842624∧0≤s.Held∧s.Held≤1125899906842624∧∀t∈s.Takes,okT t:=by
 unfold Xh at h
 simp only [Bool.and_eq_true,Bool.not_eq_true',Bool.or_eq_false_iff,decide_eq_false_iff_not] at h
 obtain ⟨⟨⟨⟨h1,h2⟩,h3⟩,h4⟩,⟨h5,_⟩,_⟩:=h
 exact ⟨by omega,by omega,by omega,by omega,fun t ht=>Qvx.1 (List.all_eq_true.1 h5 t ht)⟩
end Gx
namespace Gx
open Go Gd
set_option linter.unusedVariables false
set_option linter.unusedSimpArgs false
abbrev Nh (s:Qd):Int:=s.Meter.Account
def Rd (l:List Qd) (i:Nat) (s:Qd):Bool:=!(decide (s.Id<1))&&(!(decide (0<i)&&decide (s.Id≤(l.getD (i - 1) s).Id))&&Xh s)
def Et:List Qd→Int→Int
 | [],_=>0
 | s::l,a=>(if Nh s=a then s.Held else 0)+Et l a
theorem I3 {s:Qd} {a:Int}:∀{l:List Qd},Et (l++[s]) a=Et l a+(if Nh s=a then s.Held else 0)
 | []=>by simp [Et]
 | x::l=>by
  have:=I3 (s:=s) (a:=a) (l:=l)
  simp only [List.cons_append,Et,this]
  omega
theorem Qet:∀{l:List Qd} {a:Int},(∀s∈l,0≤s.Held∧s.Held≤1125899906842624)→0≤Et l a∧Et l a≤(l.length:Int)*1125899906842624
 | [],a,_=>by simp [Et]
 | s::l,a,h=>by
  have h1:=h s (.head _)
  have h2:=Qet (l:=l) (a:=a) fun x hx=>h x (.tail _ hx)
  simp only [Et,List.length_cons]
  split<;>omega
def Re (l:List Qd) (a:Int):Bool:=l.any fun s=>(Nh s==a)&&decide (s.Held>0)
theorem Oq:∀{l:List Qd} {a:Int},(∀s∈l,0≤s.Held)→Re l a=false→Et l a=0
 | [],a,_,_=>rfl
 | s::l,a,h,hn=>by
  unfold Re at hn
  rw [List.any_cons,Bool.or_eq_false_iff] at hn
  have h1:=h s (.head _)
  have h2:=Oq (l:=l) (a:=a) (fun x hx=>h x (.tail _ hx)) hn.2
  simp only [Et,h2]
  have h3:=hn.1
  simp only [Bool.and_eq_false_iff,beq_eq_false_iff_ne,decide_eq_false_iff_not] at h3
  split<;>omega
def Qi6 (l:List Qd) (m:List (Int×Int)):Prop:=∀a,Qy (k:=.int .i64) a m=if Re l a then some (Et l a) else none
theorem L6 {ν:Type} {a b:Int} {y:ν}:∀{l:List (Int×ν)},Qy (k:=.int .i64) a (Vq (k:=.int .i64) b y l)=if a=b then some y else Qy (k:=.int .i64) a l
 | []=>by
  by_cases h:a=b
  ·simp [Vq,Qy,eqK,h]
  ·simp [Vq,Qy,eqK,h,beq_eq_false_iff_ne.2 h]
 | x::l=>by
  have ih:=L6 (a:=a) (b:=b) (y:=y) (l:=l)
  by_cases h:a=b
  ·subst h
   rw [if_pos rfl] at ih ⊢
   simp only [Vq]
   cases hb:eqK (.int .i64) a x.1 with
   | true=>simp [Qy,eqK]
   | false=>simp only [cond_false,Qy,hb]; exact ih
  ·rw [if_neg h] at ih ⊢
   simp only [Vq]
   cases hb:eqK (.int .i64) b x.1 with
   | true =>
    have hbx:b=x.1:=by simpa [eqK] using hb
    have hax:eqK (.int .i64) a x.1=false:=by simp [eqK]; rw [←hbx]; exact h
    have hab:eqK (.int .i64) a b=false:=by simpa [eqK] using h
    simp only [cond_true,Qy,hab,hax,cond_false]
   | false=>simp only [cond_false,Qy,ih]
theorem Qi7 {ν:Type} {a:Int} {y:ν}:∀{l:List (Int×ν)},(a,y)∈l→(Qy (k:=.int .i64) a l).isSome=true
 | x::l,h=>by
  simp only [Qy]
  cases hb:eqK (.int .i64) a x.1 with
  | true=>rfl
  | false =>
   rcases List.mem_cons.1 h with rfl | h
   ·simp [eqK] at hb
   ·exact Qi7 h
theorem Qi8 {ν:Type} {a:Int} {y:ν}:∀{l:List (Int×ν)},Qy (k:=.int .i64) a l=some y→(a,y)∈l
 | x::l,h=>by
  simp only [Qy] at h
  cases hb:eqK (.int .i64) a x.1 with
  | true =>
   rw [hb] at h
   have hax:a=x.1:=by simpa [eqK] using hb
   have:x.2=y:=by simpa using h
   rw [hax,←this]; exact .head _
  | false=>rw [hb] at h; exact .tail _ (Qi8 h)
theorem Qi6.snoc {l:List Qd} {m:List (Int×Int)} (h:Qi6 l m) (hb:∀s∈l,0≤s.Held∧s.Held≤1125899906842624) (hl:l.length≤8) {s:Qd} (hs:0≤s.Held∧s.Held≤1125899906842624) :
  Qi6 (l++[s]) (if decide (s.Held>0)=true then Vq (k:=.int .i64) (Nh s) (IntKind.wrap .i64 (((Qy (k:=.int .i64) (Nh s) m).getD 0)+s.Held)) m else m):=by
 have hany:∀a,Re (l++[s]) a=(Re l a||((Nh s==a)&&decide (s.Held>0))):=fun a=>by unfold Re; simp
 have hget:∀a,(Qy (k:=.int .i64) a m).getD 0=Et l a:=fun a=>by
  rw [h a]
  cases hc:Re l a with
  | true=>rfl
  | false=>exact (Oq (fun s hs=>(hb s hs).1) hc).symm
 intro a
 by_cases hp:s.Held>0
 ·rw [if_pos (by simpa using hp),L6,hget]
  have hi:=Qet (l:=l) (a:=Nh s) hb
  rw [Ww (by omega) (by omega),hany,I3]
  by_cases ha:a=Nh s
  ·subst ha
   simp [hp]
  ·have ha':¬ Nh s=a:=fun e=>ha e.symm
   rw [if_neg ha,h a,if_neg ha']
   simp [ha']
 ·rw [if_neg (by simpa using hp),h a,hany,I3]
  have h0:s.Held=0:=by omega
  simp [hp,h0]
theorem Qvz {l:List Qd} (h:∀s∈l,Xh s=true):∀t∈l.flatMap (fun s=>s.Takes),okT t:=fun t ht=>by
 obtain ⟨s,hs,ht⟩:=List.mem_flatMap.1 ht
 exact (I2 (h s hs)).2.2.2.2 t ht
theorem Or {l:List Qd} (h:∀s∈l,s.Takes.length≤8):(l.flatMap (fun s=>s.Takes)).length≤8*l.length:=by
 induction l with
 | nil=>simp
 | cons s l ih =>
  have h1:=h s (.head _)
  have h2:=ih fun x hx=>h x (.tail _ hx)
  simp only [List.flatMap_cons,List.length_append,List.length_cons]
  omega
theorem Eu {α:Type} {l:List α} {i:Nat} (h:i<l.length):l.take (i+1)=l.take i++[l[i]]:=by
 rw [List.take_add_one,List.getElem?_eq_getElem h]; rfl
structure Few (x1:List Qd):Prop where
 l:x1.length≤8
 t:∀s∈x1,s.Takes.length≤8
def Cj (l:List Qd):Prop:=∀(i:Nat) (h:i<l.length),Rd l i l[i]=true
theorem Ie {l:List Qd} {i:Nat} {s:Qd} (h:Rd l i s=true):Xh s=true:=by
 unfold Rd at h
 simp only [Bool.and_eq_true] at h
 exact h.2.2
theorem Q6w {x1:List Qd} (hF:Few x1):∃r,Qx (K9 128 x1) 128 (0,[],[])=some r∧((r=.inr false∧¬ Cj x1)∨(∃m,r=.inl (m,x1.flatMap fun s=>s.Takes)∧Cj x1∧Qi6 x1 m)):=by
 have hl8:=hF.l
 refine U2 (f:=K9 128 x1) x1.length (fun i s=>(s.1=(i:Int)∧s.2.2=(x1.take i).flatMap fun s=>s.Takes)∧(∀(k:Nat) (h:k<x1.length),k<i→Rd x1 k x1[k]=true)∧Qi6 (x1.take i) s.2.1)
  (fun r=>(r=.inr false∧¬ Cj x1)∨(∃m,r=.inl (m,x1.flatMap fun s=>s.Takes)∧Cj x1∧Qi6 x1 m)) (fun i s hi ⟨⟨hs1,hs2⟩,hI,hM⟩=>?_) (n:=128) (s:=(0,[],[])) (by omega) ⟨⟨rfl,rfl⟩,fun k hk h=>by omega,fun a=>by simp [Qy,Re]⟩
 obtain ⟨a,m,tk⟩:=s
 have hs1:a=(i:Int):=hs1
 have hs2:tk=(x1.take i).flatMap fun s=>s.Takes:=hs2
 subst hs1; subst hs2
 unfold K9
 dsimp only
 by_cases hlt:i<x1.length
 ·have hw:IntKind.wrap .i64 ((i:Int)+1)=((i+1:Nat):Int):=Ui (by rw [J2]; omega)
  have hT:=hF.t _ (List.getElem_mem hlt)
  rw [if_pos (by simpa using hlt),Ze hlt]
  simp only [Option.bind_some]
  have hA:(if decide (x1[i].Id<1)=true then some true else
    (if decide ((i:Int)>0)=true then (idx x1 (IntKind.wrap .i64 ((i:Int) - 1))).bind fun x31=>some (decide (x1[i].Id≤x31.Id)) else some false:Option Bool).bind fun v32=>some v32:Option Bool) =
    some (decide (x1[i].Id<1)||(decide (0<i)&&decide (x1[i].Id≤(x1.getD (i - 1) x1[i]).Id))):=by
   by_cases h1:x1[i].Id<1
   ·simp [h1]
   ·rw [if_neg (by simpa using h1)]
    by_cases h0:0<i
    ·have hw2:IntKind.wrap .i64 ((i:Int) - 1)=((i - 1:Nat):Int):=by rw [Ww (by omega) (by omega)]; omega
     have hlt2:i - 1<x1.length:=by omega
     rw [if_pos (by simpa using h0),hw2,Ze hlt2]
     simp only [Option.bind_some]
     have hg:x1.getD (i - 1) x1[i]=x1[i - 1]:=by simp [List.getD,List.getElem?_eq_getElem hlt2]
     rw [hg]
     simp [h1,h0]
    ·rw [if_neg (by simpa using h0)]
     simp [h1,h0]
  rw [hA,Option.bind_some]
  cases hv:(decide (x1[i].Id<1)||(decide (0<i)&&decide (x1[i].Id≤(x1.getD (i - 1) x1[i]).Id))) with
  | true =>
   refine .inr ⟨_,rfl,.inl ⟨rfl,fun hall=>?_⟩⟩
   have:=hall i hlt
   unfold Rd at this
   rw [←Bool.and_assoc,←Bool.not_or,hv] at this
   cases this
  | false =>
   simp only [Bool.false_eq_true,if_false]
   have hok:Rd x1 i x1[i]=Xh x1[i]:=by
    unfold Rd
    rw [←Bool.and_assoc,←Bool.not_or,hv]
    rfl
   cases hB:(((((decide (x1[i].Granted<0))||(decide (x1[i].Granted>1125899906842624)))||(decide (x1[i].Held<0)))||(decide (x1[i].Held>1125899906842624)))||(x1[i].Closed&&(((decide (x1[i].Granted>0))||(decide (x1[i].Held>0)))||(decide ((List.length x1[i].Takes:Int)>0))))) with
   | true =>
    have hnp:Xh x1[i]=false:=by
     cases hp:Xh x1[i] with
     | false=>rfl
     | true =>
      have hin:=I2 hp
      unfold Xh at hp
      simp only [Bool.and_eq_true,Bool.or_eq_true,Bool.not_eq_true',beq_iff_eq] at hp
      simp only [Bool.or_eq_true,Bool.and_eq_true,decide_eq_true_eq] at hB
      rcases hB with (((hB | hB) | hB) | hB) | ⟨hB1,hB2⟩
      ·omega
      ·omega
      ·omega
      ·omega
      ·rcases hp.2.2 with hc | hc
       ·rw [hB1] at hc; cases hc
       ·omega
    simp only [if_true,Option.bind_some]
    exact .inr ⟨_,rfl,.inl ⟨rfl,fun hall=>by have:=hall i hlt; rw [hok,hnp] at this; cases this⟩⟩
   | false =>
    simp only [Bool.false_eq_true,if_false]
    simp only [Bool.or_eq_false_iff,decide_eq_false_iff_not] at hB
    obtain ⟨⟨⟨⟨b1,b2⟩,b3⟩,b4⟩,b5⟩:=hB
    rw [Qmj x1[i] hT ⟨by omega,by omega⟩,Option.bind_some]
    have hpr:Xh x1[i]=(x1[i].Takes.all bT&&decide (Fy x1[i].Takes≤x1[i].Granted)):=by
     unfold Xh
     have e1:(((((decide (x1[i].Granted<0))||(decide (x1[i].Granted>1125899906842624)))||(decide (x1[i].Held<0)))||(decide (x1[i].Held>1125899906842624))))=false:=by
      simp only [Bool.or_eq_false_iff,decide_eq_false_iff_not]
      exact ⟨⟨⟨b1,b2⟩,b3⟩,b4⟩
     have e2:((!x1[i].Closed)||(((x1[i].Granted==0)&&(x1[i].Held==0))&&((List.length x1[i].Takes:Int)==0)))=true:=by
      cases hc:x1[i].Closed with
      | false=>rfl
      | true =>
       rw [hc] at b5
       simp only [Bool.true_and,Bool.or_eq_false_iff,decide_eq_false_iff_not] at b5
       obtain ⟨⟨c1,c2⟩,c3⟩:=b5
       have d1:x1[i].Granted=0:=by omega
       have d2:x1[i].Held=0:=by omega
       have d3:(List.length x1[i].Takes:Int)=0:=by omega
       rw [d1,d2,d3]; rfl
     rw [e1,e2]; simp
    cases hc:(x1[i].Takes.all bT&&decide (Fy x1[i].Takes≤x1[i].Granted)) with
    | false =>
     simp only [cond_false,Option.bind_some]
     exact .inr ⟨_,rfl,.inl ⟨rfl,fun hall=>by have:=hall i hlt; rw [hok,hpr,hc] at this; cases this⟩⟩
    | true =>
     have htl:((x1.take i).flatMap fun s=>s.Takes).length≤8*(x1.take i).length:=Or fun s hs=>hF.t s (List.mem_of_mem_take hs)
     have hlt8:(x1.take i).length≤8:=by simp; omega
     simp only [cond_true]
     rw [Lm (by omega),Option.bind_some]
     have hbd:∀s∈x1.take i,0≤s.Held∧s.Held≤1125899906842624:=fun s hs=>by
      obtain ⟨k,hk,rfl⟩:=List.getElem_of_mem hs
      have hk':k<x1.length∧k<i:=by rw [List.length_take] at hk; omega
      rw [List.getElem_take]
      have:=I2 (Ie (hI k hk'.1 hk'.2))
      exact ⟨this.2.2.1,this.2.2.2.1⟩
     have hM2:=hM.snoc hbd hlt8 (s:=x1[i]) ⟨by omega,by omega⟩
     have hnext:∀(k:Nat) (h:k<x1.length),k<i+1→Rd x1 k x1[k]=true:=fun k hk hki=>by
      rcases Nat.lt_or_ge k i with h | h
      ·exact hI k hk h
      ·have:k=i:=by omega
       subst this
       rw [hok,hpr,hc]
     have htk:(x1.take (i+1)).flatMap (fun s=>s.Takes)=((x1.take i).flatMap fun s=>s.Takes)++x1[i].Takes:=by rw [Eu hlt,List.flatMap_append]; simp
     rw [←Eu hlt] at hM2
     by_cases hh:decide (x1[i].Held>0)=true
     ·rw [if_pos hh] at hM2
      rw [if_pos hh,Option.bind_some]
      exact .inl ⟨_,hlt,rfl,⟨hw,htk.symm⟩,hnext,hM2⟩
     ·rw [if_neg hh] at hM2
      rw [if_neg hh,Option.bind_some]
      exact .inl ⟨_,hlt,rfl,⟨hw,htk.symm⟩,hnext,hM2⟩
 ·rw [if_neg (by simpa using hlt)]
  have hie:i=x1.length:=by omega
  refine .inr ⟨_,rfl,.inr ⟨m,?_,fun k hk=>hI k hk (by omega),?_⟩⟩
  ·rw [hie,List.take_length]
  ·have:=hM
   simp only [hie,List.take_length] at this
   exact this
end Gx
namespace Gx
open Go Gd
set_option linter.unusedVariables false
set_option linter.unusedSimpArgs false
def B3 (ws:List Qh) (a:Int):Bool:=ws.any fun w=>w.Account==a
theorem Qq5 (l:List Qh) (w:Qh) (a:Int):B3 (l++[w]) a=(B3 l a||(w.Account==a)):=by unfold B3; rw [List.any_append,List.any_cons,List.any_nil,Bool.or_false]
theorem Qv0 (ws:List Qh) (hl:ws.length≤12) (a:Int):∃v,Yx 128 ws a=some v∧decide (v<0)=!B3 ws a:=by
 unfold Yx
 have h:∃r:Unit⊕Int,Qx (Us 128 ws a) 128 0=some r∧(match r with | .inl _=>B3 ws a=false | .inr v=>0≤v∧B3 ws a=true):=by
  refine U2 (f:=Us 128 ws a) ws.length (fun i s=>s=(i:Int)∧∀(k:Nat) (h:k<ws.length),k<i→(ws[k].Account==a)=false) (fun r=>match r with | .inl _=>B3 ws a=false | .inr v=>0≤v∧B3 ws a=true) (fun i s hi ⟨hs,hI⟩=>?_) (n:=128) (s:=0) (by omega) ⟨rfl,fun k hk h=>by omega⟩
  subst hs
  unfold Us
  by_cases hlt:i<ws.length
  ·have hw:IntKind.wrap .i64 ((i:Int)+1)=((i+1:Nat):Int):=Ui (by rw [J2]; omega)
   rw [if_pos (by simpa using hlt),Ze hlt,Option.bind_some,hw]
   cases hb:ws[i].Account==a with
   | true =>
    refine .inr ⟨_,rfl,?_⟩
    refine ⟨by omega,?_⟩
    unfold B3
    exact List.any_eq_true.2 ⟨ws[i],List.getElem_mem hlt,hb⟩
   | false =>
    refine .inl ⟨_,hlt,rfl,rfl,fun k hk hki=>?_⟩
    rcases Nat.lt_or_ge k i with h | h
    ·exact hI k hk h
    ·have:k=i:=by omega
     subst this
     exact hb
  ·rw [if_neg (by simpa using hlt)]
   refine .inr ⟨_,rfl,?_⟩
   show B3 ws a=false
   unfold B3
   rw [List.any_eq_false]
   intro w hw
   obtain ⟨k,hk,rfl⟩:=List.getElem_of_mem hw
   rw [hI k hk (by omega)]
   simp
 obtain ⟨r,e1,p1⟩:=h
 rw [e1,Option.bind_some]
 cases r with
 | inl _=>exact ⟨-1,rfl,by rw [show B3 ws a=false from p1]; rfl⟩
 | inr v=>exact ⟨v,rfl,by rw [show B3 ws a=true from p1.2]; exact decide_eq_false (by have:=p1.1; omega)⟩
def met (ws:List Qh) (s:Qd):Bool:=!(decide (s.Held>0))||B3 ws (Nh s)
theorem Q9x {x0:Je} {x1:List Qd} (hF:Few x1) (hw12:x0.Wallets.length≤12):∃r,Qx (Ut 128 x1 x0) 128 (0,[])=some r∧((r=.inr false∧¬ (Cj x1∧x1.all (met x0.Wallets)=true))∨(r=.inl (x1.flatMap fun s=>s.Takes)∧Cj x1∧x1.all (met x0.Wallets)=true)):=by
 have hl8:=hF.l
 refine U2 (f:=Ut 128 x1 x0) x1.length (fun i s=>(s.1=(i:Int)∧s.2=(x1.take i).flatMap fun s=>s.Takes)∧(∀(k:Nat) (h:k<x1.length),k<i→Rd x1 k x1[k]=true∧met x0.Wallets x1[k]=true))
  (fun r=>(r=.inr false∧¬ (Cj x1∧x1.all (met x0.Wallets)=true))∨(r=.inl (x1.flatMap fun s=>s.Takes)∧Cj x1∧x1.all (met x0.Wallets)=true)) (fun i s hi ⟨⟨hs1,hs2⟩,hI⟩=>?_) (n:=128) (s:=(0,[])) (by omega) ⟨⟨rfl,rfl⟩,fun k hk h=>by omega⟩
 obtain ⟨a,tk⟩:=s
 have hs1:a=(i:Int):=hs1
 have hs2:tk=(x1.take i).flatMap fun s=>s.Takes:=hs2
 subst hs1; subst hs2
 unfold Ut
 dsimp only
 by_cases hlt:i<x1.length
 ·have hw:IntKind.wrap .i64 ((i:Int)+1)=((i+1:Nat):Int):=Ui (by rw [J2]; omega)
  have hT:=hF.t _ (List.getElem_mem hlt)
  obtain ⟨v,hv1,hv2⟩:=Qv0 x0.Wallets hw12 (Nh x1[i])
  have hv1:Yx 128 x0.Wallets x1[i].Meter.Account=some v:=hv1
  rw [if_pos (by simpa using hlt),Ze hlt,Option.bind_some]
  have tail:∀b:Bool,(if (!Xh x1[i])=true then some true else if decide (x1[i].Held>0)=true then some (decide (v<0)) else some false:Option Bool)=some (!(Xh x1[i]&&met x0.Wallets x1[i])):=fun b=>by
   unfold met
   cases Xh x1[i] with
   | false=>rfl
   | true =>
    by_cases hh:x1[i].Held>0
    ·simp [hh,hv2]
    ·simp [hh]
  have hcond:(if decide (x1[i].Id<1)=true then some true
    else if decide ((i:Int)>0)=true then
     (idx x1 (IntKind.wrap .i64 ((i:Int) - 1))).bind fun x5 =>
     if decide (x5.Id≥x1[i].Id)=true then some true
     else (Y4 128 x1[i]).bind fun r8 =>
      if (!r8)=true then some true
      else if decide (x1[i].Held>0)=true then (Yx 128 x0.Wallets x1[i].Meter.Account).bind fun r9=>some (decide (r9<0)) else some false
    else (Y4 128 x1[i]).bind fun r10 =>
     if (!r10)=true then some true
     else if decide (x1[i].Held>0)=true then (Yx 128 x0.Wallets x1[i].Meter.Account).bind fun r11=>some (decide (r11<0)) else some false:Option Bool)=some (!(Rd x1 i x1[i]&&met x0.Wallets x1[i])):=by
   rw [Qmk _ hT,hv1]
   simp only [Option.bind_some]
   rw [tail true]
   unfold Rd
   by_cases h1:x1[i].Id<1
   ·simp [h1]
   ·rw [if_neg (by simpa using h1)]
    by_cases h0:0<i
    ·have hw2:IntKind.wrap .i64 ((i:Int) - 1)=((i - 1:Nat):Int):=by rw [Ww (by omega) (by omega)]; omega
     have hlt2:i - 1<x1.length:=by omega
     have hg:x1.getD (i - 1) x1[i]=x1[i - 1]:=by simp [List.getD,List.getElem?_eq_getElem hlt2]
     rw [if_pos (by simpa using h0),hw2,Ze hlt2]
     simp only [Option.bind_some]
     rw [hg]
     by_cases h2:x1[i].Id≤x1[i - 1].Id
     ·rw [if_pos (by simpa using h2)]
      simp [h1,h0,h2]
     ·rw [if_neg (by simpa using h2)]
      simp [h1,h0,h2]
    ·rw [if_neg (by simpa using h0)]
     simp [h1,h0]
  rw [hcond,Option.bind_some]
  cases hc:(Rd x1 i x1[i]&&met x0.Wallets x1[i]) with
  | false =>
   refine .inr ⟨_,rfl,.inl ⟨rfl,fun ⟨h1,h2⟩=>?_⟩⟩
   rw [h1 i hlt,List.all_eq_true.1 h2 _ (List.getElem_mem hlt)] at hc
   cases hc
  | true =>
   rw [Bool.and_eq_true] at hc
   have htl:((x1.take i).flatMap fun s=>s.Takes).length≤8*(x1.take i).length:=Or fun s hs=>hF.t s (List.mem_of_mem_take hs)
   have hlt8:(x1.take i).length≤8:=by simp; omega
   simp only [Bool.not_true,Bool.false_eq_true,if_false]
   rw [Lm (by omega),Option.bind_some]
   have htk:(x1.take (i+1)).flatMap (fun s=>s.Takes)=((x1.take i).flatMap fun s=>s.Takes)++x1[i].Takes:=by rw [Eu hlt,List.flatMap_append]; simp
   refine .inl ⟨_,hlt,rfl,⟨hw,htk.symm⟩,fun k hk hki=>?_⟩
   rcases Nat.lt_or_ge k i with h | h
   ·exact hI k hk h
   ·have:k=i:=by omega
    subst this
    exact hc
 ·rw [if_neg (by simpa using hlt)]
  have hie:i=x1.length:=by omega
  refine .inr ⟨_,rfl,.inr ⟨?_,fun k hk=>(hI k hk (by omega)).1,List.all_eq_true.2 fun s hs=>?_⟩⟩
  ·rw [hie,List.take_length]
  ·obtain ⟨k,hk,rfl⟩:=List.getElem_of_mem hs
   exact (hI k hk (by omega)).2
def wOk (ws:List Qh) (x1:List Qd):Prop:=∀w∈ws,w.Held=Et x1 w.Account
theorem Qml {x1:List Qd} (h:Cj x1):∀s∈x1,0≤s.Held∧s.Held≤1125899906842624:=fun s hs=>by
 obtain ⟨k,hk,rfl⟩:=List.getElem_of_mem hs
 have:=I2 (Ie (h k hk))
 exact ⟨this.2.2.1,this.2.2.2.1⟩
theorem Q6x {x0:Je} {x1:List Qd} {m:List (Int×Int)} (hw12:x0.Wallets.length≤12) (h:Cj x1) (hM:Qi6 x1 m):∃r,Qx (Xa 128 x0 m) 128 (0,[])=some r ∧
  ((r=.inr false∧¬ wOk x0.Wallets x1)∨(∃q,r=.inl q∧wOk x0.Wallets x1∧∀a,(Qy (k:=.int .i64) a q).getD false=B3 x0.Wallets a)):=by
 have hget:∀a,(Qy (k:=.int .i64) a m).getD 0=Et x1 a:=fun a=>by
  rw [hM a]
  cases hc:Re x1 a with
  | true=>rfl
  | false=>exact (Oq (fun s hs=>(Qml h s hs).1) hc).symm
 refine U2 (f:=Xa 128 x0 m) x0.Wallets.length (fun i s=>s.1=(i:Int)∧(∀(k:Nat) (h:k<x0.Wallets.length),k<i→x0.Wallets[k].Held=Et x1 x0.Wallets[k].Account)∧∀a,(Qy (k:=.int .i64) a s.2).getD false=B3 (x0.Wallets.take i) a)
  (fun r=>(r=.inr false∧¬ wOk x0.Wallets x1)∨(∃q,r=.inl q∧wOk x0.Wallets x1∧∀a,(Qy (k:=.int .i64) a q).getD false=B3 x0.Wallets a)) (fun i s hi ⟨hs,hI,hQ⟩=>?_) (n:=128) (s:=(0,[])) (by omega) ⟨rfl,fun k hk h=>by omega,fun a=>by simp [Qy,B3]⟩
 obtain ⟨a,q⟩:=s
 have hs:a=(i:Int):=hs
 subst hs
 unfold Xa
 dsimp only
 by_cases hlt:i<x0.Wallets.length
 ·have hw:IntKind.wrap .i64 ((i:Int)+1)=((i+1:Nat):Int):=Ui (by rw [J2]; omega)
  rw [if_pos (by simpa using hlt),Ze hlt,Option.bind_some,hget,hw]
  by_cases he:x0.Wallets[i].Held=Et x1 x0.Wallets[i].Account
  ·rw [if_neg (by simpa using he)]
   refine .inl ⟨_,hlt,rfl,rfl,fun k hk hki=>?_,fun a=>?_⟩
   ·rcases Nat.lt_or_ge k i with h | h
    ·exact hI k hk h
    ·have:k=i:=by omega
     subst this
     exact he
   ·have hq:=hQ a
    simp only at hq ⊢
    rw [L6,Eu hlt,Qq5]
    by_cases ha:a=x0.Wallets[i].Account
    ·rw [if_pos ha,ha,beq_self_eq_true,Bool.or_true]; rfl
    ·rw [if_neg ha,hq]
     have ha':(x0.Wallets[i].Account==a)=false:=beq_eq_false_iff_ne.2 fun e=>ha e.symm
     rw [ha',Bool.or_false]
  ·rw [if_pos (by simpa using he)]
   exact .inr ⟨_,rfl,.inl ⟨rfl,fun hall=>he (hall _ (List.getElem_mem hlt))⟩⟩
 ·rw [if_neg (by simpa using hlt)]
  have hie:i=x0.Wallets.length:=by omega
  refine .inr ⟨_,rfl,.inr ⟨q,rfl,fun w hw=>?_,fun a=>?_⟩⟩
  ·obtain ⟨k,hk,rfl⟩:=List.getElem_of_mem hw
   exact hI k hk (by omega)
  ·have hq:=hQ a
   simp only at hq
   rw [hq,hie,List.take_length]
theorem Q9y {x0:Je} {x1:List Qd} (hF:Few x1) (h:Cj x1) {j:Nat} (hj:j<x0.Wallets.length):Qx (Uu 128 x1 x0 (j:Int)) 128 (0,0)=some (Et x1 x0.Wallets[j].Account):=by
 have hl8:=hF.l
 obtain ⟨r,e1,rfl⟩:=U2 (f:=Uu 128 x1 x0 (j:Int)) x1.length (fun i s=>s=(Et (x1.take i) x0.Wallets[j].Account,(i:Int))) (fun r=>r=Et x1 x0.Wallets[j].Account) (fun i s hi hs=>by
  subst hs
  unfold Uu
  dsimp only
  by_cases hlt:i<x1.length
  ·have hw:IntKind.wrap .i64 ((i:Int)+1)=((i+1:Nat):Int):=Ui (by rw [J2]; omega)
   have hin:=Qet (l:=x1.take i) (a:=x0.Wallets[j].Account) fun s hs=>Qml h s (List.mem_of_mem_take hs)
   have hlt8:(x1.take i).length≤8:=by simp; omega
   have hh:=Qml h x1[i] (List.getElem_mem hlt)
   rw [if_pos (by simpa using hlt)]
   simp only [Ze hlt,Ze hj,Option.bind_some,hw]
   refine .inl ⟨(Et (x1.take (i+1)) x0.Wallets[j].Account,((i+1:Nat):Int)),hlt,?_,rfl⟩
   rw [Eu hlt,I3]
   by_cases he:Nh x1[i]=x0.Wallets[j].Account
   ·rw [if_pos (by simpa using he),if_pos he,Option.bind_some,Ww (by omega) (by omega)]
   ·rw [if_neg (by simpa using he),if_neg he,Option.bind_some,Int.add_zero]
  ·rw [if_neg (by simpa using hlt)]
   have hie:i=x1.length:=by omega
   exact .inr ⟨_,rfl,by rw [hie,List.take_length]⟩) (n:=128) (s:=(0,0)) (by omega) rfl
 exact e1
theorem Q9z {x0:Je} {x1:List Qd} (hF:Few x1) (hw12:x0.Wallets.length≤12) (h:Cj x1):∃r,Qx (Uv 128 x0 x1) 128 0=some r∧((r=.inr false∧¬ wOk x0.Wallets x1)∨(r=.inl ()∧wOk x0.Wallets x1)):=by
 refine U2 (f:=Uv 128 x0 x1) x0.Wallets.length (fun i s=>s=(i:Int)∧∀(k:Nat) (h:k<x0.Wallets.length),k<i→x0.Wallets[k].Held=Et x1 x0.Wallets[k].Account)
  (fun r=>(r=.inr false∧¬ wOk x0.Wallets x1)∨(r=.inl ()∧wOk x0.Wallets x1)) (fun i s hi ⟨hs,hI⟩=>?_) (n:=128) (s:=0) (by omega) ⟨rfl,fun k hk h=>by omega⟩
 subst hs
 unfold Uv
 by_cases hlt:i<x0.Wallets.length
 ·have hw:IntKind.wrap .i64 ((i:Int)+1)=((i+1:Nat):Int):=Ui (by rw [J2]; omega)
  rw [if_pos (by simpa using hlt),Q9y hF h hlt,Option.bind_some,Ze hlt,Option.bind_some,hw]
  by_cases he:Et x1 x0.Wallets[i].Account=x0.Wallets[i].Held
  ·rw [if_neg (by simpa using he)]
   refine .inl ⟨_,hlt,rfl,rfl,fun k hk hki=>?_⟩
   rcases Nat.lt_or_ge k i with h | h
   ·exact hI k hk h
   ·have:k=i:=by omega
    subst this
    exact he.symm
  ·rw [if_pos (by simpa using he)]
   exact .inr ⟨_,rfl,.inl ⟨rfl,fun hall=>he (hall _ (List.getElem_mem hlt)).symm⟩⟩
 ·rw [if_neg (by simpa using hlt)]
  refine .inr ⟨_,rfl,.inr ⟨rfl,fun w hw=>?_⟩⟩
  obtain ⟨k,hk,rfl⟩:=List.getElem_of_mem hw
  exact hI k hk (by omega)
theorem Qov {q:List (Int×Bool)}:∀{ys:List (Int×Int)},Hf (Xb 128 q) ys ()=some (bif ys.all (fun e=>(Qy (k:=.int .i64) e.1 q).getD false) then .inl () else .inr false)
 | []=>rfl
 | e::ys=>by
  have ih:=Qov (q:=q) (ys:=ys)
  obtain ⟨a,b⟩:=e
  simp only [Hf,Xb,List.all_cons]
  cases hb:(Qy (k:=.int .i64) a q).getD false with
  | true=>simpa using ih
  | false=>simp
theorem Q90 {q:List (Int×Bool)} {m:List (Int×Int)}:Ba (Xb 128 q) m ()=some (bif m.all (fun e=>(Qy (k:=.int .i64) e.1 q).getD false) then .inl () else .inr false) :=
 Qka fun ys hys=>by
  rw [Qov]
  have:ys.all (fun e=>(Qy (k:=.int .i64) e.1 q).getD false)=m.all (fun e=>(Qy (k:=.int .i64) e.1 q).getD false):=by
   rw [Bool.eq_iff_iff,List.all_eq_true,List.all_eq_true]
   exact ⟨fun h x hx=>h x (hys.mem_iff.2 hx),fun h x hx=>h x (hys.mem_iff.1 hx)⟩
  rw [this]
theorem Q6y {ws:List Qh} {x1:List Qd} {m:List (Int×Int)} {q:List (Int×Bool)} (hM:Qi6 x1 m) (hQ:∀a,(Qy (k:=.int .i64) a q).getD false=B3 ws a):m.all (fun e=>(Qy (k:=.int .i64) e.1 q).getD false)=x1.all (met ws):=by
 rw [Bool.eq_iff_iff,List.all_eq_true,List.all_eq_true]
 constructor
 ·intro h s hs
  unfold met
  by_cases hp:s.Held>0
  ·have ha:Re x1 (Nh s)=true:=by
    unfold Re
    exact List.any_eq_true.2 ⟨s,hs,by simp [hp]⟩
   have hf:=hM (Nh s)
   rw [ha,if_pos rfl] at hf
   have:=h _ (Qi8 hf)
   simp only at this
   rw [hQ] at this
   simp [this]
  ·simp [hp]
 ·intro h e he
  have hs:=Qi7 he
  have hf:=hM e.1
  cases ha:Re x1 e.1 with
  | false=>rw [ha] at hf; rw [hf] at hs; cases hs
  | true =>
   obtain ⟨s,hs1,hs2⟩:=List.any_eq_true.1 ha
   simp only [Bool.and_eq_true,beq_iff_eq,decide_eq_true_eq] at hs2
   have:=h s hs1
   unfold met at this
   rw [hQ,←hs2.1]
   simpa [hs2.2] using this
theorem Q91 {x0:Je} {x1:List Qd} (hS:OkS x0) (hF:Few x1):∃b,Gq 128 x0 x1=some b∧Ka 128 x0 x1=some b:=by
 have hl8:=hF.l
 obtain ⟨r1,e1,p1⟩:=Q6w hF
 obtain ⟨r2,e2,p2⟩:=Q9x (x0:=x0) hF hS.w
 unfold Gq Ka
 rw [e1,e2,Option.bind_some,Option.bind_some]
 rcases p1 with ⟨rfl,h1⟩ | ⟨m,rfl,h1,hM⟩
 ·rcases p2 with ⟨rfl,h2⟩ | ⟨rfl,h2,_⟩
  ·exact ⟨false,rfl,rfl⟩
  ·exact absurd h2 h1
 ·obtain ⟨r3,e3,p3⟩:=Q6x hS.w h1 hM
  obtain ⟨r4,e4,p4⟩:=Q9z (x0:=x0) hF hS.w h1
  dsimp only
  rw [e3,Option.bind_some]
  have htk:∀t∈x1.flatMap (fun s=>s.Takes),okT t:=Qvz fun s hs=>by
   obtain ⟨k,hk,rfl⟩:=List.getElem_of_mem hs
   exact Ie (h1 k hk)
  have htl:(x1.flatMap fun s=>s.Takes).length≤64:=by have:=Or hF.t; omega
  rcases p3 with ⟨rfl,h3⟩ | ⟨q,rfl,h3,hQ⟩
  ·rcases p2 with ⟨rfl,h2⟩ | ⟨rfl,_,h2⟩
   ·exact ⟨false,rfl,rfl⟩
   ·dsimp only
    rw [e4,Option.bind_some]
    rcases p4 with ⟨rfl,h4⟩ | ⟨rfl,h4⟩
    ·exact ⟨false,rfl,rfl⟩
    ·exact absurd h4 h3
  ·dsimp only
   rw [Q90,Q6y hM hQ,Option.bind_some]
   rcases p2 with ⟨rfl,h2⟩ | ⟨rfl,_,h2⟩
   ·have:x1.all (met x0.Wallets)=false:=by
     cases hc:x1.all (met x0.Wallets) with
     | false=>rfl
     | true=>exact absurd ⟨h1,hc⟩ h2
    rw [this]
    exact ⟨false,rfl,rfl⟩
   ·rw [h2]
    dsimp only [cond_true]
    rw [e4,Option.bind_some,Q6u hS,Option.bind_some]
    rcases p4 with ⟨rfl,h4⟩ | ⟨rfl,h4⟩
    ·exact absurd h3 h4
    ·dsimp only
     rw [Qvv hS htk htl,Qvw hS htk htl]
     exact ⟨_,rfl,rfl⟩
theorem Ni (x0:Je) (g0:gz Ye x0) (x1:List Qd) (g1:gz (.sl Qz) x1):∃N,Up N x0 x1=some true:=by
 refine ⟨128,?_⟩
 have ha:Vv 128=some true:=Q6s 64
 unfold Up
 cases hc:(((decide ((List.length x0.Buckets:Int)>12))||(decide ((List.length x0.Wallets:Int)>12)))||(decide ((List.length x1:Int)>8))) with
 | true=>simp only [if_true,ha,Option.bind_some]
 | false =>
  simp only [Bool.or_eq_false_iff,decide_eq_false_iff_not] at hc
  simp only [Bool.false_eq_true,if_false]
  have hS:=Q9w g0 (by omega) (by omega)
  obtain ⟨r,e1,p1⟩:=U2 (f:=V4 128 x1) x1.length (fun i s=>s=(i:Int)∧∀(k:Nat) (h:k<x1.length),k<i→x1[k].Takes.length≤8) (fun r=>r=.inr true∨(r=.inl ()∧Few x1)) (fun i s hi ⟨hs,hI⟩=>by
   subst hs
   unfold V4
   by_cases hlt:i<x1.length
   ·have hw:IntKind.wrap .i64 ((i:Int)+1)=((i+1:Nat):Int):=Ui (by rw [J2]; omega)
    rw [if_pos (by simpa using hlt)]
    simp only [Ze hlt,Option.bind_some,hw,ha]
    by_cases h1:x1[i].Takes.length≤8
    ·rw [if_neg (by simp; omega)]
     simp only [Option.bind_some]
     by_cases h2:(x1[i].Meter.Rate.Steps.length:Int)>8
     ·rw [if_pos (by simpa using h2)]
      exact .inr ⟨_,rfl,.inl rfl⟩
     ·rw [if_neg (by simpa using h2)]
      refine .inl ⟨_,hlt,rfl,rfl,fun k hk hki=>?_⟩
      rcases Nat.lt_or_ge k i with h | h
      ·exact hI k hk h
      ·have:k=i:=by omega
       subst this
       exact h1
    ·rw [if_pos (by simp; omega)]
     exact .inr ⟨_,rfl,.inl rfl⟩
   ·rw [if_neg (by simpa using hlt)]
    refine .inr ⟨_,rfl,.inr ⟨rfl,by omega,fun s hs=>?_⟩⟩
    obtain ⟨k,hk,rfl⟩:=List.getElem_of_mem hs
    exact hI k hk (by omega)) (n:=128) (s:=0) (by omega) ⟨rfl,fun k hk h=>by omega⟩
  rw [e1,Option.bind_some]
  rcases p1 with rfl | ⟨rfl,hF⟩
  ·rfl
  ·obtain ⟨b,c1,c2⟩:=Q91 hS hF
   simp only [c1,c2,Option.bind_some,beq_self_eq_true,if_true,ha]
end Gx

/- Ranges over maps: the rounds. -/
import Derived.Test.YtjjpjagokgfbdaaGreatXRd
import Derived.Test.YtjjpjagokgfbdaaGreatXO
import Derived.Scope
import Derived.RangeFuncRecord
import Derived.TacticsIn
import Derived.RangeFuncOwn
import Derived.RangeFuncIn
namespace Gx
open Go Go.RowKit Gd
set_option linter.unusedVariables false
set_option linter.unusedSimpArgs false
section
section
variable {P:Program} {Y:TX} {X:Cx} {S:XS} {β β':Nat→Nat} {ρ ρ':Nat→Value} {a a':Act} {w w':World} {n N:Nat} {K:List Con}
variable {Q:Exit→Act→World→Prop} {R:Type} {r:R}
def Ex.exit:Ex→Exit
 | .n=>.normal
 | .x i=>.exit i
 | .r=>.ret
theorem Ex.beq_ok{a b:Ex}(h:Ex.beq a b=true):a=b:=by
 cases a<;>cases b<;>simp[Ex.beq]at h<;>first | rfl | (rw[h])
def COk(Q:Exit→Act→World→Prop)(X:Cx)(S0:XS)(β:Nat→Nat)(ρ:Nat→Value){R:Type}(k:Ex→XS→Option R)(r:R):Prop :=
 ∀(e:Ex) (β':Nat→Nat) (ρ':Nat→Value) (S':XS) (a':Act) (w':World),k e S'=some r→Y4 S0 S' β β' ρ ρ'→Rel X β' ρ' S'.flat a' w'→Q e.exit a' w'
theorem COk.after{k:Ex→XS→Option R}(h:COk Q X S β ρ k r){S1:XS}{β1:Nat→Nat}{ρ1:Nat→Value}(hk:Y4 S S1 β β1 ρ ρ1):COk Q X S1 β1 ρ1 k r :=
 fun e β' ρ' S' a' w' h1 h2 h3=>h e β' ρ' S' a' w' h1 (hk.trans h2) h3
theorem Qgq{k:Ex→XS→Option R}(ks ms:List Nat):∀{l:Exs} {e:Ex} {S':XS} {x:Qb0 l},inj l e S'=some x→Q0j S ks ms k l x=some r →
  S'.fix=(S.ent ks ms).fix∧S'.fixM=(S.ent ks ms).fixM∧S'.prot=(S.ent ks ms).prot→Rel X β ρ S'.flat a w →
  ∃β' ρ' S1,k e (S.out ks ms S1)=some r∧agP S.prot β β' ρ ρ'∧Rel X β' ρ' (S.out ks ms S1).flat a w
 | [q],e,S',x,hi,ho,hk,h=>by
  simp only[inj]at hi
  obtain⟨hb,hd⟩:=bvT hi
  have:=Ex.beq_ok hb
  subst this
  obtain⟨β',ρ',h1,h2⟩:=Id (S0:=S.ent ks ms) h hk hd
  rw[←Qcs]at h2
  exact⟨β',ρ',enc q.2 x,ho,h1,h2⟩
 | q::q2::l,e,S',x,hi,ho,hk,h=>by
  simp only[inj]at hi
  cases hb:Ex.beq q.1 e with
  | true =>
   rw[hb]at hi
   have:=Ex.beq_ok hb
   subst this
   simp only[cond_true]at hi
   split at hi
   ·rename_i y hd
    injection hi with hi; subst hi
    obtain⟨β',ρ',h1,h2⟩:=Id (S0:=S.ent ks ms) h hk hd
    rw[←Qcs]at h2
    exact⟨β',ρ',enc q.2 y,ho,h1,h2⟩
   ·cases hi
  | false =>
   rw[hb]at hi
   simp only[cond_false]at hi
   split at hi
   ·rename_i y hd
    injection hi with hi; subst hi
    exact Qgq ks ms hd ho hk h
   ·cases hi
end
variable {P:Program} {Y:TX} {X:Cx} {n N:Nat} {K:List Con} {β:Nat→Nat} {ρ:Nat→Value} {a:Act} {w:World} {Q:Exit→Act→World→Prop} {R:Type} {r:R} {k:Ex→XS→Option R} {S1:XS}
theorem Qme:∀{l m:List (Nat×Ob)},Vd l=true→Vd m=true→Vd (l++m)=true
 | [],m,_,h=>h
 | (i,o)::l,m,h1,h2=>by
  have h3:Vd l=true:=by cases o<;>first | exact h1 | cases h1
  have ih:=Qme h3 h2
  cases o<;>first | exact ih | cases h1
theorem Qq1:∀{l:List (Nat×SkO)} {vs:List DV},Qon l=true→Vd (U2 l vs)=true
 | [],_,_=>rfl
 | (t,o)::l,vs,h=>by
  have h2:Qon l=true:=by cases o<;>first | exact h | cases h
  simp only[U2]
  cases he:D9 o vs with
  | none=>rfl
  | some q =>
   obtain⟨x,r⟩:=q
   have ih:=Qq1 (vs:=r) h2
   cases o with
   | tail e t=>cases h
   | mapC kk u =>
    cases vs with
    | nil=>simp[D9]at he
    | cons v vs =>
     simp only[D9]at he
     split at he
     ·simp only[Option.some.injEq,Prod.mk.injEq]at he
      obtain⟨rfl,rfl⟩:=he
      exact ih
     ·cases he
   | var tid c =>
    simp only[D9,Option.some.injEq,Prod.mk.injEq]at he
    obtain⟨rfl,rfl⟩:=he
    exact ih
   | row e t =>
    cases vs with
    | nil=>simp[D9]at he
    | cons v vs =>
     simp only[D9]at he
     split at he
     ·simp only[Option.some.injEq,Prod.mk.injEq]at he
      obtain⟨rfl,rfl⟩:=he
      exact ih
     ·cases he
   | map kk u =>
    cases vs with
    | nil=>simp[D9]at he
    | cons v vs =>
     simp only[D9]at he
     split at he
     ·simp only[Option.some.injEq,Prod.mk.injEq]at he
      obtain⟨rfl,rfl⟩:=he
      exact ih
     ·cases he
theorem Q1o{t:Nat}{v:Value}(h:rd a t=some v)(hb:Nat.blt t 100000=true):a.eval (.tmp t)=v:=by
 rw[Lx hb]at h
 simp[Act.eval,h]
theorem Qer{ops:Array Oper}{o:Oper}{d:Nat}{v:Value}{w':World}(hg:o.guard=none)(hd:o.dst=some d)(hr:(execOp a.eval o).run P w=.ok (.value v) w'){rest:List Oper}(h:wpList P ops Q rest (a.put (some d) v) w'):wpList P ops Q (o::rest) a w :=
 Jk (K3 hg _) (Yn hr (by rw[hd]; exact h))
theorem isVal{t:Ty}{ok:Ok}{x:t.De}{v:Value}(h:isV (rt t) ok w x v):∃c,v=(AV.d t x).val c∧cr β ρ ok w false (.d t x) c:=by
 obtain⟨cs,h1,h2⟩:=Rk h
 exact⟨cs,h2,h1⟩
theorem Q1p{d:Nat}:∀{l:List En},Nv d l=true→Jr l d=l
 | [],_=>rfl
 | e::l,h=>by
  have h1:(Nat.beq e.t d||Rn d e.cs)=false∧Nv d l=true:=by simpa only[Nv,QQ,XA]using h
  simp only[Jr,h1.1,cond_false]
  rw[Q1p h1.2]
theorem Jqy(hT:Q4 P Y.T)(hK:KsX P Y X K)(hX:X.n=n)(hr:X.res=[])(hpin:X.pin=none){m it nx mo pr mt t:Nat}{ks ms:List Nat}{Γ:Shp}{exs:Exs}{out nxt:Nat}{kk vv:Ty}{xs:List (kk.De×vv.De)}{tk:TE}
  {body:XS→(Ex→XS→Option (Γ.De⊕Qb0 exs))→Option (Γ.De⊕Qb0 exs)} {ops:Array Oper} {ty1 ty2 ty3 ty4:TypeId} {p1 p2 p3 p4:String} {f1 f2 f3 f4:Array Edge} {ops3:List Oper} {c:Code} {i1 i2:Nat}
  (h:Rel X β ρ S1.flat a w) (hm:S1.ev [] (.tmp mt)=some (.m m)) (htk:Qh Y.T t=some tk) (hl:Qe (mpE S1 ks ms m).fixM m=some (.map kk vv xs))
  (hs:Jfu n S1 m it nx mo pr ks ms Γ exs out nxt kk vv xs tk body k=some r) (H:COk Q X S1 β ρ k r)
  (hb:∀(X1:Cx) (β:Nat→Nat) (ρ:Nat→Value) (a:Act) (w:World) (S3:XS) (k1:Ex→XS→Option (Γ.De⊕Qb0 exs)) (r1:Γ.De⊕Qb0 exs) (Q1:Exit→Act→World→Prop),X1.n=n→X1.res=[]→X1.pin=none→KsX P Y X1 K→Rel X1 β ρ S3.flat a w→body S3 k1=some r1→COk Q1 X1 S3 β ρ k1 r1 →
   wpList P ⟨⟨some pr,.entry (.tmp it),ty4,p4,f4,none⟩::ops3⟩ (Exit.then (c.wp P Q1) Q1) ops3 a w) :
  wpList P ops (Exit.then ((Code.block out (.loop (.seq (.region i1 ⟨[⟨some nx,.next (.tmp it) false,ty2,p2,f2,none⟩,⟨some mo,.extract (.tmp nx) 0,ty3,p3,f3,none⟩]⟩ false) (.seq (.cond (.tmp mo) .skip (.exit out)) (.block nxt (.seq (.region i2 ⟨⟨some pr,.entry (.tmp it),ty4,p4,f4,none⟩::ops3⟩ false) c)))))).wp P Q) Q)
   [⟨some it,.range t (.tmp mt),ty1,p1,f1,none⟩] a w:=by
 unfold Jfu at hs
 split at hs
 case h_2=>cases hs
 rename_i s0 hs0
 obtain⟨hok,hs⟩:=bvT hs
 unfold Jqp at hok
 simp only[QQ,XA]at hok
 obtain⟨⟨⟨⟨⟨⟨⟨hmap,hW,hoE⟩,hIE,hIF⟩,⟨hfE,hfM⟩,hfp⟩,⟨hWn,hWm⟩,hWp⟩,hNK⟩,hNB⟩,hne⟩:=hok
 have hne:mo≠nx:=fun e=>by rw[e,JY]at hne; cases hne
 obtain⟨E,hE⟩:∃E,E=mpE S1 ks ms m:=⟨_,rfl⟩
 rw[←hE]at hs hs0 hl hW hIF hfM hfp hWn hWm hWp hNB
 obtain⟨B0,hB0⟩:∃B0,B0=mpB E it m:=⟨_,rfl⟩
 rw[←hB0]at hs hNB hWn hWm hWp
 have hEf:E.fix=Qm9 S1.env ks++S1.fix:=by rw[hE]; rfl
 have hEM:E.fixM=(Jm S1.mem ms).2++S1.fixM:=by rw[hE]; rfl
 have hEp:E.prot=m::S1.prot:=by rw[hE]; rfl
 have hB0p:B0.prot=it::m::S1.prot:=by rw[hB0,←hEp]; rfl
 have hB0f:B0.fix=⟨it,[],.p it []⟩::E.fix:=by rw[hB0]; rfl
 have hB0M:B0.fixM=Ju E.fixM m:=by rw[hB0]; rfl
 obtain⟨hd,hoff⟩:=Yx hW hX hr
 obtain⟨kt,et,htd⟩:∃kt et,tk.d=.map kt et:=by
  cases hd':tk.d<;>rw[hd']at hmap<;>first | (cases hmap; done) | exact⟨_,_,rfl⟩
 have hu:=(Jl hT htk).2
 rw[htd]at hu
 have hmne:m≠it:=(Xz hfM _ (Rw hl)).1
 obtain⟨cs,hev,hcs⟩:=h.ev (Qc a) hm
 have hcs:cs=[.map (some (β m))]:=hcs
 subst hcs
 have hev:a.eval (.tmp mt)=.map (some (β m)):=hev
 have hE1:Rel X β ρ E.flat a w:=by
  rw[hE]
  exact Rel.ent (S:=⟨S1.env,S1.fix,S1.mem,S1.fixM,m::S1.prot⟩) h ks ms
 obtain⟨β0,ρ0,hag0,hR⟩:=Id (S0:=E) hE1 ⟨rfl,rfl,rfl⟩ hs0
 rw[hEp]at hag0
 obtain⟨x0,hx0⟩:∃x0,x0=enc Γ s0:=⟨_,rfl⟩
 rw[←hx0]at hR hoE hIE hfE
 have hR:Rel X β0 ρ0 ⟨x0.env++E.fix,x0.mem++E.fixM⟩ a w:=hR
 obtain⟨β1,hβ1⟩:∃β1,β1=upd β0 it w.heap.size:=⟨_,rfl⟩
 have hβm:β1 m=β m:=by rw[hβ1,Zo β0 _ hmne]; exact(hag0 m (.head _)).1
 have hβi:β1 it=w.heap.size:=by rw[hβ1]; exact Jc β0 it _
 have hoffB:Qfu it β0 β1 ρ0 ρ0:=fun i hi=>⟨by rw[hβ1]; exact Zo β0 _ hi,rfl⟩
 have hfr:Js it (x0.mem++E.fixM)=true:=by
  have key:∀{l k:List (Nat×Ob)},Js it l=true→Js it k=true→Js it (l++k)=true:=fun {l k} h1 h2=>by
   have:=Ga (S:=⟨[],[],l,k,[]⟩) (d:=it) (by simp[okB,h1,h2,Qcn,Ya])
   exact this.1
  exact key hfE hfM
 have h1:Rel X β1 ρ0 ⟨x0.env++E.fix,x0.mem++E.fixM⟩ a w:=Rel.off hR hoffB hfr fun e he=>by
  refine⟨he,?_⟩
  rcases QW.1 he with he | he
  ·exact Rv hIE e he
  ·exact Rv hIF e he
 have h2:=h1.put0 hd (x:=.p it []) (c:=[.pointer (some ⟨β1 it,0,none⟩)]) rfl
 have h3:Rel X β1 ρ0 ⟨x0.env++B0.fix,x0.mem++E.fixM⟩ (a.put (some it) (.pointer (some ⟨β1 it,0,none⟩))) w:=Rel.less (S:=St.put ⟨x0.env++E.fix,x0.mem++E.fixM⟩ it [] (.p it [])) h2 fun e he=>by
  have hrem:Jr (x0.env++E.fix) it=x0.env++E.fix:=by rw[K0 hoff,Q1p hoE]
  show e∈_::Jr (x0.env++E.fix) it
  rw[hrem]
  rcases QW.1 he with he | he
  ·exact .tail _ (QZ _ he)
  ·rw[hB0f]at he
   rcases QX.1 he with rfl | he
   ·exact .head _
   ·exact .tail _ (QV _ he)
 have hperm:(x0.mem++E.fixM).Perm ((m,.map kk vv xs)::(x0.mem++B0.fixM)):=by
  rw[hB0M]
  exact((Eh hl).append_left x0.mem).trans XZ
 obtain⟨es,clock,q1,q2,q3,q4,q5,q6⟩:=Jby (h3.permM hperm) hr
 have hlen:=Q1m q5
 have hrun:(execOp a.eval ⟨some it,.range t (.tmp mt),ty1,p1,f1,none⟩).run P w=.ok (.value (.pointer (some ⟨β1 it,0,none⟩))) (w.alloc (.mapIter (some (β1 m)) clock #[] clock)):=by
  unfold execOp
  simp only[hev]
  have:=run_range_map (P:=P) w t kt et (β m) es clock hu (by rw[←hβm]; exact q1)
  rw[hβi,hβm]
  simp[this,Result.andThen]
 refine Qer rfl rfl hrun ?_
 show(Code.block out _).wp P Q _ _
 refine wp_block ?_
 obtain⟨z,hz,hend⟩:=Yi hs
 have hallz:=Q1j hz
 obtain⟨f,hf⟩:∃f,f=Qoo nxt body B0 nx mo pr kk vv:=⟨_,rfl⟩
 rw[←hf]at hallz
 have hblt:Nat.blt it 100000=true:=Rg hd
 have hsel:⟨it,[],.p it []⟩∈B0.fix:=by rw[hB0f]; exact .head _
 obtain⟨dn,on⟩:=Yx hWn hX hr
 obtain⟨dm,om⟩:=Yx hWm hX hr
 obtain⟨dp,op⟩:=Yx hWp hX hr
 have hNMs:∀s:Γ.De,Vd ((B0.re (enc Γ s)).flat.mem)=true:=fun s=>Qme (Qq1 hNK) hNB
 have hI0:C9 X β1 ρ0 (B0.re (enc Γ s0)).flat [Qfw xs es.toList] [Ys (β1 m) (.map es clock),Ys w.heap.size (.mapIter (some (β1 m)) clock #[] clock)] (a.put (some it) (.pointer (some ⟨β1 it,0,none⟩))) (w.alloc (.mapIter (some (β1 m)) clock #[] clock)):=by
  have:=q6 (.mapIter (some (β1 m)) clock #[] clock)
  rw[hx0]at this
  exact this
 have back:∀(β':Nat→Nat) (ρ':Nat→Value) (S':St) (env2:List En) (a':Act) (w':World) (o:Obj),β' m=β1 m→C9 X β' ρ' ⟨env2,S'.mem++B0.fixM⟩ [Qfw xs es.toList] [Ys (β1 m) (.map es clock),Ys w.heap.size o] a' w' →
   (∀e∈Jr (Jr S'.env nx) mo,e∈env2)→(∀e∈E.fix,e∈env2)→Rel X β' ρ' (Qw7 S1 ks ms nx mo S').flat a' w':=by
  intro β' ρ' S' env2 a' w' o e3 hF hin hin2
  rw[←e3]at hF
  have u1:=hF.unpin q2 q3 q4
  have u2:Rel X β' ρ' ⟨(Qw7 S1 ks ms nx mo S').flat.env,(m,.map kk vv xs)::(S'.mem++B0.fixM)⟩ a' w':=Rel.less (S:=⟨env2,(m,.map kk vv xs)::(S'.mem++B0.fixM)⟩) u1 fun e he=>by
   have he:e∈(Jr (Jr S'.env nx) mo++Qm9 S1.env ks)++S1.fix:=he
   rw[QH]at he
   rcases QW.1 he with he | he
   ·exact hin e he
   ·exact hin2 e (by rw[hEf]; exact he)
  refine u2.permM ?_
  show List.Perm _ ((S'.mem++(Jm S1.mem ms).2)++S1.fixM)
  rw[QH,←hEM,hB0M]
  exact(XZ.symm).trans ((Eh hl).symm.append_left S'.mem)
 refine Tm (fun fuel a' w'=>∃(s:Γ.De) (β':Nat→Nat) (ρ':Nat→Value) (seen:Array Nat) (c0:Nat),agP (it::m::S1.prot) β1 β' ρ0 ρ' ∧
   C9 X β' ρ' (B0.re (enc Γ s)).flat [Qfw xs es.toList] [Ys (β1 m) (.map es clock),Ys w.heap.size (.mapIter (some (β1 m)) clock seen c0)] a' w'∧clock≤c0∧fuel=(leftOf es seen).size ∧
   ∀ys:List (kk.De×vv.De),ys.Perm (Fg es.toList xs seen)→Rt f ys s=some z) (leftOf es #[]).size ⟨s0,β1,ρ0,#[],clock,agP.refl _ _ _,hI0,QB _,rfl,fun ys hys=>hallz ys (by rw[Qmd hlen]at hys; exact hys)⟩ ?_
 rintro fuel a1 w1 ⟨s,β',ρ',seen,c0,hag,hF,hc0,rfl,hfold⟩
 have hβ'i:β' it=w.heap.size:=by rw[(hag it (.head _)).1,hβi]
 have hβ'm:β' m=β1 m:=(hag m (.tail _ (.head _))).1
 have hpr:∀i∈S1.prot,i≠it:=fun i hi e=>by
  rw[hEp]at hfp
  rw[e]at hi
  rw[Ze.2 (KM m hi)]at hfp; cases hfp
 have hags:∀{β4:Nat→Nat} {ρ4:Nat→Value},agP (it::m::S1.prot) β1 β4 ρ0 ρ4→agP S1.prot β β4 ρ ρ4:=fun hg i hi=>by
  obtain⟨g1,g2⟩:=hg i (.tail _ (.tail _ hi))
  obtain⟨g3,g4⟩:=hag0 i (.tail _ hi)
  exact⟨by rw[g1,hβ1,Zo β0 _ (hpr i hi),g3],by rw[g2,g4]⟩
 have hFs:Sb (fun _=>0) X [] _ [] (Qf β' ρ' (B0.re (enc Γ s)).flat.mem++[Ys (β1 m) (.map es clock),Ys w.heap.size (.mapIter (some (β1 m)) clock seen c0)]) a1 w1:=hF
 have hhm:w1.heap[β1 m]?=some (.map es clock):=(hFs.own (Ys (β1 m) (.map es clock)) (by simp)).1
 have hhr:w1.heap[w.heap.size]?=some (.mapIter (some (β1 m)) clock seen c0):=(hFs.own (Ys w.heap.size (.mapIter (some (β1 m)) clock seen c0)) (by simp)).1
 have hit:a1.eval (.tmp it)=.pointer (some ⟨w.heap.size,0,none⟩):=by
  obtain⟨cs,g1,g2⟩:=(hF.en (e:=⟨it,[],.p it []⟩) (QV _ hsel)).1 (Qc _)
  have g2:cs=[.pointer (some ⟨β' it,0,none⟩)]:=g2
  subst g2
  rw[←hβ'i]
  exact Q1o g1 hblt
 have hadd:∀{d:Nat} {l:List En},Nv d B0.fix=true→Jr (l++B0.fix) d=Jr l d++B0.fix:=fun h=>K0 h
 refine wp_seq (wp_region_list ?_)
 have hnext:=run_next_at (P:=P) w1 ty2 w.heap.size (β1 m) clock c0 seen es clock hhr hhm q4 hc0
 rcases hnext with⟨hz0,hnx⟩ | ⟨e,he,w2,hw2,hnx⟩
 ·
  have hr1:(execOp a1.eval ⟨some nx,.next (.tmp it) false,ty2,p2,f2,none⟩).run P w1=.ok (.value (.tuple #[.bool false])) w1:=by
   unfold execOp
   simp only[hit]
   simp[hnx,Result.andThen]
  refine Qer rfl rfl hr1 ?_
  have ev1:(a1.put (some nx) (.tuple #[.bool false])).eval (.tmp nx)=.tuple #[.bool false]:=by
   simp[Act.eval,Act.put,hF.sz,Tl dn]
  have hr2:(execOp (a1.put (some nx) (.tuple #[.bool false])).eval ⟨some mo,.extract (.tmp nx) 0,ty3,p3,f3,none⟩).run P w1=.ok (.value (.bool false)) w1:=by
   unfold execOp
   simp only[ev1]
   simp[Instr.extract,Result.andThen]
  refine Qer rfl rfl hr2 ?_
  have hD:=(hF.del hr (d:=nx) (.tuple #[.bool false])).del hr (d:=mo) (.bool false)
  have ev2:((a1.put (some nx) (.tuple #[.bool false])).put (some mo) (.bool false)).eval (.tmp mo)=.bool false:=by
   simp[Act.eval,Act.put,hF.sz,Tl dm]
  show(Code.seq _ _).wp P _ _ _
  refine wp_seq (wp_cond_split ev2 (fun hh=>by cases hh) fun _=>wp_exit ?_)
  show Exit.inBlock out Q (.exit out) _ _
  simp only[Exit.inBlock,if_true]
  have hzz:some (.inl s)=some z:=by
   have:=hfold [] (by rw[Qq0 (Q1k hz0)])
   exact this
  injection hzz with hzz; subst hzz
  refine H .n β' ρ' _ _ _ hend ⟨rfl,rfl,rfl,hags hag⟩ ?_
  refine back β' ρ' (enc Γ s) _ _ _ _ hβ'm hD (fun e he=>?_) fun e he=>?_
  ·show e∈Jr (Jr ((enc Γ s).env++B0.fix) nx) mo
   rw[hadd on,hadd om]
   exact QZ _ he
  ·show e∈Jr (Jr ((enc Γ s).env++B0.fix) nx) mo
   rw[hadd on,hadd om,hB0f]
   exact QV _ (.tail _ he)
 ·
  obtain⟨hel,hsn⟩:=Qqz he
  obtain⟨x,hzip,hpm⟩:=Qqy hlen q3 hel hsn
  have hF1:=hF.setI (o':=.mapIter (some (β1 m)) clock (seen.push e.born) clock) hw2
  obtain⟨W,hW'⟩:∃W,W=Go.ChangeMaps.setBlock w2 w.heap.size (.mapIter (some (β1 m)) clock (seen.push e.born) clock):=⟨_,rfl⟩
  rw[←hW']at hF1 hnx
  have hr1:(execOp a1.eval ⟨some nx,.next (.tmp it) false,ty2,p2,f2,none⟩).run P w1=.ok (.value (.tuple #[.bool true,e.key,e.val])) W:=by
   unfold execOp
   simp only[hit]
   simp[hnx,Result.andThen]
  refine Qer rfl rfl hr1 ?_
  have ev1:(a1.put (some nx) (.tuple #[.bool true,e.key,e.val])).eval (.tmp nx)=.tuple #[.bool true,e.key,e.val]:=by
   simp[Act.eval,Act.put,hF.sz,Tl dn]
  have hr2:(execOp (a1.put (some nx) (.tuple #[.bool true,e.key,e.val])).eval ⟨some mo,.extract (.tmp nx) 0,ty3,p3,f3,none⟩).run P W=.ok (.value (.bool true)) W:=by
   unfold execOp
   simp only[ev1]
   simp[Instr.extract,Result.andThen]
  refine Qer rfl rfl hr2 ?_
  have hD:=(hF1.del hr (d:=nx) (.tuple #[.bool true,e.key,e.val])).del hr (d:=mo) (.bool true)
  obtain⟨a2,ha2⟩:∃a2,a2=(a1.put (some nx) (.tuple #[.bool true,e.key,e.val])).put (some mo) (.bool true):=⟨_,rfl⟩
  have ev2:a2.eval (.tmp mo)=.bool true:=by
   rw[ha2]; simp[Act.eval,Act.put,hF.sz,Tl dm]
  rw[←ha2]at hD ⊢
  show(Code.seq _ _).wp P _ _ _
  refine wp_seq (wp_cond_split ev2 (fun _=>wp_skip ?_) fun hh=>by cases hh)
  show(Code.block nxt _).wp P _ _ _
  refine wp_block (wp_seq (wp_region_list ?_))
  have hDs:Sb (fun _=>0) X [] _ [] (Qf β' ρ' (B0.re (enc Γ s)).flat.mem++[Ys (β1 m) (.map es clock),Ys w.heap.size (.mapIter (some (β1 m)) clock (seen.push e.born) clock)]) a2 W:=hD
  have hhm2:W.heap[β1 m]?=some (.map es clock):=(hDs.own (Ys (β1 m) (.map es clock)) (by simp)).1
  have hhr2:W.heap[w.heap.size]?=some (.mapIter (some (β1 m)) clock (seen.push e.born) clock):=(hDs.own (Ys w.heap.size (.mapIter (some (β1 m)) clock (seen.push e.born) clock)) (by simp)).1
  have hmp:Xn (rt kk) (rt vv) (okF X β' ρ' (B0.re (enc Γ s)).flat.mem [Ys (β1 m) (.map es clock),Ys w.heap.size (.mapIter (some (β1 m)) clock (seen.push e.born) clock)] W) W xs es.toList:=Jf.1 hDs.dat (Qfw xs es.toList) (.head _)
  have hit2:a2.eval (.tmp it)=.pointer (some ⟨w.heap.size,0,none⟩):=by
   obtain⟨cs,g1,g2⟩:=(hD.en (e:=⟨it,[],.p it []⟩) (by
    show _∈Jr (Jr ((enc Γ s).env++B0.fix) nx) mo
    rw[hadd on,hadd om]
    exact QV _ hsel)).1 (Qc _)
   have g2:cs=[.pointer (some ⟨β' it,0,none⟩)]:=g2
   subst g2
   rw[←hβ'i]
   exact Q1o g1 hblt
  have hr3:(execOp a2.eval ⟨some pr,.entry (.tmp it),ty4,p4,f4,none⟩).run P W=.ok (.value (.tuple #[e.key,e.val])) W:=by
   have:=run_entry_at (P:=P) W w.heap.size (β1 m) clock seen es clock e hhr2 hhm2 hel q3
   unfold execOp
   simp only[hit2]
   simp[this,Result.andThen]
  refine Qer rfl rfl hr3 ?_
  obtain⟨v1,v2⟩:=Q1n hmp _ hzip
  obtain⟨c1,g1,g2⟩:=isVal (β:=β') (ρ:=ρ') v1
  obtain⟨c2,g3,g4⟩:=isVal (β:=β') (ρ:=ρ') v2
  have hP:=hD.put0 hr dp (x:=.tp (.cons (.d kk x.1) (.cons (.d vv x.2) .nil))) (c:=[.tuple #[e.key,e.val]]) ⟨[e.key,e.val],rfl,c1,[e.val],by rw[g1],g2,c2,[],by rw[g3],g4,rfl⟩
  obtain⟨S3,hS3⟩:∃S3,S3=Jo8 (B0.re (enc Γ s)) nx mo pr (.tp (.cons (.d kk x.1) (.cons (.d vv x.2) .nil))):=⟨_,rfl⟩
  have hP:C9 X β' ρ' S3.flat [Qfw xs es.toList] [Ys (β1 m) (.map es clock),Ys w.heap.size (.mapIter (some (β1 m)) clock (seen.push e.born) clock)] (a2.put (some pr) (.tuple #[e.key,e.val])) W:=by
   have e2:S3.flat=⟨⟨pr,[],.tp (.cons (.d kk x.1) (.cons (.d vv x.2) .nil))⟩::Jr (Jr (Jr (B0.re (enc Γ s)).flat.env nx) mo) pr,(B0.re (enc Γ s)).flat.mem⟩:=by
    rw[hS3]
    simp only[XS.flat,Jo8,XS.re]
    rw[hadd on,hadd om,hadd op]
    rfl
   rw[e2]; exact hP
  have hmem3:S3.flat.mem=(B0.re (enc Γ s)).flat.mem:=by rw[hS3]; rfl
  obtain⟨X1,y1,y2,y3,y4,y5,y6⟩:=Q56 hK.2 hr hpin hP (by rw[hmem3]; exact hNMs s)
  have hfx:Rt f (x::Fg es.toList xs (seen.push e.born)) s=some z:=hfold _ hpm.symm
  have hbody:f x s=Qoo nxt body B0 nx mo pr kk vv x s:=by rw[hf]
  cases hq:f x s with
  | none=>simp[Rt,hq]at hfx
  | some q =>
   rw[hq]at hbody
   unfold Qoo at hbody
   rw[←hS3]at hbody
   have hBf:S3.fix=B0.fix∧S3.fixM=B0.fixM∧S3.prot=B0.prot:=by rw[hS3]; exact⟨rfl,rfl,rfl⟩
   refine hb X1 β' ρ' _ W S3 _ q _ (y1.trans hX) y2 y3 ⟨hK.1,y4⟩ y5 hbody.symm fun ex β3 ρ3 S' a' w' hk1 hkp hrel=>?_
   have hk3:S'.fix=B0.fix∧S'.fixM=B0.fixM∧S'.prot=B0.prot:=⟨hkp.fix.trans hBf.1,hkp.fixM.trans hBf.2.1,hkp.prot.trans hBf.2.2⟩
   have hag3:agP (it::m::S1.prot) β' β3 ρ' ρ3:=by have:=hkp.ag; rw[hBf.2.2,hB0p]at this; exact this
   have again:∀s':Γ.De,S'.dec Γ=some s'→q=.inl s'→∃k,k<(leftOf es seen).size∧∃(s:Γ.De) (β':Nat→Nat) (ρ':Nat→Value) (seen:Array Nat) (c0:Nat),agP (it::m::S1.prot) β1 β' ρ0 ρ' ∧
     C9 X β' ρ' (B0.re (enc Γ s)).flat [Qfw xs es.toList] [Ys (β1 m) (.map es clock),Ys w.heap.size (.mapIter (some (β1 m)) clock seen c0)] a' w'∧clock≤c0∧k=(leftOf es seen).size ∧
     ∀ys:List (kk.De×vv.De),ys.Perm (Fg es.toList xs seen)→Rt f ys s=some z:=by
    intro s' hs' hqs
    obtain⟨β4,ρ4,hag4,z1⟩:=Id (S0:=B0) hrel hk3 hs'
    rw[hB0p]at hag4
    refine⟨(leftOf es (seen.push e.born)).size,Q1l he,s',β4,ρ4,seen.push e.born,clock,(hag.trans hag3).trans hag4,y6 _ _ _ _ _ z1,QB _,rfl,fun ys hys=>?_⟩
    have:=hfold (x::ys) ((hys.cons x).trans hpm.symm)
    simp only[Rt,hq,hqs]at this
    exact this
   have leave:∀(e2:Ex) (y:Qb0 exs),inj exs e2 S'=some y→q=.inr y→Q (Qih out e2).exit a' w':=by
    intro e2 y hy hqy
    have hzy:z=.inr y:=by
     simp only[Rt,hq,hqy]at hfx
     injection hfx with hfx; exact hfx.symm
    subst hzy
    obtain⟨β4,ρ4,S9,w1',w2',w3'⟩:=Qgq (S:=B0) [] [] hy hend ⟨hk3.1,hk3.2.1,hk3.2.2⟩ hrel
    rw[hB0p]at w2'
    have hF9:=y6 _ _ _ _ _ w3'
    have hagA:=(hag.trans hag3).trans w2'
    refine H (Qih out e2) β4 ρ4 _ a' w' w1' ⟨rfl,rfl,rfl,hags hagA⟩ (back β4 ρ4 _ _ _ _ _ (hagA m (.tail _ (.head _))).1 hF9 (fun e he=>?_) fun e he=>?_)
    ·exact QZ _ (Fv (Fv he).1).1
    ·refine QV _ ?_
     show e∈B0.fix
     rw[hB0f]; exact .tail _ he
   cases ex with
   | n =>
    simp only[Qih]at hk1
    split at hk1
    ·rename_i s' hs'
     injection hk1 with hk1
     exact again s' hs' hk1.symm
    ·cases hk1
   | r =>
    simp only[Qih]at hk1
    split at hk1
    ·rename_i y hy
     injection hk1 with hk1
     exact leave .r y hy hk1.symm
    ·cases hk1
   | x i =>
    show Exit.inBlock nxt _ (.exit i) a' w'
    simp only[Exit.inBlock]
    cases hbi:Nat.beq i nxt with
    | true =>
     rw[if_pos (QJ hbi)]
     simp only[Qih,hbi,cond_true]at hk1
     split at hk1
     ·rename_i s' hs'
      injection hk1 with hk1
      exact again s' hs' hk1.symm
     ·cases hk1
    | false =>
     rw[if_neg fun e=>by rw[e,JY]at hbi; cases hbi]
     simp only[Qih,hbi,cond_false]at hk1
     split at hk1
     ·rename_i y hy
      injection hk1 with hk1
      have:=leave (.x i) y hy hk1.symm
      show Exit.inBlock out Q (.exit i) a' w'
      simp only[Exit.inBlock]
      simp only[Qih]at this
      cases hbo:Nat.beq i out with
      | true =>
       rw[hbo]at this
       rw[if_pos (QJ hbo)]
       exact this
      | false =>
       rw[hbo]at this
       rw[if_neg fun e=>by rw[e,JY]at hbo; cases hbo]
       exact this
     ·cases hk1
theorem Jb0{ops:List Oper}{o1 o2 o3:Oper}{mo t mt it nx pr:Nat}(h:Q5r ops o1 o2 o3 mo=some (t,mt,it,nx,pr)) :
  (∃ty p f,ops.getLast?=some ⟨some it,.range t (.tmp mt),ty,p,f,none⟩)∧(∃ty p f,o1=⟨some nx,.next (.tmp it) false,ty,p,f,none⟩)∧(∃ty p f,o2=⟨some mo,.extract (.tmp nx) 0,ty,p,f,none⟩)∧∃ty p f,o3=⟨some pr,.entry (.tmp it),ty,p,f,none⟩:=by
 unfold Q5r at h
 split at h
 ·rename_i hl
  obtain⟨hb,h⟩:=bvT h
  simp only[QQ]at hb
  obtain⟨⟨⟨b1,b2⟩,b3⟩,b4⟩:=hb
  have b1:=QJ b1
  have b2:=QJ b2
  have b3:=QJ b3
  have b4:=QJ b4
  simp only[Option.some.injEq,Prod.mk.injEq]at h
  obtain⟨rfl,rfl,rfl,rfl,rfl⟩:=h
  subst b1; subst b2; subst b3; subst b4
  exact⟨⟨_,_,_,hl⟩,⟨_,_,_,rfl⟩,⟨_,_,_,rfl⟩,_,_,_,rfl⟩
 ·cases h
end
end Gx

/- Control. -/
namespace Gx
open Go Go.RowKit Gd
set_option linter.unusedVariables false
set_option linter.unusedSimpArgs false
section
variable {P:Program} {Y:TX} {X:Cx} {S:XS} {β β':Nat→Nat} {ρ ρ':Nat→Value} {a a':Act} {w w':World} {n N:Nat} {K:List Con}
variable {Q:Exit→Act→World→Prop} {R:Type} {r:R}
theorem Zy(hT:Q4 P Y.T)(hmix:P.follows .mixedOrders=true):∀{X:Cx} (hK:KsX P Y X K) (hX:X.n=n) (hr:X.res=[]) (hpin:X.pin=none) {R:Type} {r:R} (an:An) {c:Code} {S:XS} {β:Nat→Nat} {ρ:Nat→Value} {a:Act} {w:World} {k:Ex→XS→Option R} {Q:Exit→Act→World→Prop},
  Rel X β ρ S.flat a w→Zj Y K n N an c S k=some r→COk Q X S β ρ k r→c.wp P Q a w
 | X,hK,hX,hr,hpin,R,r,.nil,c,S,β,ρ,a,w,k,Q,h,hs,H=>by
  cases c<;>simp only[Zj]at hs<;>first | (cases hs; done) | skip
  ·exact wp_skip (H .n β ρ S a w hs (Y4.refl _ _ _) h)
  ·rename_i id; exact wp_exit (H (.x id) β ρ S a w hs (Y4.refl _ _ _) h)
  ·exact wp_label (H .n β ρ S a w hs (Y4.refl _ _ _) h)
  ·exact wp_ret (H .r β ρ S a w hs (Y4.refl _ _ _) h)
 | X,hK,hX,hr,hpin,R,r,.reg hn,c,S,β,ρ,a,w,k,Q,h,hs,H=>by
  cases c with
  | region id ops draw =>
   obtain⟨ops⟩:=ops
   cases draw with
   | true=>simp[Zj]at hs
   | false =>
    simp only[Zj]at hs
    refine wp_region_list ?_
    have:=Y3 hT hK hX hr (Q:=Q) hn (l:=ops) (rest:=[]) h hs fun β' ρ' S' a' w' h1 h2 h3=>H .n β' ρ' S' a' w' h1 h2 h3
    simpa using this
  | _=>simp[Zj]at hs
 | X,hK,hX,hr,hpin,R,r,.dr m g1 g2,c,S,β,ρ,a,w,k,Q,h,hs,H=>by
  cases c with
  | region id ops draw =>
   obtain⟨ops⟩:=ops
   cases draw with
   | false=>simp[Zj]at hs
   | true =>
    simp only[Zj]at hs
    obtain⟨hb,hs⟩:=bvT hs
    have hm:P.follows .mixedOrders=true:=hmix
    unfold Jfr at hb
    have tail:∀(β':Nat→Nat) (ρ':Nat→Value) (S':XS) (a':Act),Yw Y K n ops g2 (ops.drop m) S' (k .n)=some r→Y4 S S' β β' ρ ρ'→Rel X β' ρ' S'.flat a' { w with drawn:=w.drawn+1 }→wpList P ⟨ops⟩ Q (ops.drop m) a' { w with drawn:=w.drawn+1 }:=by
     intro β' ρ' S' a' h1 h2 h3
     have:=Y3 hT hK hX hr (Q:=Q) g2 (l:=ops.drop m) (rest:=[]) h3 h1 fun β2 ρ2 S2 a2 w2 q1 q2 q3=>H .n β2 ρ2 S2 a2 w2 q1 (h2.trans q2) q3
     simpa using this
    cases hlt:Nat.blt m ops.length with
    | true =>
     rw[hlt]at hb
     refine wp_region_still_tail m hm hb ?_
     have:=T5 hT hX hr (w:={ w with drawn:=w.drawn+1 }) (Qs:=fun a'=>wpList P ⟨ops⟩ Q (ops.drop m) a' { w with drawn:=w.drawn+1 }) g1 (l:=ops.take m) (rest:=[]) h.drew hs fun β' ρ' S' a' h1 h2 h3=>tail β' ρ' S' a' h1 h2 h3
     simpa using this
    | false =>
     rw[hlt]at hb
     simp only[cond_false,QQ]at hb
     have hm2:=QJ hb.1
     refine wp_region_still_lit hm hb.2 ?_
     have:=T5 hT hX hr (w:={ w with drawn:=w.drawn+1 }) (Qs:=fun a'=>wpList P ⟨ops⟩ Q (ops.drop m) a' { w with drawn:=w.drawn+1 }) g1 (l:=ops.take m) (rest:=[]) h.drew hs fun β' ρ' S' a' h1 h2 h3=>tail β' ρ' S' a' h1 h2 h3
     rw[hm2]at this
     simp only[KC,QR,KD]at this
     exact this
  | _=>simp[Zj]at hs
 | X,hK,hX,hr,hpin,R,r,.dc p ds zs zf ht,c,S,β,ρ,a,w,k,Q,h,hs,H=>by
  cases c with
  | region id ops draw =>
   obtain⟨ops⟩:=ops
   cases draw with
   | false=>simp[Zj]at hs
   | true =>
    simp only[Zj]at hs
    obtain⟨hb,hs⟩:=bvT hs
    simp only[QQ]at hb
    refine Q55 hT hmix hK hX hr hpin h hb.1 hb.2 hs fun β' ρ' S' a' w' h' h1 h2 h3=>?_
    have:=Y3 hT hK hX hr (Q:=Q) h' (l:=ops.drop p) (rest:=[]) h3 h1 fun β2 ρ2 S2 a2 w2 q1 q2 q3=>H .n β2 ρ2 S2 a2 w2 q1 (h2.trans q2) q3
    simpa using this
  | _=>simp[Zj]at hs
 | X,hK,hX,hr,hpin,R,r,.ch t i x y,c,S,β,ρ,a,w,k,Q,h,hs,H=>by
  simp only[Zj]at hs
  cases hb:Jfs S t i with
  | true=>rw[hb]at hs; exact Zy hT hmix hK hX hr hpin x h hs H
  | false=>rw[hb]at hs; exact Zy hT hmix hK hX hr hpin y h hs H
 | X,hK,hX,hr,hpin,R,r,.cn t x y,c,S,β,ρ,a,w,k,Q,h,hs,H=>by
  simp only[Zj]at hs
  cases hb:Jft S t with
  | true=>rw[hb]at hs; exact Zy hT hmix hK hX hr hpin x h hs H
  | false=>rw[hb]at hs; exact Zy hT hmix hK hX hr hpin y h hs H
 | X,hK,hX,hr,hpin,R,r,.gh g x,c,S,β,ρ,a,w,k,Q,h,hs,H=>by
  simp only[Zj]at hs
  obtain⟨S1,β1,ρ1,q1,q2,q3⟩:=T4 g h hs
  exact Zy hT hmix hK hX hr hpin x q3 q1 (H.after q2)
 | X,hK,hX,hr,hpin,R,r,.two x y,c,S,β,ρ,a,w,k,Q,h,hs,H=>by
  cases c<;>simp only[Zj]at hs<;>first | (cases hs; done) | skip
  ·rename_i c1 c2
   refine wp_seq (Zy hT hmix hK hX hr hpin x h hs fun e β' ρ' S' a' w' h1 h2 h3=>?_)
   cases e with
   | n=>exact Zy hT hmix hK hX hr hpin y h3 h1 (H.after h2)
   | x i=>exact H (.x i) β' ρ' S' a' w' h1 h2 h3
   | r=>exact H .r β' ρ' S' a' w' h1 h2 h3
  ·rename_i co c1 c2
   split at hs
   ·rename_i v hv
    obtain⟨cs,h1,h2⟩:=h.ev (Qc a) hv
    have h2':cs=_:=h2
    subst h2'
    have h1':a.eval co=.bool v:=h1
    refine wp_cond_split h1' (fun hv=>?_) (fun hv=>?_)
    ·rw[if_pos hv]at hs
     exact Zy hT hmix hK hX hr hpin x h hs H
    ·rw[if_neg (by rw[hv]; simp)]at hs
     exact Zy hT hmix hK hX hr hpin y h hs H
   ·cases hs
 | X,hK,hX,hr,hpin,R,r,.un x,c,S,β,ρ,a,w,k,Q,h,hs,H=>by
  cases c<;>simp only[Zj]at hs<;>first | (cases hs; done) | skip
  ·rename_i id c1
   refine wp_block (Zy hT hmix hK hX hr hpin x h hs fun e β' ρ' S' a' w' h1 h2 h3=>?_)
   cases e with
   | n=>exact H .n β' ρ' S' a' w' h1 h2 h3
   | x i =>
    simp only at h1
    show if i=id then Q .normal a' w' else Q (.exit i) a' w'
    cases hb:Nat.beq i id with
    | true =>
     rw[hb]at h1
     rw[if_pos (QJ hb)]
     exact H .n β' ρ' S' a' w' h1 h2 h3
    | false =>
     rw[hb]at h1
     rw[if_neg (fun e=>by rw[e,JY]at hb; cases hb)]
     exact H (.x i) β' ρ' S' a' w' h1 h2 h3
   | r=>exact H .r β' ρ' S' a' w' h1 h2 h3
  ·refine wp_scope_straight (Zy hT hmix hK hX hr hpin x h hs fun e β' ρ' S' a' w' h1 h2 h3=>?_)
   cases e with
   | n=>exact H .n β' ρ' S' a' w' h1 h2 h3
   | x i=>exact H (.x i) β' ρ' S' a' w' h1 h2 h3
   | r=>exact H .r β' ρ' S' a' w' h1 h2 h3
 | X,hK,hX,hr,hpin,R,r,.jn ks ms exs x,c,S,β,ρ,a,w,k,Q,h,hs,H=>by
  simp only[Zj]at hs
  obtain⟨z,hz,ho⟩:=Yi hs
  refine Zy hT hmix hK hX hr hpin x (h.ent ks ms) hz fun e β' ρ' S' a' w' h1 h2 h3=>?_
  obtain⟨β2,ρ2,S1,h4,h5,h6⟩:=Qgq ks ms h1 ho ⟨h2.fix,h2.fixM,h2.prot⟩ h3
  refine H e β2 ρ2 _ a' w' h4 ⟨rfl,rfl,rfl,?_⟩ h6
  exact agP.trans h2.ag h5
 | X,hK,hX,hr,hpin,R,r,.mp g ks ms Γ exs g3 x,c,S,β,ρ,a,w,k,Q,h,hs,H=>by
  unfold Zj at hs
  split at hs<;>first | (simp only[reduceCtorEq]at *; done) | skip
  rename_i id2 ops out id1 o1 o2 mo out' nxt id0 o3 ops3 c1 heq
  cases heq
  split at hs
  ·rename_i t mt it nx pr hh
   obtain⟨hout0,hs2⟩:=bvT hs
   clear hs
   have hout:=QJ hout0
   subst hout
   obtain⟨⟨ty1,p1,f1,hlast⟩,⟨ty2,p2,f2,rfl⟩,⟨ty3,p3,f3,rfl⟩,ty4,p4,f4,rfl⟩:=Jb0 hh
   have hops:ops=ops.dropLast++[⟨some it,.range t (.tmp mt),ty1,p1,f1,none⟩]:=by
    obtain⟨ys,hys⟩:=List.getLast?_eq_some_iff.1 hlast
    rw[hys,List.dropLast_concat]
   refine wp_seq (wp_region_list ?_)
   show wpList P ⟨ops⟩ _ ops a w
   refine Eq.mpr (congrArg (fun l=>wpList P ⟨ops⟩ _ l a w) hops) ?_
   exact Y3 hT hK hX hr (ops:=ops) g (l:=ops.dropLast) (rest:=[⟨some it,.range t (.tmp mt),ty1,p1,f1,none⟩]) h hs2 fun β' ρ' S' a' w' h1 h2 h3=>by
    split at h1
    ·rename_i m tk hm htk
     split at h1
     ·rename_i kk vv xs hl
      exact Jqy hT hK hX hr hpin h3 hm htk hl h1 (H.after h2) fun X1 β ρ a w S3 k1 r1 Q1 e1 e2 e3 e4 e5 e6 e7=>by
       have:=Y3 hT e4 e1 e2 (Q:=Exit.then (c1.wp P Q1) Q1) g3 (l:=ops3) (rest:=[]) e5 e6 fun β' ρ' S' a' w' g1 g2 g3=>Zy hT hmix e4 e1 e2 e3 x g3 g1 (e7.after g2)
       simpa using this
     ·cases h1
    ·cases h1
  ·cases hs
 | X,hK,hX,hr,hpin,R,r,.lp ks ms Γ exs x,c,S,β,ρ,a,w,k,Q,h,hs,H=>by
  cases c<;>simp only[Zj]at hs<;>first | (cases hs; done) | skip
  rename_i c1
  split at hs
  ·rename_i s0 hs0
   obtain⟨z,hz,ho⟩:=Yi hs
   obtain⟨β1,ρ1,h1,h2⟩:=Id (S0:=S.ent ks ms) (h.ent ks ms) ⟨rfl,rfl,rfl⟩ hs0
   refine Tm (fun m a w=>∃s β' ρ',agP S.prot β β' ρ ρ'∧Rel X β' ρ' ((S.ent ks ms).re (enc Γ s)).flat a w∧Qg _ m s=some z) N ⟨s0,β1,ρ1,h1,h2,hz⟩ ?_
   rintro m a1 w1 ⟨s,β',ρ',h3,h4,h5⟩
   cases m with
   | zero=>simp[Qg]at h5
   | succ m =>
    simp only[Qg]at h5
    obtain⟨q,hq,h5⟩:=Yi h5
    refine Zy hT hmix hK hX hr hpin x h4 hq fun e β2 ρ2 S' a' w' h6 h7 h8=>?_
    cases e with
    | n =>
     simp only at h6
     split at h6
     ·rename_i s' hd
      injection h6 with h6; subst h6
      obtain⟨β3,ρ3,h9,h10⟩:=Id (S0:=S.ent ks ms) h8 ⟨h7.fix,h7.fixM,h7.prot⟩ hd
      exact⟨m,VH m,s',β3,ρ3,(h3.trans h7.ag).trans h9,h10,h5⟩
     ·cases h6
    | x i =>
     simp only at h6
     split at h6
     ·rename_i s' hd
      injection h6 with h6; subst h6
      injection h5 with h5; subst h5
      obtain⟨β3,ρ3,S1,h9,h10,h11⟩:=Qgq ks ms hd ho ⟨h7.fix,h7.fixM,h7.prot⟩ h8
      exact H (.x i) β3 ρ3 _ a' w' h9 ⟨rfl,rfl,rfl,(h3.trans h7.ag).trans h10⟩ h11
     ·cases h6
    | r =>
     simp only at h6
     split at h6
     ·rename_i s' hd
      injection h6 with h6; subst h6
      injection h5 with h5; subst h5
      obtain⟨β3,ρ3,S1,h9,h10,h11⟩:=Qgq ks ms hd ho ⟨h7.fix,h7.fixM,h7.prot⟩ h8
      exact H .r β3 ρ3 _ a' w' h9 ⟨rfl,rfl,rfl,(h3.trans h7.ag).trans h10⟩ h11
     ·cases h6
  ·cases hs
theorem Q1q(p:Addr):(asAddr (.pointer (some p)):Sem Addr)=pure p:=rfl
theorem Qxl(hT:Q4 P Y.T)(h:Rel X β ρ S.flat a w):∀{rs:List ResultVar} {i:Nat} {es:List En} (pre:List Value),pre.length=i→Q5s Y S rs i=some es →
  ∃vs:List Value,vs.length=rs.length∧es.length=rs.length∧Sem.run P (rs.mapM fun r=>match r with | .tmp t=>(pure (a.tmps.getD t undef):Sem Value) | .cell ad t=>do loadVar t (←asAddr (a.tmps.getD ad undef))) w=.ok vs w ∧
   ∀e∈es,(enD β ρ ⟨(pre++vs).toArray,[]⟩ e).p (okR X β ρ S.flat.mem w) w
 | [],i,es,pre,_,he=>by simp[Q5s]at he; subst he; exact⟨[],rfl,rfl,rfl,by simp⟩
 | .tmp t::rs,i,es,pre,hi,he=>by
  simp only[Q5s]at he
  split at he
  ·rename_i v r hv hr
   obtain⟨hbi,he⟩:=bvT he
   simp at he; subst he
   obtain⟨cs,h1,h2⟩:=h.ev (Qc a) hv
   obtain⟨vs,h3,h4,h5,h6⟩:=Qxl hT h (rs:=rs) (i:=i+1) (pre++[a.tmps.getD t undef]) (by simp[hi]) hr
   refine⟨a.tmps.getD t undef::vs,by simp[h3],by simp[h4],?_,fun e hm=>?_⟩
   ·rw[VP]
    simp only[pure_bind,Sem.run_bind,h5]
    rfl
   ·exact resCons hi hbi (h1▸rfl) h2 h6 e hm
  ·cases he
 | .cell ad t::rs,i,es,pre,hi,he=>by
  simp only[Q5s]at he
  split at he
  ·rename_i v r hv hr
   obtain⟨hbi,he⟩:=bvT he
   simp at he; subst he
   obtain⟨cs,h1,h2⟩:=Qh9 (P:=P) (o:=⟨none,.load t (.tmp ad),0, "",#[],none⟩) hT h.toW (Qc a) hv
   obtain⟨vs,h3,h4,h5,h6⟩:=Qxl hT h (rs:=rs) (i:=i+1) (pre++[v.val cs]) (by simp[hi]) hr
   have hp:∃p,a.tmps.getD ad undef=.pointer (some p):=by
    simp only[Qh7]at hv
    split at hv
    ·rename_i id path he' hx
     obtain⟨cs1,q1,q2⟩:=h.ev (Qc a) hx
     have q2':cs1=_:=q2
     subst q2'
     exact⟨_,q1⟩
    ·rename_i t' y he' hx
     obtain⟨cs1,q1,v0,q2,b,o,_,q3,_⟩:=h.ev (Qc a) hx
     subst q2; subst q3
     exact⟨_,q1⟩
    ·cases hv
   obtain⟨p,hp⟩:=hp
   have hl:(loadVar t p).run P w=.ok (v.val cs) w:=by
    have h1':=h1
    unfold execOp at h1'
    have hp':a.eval (.tmp ad)=.pointer (some p):=hp
    simp only[hp',Instr.loadAt,Instr.sureAddr,Sem.run_bind,Sem.run_pure,Result.andThen_ok]at h1'
    cases hr:(loadVar t p).run P w with
    | ok v1 w1 =>
     rw[hr]at h1'
     simp at h1'
     rw[h1'.1,h1'.2]
    | _=>rw[hr]at h1'; simp[Result.andThen]at h1'
   refine⟨v.val cs::vs,by simp[h3],by simp[h4],?_,fun e hm=>?_⟩
   ·rw[VP]
    simp only[hp,Q1q,pure_bind,Sem.run_bind,hl,Result.andThen_ok,h5]
    rfl
   ·exact resCons hi hbi rfl h2 h6 e hm
  ·cases he
where
 resCons {i:Nat} {pre vs:List Value} {v0:Value} {v:AV} {cs:List Value} {r:List En} (hi:pre.length=i) (hbi:Nat.blt i 100000=true) (hv:v0=v.val cs) (h2:cr β ρ (okR X β ρ S.flat.mem w) w false v cs)
   (h6:∀e∈r,(enD β ρ ⟨(pre++[v0]++vs).toArray,[]⟩ e).p (okR X β ρ S.flat.mem w) w):∀e∈(⟨i,[],v⟩::r:List En),(enD β ρ ⟨(pre++v0::vs).toArray,[]⟩ e).p (okR X β ρ S.flat.mem w) w:=by
  intro e hm
  have hl:pre++[v0]++vs=pre++(v0::vs):=by simp
  rw[hl]at h6
  rcases QX.1 hm with rfl | hm
  ·refine⟨fun _=>⟨cs,?_,h2⟩,.inl (Qc _)⟩
   rw[Lx hbi]
   simp only[ZZ]
   rw[JE (by omega),←hi]
   simp only[Nat.sub_self,VE]
   exact congrArg some hv
  ·exact h6 e hm
theorem Qkl:∀{l:List (Nat×Sk)} {i:Nat} {vs:List DV},Ic l i=true→∀(j:Nat) e,(Ia l vs).1[j]?=some e→e.t=i+j∧e.cs=[]
 | [],i,vs,_,j,e,h=>by simp[Ia]at h
 | (t,s)::l,i,vs,hk,j,e,h=>by
  simp only[Ic,QQ]at hk
  simp only[Ia]at h
  cases j with
  | zero =>
   simp at h; subst h
   exact⟨QJ hk.1,rfl⟩
  | succ j =>
   obtain⟨h1,h2⟩:=Qkl hk.2 j e (by simpa using h)
   exact⟨by omega,h2⟩
theorem Ma:∀{l:List (Nat×Sk)} {vs:List DV},(Ia l vs).1.length=l.length
 | [],vs=>rfl
 | (t,s)::l,vs=>by simp only[Ia,JI,Ma]
theorem Q1r{gl:List (Nat×Σ t:Ty,t.De)}{ok ok':Ok}{w:World}{β:Nat→Nat}{ρ:Nat→Value}{a:Act}(h:Vr gl ok w)(hk:∀b o,ok b o→ok' b o):∀e∈Qii gl,(enD β ρ a e).p ok' w:=by
 intro e he
 obtain⟨q,hq,rfl⟩:=QY.1 he
 refine⟨fun _=>⟨[.pointer (some ⟨q.1,0,none⟩)],Q5h a q.1,_,rfl,(h q hq).1.weak hk⟩,.inl (Qc a)⟩
theorem F2{P:Program}{gl:List (Nat×Σ t:Ty,t.De)}{c:Con}(h:∀x,c.fn x=none):Qfv P gl c:=fun ok w L β ρ x y vs _ _ _ _ _ hy=>by rw[h]at hy; cases hy
def S00(Y:TX)(c:Con)(x:c.Γ.De):XS:=⟨(enc c.Γ x).env,Qii Y.gl,wrM c.ro (enc c.Γ x).mem,rdM c.ro (enc c.Γ x).mem,c.Γ.mem.map Prod.fst⟩
theorem Jmh{ro:List Nat}:∀(M:List (Nat×Ob)),M.Perm (wrM ro M++rdM ro M)
 | []=>.nil
 | q::l=>by
  have ih:=Jmh (ro:=ro) l
  unfold wrM rdM at *
  cases hm:Ya ro q.1 with
  | true =>
   simp only[XG,hm,WW,XY,if_false,if_true]
   exact(List.Perm.cons q ih).trans XZ.symm
  | false =>
   simp only[XG,hm,Bool.not_false,XY,if_false,if_true]
   exact List.Perm.cons q ih
def Jr5(Y:TX)(fn:Func)(c:Con):Ex→XS→Option (Qb1 c.Δ):=fun e S=>match e with
 | .x _=>none
 | .n=>fin Y fn c.Δ S
 | .r=>fin Y fn c.Δ S
theorem Q8o{fn:Func}{c:Con}(hku:Ic c.Γ.env 0=true)(hks:Nat.blt c.Γ.env.length 100000=true){ok:Ok}{w:World}{L:List Nat}{β:Nat→Nat}{ρ:Nat→Value}{x:c.Γ.De}{vs:List Value}{a:Act}(hok:∀b o,ok b o→b<w.heap.size)(hG:Vr Y.gl ok w)(hL:Qlx (Qf β ρ (enc c.Γ x).mem) L ok w)
  (hargs:∀e∈(enc c.Γ x).env,∃cs,vs[e.t]?=some (e.av.val cs)∧cr β ρ ok w false e.av cs) (h0:Sb (fun _=>0) (cxL L fn.ntmps ok w) (Qzr vs 0) [] [] (Qf β ρ (enc c.Γ x).mem) a w):Rel (cxL L fn.ntmps ok w) β ρ (S00 Y c x).flat a w:=by
 have hp:=(Jmh (ro:=c.ro) (enc c.Γ x).mem).map fun q=>Qw β ρ q.1 q.2
 have hk0:∀b o,ok b o→okR (cxL L fn.ntmps ok w) β ρ (wrM c.ro (enc c.Γ x).mem++rdM c.ro (enc c.Γ x).mem) w b o:=fun b o hbo=>⟨.inl (.inl hbo),hok b o hbo,by simp,fun t ht hc=>(hL.1 t (hp.mem_iff.2 ht)).2.2 b o (t.cb hc) hbo⟩
 have hR:Rel (cxL L fn.ntmps ok w) β ρ (XS.flat (S00 Y c x)) a w:=by
  have e:XS.flat (S00 Y c x)=⟨(enc c.Γ x).env++Qii Y.gl,wrM c.ro (enc c.Γ x).mem++rdM c.ro (enc c.Γ x).mem⟩:=rfl
  rw[e]
  replace h0:=Sb.perm h0 hp
  refine Rel.ofSb h0 rfl fun e he=>?_
  rcases QW.1 he with he | he
  case inr=>exact Q1r hG hk0 e he
  obtain⟨cs,h1,h2⟩:=hargs e he
  have hcs:e.cs=[]:=by
   unfold enc at he
   split at he
   rename_i es r hes
   exact Qkj (Γe:=c.Γ.env) e (by rw[hes]; exact he)
  refine⟨fun _=>⟨cs,?_,Wd h2 hk0⟩,.inl (by rw[hcs]; exact Qc a)⟩
  have hz:∀{us:List Value} {i j:Nat} {v:Value},us[j]?=some v→(i+j,Gd.AV.v v)∈Qzr us i:=by
   intro us
   induction us with
   | nil=>intro i j v h; simp at h
   | cons u us ih =>
    intro i j v h
    cases j with
    | zero=>simp at h; subst h; exact .head _
    | succ j =>
     have:=ih (i:=i+1) (j:=j) (v:=v) (by simpa using h)
     rw[show i+(j+1)=i+1+j by omega]
     exact .tail _ this
  have hsm:Nat.blt e.t 100000=true:=by
   obtain⟨j,hj⟩:=XC he
   have hk2:e.t=0+j:=by
    unfold enc at hj
    split at hj
    rename_i es0 r0 hes0
    exact(Qkl (vs:=toL c.Γ.tys x) hku j e (by rw[hes0]; exact hj)).1
   have hjl:j<c.Γ.env.length:=by
    have h4:=(QK.1 hj).1
    unfold enc at h4
    have h5:=Ma (l:=c.Γ.env) (vs:=toL c.Γ.tys x)
    split at h4
    rename_i es0 r0 hes0
    rw[hes0]at h5
    simp only at h4 h5
    omega
   have:=QF hks
   rw[hk2]
   exact XT (by omega)
  have:=h0.tm _ (hz (i:=0) h1)
  rw[Lx hsm]
  simpa[Iq]using this
 exact hR
theorem Q8p{es:List En}{S:XS}:∀{l:List Shp} {y:Qb1 l},Jfv es S l=some y→∃s x,Ic s.env 0=true∧es.length=s.env.length∧S.dec s=some x∧Qcm l y=enc s x
 | [s],y,h=>by
  simp only[Jfv]at h
  obtain⟨hb,h⟩:=bvT h
  simp only[QQ]at hb
  exact⟨s,y,hb.1,QJ hb.2,h,rfl⟩
 | s::r::l,y,h=>by
  simp only[Jfv]at h
  split at h
  ·rename_i x hx
   injection h with h
   subst h
   obtain⟨hb,hx⟩:=bvT hx
   simp only[QQ]at hb
   exact⟨s,x,hb.1,QJ hb.2,hx,rfl⟩
  ·split at h
   ·rename_i y0 hy
    injection h with h
    subst h
    obtain⟨s0,x0,h1,h2,h3,h4⟩:=Q8p hy
    exact⟨s0,x0,h1,h2,h3,h4⟩
   ·cases h
theorem Q8q(hT:Q4 P Y.T){fn:Func}{c:Con}{ok:Ok}{w:World}{L:List Nat}{β:Nat→Nat}{ρ:Nat→Value}{x:c.Γ.De}{y:Qb1 c.Δ}{β':Nat→Nat}{ρ':Nat→Value}{S':XS}{a':Act}{w':World}
  (h2:Y4 (S00 Y c x) S' β β' ρ ρ') (h3:Rel (cxL L fn.ntmps ok w) β' ρ' S'.flat a' w'):fin Y fn c.Δ S'=some y→bodyPost P fn (Qwl L w (Q04 c β ρ ok L w x y)) .ret a' w':=by
 intro hfin
 unfold fin at hfin
 split at hfin
 ·rename_i es hes
  obtain⟨hkb,hd⟩:=bvT hfin
  have hksm:=QF hkb
  obtain⟨s,x1,hku,hel,hd,henc⟩:=Q8p hd
  obtain⟨rv,r1,r2,r3,r4⟩:=Qxl hT h3 [] rfl hes
  simp only[QD]at r4
  have hRes:Rel { cxL L fn.ntmps ok w with n:=rv.length } β' ρ' (XS.flat ⟨es,[],S'.mem,S'.fixM,S'.prot⟩) ⟨rv.toArray,[]⟩ w':=by
   have e:XS.flat ⟨es,[],S'.mem,S'.fixM,S'.prot⟩=⟨es,S'.flat.mem⟩:=by simp[XS.flat]
   rw[e]
   have hSb:Sb (fun _=>0) { cxL L fn.ntmps ok w with n:=rv.length } [] [] [] (Qf β' ρ' S'.flat.mem) ⟨rv.toArray,[]⟩ w' :=
    { sz:=by simp,df:=rfl,fr:=by simp,pn:=by simp,tm:=by simp,bel:=h3.bel,dat:=trivial,obj:=by simp,own:=h3.own,dHH:=by simp,dHO:=by simp,dOO:=h3.dOO }
   exact Rel.ofSb hSb rfl fun e he=>r4 e he
  obtain⟨β2,ρ2,h4,h5⟩:=XS.dec_ok hRes hd
  have hfm:S'.fixM=roM c x:=h2.fixM
  have hpr:S'.prot=c.Γ.mem.map Prod.fst:=h2.prot
  rw[hfm]at h5
  have hfacts:∀(j:Nat) e,(enc s x1).env[j]?=some e→∃cs,rv[j]?=some (e.av.val cs)∧cr β2 ρ2 (Je (okL L ok) w.heap.size (fun _=>0) [] (Qf β2 ρ2 ((enc s x1).mem++roM c x)) w') w' false e.av cs:=by
   intro j e he
   have hk2:e.t=0+j∧e.cs=[]:=by
    unfold enc at he
    split at he
    rename_i es0 r0 hes0
    exact Qkl (vs:=toL s.tys x1) hku j e (by rw[hes0]; exact he)
   have hen:=h5.en (QZ _ (JM he))
   obtain⟨cs,q1,q2⟩:=hen.1 (by rw[hk2.2]; exact Qc _)
   rw[hk2.1,QE]at q1
   have hjl:j<s.env.length:=by
    have h4:=(QK.1 he).1
    unfold enc at h4
    have h5:=Ma (l:=s.env) (vs:=toL s.tys x1)
    split at h4
    rename_i es0 r0 hes0
    rw[hes0]at h5
    simp only at h4 h5
    omega
   rw[Lx (XT (by omega))]at q1
   exact⟨cs,by simpa using q1,q2⟩
  have hlenE:(enc s x1).env.length=rv.length:=by
   have:(enc s x1).env.length=s.env.length:=by
    unfold enc
    have:=Ma (l:=s.env) (vs:=toL s.tys x1)
    split
    rename_i es0 r0 hes0
    rw[hes0]at this
    exact this
   omega
  have hres:(results fn a'.tmps).run P w'=.ok (if h:rv.toArray.size=1 then rv.toArray[0]else .tuple rv.toArray) w':=by
   unfold results
   rw[VK]
   simp only[Sem.run_bind,Sem.run_map,bind_pure_comp]
   exact congrArg (fun z:Result (List Value)=>(z.andThen fun a w'=>Result.ok a.toArray w').andThen fun a w'=>Result.ok (if h:a.size=1 then a[0]else Value.tuple a) w') r3
  refine⟨h3.df,_,hres,_,rfl,?_,h3.bel⟩
  unfold Q04
  rw[henc]
  refine⟨β2,ρ2,?_,?_,?_,?_⟩
  ·exact agP.trans h2.ag (by rw[←hpr]; exact h4)
  ·by_cases hl1:rv.length=1
   ·obtain⟨e0,he0⟩:=VC.1 (hlenE.trans hl1)
    obtain⟨cs,q1,q2⟩:=hfacts 0 e0 (by rw[he0]; rfl)
    have hra:Rs (enc s x1).env=e0.av:=by rw[he0]; rfl
    rw[hra]
    refine⟨cs,?_,q2⟩
    rw[dif_pos (by simpa using hl1)]
    have hlt:0<rv.length:=by omega
    rw[QU hlt]at q1
    exact Option.some.inj q1
   ·have hra:Rs (enc s x1).env=.tp (Qt3 (enc s x1).env):=by
     unfold Rs
     split
     ·rename_i e0 he0
      exact absurd (by rw[←hlenE,he0]; rfl) hl1
     ·rfl
    rw[hra]
    refine⟨[.tuple rv.toArray],?_,rv,rfl,?_⟩
    ·rw[dif_neg (by simpa using hl1)]; rfl
    ·exact Q1b (i:=0) hfacts hlenE.symm
  ·exact fun t ht=>h5.own t ht
  ·exact h5.dOO
 ·cases hfin
theorem Jkx(hT:Q4 P Y.T){f:FuncId}{fn:Func}(hf:P.funcs[f]?=some fn){c:Con}(hcf:c.f=f){code:Code}(hb:fn.body=some code)(hble:Nat.ble c.Γ.env.length fn.ntmps=true)(hku:Ic c.Γ.env 0=true)(hks:Nat.blt c.Γ.env.length 100000=true)
  (hway:∀(x:c.Γ.De) (y:Qb1 c.Δ) (X:Cx) (β:Nat→Nat) (ρ:Nat→Value) (a:Act) (w:World) (Q:Exit→Act→World→Prop),c.fn x=some y→Vr Y.gl (okN X) X.w→X.n=fn.ntmps→X.res=[]→X.pin=none→Rel X β ρ (S00 Y c x).flat a w→COk Q X (S00 Y c x) β ρ (Jr5 Y fn c) y→code.wp P Q a w):Qfv P Y.gl c:=by
 intro ok w L β ρ x y vs hok hG hlen hL hargs hy
 rw[hcf]
 refine Jau (n:=fn.ntmps) (L:=L) (O:=Qf β ρ (enc c.Γ x).mem) (D:=[]) hok hf hb rfl (by rw[hlen]; exact hble) trivial hL fun a h0=>?_
 have hR:=Q8o (Y:=Y) (fn:=fn) hku hks hok hG hL hargs h0
 refine hway x y _ β ρ a w _ hy (hG.weak fun b o hbo=>⟨.inl hbo,fun hbl=>hL.2.2 b hbl |>.elim fun t ht=>(hL.1 t ht.1).2.2 b o ht.2 hbo,hok b o hbo⟩) rfl rfl rfl hR fun e β' ρ' S' a' w' h1 h2 h3=>?_
 have key:=Q8q (y:=y) hT h2 h3
 cases e with
 | n=>exact key h1
 | x i=>cases h1
 | r=>exact key h1
theorem Jky(hT:Q4 P Y.T)(hmix:P.follows .mixedOrders=true)(hK:Q1c P Y.gl K){f:FuncId}{fn:Func}(hf:P.funcs[f]?=some fn){an:An}{c:Con}(hcf:c.f=f)(hrun:∀x,c.fn x=Jfw Y K N fn an c.ro c.Γ c.Δ x):Qfv P Y.gl c:=by
 cases hb:fn.body with
 | none =>
  refine F2 fun x=>?_
  rw[hrun]
  unfold Jfw
  rw[hb]
 | some code =>
  by_cases hc:(Nat.ble c.Γ.env.length fn.ntmps&&(Ic c.Γ.env 0&&Nat.blt c.Γ.env.length 100000))=true
  ·have hc':=hc
   simp only[QQ]at hc'
   refine Jkx hT hf hcf hb hc'.1 hc'.2.1 hc'.2.2 fun x y X β ρ a w Q hy hG hX hr hp hR H=>?_
   rw[hrun]at hy
   unfold Jfw at hy
   rw[hb,hc]at hy
   exact Zy hT hmix ⟨hK,hG⟩ hX hr hp an hR hy H
  ·refine F2 fun x=>?_
   rw[hrun]
   unfold Jfw
   rw[hb]
   simp only
   rw[show(Nat.ble c.Γ.env.length fn.ntmps&&(Ic c.Γ.env 0&&Nat.blt c.Γ.env.length 100000))=false from Bool.eq_false_iff.2 hc]
   rfl
end
end Gx
namespace Gx
open Go
theorem Jqz{P:Program}{gl:List (Nat×Σ t:Ty,t.De)}:Q1c P gl []:=fun _ h=>by cases h
theorem Jpi{P:Program}{c:Con}{gl:List (Nat×Σ t:Ty,t.De)}{K:List Con}(h:Qfv P gl c)(hr:Gd.Runs P c.f)(hk:Q1c P gl K):Q1c P gl (c::K):=fun d hd=>by
 rcases QX.1 hd with rfl | hd
 ·exact⟨h,hr⟩
 ·exact hk d hd
end Gx

/- The rest of the state set aside; objects that are no cells; pieces of code in a round. -/
namespace Gx
open Go Go.RowKit Gd
set_option linter.unusedVariables false
set_option linter.unusedSimpArgs false
section
variable {P:Program} {Y:TX} {X:Cx} {β β':Nat→Nat} {ρ ρ':Nat→Value} {S S':St} {a a':Act} {w w':World}
noncomputable def reX(X:Cx)(β:Nat→Nat)(ρ:Nat→Value)(M:List (Nat×Ob))(w:World):Cx :=
 { cxL (Xq w.heap.size (Qf β ρ M)) X.n (okR X β ρ M w) w with dfs:=X.dfs }
theorem Zp{n:Nat}{O:List TL}{g:Nat}:g∈Xq n O↔g<n∧∃t∈O,t.blks g:=by
 unfold Xq
 rw[JU,JT]
 simp only[decide_eq_true_eq]
theorem Jpj{M:List (Nat×Ob)}(hV:Vd M=true):∀t∈Qf β ρ M,∀b o,t.blks b→t.cov b o:=fun t ht b o hb=>by
 obtain⟨q,hq,rfl⟩:=QY.1 ht
 exact T6 hV hq hb
theorem Qxm{gl:List (Nat×Σ t:Ty,t.De)}(hG:Vr gl (okN X) X.w)(h:Rel X β ρ S a w)(hV:Vd S.mem=true) :
    Rel (reX X β ρ S.mem w) β ρ S a w∧Vr gl (okN (reX X β ρ S.mem w)) (reX X β ρ S.mem w).w:=by
  have hL1:∀t∈Qf β ρ S.mem,∀g,t.blks g→g∈Xq w.heap.size (Qf β ρ S.mem):=fun t ht g hg=>Zp.2 ⟨h.olt ht hg,t,ht,hg⟩
  have hk:∀b f,Je X.ok X.w.heap.size (fun _=>0) [] (Qf β ρ S.mem) w b f→Je (okL (Xq w.heap.size (Qf β ρ S.mem)) (Je X.ok X.w.heap.size (fun _=>0) [] (Qf β ρ S.mem) w)) w.heap.size (fun _=>0) [] (Qf β ρ S.mem) w b f :=
    fun b f hbo=>⟨.inl (.inl hbo),hbo.2.1,by simp,fun t ht hc=>hbo.2.2.2 t ht hc⟩
  refine⟨?_,?_⟩
  · exact { sz:=h.sz,df:=h.df,fr:=by simp[reX],pn:=by simp[reX],tm:=by simp,bel:=Uc.refl _ _ _,obj:=by simp,dHH:=by simp,dHO:=by simp,
            dat:=Jf.2 fun x hx=>by
              obtain⟨e,he,rfl⟩:=QY.1 hx
              exact(enD β ρ a e).weak (Jf.1 h.dat _ (QY.2 ⟨e,he,rfl⟩)) hk,
            own:=fun t ht=>⟨t.weak (h.own t ht).1 hk,fun g hg=>.inr (hL1 t ht g hg)⟩,
            dOO:=h.dOO }
  · exact(Lq h hG).weak fun b f hbo=>⟨.inl hbo,fun hbl=>by
      obtain⟨_,t,ht,hg⟩:=Zp.1 hbl
      exact hbo.2.2.2 t ht (Jpj hV t ht b f hg),hbo.2.1⟩
theorem Qxn(h:Rel X β ρ S a w)(hV:Vd S.mem=true)(hr:X.res=[])(hp:X.pin=none)(hR:Rel (reX X β ρ S.mem w) β' ρ' S' a' w'):Rel X β' ρ' S' a' w':=by
 have hL2:∀g∈Xq w.heap.size (Qf β ρ S.mem),∃t∈Qf β ρ S.mem,t.blks g:=fun g hg=>(Zp.1 hg).2
 have hS:Sb (fun _=>0) X [] (S.env.map (enD β ρ a)) [] (Qf β ρ S.mem++[]) a w:=by rw[QR]; exact h
 have eo:Je X.ok X.w.heap.size (fun _=>0) [] (Qf β ρ S.mem++[]) w=Je X.ok X.w.heap.size (fun _=>0) [] (Qf β ρ S.mem) w:=by rw[QR]
 have hC:=Sb.callO (O1':=Qf β' ρ' S'.mem) (w':=w') (L:=Xq w.heap.size (Qf β ρ S.mem)) hS hR.bel hL2 (Jpj hV) (fun t ht=>⟨by rw[eo]; exact(hR.own t ht).1,fun g hg=>(hR.own t ht).2 g hg⟩) hR.dOO
 rw[QR]at hC
 have hC3:Sb (fun _=>0) X [] [] [] (Qf β' ρ' S'.mem) a' w' :=
  { sz:=hR.sz,df:=hR.df,fr:=by rw[hr]; simp,pn:=by rw[hp]; simp,tm:=by simp,bel:=hC.bel,dat:=trivial,obj:=by simp,own:=hC.own,dHH:=by simp,dHO:=by simp,dOO:=hC.dOO }
 refine Rel.ofSb hC3 rfl fun e he=>?_
 have h1:=Jf.1 hR.dat _ (QY.2 ⟨e,he,rfl⟩)
 refine(enD β' ρ' a' e).weak h1 fun b f hbf=>?_
 have h2:=Ru (O1':=Qf β' ρ' S'.mem) hS hR.bel.size hL2 b f (by rw[eo]; exact hbf)
 rw[QR]at h2
 exact h2
theorem Qxo{e sz:Nat}{v:Value}{n:Nat}{xs:List Value}(h:w.ownsRowS 0 e sz v n xs){g:Nat}(hg:v.ownBlock=some g):∃o:Obj,w.heap[g]?=some o∧(o.isCells=true∨∃es c,o=.map es c):=by
 rcases h.2 with⟨rfl,_⟩ | ⟨g',cap,cur,fz,rfl,_,hh,_⟩
 ·cases hg
 ·have hg:some g'=some g:=hg
  injection hg with hg; subst hg
  exact⟨_,hh,.inl rfl⟩
theorem Quu{κ:Type}{c:CK}{hole:Option κ}{hv:Value}{ok:Ok}:∀{xs:List (κ×c.ty.De)} {ys:List (κ×Value)} {vs:List Value},B7 c hole hv ok w xs ys vs→∀v∈vs,∀g,Kb v=some g→∃o:Obj,w.heap[g]?=some o∧(o.isCells=true∨∃es c,o=.map es c)
 | [],[],[],h=>by simp
 | x::xs,y0::ys,v::vs,⟨h1,h3,h4⟩=>by
  intro y hy g hg
  rcases QX.1 hy with rfl | hy
  ·rcases h3 with⟨_,rfl,_⟩ | ⟨_,_,h3⟩
   ·cases hg
   ·cases c with
    | sl e u =>
     obtain⟨_,cs,h3,_⟩:=h3
     exact Qxo h3 ((Qch h3).2 hg)
    | mp k v =>
     obtain⟨g',rfl,es,c,h1,_⟩:=h3
     injection hg with hg
     subst hg
     exact⟨_,h1,.inr ⟨_,_,rfl⟩⟩
  ·exact Quu h4 y hy g hg
 | [],[],_::_,h=>h.elim
 | [],_::_,_,h=>h.elim
 | _::_,[],_,h=>h.elim
 | _::_,_::_,[],h=>h.elim
theorem Jgm{ok:Ok}{id:Nat}{o:Ob}(h:(Qw β ρ id o).p ok w){g:Nat}(hg:(Qw β ρ id o).blks g):∃o:Obj,w.heap[g]?=some o∧(o.isCells=true∨∃es c,o=.map es c):=by
 cases o with
 | var tid c =>
  obtain⟨cs,h1,_⟩:=h
  have hg:g=β id:=hg
  subst hg
  exact⟨_,h1,.inl rfl⟩
 | row e t xs =>
  obtain⟨_,cs,h1,_⟩:=h
  exact Qxo h1 hg
 | tail e t xs =>
  obtain⟨_,ys,h1⟩:=h
  exact Qxo h1 hg
 | map k v xs =>
  obtain⟨es,c,h1,_⟩:=h
  have hg:g=β id:=hg
  subst hg
  exact⟨_,h1,.inr ⟨_,_,rfl⟩⟩
 | mapC k v xs hole =>
  obtain⟨ys,⟨es,c,h1,_⟩,h2,_⟩:=h
  rcases hg with hg | ⟨v,hv,hg⟩
  ·subst hg; exact⟨_,h1,.inr ⟨_,_,rfl⟩⟩
  ·exact Quu h2 v hv g hg
 | mapE k v xs key j =>
  obtain⟨es,c,h1,_⟩:=h
  have hg:g=β id:=hg
  subst hg
  exact⟨_,h1,.inr ⟨_,_,rfl⟩⟩
theorem Rel.notOwn(h:Rel X β ρ S a w){g:Nat}{o:Obj}(ho:w.heap[g]?=some o)(hc:o.isCells=false)(hm:∀es c,o≠.map es c):∀t∈Qf β ρ S.mem,¬ t.blks g:=fun t ht hg=>by
 obtain⟨q,hq,rfl⟩:=QY.1 ht
 obtain⟨o',h1,h2⟩:=Jgm (h.own _ ht).1 hg
 rw[ho]at h1
 injection h1 with h1; subst h1
 rcases h2 with h2 | ⟨es,c,h2⟩
 ·rw[hc]at h2; cases h2
 ·exact hm _ _ h2
theorem Quv{g o:Nat}{ob:Obj}(h:w.heap[g]?=some ob)(hc:ob.isCells=false):w.cell? ⟨g,o,none⟩=none:=by
 unfold World.cell?
 cases ob<;>simp_all [Obj.isCells]
theorem Rel.turn(h:Rel X β ρ S a w){g:Nat}{o o':Obj}(hB:X.w.heap.size≤g)(ho:w.heap[g]?=some o)(hc:o.isCells=false)(hm:∀es c,o≠.map es c)(hc':o'.isCells=false):Rel X β ρ S a (w.putObj g o'):=by
  have hn:=h.notOwn ho hc hm
  have hsame:∀b,b≠g→(w.putObj g o').heap[b]?=w.heap[b]?:=fun b hb=>World.putObj_heap_other hb
  have hlt:=(ZO.1 ho).1
  have hevo:Evo (Je X.ok X.w.heap.size (fun _=>0) [] (Qf β ρ S.mem) w) w (w.putObj g o') :=
    ⟨by simp,fun b f _=>by
      by_cases e:b=g
      · subst e
        rw[Quv ho hc,Quv (World.putObj_heap_same hlt) hc']
      · exact World.cell?_of_block (w:=w) (hsame b e),fun b es c _ hb=>by
      have hne:b≠g:=fun e=>by subst e; rw[ho]at hb; injection hb with hb; exact hm _ _ hb
      rw[hsame b hne]; exact hb⟩
  have hok:∀b f,Je X.ok X.w.heap.size (fun _=>0) [] (Qf β ρ S.mem) w b f→Je X.ok X.w.heap.size (fun _=>0) [] (Qf β ρ S.mem) (w.putObj g o') b f:=fun b f ⟨h1,h2,h3,h4⟩=>⟨h1,by simpa using h2,h3,h4⟩
  exact { sz:=h.sz,df:=h.df,fr:=h.fr,pn:=h.pn,tm:=h.tm,bel:=h.bel.trans ⟨rfl,rfl,rfl,by simp,fun k hk _=>hsame k (by omega)⟩,dat:=(h.dat.evo hevo).weak hok,obj:=by simp,
          own:=fun t ht=>⟨t.weak (t.keep (h.own t ht).1 (fun b hb=>hsame b fun e=>hn t ht (e▸hb)) hevo) hok,(h.own t ht).2⟩,dHH:=by simp,dHO:=by simp,dOO:=h.dOO }
theorem Rel.withD(h:Rel X β ρ S a w)(ds:List Deferred):Rel { X with dfs:=ds } β ρ S { a with defers:=ds } w :=
 { sz:=h.sz,df:=rfl,fr:=h.fr,pn:=h.pn,tm:=h.tm,bel:=h.bel,dat:=h.dat,obj:=h.obj,own:=h.own,dHH:=h.dHH,dHO:=h.dHO,dOO:=h.dOO }
end
def Ie(ds:List Nat)(a a':Act):Prop:=∀t,t∉ds→a'.tmps[t]?=a.tmps[t]?
theorem Ie.put{ds:List Nat}{a0 a:Act}(h:Ie ds a0 a){o:Option Nat}(ho:∀d,o=some d→d∈ds)(v:Value):Ie ds a0 (a.put o v):=fun t ht=>by
 cases o with
 | none=>exact h t ht
 | some d=>rw[Y5 (fun e=>ht (by subst e; exact ho _ rfl))]; exact h t ht
abbrev Qfx(ro:Option Nat):Fence:={ Fence.wide with round:=ro }
def QL(ds:List Nat)(a0:Act)(Z:Act→World→Prop)(Q:Exit→Act→World→Prop):Exit→Act→World→Prop
 | .normal,a',w'=>Ie ds a0 a'→Z a' w'
 | e,a',w'=>Q e a' w'
def QS(ds:List Nat)(a0:Act)(Q:Exit→Act→World→Prop):Exit→Act→World→Prop:=QL ds a0 (Q .normal) Q
def T7:List Oper→Bool
 | []=>true
 | o::l=>(match o.op with
  | .defer _=>false
  | _=>true)&&T7 l
def K4:List Oper→List Nat
 | []=>[]
 | o::l=>match o.dst with
  | some d=>d::K4 l
  | none=>K4 l
theorem Qxp{P:Program}{row:String}{args:Array Value}{w:World}{R:Value→World→Prop}(ro:Option Nat)(m:Nat)(h:Rows P row args w R):RowsIn (Qfx ro) m P row args w R :=
 fun c cs _=>let⟨v,w',r,s⟩:=h c cs; ⟨v,w',r,(stepsIn_wide.2 s:StepsIn (Machine.fenced P Fence.wide) P _ _)⟩
theorem Qsx{P:Program}{f:FuncId}{args:Array Value}{w:World}{R:Ending→World→Prop}(ro:Option Nat)(m:Nat)(h:Calls P f args w R):CallsIn (Qfx ro) m P f args w R:=(callsIn_wide.2 h:CallsIn Fence.wide m P f args w R)
theorem Qkm{P:Program}{ops:Array Oper}{Q:Exit→Act→World→Prop}{ro:Option Nat}{m:Nat}{ds:List Nat}{a0:Act}{Z:Act→World→Prop}{tl:List Oper}(hQ:¬ LetsOut Q)(hZ:∀a w,Z a w→wpListIn (Qfx ro) m P ops Q tl a w):∀(os:List Oper),T7 os=true→(∀d∈K4 os,d∈ds)→∀(a:Act) (w:World),Ie ds a0 a→wpList P ops (QL ds a0 Z Q) os a w→wpListIn (Qfx ro) m P ops Q (os++tl) a w
 | [],_,_,a,w,hs,h=>hZ a w (h hs)
 | o::os,hn,hd,a,w,hs,h=>by
  simp only[T7,QQ]at hn
  have hod:∀d,o.dst=some d→d∈ds:=fun d e=>hd d (by simp[K4,e])
  have hd2:∀d∈K4 os,d∈ds:=fun d hm=>hd d (by unfold K4; split<;>first | exact .tail _ hm | exact hm)
  have ih:∀(a:Act) (w:World),Ie ds a0 a→wpList P ops (QL ds a0 Z Q) os a w→wpListIn (Qfx ro) m P ops Q (os++tl) a w:=fun a w=>Qkm hQ hZ os hn.2 hd2 a w
  unfold wpList at h
  rw[QA]
  unfold wpListIn
  split at h
  ·rename_i hw
   rw[if_pos hw]
   refine⟨fun _ _=>trivial,?_⟩
   have hnd:∀c,o.op≠.defer c:=fun c hc=>by
    have:=hn.1
    rw[hc]at this; cases this
   have hsem:Oper.semAt (Qfx ro).round a.eval o=execOp a.eval o:=by
    cases ro with
    | none=>exact Oper.semAt_none _ _
    | some l=>exact Oper.semAt_some l _ o hnd
   rw[hsem]
   rcases h with h | ⟨_,h⟩
   ·unfold Oper.wp at h
    cases hr:(execOp a.eval o).run P w with
    | ok nx w' =>
     rw[hr]at h
     cases nx with
     | value v=>exact ih _ _ (hs.put hod v) h
     | skip=>exact ih _ _ (hs.put hod undef) h
     | defer d=>exact ih _ _ (Ie.put (a:={ a with defers:=d::a.defers }) hs hod undef) h
     | enter f args =>
      refine⟨fun hd=>(by have h0:(Qfx ro).depth.isSome=false:=rfl; rw[h0]at hd; cases hd),?_⟩
      refine Qsx ro _ (Calls.mono h fun e w' he=>?_)
      cases e with
      | returned v=>exact ih _ _ (hs.put hod v) he
      | panicked c=>exact he
      | outgrown=>exact he
     | row rw' args =>
      exact⟨fun hd=>(by have h0:(Qfx ro).depth.isSome=false:=rfl; rw[h0]at hd; cases hd),Qxp ro _ (Rows.mono h fun v w' hv=>ih _ _ (hs.put hod v) hv)⟩
     | _=>exact h.elim
    | halt hl w' =>
     rw[hr]at h
     cases hl with
     | panic v=>exact h
     | _=>exact h.elim
   ·exact absurd (show LetsOut Q from h) hQ
  ·rename_i hw
   rw[if_neg hw]
   exact⟨fun _ _=>trivial,ih _ _ (hs.put hod undef) h⟩
theorem Quw{P:Program}{ops:Array Oper}{Q:Exit→Act→World→Prop}{ro:Option Nat}{m:Nat}{ds:List Nat}{a0:Act}(hQ:¬ LetsOut Q)(os:List Oper)(hn:T7 os=true)(hd:∀d∈K4 os,d∈ds)(a:Act)(w:World)(hs:Ie ds a0 a)(h:wpList P ops (QS ds a0 Q) os a w):wpListIn (Qfx ro) m P ops Q os a w:=by
 have:=Qkm (ro:=ro) (m:=m) (Z:=Q .normal) (tl:=[]) hQ (fun a w hz=>hz) os hn hd a w hs h
 rwa[QR]at this
def rb:An→Code→Bool
 | .nil,.skip=>true
 | .reg _,.region _ ⟨ops⟩ false=>T7 ops
 | .two a b,.seq x y=>rb a x&&rb b y
 | .two a b,.cond _ x y=>rb a x&&rb b y
 | .un a,.block _ c=>rb a c
 | .gh _ a,c=>rb a c
 | _,_=>false
def Zk:Code→List Nat
 | .region _ ⟨ops⟩ _=>K4 ops
 | .seq x y=>Zk x++Zk y
 | .cond _ x y=>Zk x++Zk y
 | .block _ c=>Zk c
 | _=>[]
section
variable {P:Program} {Y:TX} {X:Cx} {n N:Nat} {K:List Con}
theorem N9(hT:Q4 P Y.T)(hmix:P.follows .mixedOrders=true)(hK:KsX P Y X K)(hX:X.n=n)(hr:X.res=[])(hpin:X.pin=none){ro:Option Nat}{m:Nat}{ds:List Nat}{a0:Act}:∀{R:Type} {r:R} (an:An) {c:Code} {S:XS} {β:Nat→Nat} {ρ:Nat→Value} {a:Act} {w:World} {k:Ex→XS→Option R} {Q:Exit→Act→World→Prop},
  rb an c=true→¬ LetsOut Q→(∀d∈Zk c,d∈ds)→Ie ds a0 a→Rel X β ρ S.flat a w→Zj Y K n N an c S k=some r →
  (∀(e:Ex) (β':Nat→Nat) (ρ':Nat→Value) (S':XS) (a':Act) (w':World),k e S'=some r→Y4 S S' β β' ρ ρ'→Rel X β' ρ' S'.flat a' w'→Ie ds a0 a'→Q e.exit a' w')→c.wpIn (Qfx ro) m P Q a w
 | R,r,.nil,c,S,β,ρ,a,w,k,Q,hb,hQ,hd,ha,h,hs,H=>by
  cases c<;>first | (cases hb; done) | skip
  simp only[Zj]at hs
  exact wpIn_skip (H .n β ρ S a w hs (Y4.refl _ _ _) h ha)
 | R,r,.reg hn,c,S,β,ρ,a,w,k,Q,hb,hQ,hd,ha,h,hs,H=>by
  cases c with
  | region id ops draw =>
   obtain⟨ops⟩:=ops
   cases draw with
   | true=>cases hb
   | false =>
    simp only[Zj]at hs
    refine wpIn_region_list ?_
    have:=Y3 hT hK hX hr (Q:=QS ds a0 Q) hn (l:=ops) (rest:=[]) h hs fun β' ρ' S' a' w' h1 h2 h3=>fun hsame=>H .n β' ρ' S' a' w' h1 h2 h3 hsame
    rw[QR]at this
    exact Quw hQ ops hb hd a w ha this
  | _=>cases hb
 | R,r,.two x y,c,S,β,ρ,a,w,k,Q,hb,hQ,hd,ha,h,hs,H=>by
  cases c<;>first | (cases hb; done) | skip
  ·rename_i c1 c2
   simp only[Zj]at hs
   simp only[rb,QQ]at hb
   refine wpIn_seq (N9 hT hmix hK hX hr hpin x hb.1 hQ (fun d hm=>hd d (QZ _ hm)) ha h hs fun e β' ρ' S' a' w' h1 h2 h3 h4=>?_)
   cases e with
   | n=>exact N9 hT hmix hK hX hr hpin y hb.2 hQ (fun d hm=>hd d (QV _ hm)) h4 h3 h1 fun e β2 ρ2 S2 a2 w2 q1 q2 q3 q4=>H e β2 ρ2 S2 a2 w2 q1 (h2.trans q2) q3 q4
   | x i=>exact H (.x i) β' ρ' S' a' w' h1 h2 h3 h4
   | r=>exact H .r β' ρ' S' a' w' h1 h2 h3 h4
  ·rename_i co c1 c2
   simp only[Zj]at hs
   simp only[rb,QQ]at hb
   split at hs
   ·rename_i v hv
    obtain⟨cs,h1,h2⟩:=h.ev (Qc a) hv
    have h2':cs=_:=h2
    subst h2'
    have h1':a.eval co=.bool v:=h1
    refine wpIn_cond h1' ?_
    cases v with
    | true =>
     rw[if_pos rfl]at hs ⊢
     exact N9 hT hmix hK hX hr hpin x hb.1 hQ (fun d hm=>hd d (QZ _ hm)) ha h hs H
    | false =>
     rw[if_neg (by simp)]at hs ⊢
     exact N9 hT hmix hK hX hr hpin y hb.2 hQ (fun d hm=>hd d (QV _ hm)) ha h hs H
   ·cases hs
 | R,r,.un x,c,S,β,ρ,a,w,k,Q,hb,hQ,hd,ha,h,hs,H=>by
  cases c<;>first | (cases hb; done) | skip
  rename_i id c1
  simp only[Zj]at hs
  have hQ2:¬ LetsOut (Exit.inBlock id Q):=hQ
  refine wpIn_block (N9 hT hmix hK hX hr hpin x hb hQ2 hd ha h hs fun e β' ρ' S' a' w' h1 h2 h3 h4=>?_)
  cases e with
  | n=>exact H .n β' ρ' S' a' w' h1 h2 h3 h4
  | x i =>
   simp only at h1
   show if i=id then Q .normal a' w' else Q (.exit i) a' w'
   cases hb:Nat.beq i id with
   | true =>
    rw[hb]at h1
    rw[if_pos (QJ hb)]
    exact H .n β' ρ' S' a' w' h1 h2 h3 h4
   | false =>
    rw[hb]at h1
    rw[if_neg (fun e=>by rw[e,JY]at hb; cases hb)]
    exact H (.x i) β' ρ' S' a' w' h1 h2 h3 h4
  | r=>exact H .r β' ρ' S' a' w' h1 h2 h3 h4
 | R,r,.gh g x,c,S,β,ρ,a,w,k,Q,hb,hQ,hd,ha,h,hs,H=>by
  simp only[Zj]at hs
  obtain⟨S1,β1,ρ1,q1,q2,q3⟩:=T4 g h hs
  have hb':rb x c=true:=by cases c<;>exact hb
  exact N9 hT hmix hK hX hr hpin x hb' hQ hd ha q3 q1 fun e β2 ρ2 S2 a2 w2 p1 p2 p3 p4=>H e β2 ρ2 S2 a2 w2 p1 (q2.trans p2) p3 p4
 | R,r,.dr _ _ _,c,S,β,ρ,a,w,k,Q,hb,hQ,hd,ha,h,hs,H=>by cases c<;>cases hb
 | R,r,.dc _ _ _ _ _,c,S,β,ρ,a,w,k,Q,hb,hQ,hd,ha,h,hs,H=>by cases c<;>cases hb
 | R,r,.cn _ _ _,c,S,β,ρ,a,w,k,Q,hb,hQ,hd,ha,h,hs,H=>by cases c<;>cases hb
 | R,r,.ch _ _ _ _,c,S,β,ρ,a,w,k,Q,hb,hQ,hd,ha,h,hs,H=>by cases c<;>cases hb
 | R,r,.lp _ _ _ _ _,c,S,β,ρ,a,w,k,Q,hb,hQ,hd,ha,h,hs,H=>by cases c<;>cases hb
 | R,r,.jn _ _ _ _,c,S,β,ρ,a,w,k,Q,hb,hQ,hd,ha,h,hs,H=>by cases c<;>cases hb
end
end Gx

/- A range over a function. -/
namespace Gx
open Go Go.RowKit Gd
set_option linter.unusedVariables false
set_option linter.unusedSimpArgs false
structure It where
 f:FuncId
 cs:List Ty
 u:Ty
 fn:Tup cs→Option (List u.De)
def Jb1(ok:Ok)(w:World):List DV→List Nat→Prop
 | [],[]=>True
 | v::l,b::bs=>(∃tid cs,w.heap[b]?=some (.cells cs.toArray tid (0,0))∧(rt v.1).rep ok w v.2 cs)∧Jb1 ok w l bs
 | _,_=>False
def Qxq(b:Nat):Value:=.pointer (some ⟨b,0,none⟩)
def okC(ok:Ok)(w A:World)(O:Nat→Prop)(bs:List Nat):Ok:=fun b o=>(ok b o∨w.heap.size≤b∨b∈bs)∧b<A.heap.size∧¬ O b
def Jb2(P:Program)(gl:List (Nat×Σ t:Ty,t.De))(it:It):Prop :=
 ∀(ok:Ok) (w:World) (bs:List Nat) (x:Tup it.cs) (es:List it.u.De),(∀b o,ok b o→b<w.heap.size)→Vr gl ok w→it.fn x=some es→Jb1 ok w (toL it.cs x) bs→bs.Nodup→(∀b∈bs,∀o,¬ ok b o) →
   ∀(l:Nat) (J:Nat→(Nat→Prop)→World→Prop) (W:World) (O0:Nat→Prop),Below w.heap.size w W→(∀k O A B,J k O A→Below A.heap.size A B→J k O B)→(∀k O A,J k O A→∀b,O b→b<A.heap.size∧(∀o,¬ ok b o)∧b∉bs) →
    (∀k O A e v,J k O A→es[k]?=some e→isV (rt it.u) (okC ok w A O bs) A e v→∀m,YieldAt Fence.wide m P l #[v] A fun r B=>r=.returned (.bool true) ∧
     ∃O',J (k+1) O' B∧(∀b,O' b→O b∨A.heap.size≤b)∧A.heap.size≤B.heap.size∧∀b,b<A.heap.size→¬ O b→B.heap[b]?=A.heap[b]?)→J 0 O0 W →
    ∀m,CallsIn Fence.wide m P it.f (#[.func (.yield l) #[] #[]]++(bs.map Qxq).toArray) W fun e B=>(∃v,e=.returned v)∧∃O,J es.length O B
def Qxr(M:List (Nat×Ob)):AV→Option (List (Nat×DV))
 | .nil=>some []
 | .cons (.p id []) r=>match Qe M id,Qxr M r with
  | some (.var _ (.d t x)),some l=>some ((id,⟨t,x⟩)::l)
  | _,_=>none
 | _=>none
def Qmf{σ α:Type}(f:σ→α→Option σ):List α→σ→Option σ
 | [],s=>some s
 | x::l,s=>(f s x).bind fun s'=>Qmf f l s'
inductive AnR where
 | pre (a:An) (r:AnR)
 | inn (r:AnR) (b:An)
 | un (r:AnR)
 | rf (it:Nat) (ks ms:List Nat) (Γ:Shp) (a b:An)
def Qmg(ids:List Nat)(M:List (Nat×Ob)):List (Nat×Ob):=M.filter fun q=>!Ya ids q.1
section
variable (Y:TX) (K:List Con) (n N:Nat)
noncomputable def rdR(Γ:Shp){u:Ty}(S1:XS)(p:Nat)(aA aB:An)(A B:Code)(s:Γ.De)(e:u.De):Option Γ.De :=
 bif Vd (S1.re (enc Γ s)).flat.mem then
  Zj Y K n N aA A ((S1.re (enc Γ s)).put p [] (.d u e)) fun ex S2=>match ex with
   | .n=>bif Vd S2.flat.mem then(Zj Y K n N aB B S2 fun ex2 S3=>match ex2 with
    | .n=>S3.dec Γ
    | _=>none)else none
   | _=>none
 else none
def rfS(S:XS)(ids ks ms:List Nat):XS:=XS.ent { S with mem:=Qmg ids S.mem } ks ms
noncomputable def Qgr{R:Type}(its:List It):AnR→Code→XS→(Ex→XS→Option R)→Option R
 | .pre a r,.seq x y,S,k=>Zj Y K n N a x S fun e S'=>match e with
  | .n=>Qgr its r y S' k
  | _=>none
 | .inn r b,.seq x y,S,k=>Qgr its r x S fun e S'=>match e with
  | .n=>bif Vd S'.flat.mem then Zj Y K n N b y S' k else none
  | _=>none
 | .un r,.block _ c,S,k=>Qgr its r c S fun e S'=>match e with
  | .n=>k .n S'
  | _=>none
 | .rf i ks ms Γ aA aB,.rangeFunc (.tmp g) ⟨[p]⟩ A B,S,k=>match its[i]?,S.ev [] (.tmp g)with
  | some it,some (.f gf caps)=>match Qxr S.mem caps with
   | some bl=>match ofL it.cs (bl.map Prod.snd)with
    | some x=>bif Nat.beq it.f gf&&(rb aA A&&rb aB B)&&((p::(Zk A++Zk B)).all fun d=>Nv d (rfS S (bl.map Prod.fst) ks ms).fix)&&Jfq Γ.env&&okW n (rfS S (bl.map Prod.fst) ks ms) p&&L4 (bl.map Prod.fst) &&
       Vd (rfS S (bl.map Prod.fst) ks ms).flat.mem then
      (it.fn x).bind fun es=>match (rfS S (bl.map Prod.fst) ks ms).dec Γ with
       | some s0=>(Qmf (rdR Y K n N Γ (u:=it.u) (rfS S (bl.map Prod.fst) ks ms) p aA aB A B) es s0).bind fun s=>k .n (XS.out { S with mem:=Qmg (bl.map Prod.fst) S.mem } ks ms (enc Γ s))
       | none=>none else none
    | none=>none
   | none=>none
  | _,_=>none
 | _,_,_,_=>none
end
theorem Q57{α:Type}{R:α→α→Prop}(hs:∀a b,R a b→R b a):∀{l:List α},l.Pairwise R→∀x∈l,∀y∈l,x=y∨R x y
 | [],_,x,hx,_,_=>by cases hx
 | z::l,h,x,hx,y,hy=>by
  have h':=QG.1 h
  rcases QX.1 hx with h1 | h1
  ·rcases QX.1 hy with h2 | h2
   ·exact .inl (h1.trans h2.symm)
   ·exact .inr (h1▸h'.1 y h2)
  ·rcases QX.1 hy with h2 | h2
   ·exact .inr (hs _ _ (h2▸h'.1 x h1))
   ·exact Q57 hs h'.2 x h1 y h2
theorem R4:∀{l:List (Nat×Ob)} {t:Nat} {o:Ob},Qe l t=some o→(t,o)∈l
 | q::l,t,o,h=>by
  simp only[Qe]at h
  cases hb:Nat.beq q.1 t with
  | true =>
   rw[hb]at h
   simp at h
   have:=QJ hb
   subst h; subst this
   exact .head _
  | false =>
   rw[hb]at h
   exact .tail _ (R4 h)
section
variable {P:Program} {Y:TX} {X:Cx} {n N:Nat} {K:List Con} {β β':Nat→Nat} {ρ ρ':Nat→Value} {a a':Act} {w w':World} {S:XS}
theorem Rel.filterM{env:List En}{M F:List (Nat×Ob)}{ids:List Nat}(h:Rel X β ρ ⟨env,M++F⟩ a w):Rel X β ρ ⟨env,Qmg ids M++F⟩ a w:=by
 have hsub:(Qf β ρ (Qmg ids M++F)).Sublist (Qf β ρ (M++F)):=List.Sublist.map _ (List.Sublist.append_right List.filter_sublist _)
 exact Sb.remake h (fun t' ht'=>.inl ⟨t',hsub.subset ht',fun _ hg=>hg,fun _ _ hc=>hc,(h.own t' (hsub.subset ht')).1⟩) (h.dOO.sublist hsub)
theorem Qux{ok:Ok}{M:List (Nat×Ob)}:∀{caps:AV} {vs:List Value} {bl:List (Nat×DV)},cr β ρ ok w true caps vs→Qxr M caps=some bl→vs=(bl.map fun q=>β q.1).map Qxq
 | .nil,vs,bl,h,hb=>by
  simp only[Qxr,Option.some.injEq]at hb
  subst hb
  exact h
 | .cons x r,vs,bl,h,hb=>by
  obtain⟨c1,us,rfl,h1,h2⟩:=h
  unfold Qxr at hb
  split at hb
  ·rename_i e; cases e
  ·rename_i id r' e
   injection e with e1 e2
   subst e1; subst e2
   split at hb
   ·rename_i tid t x l q1 q2
    simp only[Option.some.injEq]at hb
    subst hb
    have h1':c1=_:=h1
    subst h1'
    rw[Qux h2 q2]
    rfl
   ·cases hb
  ·cases hb
 | .d _ _,_,_,_,hb=>by cases hb
 | .p _ _,_,_,_,hb=>by cases hb
 | .e _ _,_,_,_,hb=>by cases hb
 | .s _,_,_,_,hb=>by cases hb
 | .m _,_,_,_,hb=>by cases hb
 | .b _,_,_,_,hb=>by cases hb
 | .w _ _ _,_,_,_,hb=>by cases hb
 | .a _ _,_,_,_,hb=>by cases hb
 | .z,_,_,_,hb=>by cases hb
 | .ns,_,_,_,hb=>by cases hb
 | .np,_,_,_,hb=>by cases hb
 | .nm,_,_,_,hb=>by cases hb
 | .nf,_,_,_,hb=>by cases hb
 | .f _ _,_,_,_,hb=>by cases hb
 | .ag _,_,_,_,hb=>by cases hb
 | .tp _,_,_,_,hb=>by cases hb
theorem Quy{M:List (Nat×Ob)}:∀{caps:AV} {bl:List (Nat×DV)},Qxr M caps=some bl→∀q∈bl,∃tid,Qe M q.1=some (.var tid (.d q.2.1 q.2.2))
 | .nil,bl,hb=>by
  simp only[Qxr,Option.some.injEq]at hb
  subst hb; simp
 | .cons x r,bl,hb=>by
  unfold Qxr at hb
  split at hb
  ·rename_i e; cases e
  ·rename_i id r' e
   injection e with e1 e2
   subst e1; subst e2
   split at hb
   ·rename_i tid t x l q1 q2
    simp only[Option.some.injEq]at hb
    subst hb
    intro q hq
    rcases QX.1 hq with rfl | hq
    ·exact⟨tid,q1⟩
    ·exact Quy q2 q hq
   ·cases hb
  ·cases hb
 | .d _ _,_,hb=>by cases hb
 | .p _ _,_,hb=>by cases hb
 | .e _ _,_,hb=>by cases hb
 | .s _,_,hb=>by cases hb
 | .m _,_,hb=>by cases hb
 | .b _,_,hb=>by cases hb
 | .w _ _ _,_,hb=>by cases hb
 | .a _ _,_,hb=>by cases hb
 | .z,_,hb=>by cases hb
 | .ns,_,hb=>by cases hb
 | .np,_,hb=>by cases hb
 | .nm,_,hb=>by cases hb
 | .nf,_,hb=>by cases hb
 | .f _ _,_,hb=>by cases hb
 | .ag _,_,hb=>by cases hb
 | .tp _,_,hb=>by cases hb
theorem Q8r{ok:Ok}:∀{bl:List (Nat×DV)},(∀q∈bl,∃tid cs,w.heap[β q.1]?=some (.cells cs.toArray tid (0,0))∧(rt q.2.1).rep ok w q.2.2 cs)→Jb1 ok w (bl.map Prod.snd) (bl.map fun q=>β q.1)
 | [],_=>trivial
 | q::bl,h=>⟨h q (.head _),Q8r fun x hx=>h x (.tail _ hx)⟩
theorem Jq0(hT:Q4 P Y.T)(hmix:P.follows .mixedOrders=true)(hK:KsX P Y X K)(hX:X.n=n)(hr:X.res=[])(hpin:X.pin=none)(hdf:X.dfs=[]){it:It}(hit:Jb2 P Y.gl it)(hrun:Runs P it.f)
  {g p m:Nat} {A B:Code} {ks ms:List Nat} {Γ:Shp} {aA aB:An} {caps:AV} {bl:List (Nat×DV)} {x:Tup it.cs} {es:List it.u.De} {s0 sE:Γ.De} {Q:Exit→Act→World→Prop}
  (h:Rel X β ρ S.flat a w) (hg:S.ev [] (.tmp g)=some (.f it.f caps)) (hbl:Qxr S.mem caps=some bl) (hx:ofL it.cs (bl.map Prod.snd)=some x) (hbA:rb aA A=true) (hbB:rb aB B=true)
  (hoff:∀d∈p::(Zk A++Zk B),Nv d (rfS S (bl.map Prod.fst) ks ms).fix=true) (hΓ:Γ.env=[]) (hp:okW n (rfS S (bl.map Prod.fst) ks ms) p=true) (hV:Vd (rfS S (bl.map Prod.fst) ks ms).flat.mem=true) (hndB:L4 (bl.map Prod.fst)=true)
  (hes:it.fn x=some es) (hs0:(rfS S (bl.map Prod.fst) ks ms).dec Γ=some s0) (hfold:Qmf (rdR Y K n N Γ (u:=it.u) (rfS S (bl.map Prod.fst) ks ms) p aA aB A B) es s0=some sE)
  (H:∀(β':Nat→Nat) (ρ':Nat→Value) (w':World) (D:Nat),agP S.prot β β' ρ ρ'→Rel { X with dfs:=[⟨.collected D,#[]⟩] } β' ρ' (XS.out { S with mem:=Qmg (bl.map Prod.fst) S.mem } ks ms (enc Γ sE)).flat { a with defers:=[⟨.collected D,#[]⟩] } w' →
   w'.heap[D]?=some (.deferred (some []))→X.w.heap.size≤D→Q .normal { a with defers:=[⟨.collected D,#[]⟩] } w') :
  (Code.rangeFunc (.tmp g) ⟨[p]⟩ A B).wpIn Fence.wide m P Q a w:=by
 obtain⟨S1,hS1⟩:∃S1,S1=rfS S (bl.map Prod.fst) ks ms:=⟨_,rfl⟩
 rw[←hS1]at hoff hp hV hs0 hfold
 have hflat0:Rel X β ρ (XS.flat { S with mem:=Qmg (bl.map Prod.fst) S.mem }) a w:=Rel.filterM (M:=S.mem) (F:=S.fixM) h
 have h1:Rel X β ρ S1.flat a w:=by rw[hS1]; exact hflat0.ent ks ms
 have hpm:S1.flat.mem.Perm (Qmg (bl.map Prod.fst) S.mem++S.fixM):=by
  rw[hS1]
  simp only[XS.flat,rfS,XS.ent]
  rw[←QH]
  exact(XV.trans (Zx ms _)).append_right _
 have hprot:S1.prot=S.prot:=by rw[hS1]; rfl
 have hsubM:∀q∈S1.flat.mem,q∈S.flat.mem∧(q∈Qmg (bl.map Prod.fst) S.mem∨q∈S.fixM):=fun q hq=>by
  rcases QW.1 (hpm.subset hq)with hq | hq
  ·exact⟨QZ _ (JU.1 hq).1,.inl hq⟩
  ·exact⟨QV _ hq,.inr hq⟩
 obtain⟨cs,hev,us,hus,hcaps⟩:=h.ev (Qc a) hg
 have hev':a.eval (.tmp g)=.func (.func it.f) #[] us.toArray:=by rw[hev,hus]; rfl
 have husv:=Qux hcaps hbl
 have hlook:=Quy hbl
 have hokW:∀b o,okR X β ρ S.flat.mem w b o→okR X β ρ S1.flat.mem w b o:=fun b o ⟨q1,q2,q3,q4⟩=>⟨q1,q2,q3,fun t ht=>by
  obtain⟨q,hq,rfl⟩:=QY.1 ht
  exact q4 _ (QY.2 ⟨q,(hsubM q hq).1,rfl⟩)⟩
 have hbox:Jb1 (okR X β ρ S.flat.mem w) w (bl.map Prod.snd) (bl.map fun q=>β q.1):=Q8r fun q hq=>by
  obtain⟨tid,hl⟩:=hlook q hq
  obtain⟨⟨cs,c1,c2⟩,_⟩:=h.ob (Q0 hl:Qe S.flat.mem q.1=_)
  exact⟨tid,cs,c1,c2⟩
 have hbs:∀b∈bl.map (fun q=>β q.1),b<w.heap.size∧b∉Xq w.heap.size (Qf β ρ S1.flat.mem):=fun b hb=>by
  obtain⟨q,hq,rfl⟩:=QY.1 hb
  obtain⟨tid,hl⟩:=hlook q hq
  obtain⟨⟨cs,c1,c2⟩,_⟩:=h.ob (Q0 hl:Qe S.flat.mem q.1=_)
  refine⟨Yg c1,fun hbl2=>?_⟩
  obtain⟨_,t,ht,htb⟩:=Zp.1 hbl2
  obtain⟨z,hz,rfl⟩:=QY.1 ht
  obtain⟨hz1,hz2⟩:=hsubM z hz
  have hpw:S.flat.mem.Pairwise fun s t=>∀g,(Qw β ρ s.1 s.2).blks g→¬ (Qw β ρ t.1 t.2).blks g:=XO.1 h.dOO
  have hm:=R4 hl
  rcases Q57 (fun a b hab g hg hg2=>hab g hg2 hg) hpw z hz1 (q.1,.var tid (.d q.2.1 q.2.2)) (QZ _ hm)with e | e
  ·subst e
   rcases hz2 with hz2 | hz2
   ·have:=(JU.1 hz2).2
    rw[show Ya (bl.map Prod.fst) q.1=true from Qeq (QY.2 ⟨q,hq,rfl⟩)]at this
    cases this
   ·
    have hpw2:=QM.1 hpw
    exact hpw2.2.2 _ hm _ hz2 (β q.1) rfl rfl
  ·exact e (β q.1) htb rfl
 have hoklt:∀b o,okR X β ρ S.flat.mem w b o→b<w.heap.size:=fun b o hbo=>hbo.2.1
 have hxl:=Qw9 hx
 have hpw0:S.flat.mem.Pairwise fun s t=>∀g,(Qw β ρ s.1 s.2).blks g→¬ (Qw β ρ t.1 t.2).blks g:=XO.1 h.dOO
 have hnd:(bl.map fun q=>β q.1).Nodup:=by
  have key:∀(l:List (Nat×DV)),(∀q∈l,q∈bl)→L4 (l.map Prod.fst)=true→(l.map fun q=>β q.1).Nodup:=by
   intro l
   induction l with
   | nil=>intro _ _; exact List.Pairwise.nil
   | cons q l ih =>
    intro hs hn
    simp only[JV,L4,QQ,XA]at hn
    refine QG.2 ⟨fun b hb e=>?_,ih (fun z hz=>hs z (.tail _ hz)) hn.2⟩
    obtain⟨z,hz,hzb⟩:=QY.1 hb
    obtain⟨t1,l1⟩:=hlook q (hs q (.head _))
    obtain⟨t2,l2⟩:=hlook z (hs z (.tail _ hz))
    rcases Q57 (fun a b hab g hg hg2=>hab g hg2 hg) hpw0 _ (QZ _ (R4 l1)) _ (QZ _ (R4 l2))with e2 | e2
    ·have e3:q.1=z.1:=by injection e2
     have:Ya (l.map Prod.fst) q.1=true:=Qeq (QY.2 ⟨z,hz,e3.symm⟩)
     rw[hn.1]at this; cases this
    ·exact e2 (β q.1) rfl (e.trans hzb.symm)
  exact key bl (fun _ hq=>hq) hndB
 have hbno:∀b∈bl.map (fun q=>β q.1),∀o,¬ okR X β ρ S.flat.mem w b o:=fun b hb o hbo=>by
  obtain⟨q,hq,rfl⟩:=QY.1 hb
  obtain⟨tid,hl⟩:=hlook q hq
  exact hbo.2.2.2 _ (QY.2 ⟨_,QZ _ (R4 hl),rfl⟩) rfl
 have hbok:∀b∈bl.map (fun q=>β q.1),∀o,okR X β ρ S1.flat.mem w b o:=fun b hb o=>by
  have hb':=hb
  obtain⟨q,hq,rfl⟩:=QY.1 hb
  obtain⟨tid,hl⟩:=hlook q hq
  obtain⟨_,hmine⟩:=h.ob (Q0 hl:Qe S.flat.mem q.1=_)
  exact⟨X.mine_ok (hmine _ rfl) o,(hbs _ hb').1,by simp,fun t ht hc=>(hbs _ hb').2 (Zp.2 ⟨(hbs _ hb').1,t,ht,t.cb hc⟩)⟩
 have hGw:Vr Y.gl (okR X β ρ S.flat.mem w) w:=Lq h hK.2
 have hcall:=hit _ w _ x es hoklt hGw hes (by rw[hxl]; exact hbox) hnd hbno
 obtain⟨hR',hG'⟩:=Qxm hK.2 h1 hV
 obtain⟨X',hX'⟩:∃X',X'=reX X β ρ S1.flat.mem w:=⟨_,rfl⟩
 rw[←hX']at hR' hG'
 have hXn:X'.n=n:=by rw[hX']; exact hX
 have hXr:X'.res=[]:=by rw[hX']; rfl
 have hXp:X'.pin=none:=by rw[hX']; rfl
 have hXd:X'.dfs=[]:=by rw[hX']; exact hdf
 have hXw:X'.w=w:=by rw[hX']; rfl
 have hXl:X'.lent=Xq w.heap.size (Qf β ρ S1.flat.mem):=by rw[hX']; rfl
 have hK':KsX P Y X' K:=⟨hK.1,hG'⟩
 obtain⟨β0,ρ0,hag0,hR0⟩:=Id (S0:=S1) hR' ⟨rfl,rfl,rfl⟩ hs0
 obtain⟨f,hf⟩:∃f,f=rdR Y K n N Γ (u:=it.u) S1 p aA aB A B:=⟨_,rfl⟩
 rw[←hf]at hfold
 have hadf:a.defers=[]:=h.df.trans hdf
 refine wpIn_rangeFunc fun fn hfn=>?_
 obtain⟨rec,hrec⟩:∃rec:LoopState→Option Code→Loop,rec=fun st pe=>{ state:=st,pending:=pe,fn,tmps:=a.tmps,params:=⟨[p]⟩,assign:=A,body:=B,defers:=w.heap.size }:=⟨_,rfl⟩
 obtain⟨W1,hW1⟩:∃W1,(w.alloc (.deferred (some []))).alloc (.loop (rec .ready none))=W1:=⟨_,rfl⟩
 have hL1:W1.heap[w.heap.size+1]?=some (.loop (rec .ready none)):=by
  rw[←hW1]; have:=World.alloc_heap_new (w.alloc (.deferred (some []))) (.loop (rec .ready none)); rwa[World.size_alloc]at this
 have hD1:W1.heap[w.heap.size]?=some (.deferred (some [])):=by
  rw[←hW1]; exact(Below.heap_alloc _ _ _ (by simp)).trans (World.alloc_heap_new w _)
 have hb1:Below w.heap.size w W1:=by
  rw[←hW1]; exact(((Below.refl _ w).alloc (QB _) _).alloc (by simp) _)
 obtain⟨J,hJ⟩:∃J:Nat→(Nat→Prop)→World→Prop,J=fun k O W=>∃s β' ρ',Qmf f (es.drop k) s=some sE∧agP S1.prot β β' ρ ρ'∧Rel X' β' ρ' (S1.re (enc Γ s)).flat a W ∧
  W.heap[w.heap.size+1]?=some (.loop (rec .ready none))∧W.heap[w.heap.size]?=some (.deferred (some []))∧O=fun b=>∃t∈Qf β' ρ' (S1.re (enc Γ s)).flat.mem,t.blks b:=⟨_,rfl⟩
 refine⟨w.heap.size+1,[{ target:=.collected w.heap.size,args:=#[] }],W1,{ target:=.fn (.func it.f) us.toArray,args:=#[.func (.yield (w.heap.size+1)) #[] #[]] },W1,it.f,
  #[.func (.yield (w.heap.size+1)) #[] #[]]++us.toArray,W1,?_,?_,fun _ _=>trivial,?_,(fun h=>by cases h),?_⟩
 ·rw[←hW1,hrec]; exact run_enterLoop_outer _ _ _ _ _
 ·simp only[resolve,hev']
  simp[go_sem]
 ·simp[invoke,go_sem,Qhw hrun]
 have hown:∀k O A,J k O A→∀b,O b→b<A.heap.size∧(∀o,¬ okR X β ρ S.flat.mem w b o)∧b∉bl.map (fun q=>β q.1):=fun k O A hJk b hOb=>by
  rw[hJ]at hJk
  obtain⟨s,β',ρ',_,_,hRk,_,_,rfl⟩:=hJk
  obtain⟨t,ht,htb⟩:=hOb
  have hm:=(hRk.own t ht).2 b htb
  refine⟨hRk.olt ht htb,fun o hbo=>?_,fun hb=>?_⟩
  ·rcases hm with q | q
   ·rw[hXw]at q; have:=hbo.2.1; omega
   ·rw[hXl]at q
    obtain⟨_,t2,ht2,htb2⟩:=Zp.1 q
    obtain⟨z,hz,rfl⟩:=QY.1 ht2
    have hcv:=Jpj hV _ ht2 b o htb2
    exact hbo.2.2.2 _ (QY.2 ⟨z,(hsubM z hz).1,rfl⟩) hcv
  ·rcases hm with q | q
   ·rw[hXw]at q; have:=(hbs b hb).1; omega
   ·rw[hXl]at q; exact(hbs b hb).2 q
 have hcall1:=hcall (w.heap.size+1) J W1 (fun b=>∃t∈Qf β0 ρ0 (S1.re (enc Γ s0)).flat.mem,t.blks b) hb1 (fun k O A' B' hA hAB=>by
  rw[hJ]at hA ⊢
  obtain⟨s,β',ρ',j1,j2,j3,j4,j5,j6⟩:=hA
  exact⟨s,β',ρ',j1,j2,Sb.below j3 hAB,(hAB.block _ (Yg j4)).trans j4,(hAB.block _ (Yg j5)).trans j5,j6⟩) hown ?round (by
  rw[hJ]
  exact⟨s0,β0,ρ0,hfold,hag0,Sb.below hR0 hb1,hL1,hD1,rfl⟩) (m - 1)
 case round =>
  intro k O W e v hJk he hv m1
  rw[hJ]at hJk
  obtain⟨s,β',ρ',j1,j2,j3,j4,j5,hO⟩:=hJk
  have hkl:k<es.length:=(QK.1 he).1
  rw[XH hkl]at j1
  have hek:es[k]=e:=by rw[QU hkl]at he; exact Option.some.inj he
  rw[hek]at j1
  obtain⟨s',hs',j1'⟩:=Yi j1
  have hs'0:=hs'
  rw[hf]at hs'
  unfold rdR at hs'
  obtain⟨hV1,hs'⟩:=bvT hs'
  have hy:=run_yield (P:=P) (args:=#[v]) j4 (by rw[hrec]; rfl)
  rw[hrec]at hy
  refine⟨fn,_,A,B,hy,roundIn_of_wpIn hfn ?_⟩
  have hact:({ tmps:=((⟨[p]⟩:Array Tmp).zip #[v]).foldl (fun tmps (t,a)=>tmps.setIfInBounds t a) a.tmps,defers:=[] }:Act)=a.put (some p) v:=by
   simp[Act.put,←hadf]
  rw[hact]
  obtain⟨hpd,hpo⟩:=Yx (S:=S1.re (enc Γ s)) hp hXn hXr
  have hval:isV (rt it.u) (okR X' β' ρ' (S1.re (enc Γ s)).flat.mem W) W e v:=by
   refine hv.weak fun b o hbo=>?_
   refine⟨?_,hbo.2.1,by simp,fun t ht hc=>hbo.2.2 (by rw[hO]; exact⟨t,ht,t.cb hc⟩)⟩
   rcases hbo.1 with q | q | q
   ·exact .inl (by rw[hX']; exact .inl (hokW b o q))
   ·exact .inr (by rw[hXw]; exact q)
   ·exact .inl (by rw[hX']; exact .inl (hbok b q o))
  obtain⟨c,hc1,hc2⟩:=Rk hval
  have hput:Rel X' β' ρ' ((S1.re (enc Γ s)).put p [] (.d it.u e)).flat (a.put (some p) v) W:=by
   rw[Xp hpo,hc2]
   exact j3.put0 hpd hc1
  have hVp:Vd ((S1.re (enc Γ s)).put p [] (.d it.u e)).flat.mem=true:=hV1
  obtain⟨hR2,hG2⟩:=Qxm hG' hput hVp
  have hl4:W.heap.size>w.heap.size+1:=Yg j4
  have hnoL:∀{X0:Cx} {β1:Nat→Nat} {ρ1:Nat→Value} {S2:St} {a2:Act} {W2:World},Rel X0 β1 ρ1 S2 a2 W2→(∀r,W2.heap[w.heap.size+1]?=some (.loop r)→w.heap.size+1∉Xq W2.heap.size (Qf β1 ρ1 S2.mem))∧(∀r,W2.heap[w.heap.size]?=some (.deferred r)→w.heap.size∉Xq W2.heap.size (Qf β1 ρ1 S2.mem)):=by
   intro X0 β1 ρ1 S2 a2 W2 hR
   refine⟨fun r hl hm=>?_,fun r hl hm=>?_⟩
   ·obtain⟨_,t,ht,htb⟩:=Zp.1 hm
    exact hR.notOwn hl rfl (fun _ _=>by simp) t ht htb
   ·obtain⟨_,t,ht,htb⟩:=Zp.1 hm
    exact hR.notOwn hl rfl (fun _ _=>by simp) t ht htb
  have hsame0:Ie (p::(Zk A++Zk B)) a (a.put (some p) v):=Ie.put (fun t _=>rfl) (fun d hd=>by injection hd with hd; subst hd; exact .head _) v
  refine N9 (X:=reX X' β' ρ' ((S1.re (enc Γ s)).put p [] (.d it.u e)).flat.mem W) (ds:=p::(Zk A++Zk B)) (a0:=a) hT hmix ⟨hK.1,hG2⟩ hXn rfl rfl aA hbA (by rintro⟨_,_,hh⟩; exact hh) (fun d hd=>.tail _ (QZ _ hd)) hsame0 hR2 hs' fun ex β2 ρ2 S2 a2 W2 q1 q2 q3 q4=>?_
  cases ex with
  | x i=>cases q1
  | r=>cases q1
  | n =>
   simp only at q1
   obtain⟨hV2,q1⟩:=bvT q1
   have hl2:W2.heap[w.heap.size+1]?=some (.loop (rec .ready none)):=(q3.bel.block _ hl4 ((hnoL hput).1 _ j4)).trans j4
   have hd2:W2.heap[w.heap.size]?=some (.deferred (some [])):=(q3.bel.block _ (by show w.heap.size<W.heap.size; omega) ((hnoL hput).2 _ j5)).trans j5
   have q3':=Qxn hput hVp hXr hXp q3
   refine⟨_,run_beginRound hl2 (by rw[hrec]),?_⟩
   have q5:Rel X' β2 ρ2 S2.flat a2 (W2.putObj (w.heap.size+1) (.loop { rec .ready none with state:=.busy })):=q3'.turn (by rw[hXw]; omega) hl2 rfl (fun _ _=>by simp) rfl
   have hl3:(W2.putObj (w.heap.size+1) (.loop { rec .ready none with state:=.busy })).heap[w.heap.size+1]?=some (.loop { rec .ready none with state:=.busy }):=World.putObj_heap_same (Yg hl2)
   have hd3:(W2.putObj (w.heap.size+1) (.loop { rec .ready none with state:=.busy })).heap[w.heap.size]?=some (.deferred (some [])):=(World.putObj_heap_other (by omega)).trans hd2
   obtain⟨W3,hW3⟩:∃W3,W3=W2.putObj (w.heap.size+1) (.loop { rec .ready none with state:=.busy }):=⟨_,rfl⟩
   rw[←hW3]at q5 hl3 hd3 ⊢
   obtain⟨hR3,hG3⟩:=Qxm hG' q5 hV2
   refine N9 (X:=reX X' β2 ρ2 S2.flat.mem W3) (ds:=p::(Zk A++Zk B)) (a0:=a) hT hmix ⟨hK.1,hG3⟩ hXn rfl rfl aB hbB (by rintro⟨_,_,hh⟩; exact hh) (fun d hd=>.tail _ (QV _ hd)) q4 hR3 q1 fun ex β3 ρ3 S3 a3 W4 r1 r2 r3 r4=>?_
   cases ex with
   | x i=>cases r1
   | r=>cases r1
   | n =>
    simp only at r1
    have hl4':W4.heap[w.heap.size+1]?=some (.loop { rec .ready none with state:=.busy }):=(r3.bel.block _ (Yg hl3) ((hnoL q5).1 _ hl3)).trans hl3
    have hd4:W4.heap[w.heap.size]?=some (.deferred (some [])):=(r3.bel.block _ (Yg hd3) ((hnoL q5).2 _ hd3)).trans hd3
    have hk3:S3.fix=S1.fix∧S3.fixM=S1.fixM∧S3.prot=S1.prot:=⟨r2.fix.trans q2.fix,r2.fixM.trans q2.fixM,r2.prot.trans q2.prot⟩
    obtain⟨β4,ρ4,hag4,hR40⟩:=Id (S0:=S1) r3 hk3 r1
    have hR4:=Qxn q5 hV2 hXr hXp hR40
    have hR5:Rel X' β4 ρ4 (S1.re (enc Γ s')).flat a W4:=by
     have henv:(S1.re (enc Γ s')).flat.env=S1.fix:=by
      have:(enc Γ s').env=[]:=by
       have h0:=Ma (l:=Γ.env) (vs:=toL Γ.tys s')
       rw[hΓ]at h0
       unfold enc
       rw[hΓ]
       rfl
      simp only[XS.flat,XS.re,this,QD]
     have hsz:a.tmps.size=a3.tmps.size:=j3.sz.trans hR4.sz.symm
     refine Rel.act (S:=(S1.re (enc Γ s')).flat) (env':=(S1.re (enc Γ s')).flat.env) hR4 hsz (by rw[hadf,hR4.df,hXd]) (by rw[hXr]; simp) fun e0 he0=>?_
     have hen:=hR4.en he0
     rw[henv]at he0
     have hsm:∀t,t∉p::(Zk A++Zk B)→a.tmps[t]?=a3.tmps[t]?:=fun t ht=>(r4 t ht).symm
     have hoffd:e0.t∉p::(Zk A++Zk B)∧∀c∈e0.cs,c.1∉p::(Zk A++Zk B):=⟨fun hm=>(Qcp (hoff _ hm) e0 he0).1 rfl,fun c hc hm=>(Qcp (hoff _ hm) e0 he0).2 c hc rfl⟩
     have hcc:Jt a e0.cs↔Jt a3 e0.cs:=⟨fun hc c hm=>by rw[←hsm _ (hoffd.2 c hm)]; exact hc c hm,fun hc c hm=>by rw[hsm _ (hoffd.2 c hm)]; exact hc c hm⟩
     have hrd:rd a e0.t=rd a3 e0.t:=by unfold rd; rw[hsm _ hoffd.1]
     refine⟨fun hc=>?_,?_⟩
     ·obtain⟨cs,z1,z2⟩:=hen.1 (hcc.1 hc)
      exact⟨cs,by rw[hrd]; exact z1,z2⟩
     ·rw[hcc,hrd]; exact hen.2
    refine⟨_,_,run_endRound none hl4',rfl,?_⟩
    have hre:({ ({ rec .ready none with state:=.busy }:Loop)with state:=if(none:Option Code).isNone then .ready else .done,pending:=none }:Loop)=rec .ready none:=by rw[hrec]; rfl
    rw[hre]
    have ag2:agP S1.prot β' β2 ρ' ρ2:=q2.ag
    have ag3:agP S1.prot β2 β3 ρ2 ρ3:=by have:=r2.ag; rw[show S2.prot=S1.prot from q2.prot]at this; exact this
    have own2:∀b,b∈Xq W3.heap.size (Qf β2 ρ2 S2.flat.mem)→O b∨W.heap.size≤b:=fun b hb=>by
     obtain⟨_,t,ht,htb⟩:=Zp.1 hb
     rcases(q3.own t ht).2 b htb with z | z
     ·exact .inr z
     ·obtain⟨_,t2,ht2,htb2⟩:=Zp.1 z
      exact .inl (by rw[hO]; exact⟨t2,ht2,htb2⟩)
    have hsz2:W.heap.size≤W2.heap.size:=q3.bel.size
    have hsz3:W.heap.size≤W3.heap.size:=by rw[hW3,World.putObj_size]; exact hsz2
    have keep:∀b,b<W.heap.size→¬ O b→b≠w.heap.size+1→W4.heap[b]?=W.heap[b]?:=fun b hb hOb hbl=>by
     have e1:W4.heap[b]?=W3.heap[b]?:=r3.bel.block b (show b<W3.heap.size by omega) fun hm=>by
      rcases own2 b hm with z | z
      ·exact hOb z
      ·omega
     have e2:W3.heap[b]?=W2.heap[b]?:=by rw[hW3]; exact World.putObj_heap_other hbl
     have e3:W2.heap[b]?=W.heap[b]?:=q3.bel.block b hb fun hm=>by
      obtain⟨_,t2,ht2,htb2⟩:=Zp.1 hm
      exact hOb (by rw[hO]; exact⟨t2,ht2,htb2⟩)
     rw[e1,e2,e3]
    refine⟨fun b=>∃t∈Qf β4 ρ4 (S1.re (enc Γ s')).flat.mem,t.blks b,by
     rw[hJ]
     exact⟨s',β4,ρ4,j1',((j2.trans ag2).trans ag3).trans hag4,hR5.turn (by rw[hXw]; omega) hl4' rfl (fun _ _=>by simp) rfl,World.putObj_heap_same (Yg hl4'),(World.putObj_heap_other (by omega)).trans hd4,rfl⟩,fun b hb=>?_,?_,fun b hb hOb=>?_⟩
    ·obtain⟨t,ht,htb⟩:=hb
     rcases(hR40.own t ht).2 b htb with z | z
     ·exact .inr (QN hsz3 z)
     ·exact own2 b z
    ·have:=r3.bel.size
     simp only[World.putObj_size]
     exact QN hsz3 this
    ·by_cases hbl:b=w.heap.size+1
     ·subst hbl
      rw[World.putObj_heap_same (Yg hl4'),j4]
     ·rw[World.putObj_heap_other hbl]
      exact keep b hb hOb hbl
 rw[husv]
 refine hcall1.mono ?_
 rintro e W2 ⟨⟨v,rfl⟩,O,hJe⟩
 rw[hJ]at hJe
 obtain⟨s,β',ρ',j1,j2,j3,j4,j5,_⟩:=hJe
 rw[KD]at j1
 have hsE:s=sE:=Option.some.inj j1
 subst hsE
 refine⟨none,_,by have:=run_endLoop (P:=P) j4 (by rw[hrec]; simp); rw[hrec]at this; exact this,?_⟩
 have j6:=j3.turn (o':=.loop { rec .ready none with state:=.exhausted }) (by rw[hXw]; omega) j4 rfl (fun _ _=>by simp) rfl
 rw[hX']at j6
 have j7:=Qxn h1 hV hr hpin j6
 have j8:=j7.withD [⟨.collected w.heap.size,#[]⟩]
 have e1:([{ target:=.collected w.heap.size,args:=#[] }]++a.defers:List Deferred)=[⟨.collected w.heap.size,#[]⟩]:=by rw[hadf]; rfl
 rw[e1]
 rw[hrec]at j8
 refine H β' ρ' _ w.heap.size (by rw[←hprot]; exact j2) ?_ ((World.putObj_heap_other (by omega)).trans j5) h.bel.size
 rw[Qcs]
 rw[hS1]at j8
 exact j8
end
end Gx

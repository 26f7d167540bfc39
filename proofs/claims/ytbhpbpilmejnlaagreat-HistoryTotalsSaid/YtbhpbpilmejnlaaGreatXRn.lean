/- Functions with a range over a function. -/
import Derived.Test.YtbhpbpilmejnlaaGreatXRj
import Derived.RangeFuncLeaves
import Derived.Test.YtbhpbpilmejnlaaGreatGAppend
import Derived.Lib.ItoaNum
import Derived.Lib.LaidTab
import Derived.Lib.AppendIntMem
import Derived.Lib.Bytealg
import Derived.Lib.SlTrimSet
import Derived.Lib.Walk
namespace Gx
open Go Go.RowKit Gd
set_option linter.unusedVariables false
set_option linter.unusedSimpArgs false
section
variable {P:Program} {Y:TX} {X:Cx} {n N:Nat} {K:List Con}
def markX (X:Cx) (D:Nat):Cx:={ X with dfs:=[⟨.collected D,#[]⟩] }
theorem runR_ok (hT:TabOk P Y.T) (hmix:P.follows .mixedOrders=true) (hK:KsX P Y X K) (hX:X.n=n) (hr:X.res=[]) (hpin:X.pin=none) (hdf:X.dfs=[]) {its:List It} (hits:∀it∈its,ItOk P Y.gl it∧Runs P it.f) {m:Nat} :
    ∀{R:Type} {r:R} (an:AnR) {c:Code} {S:XS} {β:Nat→Nat} {ρ:Nat→Value} {a:Act} {w:World} {k:Ex→XS→Option R} {Q:Exit→Act→World→Prop},
    Rel X β ρ S.flat a w→runR Y K n N its an c S k=some r →
    (∀(D:Nat) (e:Ex) (β':Nat→Nat) (ρ':Nat→Value) (S':XS) (a':Act) (w':World),k e S'=some r→Keeps S S' β β' ρ ρ'→Rel (markX X D) β' ρ' S'.flat a' w'→w'.heap[D]?=some (.deferred (some []))→X.w.heap.size≤D→Q e.exit a' w')→c.wpIn Fence.wide m P Q a w
  | R,r,.pre an rn,c,S,β,ρ,a,w,k,Q,h,hs,H=>by
    cases c<;>simp only [runR] at hs<;>first | (cases hs; done) | skip
    rename_i x y
    refine wpIn_seq (wpIn_wide.2 (runI_ok hT hmix hK hX hr hpin an h hs fun e β' ρ' S' a' w' h1 h2 h3=>?_))
    cases e with
    | n=>exact runR_ok hT hmix hK hX hr hpin hdf hits rn h3 h1 fun D e β2 ρ2 S2 a2 w2 q1 q2 q3 q4 q5=>H D e β2 ρ2 S2 a2 w2 q1 (h2.trans q2) q3 q4 q5
    | x i=>cases h1
    | r=>cases h1
  | R,r,.inn rn an,c,S,β,ρ,a,w,k,Q,h,hs,H=>by
    cases c<;>simp only [runR] at hs<;>first | (cases hs; done) | skip
    rename_i x y
    refine wpIn_seq (runR_ok hT hmix hK hX hr hpin hdf hits rn h hs fun D e β' ρ' S' a' w' h1 h2 h3 h4 h5=>?_)
    cases e with
    | x i=>cases h1
    | r=>cases h1
    | n =>
      obtain ⟨hV,h1⟩:=bvT h1
      have hG1:GlobOk Y.gl (okN (markX X D)) (markX X D).w:=hK.2
      obtain ⟨hR2,hG2⟩:=rebase hG1 h3 hV
      have hnl:D∉blksL w'.heap.size (memO β' ρ' S'.flat.mem):=fun hm=>by
        obtain ⟨_,t,ht,htb⟩:=mem_blksL.1 hm
        exact h3.notOwn h4 rfl (fun _ _=>by simp) t ht htb
      show y.wpIn Fence.wide m P Q a' w'
      refine wpIn_wide.2 (runI_ok (X:=reX (markX X D) β' ρ' S'.flat.mem w') hT hmix ⟨hK.1,hG2⟩ hX rfl rfl an hR2 h1 fun e β2 ρ2 S2 a2 w2 q1 q2 q3=>?_)
      exact H D e β2 ρ2 S2 a2 w2 q1 (h2.trans q2) (recomp h3 hV hr hpin q3) ((q3.bel.block D (heap_lt h4) hnl).trans h4) h5
  | R,r,.un rn,c,S,β,ρ,a,w,k,Q,h,hs,H=>by
    cases c<;>simp only [runR] at hs<;>first | (cases hs; done) | skip
    rename_i id c1
    refine wpIn_block (runR_ok hT hmix hK hX hr hpin hdf hits rn h hs fun D e β' ρ' S' a' w' h1 h2 h3 h4 h5=>?_)
    cases e with
    | x i=>cases h1
    | r=>cases h1
    | n=>exact H D .n β' ρ' S' a' w' h1 h2 h3 h4 h5
  | R,r,.rf i ks ms Γ aA aB,c,S,β,ρ,a,w,k,Q,h,hs,H=>by
    cases c<;>first | (simp only [runR] at hs; cases hs; done) | skip
    rename_i g ps A B
    obtain ⟨ps⟩:=ps
    match g,ps,hs with
    | .tmp g,[p],hs =>
      simp only [runR] at hs
      split at hs
      · rename_i it gf caps hit hg
        split at hs
        · rename_i bl hbl
          split at hs
          · rename_i x hx
            obtain ⟨hb,hs2⟩:=bvT hs
            simp only [Bool.and_eq_true] at hb
            obtain ⟨⟨⟨⟨⟨⟨b1,b2,b3⟩,b4⟩,b5⟩,b6⟩,b8⟩,b7⟩:=hb
            have hfe:=Nat.eq_of_beq_eq_true b1
            subst hfe
            obtain ⟨es,hes,hs3⟩:=bindE hs2
            split at hs3
            · rename_i s0 hs0
              obtain ⟨sE,hfold,hk⟩:=bindE hs3
              have hΓ:Γ.env=[]:=by
                cases hE:Γ.env with
                | nil=>rfl
                | cons q l=>rw [hE] at b5; cases b5
              obtain ⟨hi1,hi2⟩:=hits it (List.mem_of_getElem? hit)
              exact rf_ok hT hmix hK hX hr hpin hdf hi1 hi2 h hg hbl hx b2 b3 (fun d hd=>List.all_eq_true.1 b4 d hd) hΓ b6 b7 b8 hes hs0 hfold fun β' ρ' w' D q1 q2 q3 q4=>H D .n β' ρ' _ _ w' hk ⟨rfl,rfl,rfl,q1⟩ q2 q3 q4
            · cases hs3
          · cases hs
        · cases hs
      · cases hs
    | .tmp g,[],hs=>simp [runR] at hs
    | .tmp g,_::_::_,hs=>simp [runR] at hs
    | .const _,_,hs=>simp [runR] at hs
    | .global _,_,hs=>simp [runR] at hs
    | .func _,_,hs=>simp [runR] at hs
def runFR (Y:TX) (K:List Con) (N:Nat) (its:List It) (fn:Func) (an:AnR) (ro:List Nat) (Γ Δ:Shp) (x:Γ.De):Option Δ.De:=match fn.body with
  | some c=>bif Nat.ble Γ.env.length fn.ntmps&&(keysUp Γ.env 0&&Nat.blt Γ.env.length 100000) then runR Y K fn.ntmps N its an c ⟨(enc Γ x).env,globE Y.gl,wrM ro (enc Γ x).mem,rdM ro (enc Γ x).mem,Γ.mem.map Prod.fst⟩ fun e S=>match e with
    | .x _=>none
    | .n=>fin Y fn Δ S
    | .r=>fin Y fn Δ S else none
  | none=>none
theorem enter_okM {f:FuncId} {fn:Func} {c:Code} {vs:List Value} {R:Value→World→Prop} {ok:Ok} {n m:Nat} {L:List Nat} {O:List TL} {w:World} (hok:∀b o,ok b o→b<w.heap.size)
    (hf:P.funcs[f]?=some fn) (hb:fn.body=some c) (hn:fn.ntmps=n) (hle:Nat.ble vs.length n=true) (hO:Lends O L ok w)
    (h:∀a,Sb (fun _=>0) (cxL L n ok w) (zipG vs 0) [] [] O a w→c.wpIn Fence.wide m P (bodyPostM Fence.wide m P fn (RetL L w R)) a w):Calls P f ⟨vs⟩ w (RetL L w R):=by
  refine callsIn_wide.1 (callsIn_of_wp_marks (n:=m) hf hb trivial (h _ ?_))
  have hle':=Nat.le_of_ble_eq_true hle
  have hk:∀b o,ok b o→okOf (okL L ok) w.heap.size (fun _=>0) [] O w b o:=fun b o hbo=>⟨.inl (.inl hbo),hok b o hbo,by simp,fun t ht hc=>(hO.1 t ht).2.2 b o (t.cb hc) hbo⟩
  refine { sz:=by simp [hn]; omega,df:=rfl,fr:=by simp,pn:=by simp,tm:=?_,bel:=BelowL.refl _ _ _,dat:=trivial,obj:=by simp,own:=fun t ht=>⟨t.weak (hO.1 t ht).1 hk,fun g hg=>.inr ((hO.1 t ht).2.1 g hg)⟩,dHH:=by simp,dHO:=by simp,dOO:=hO.2.1 }
  intro p hp
  obtain ⟨j,v,rfl,hv⟩:=zipG_get hp
  have hj:=(List.getElem?_eq_some_iff.1 hv).1
  simp only [Nat.zero_add,den_v]
  rw [Array.getElem?_append_left (by simpa using hj)]
  simpa using hv
theorem runFR_ok (hT:TabOk P Y.T) (hmix:P.follows .mixedOrders=true) (hK:KsOk P Y.gl K) {its:List It} (hits:∀it∈its,ItOk P Y.gl it∧Runs P it.f) {f:FuncId} {fn:Func} (hf:P.funcs[f]?=some fn) {an:AnR} {c:Con} (hcf:c.f=f) (hrun:∀x,c.fn x=runFR Y K N its fn an c.ro c.Γ c.Δ x):ConOk P Y.gl c:=by
  intro ok w L β ρ x y vs hok hG hlen hL hargs hy
  rw [hrun] at hy
  unfold runFR at hy
  split at hy
  · rename_i code hb
    obtain ⟨hc,hy⟩:=bvT hy
    simp only [Bool.and_eq_true] at hc
    rw [hcf]
    refine enter_okM (n:=fn.ntmps) (m:=1) (L:=L) (O:=memO β ρ (enc c.Γ x).mem) hok hf hb rfl (by rw [hlen]; exact hc.1) hL fun a h0=>?_
    have hR:=arg_rel (Y:=Y) (fn:=fn) hc.2.1 hc.2.2 hok hG hL hargs h0
    have hGX:GlobOk Y.gl (okN (cxL L fn.ntmps ok w)) w:=hG.weak fun b o hbo=>⟨.inl hbo,fun hbl=>hL.2.2 b hbl |>.elim fun t ht=>(hL.1 t ht.1).2.2 b o ht.2 hbo,hok b o hbo⟩
    refine runR_ok (X:=cxL L fn.ntmps ok w) hT hmix ⟨hK,hGX⟩ rfl rfl rfl rfl hits an hR hy fun D e β' ρ' S' a' w' h1 h2 h3 h4 h5=>?_
    have h6:=(h3.turn (o':=.deferred none) (show (cxL L fn.ntmps ok w).w.heap.size≤D from h5) h4 rfl (fun _ _=>by simp) rfl).withD []
    have h7:Rel (cxL L fn.ntmps ok w) β' ρ' S'.flat { a' with defers:=[] } (w'.putObj D (.deferred none)):=h6
    have key:=ret_fin (Y:=Y) (y:=y) hT h2 h7
    have hdf:a'.defers=[⟨.collected D,#[]⟩]:=h3.df
    have fin2:fin Y fn c.Δ S'=some y→LeavesInM Fence.wide 1 P fn a'.tmps (RetL L w (PostC c β ρ ok L w x y)) a'.defers .returning w':=fun hfin=>by
      obtain ⟨_,v,hres,v2,hv2,hpost⟩:=key hfin
      rw [hdf]
      refine ⟨by simp,.inl ⟨D,_,rfl,run_takeDeferred h4,?_⟩⟩
      exact ⟨v,hres,v2,hv2,hpost⟩
    cases e with
    | n=>exact fin2 h1
    | x i=>cases h1
    | r=>exact fin2 h1
  · cases hy
end
end Gx

/- Iterators: functions that call yield. -/
namespace Gx
open Go Go.RowKit Gd
set_option linter.unusedVariables false
set_option linter.unusedSimpArgs false
inductive HnY where
  | done
  | h (m:Nat) (hn:Hn) (r:HnY)
  | mv (r:HnY)
  | yl (r:HnY)
  | so (t:Nat) (a b:HnY)
inductive AnY where
  | nil
  | reg (h:Hn)
  | yr (h:HnY)
  | two (a b:AnY)
  | un (a:AnY)
  | lp (ks ms:List Nat) (Γ:Shp) (exs:Exs) (a:AnY)
section
variable (Y:TX) (K:List Con) (n N:Nat) (u:Ty)
def gOk (ops:List Oper) (o:Oper) (S:XS):Bool:=match gTmp ops o with
  | some none=>true
  | some (some (t,want))=>match lookE S.flat.env t with
    | some ⟨_,[],.d .bool b⟩=>b==want
    | _=>false
  | none=>false
def runHY {R:Type} (ops:List Oper):HnY→List Oper→List Nat→XS→List u.De→(XS→List u.De→Option R)→Option R
  | .done,l,ys,S,acc,k=>match l with
    | []=>k S acc
    | _::_=>none
  | .h m hn r,l,ys,S,acc,k=>bif noDefer (l.take m)&&apart (dstsL (l.take m)) ys then runH Y K n ops hn (l.take m) S fun S'=>runHY ops r (l.drop m) ys S' acc k else none
  | .mv r,l,ys,S,acc,k=>match l with
    | o::l'=>match o.op,o.dst with
      | .move (.tmp t),some d=>bif memN ys t&&okW n S d&&gOk ops o S then runHY ops r l' (d::ys) { S with env:=remE S.env d } acc k else none
      | _,_=>none
    | []=>none
  | .yl r,l,ys,S,acc,k=>match l with
    | o::l'=>match o.op,o.dst with
      | .call ⟨.value (.tmp t),⟨[x]⟩,_⟩,some d=>match S.ev [] x with
        | some v=>match asD [] v u with
          | some y=>bif memN ys t&&okW n S d&&gOk ops o S&&!memN ys d&&(u.agg==v.isAgg)&&isNilL S.fixM then runHY ops r l' ys (XS.put { S with mem:=[] } d [] (.d .bool true)) (acc++[y]) k else none
          | none=>none
        | none=>none
      | _,_=>none
    | []=>none
  | .so t a b,l,ys,S,acc,k=>match lookE S.env t with
    | some ⟨_,[],.d .bool v⟩=>bif offF t S.fix then (if v=true then runHY ops a l ys (S.put t [] (.d .bool true)) acc k else runHY ops b l ys (S.put t [] (.d .bool false)) acc k) else none
    | _=>none
def runY {R:Type}:AnY→Code→XS→List u.De→(Ex→XS→List u.De→Option R)→Option R
  | .nil,.skip,S,acc,k=>k .n S acc
  | .nil,.ret,S,acc,k=>k .r S acc
  | .nil,.exit id,S,acc,k=>k (.x id) S acc
  | .reg h,.region _ ⟨ops⟩ false,S,acc,k=>bif noDefer ops&&apart (dstsL ops) [0] then runH Y K n ops h ops S fun S'=>k .n S' acc else none
  | .yr h,.region _ ⟨ops⟩ false,S,acc,k=>bif apart (dstsL ops) [0] then runHY Y K n u ops h ops [0] S acc (k .n) else none
  | .two a b,.seq x y,S,acc,k=>runY a x S acc fun e S' acc'=>match e with
    | .n=>runY b y S' acc' k
    | .x i=>k (.x i) S' acc'
    | .r=>k .r S' acc'
  | .two a b,.cond c x y,S,acc,k=>match S.ev [] c with
    | some (.d .bool v)=>if v=true then runY a x S acc k else runY b y S acc k
    | _=>none
  | .un a,.block id c,S,acc,k=>runY a c S acc fun e S' acc'=>match e with
    | .n=>k .n S' acc'
    | .x i=>bif Nat.beq i id then k .n S' acc' else k (.x i) S' acc'
    | .r=>k .r S' acc'
  | .lp ks ms Γ exs a,.loop c,S,acc,k=>match (S.ent ks ms).dec Γ with
    | some s0=>(loopN (fun (q:Γ.De×List u.De)=>runY (R:=(Γ.De×List u.De)⊕(SumT exs×List u.De)) a c ((S.ent ks ms).re (enc Γ q.1)) q.2 fun e S' acc'=>match e with
        | .n=>(match S'.dec Γ with
          | some s'=>some (.inl (s',acc'))
          | none=>none)
        | .x i=>(match inj exs (.x i) S' with
          | some x=>some (.inr (x,acc'))
          | none=>none)
        | .r=>(match inj exs .r S' with
          | some x=>some (.inr (x,acc'))
          | none=>none)) N (s0,acc)).bind fun z=>outS S ks ms (fun e S'=>k e S' z.2) exs z.1
    | none=>none
  | _,_,_,_,_=>none
end
theorem dstsL_append:∀(l m:List Oper),dstsL (l++m)=dstsL l++dstsL m
  | [],m=>rfl
  | o::l,m=>by
    simp only [List.cons_append,dstsL,dstsL_append l m]
    split<;>rfl
theorem apart_no {l m:List Nat} (h:apart l m=true) {t:Nat} (hl:t∈l) (hm:t∈m):False:=by
  have:=List.all_eq_true.1 h t hl
  rw [memN_of hm] at this; cases this
theorem memN_ok2 {l:List Nat} {t:Nat}:memN l t=true→t∈l:=memN_ok'
section
variable {P:Program} {Y:TX} {n N:Nat} {K:List Con} {u:Ty} {es:List u.De}
theorem gOk_wanted {X:Cx} {β:Nat→Nat} {ρ:Nat→Value} {S:XS} {a:Act} {w:World} {ops:List Oper} {o:Oper} (h:Rel X β ρ S.flat a w) (hg:gOk ops o S=true):Region.wanted o (yielded ⟨ops⟩ a.tmps)=true:=by
  unfold gOk at hg
  split at hg
  · rename_i hgt
    refine wanted_none ?_ _
    unfold gTmp at hgt
    split at hgt
    · rename_i hgd; exact hgd
    · split at hgt
      · split at hgt<;>cases hgt
      · cases hgt
  · rename_i t want hgt
    split at hg
    · rename_i t' b he
      rw [wanted_iff hgt]
      obtain ⟨cs,h1,h2⟩:=h.get he (holdsC_nil a)
      have h2':cs=_:=h2
      subst h2'
      rw [bEq hg] at h1
      exact h1
    · cases hg
  · cases hg
theorem runHY_pre {R:Type} {r:R} {ops:List Oper}:∀(hn:HnY) {l:List Oper} {ys:List Nat} {S:XS} {acc:List u.De} {k:XS→List u.De→Option R},runHY Y K n u ops hn l ys S acc k=some r→(∀S' acc',k S' acc'=some r→acc' <+: es)→acc <+: es
  | .done,l,ys,S,acc,k,h,hk=>by
    unfold runHY at h
    split at h
    · exact hk _ _ h
    · cases h
  | .h m hn rr,l,ys,S,acc,k,h,hk=>by
    unfold runHY at h
    obtain ⟨_,h⟩:=bvT h
    obtain ⟨S1,h1,_⟩:=runH_one h
    exact runHY_pre rr h1 hk
  | .mv rr,l,ys,S,acc,k,h,hk=>by
    unfold runHY at h
    split at h
    · split at h
      · obtain ⟨_,h⟩:=bvT h
        exact runHY_pre rr h hk
      · cases h
    · cases h
  | .yl rr,l,ys,S,acc,k,h,hk=>by
    unfold runHY at h
    split at h
    · split at h
      · split at h
        · split at h
          · obtain ⟨_,h⟩:=bvT h
            exact (List.prefix_append _ _).trans (runHY_pre rr h hk)
          · cases h
        · cases h
      · cases h
    · cases h
  | .so t a b,l,ys,S,acc,k,h,hk=>by
    unfold runHY at h
    split at h
    · obtain ⟨_,h⟩:=bvT h
      split at h
      · exact runHY_pre a h hk
      · exact runHY_pre b h hk
    · cases h
theorem outS_any {R:Type} {S:XS} {ks ms:List Nat} {k:Ex→XS→Option R} {r:R}:∀{l:Exs} {x:SumT l},outS S ks ms k l x=some r→∃e S',k e S'=some r
  | [],x,_=>nomatch x
  | [q],x,h=>⟨_,_,h⟩
  | q::q2::l,x,h=>by
    simp only [outS] at h
    split at h
    · exact ⟨_,_,h⟩
    · exact outS_any h
theorem runY_pre:∀{R:Type} {r:R} (an:AnY) {c:Code} {S:XS} {acc:List u.De} {k:Ex→XS→List u.De→Option R},runY Y K n N u an c S acc k=some r→(∀e S' acc',k e S' acc'=some r→acc' <+: es)→acc <+: es
  | R,r,.nil,c,S,acc,k,h,hk=>by
    cases c<;>simp only [runY] at h<;>first | (cases h; done) | exact hk _ _ _ h
  | R,r,.reg hn,c,S,acc,k,h,hk=>by
    cases c with
    | region id ops draw =>
      obtain ⟨ops⟩:=ops
      cases draw with
      | true=>simp [runY] at h
      | false =>
        simp only [runY] at h
        obtain ⟨_,h⟩:=bvT h
        obtain ⟨S1,h1,_⟩:=runH_one h
        exact hk _ _ _ h1
    | _=>simp [runY] at h
  | R,r,.yr hn,c,S,acc,k,h,hk=>by
    cases c with
    | region id ops draw =>
      obtain ⟨ops⟩:=ops
      cases draw with
      | true=>simp [runY] at h
      | false =>
        simp only [runY] at h
        obtain ⟨_,h⟩:=bvT h
        exact runHY_pre hn h fun S' acc' h'=>hk _ _ _ h'
    | _=>simp [runY] at h
  | R,r,.two a b,c,S,acc,k,h,hk=>by
    cases c<;>simp only [runY] at h<;>first | (cases h; done) | skip
    · refine runY_pre a h fun e S' acc' h'=>?_
      cases e with
      | n=>exact runY_pre b h' hk
      | x i=>exact hk _ _ _ h'
      | r=>exact hk _ _ _ h'
    · split at h
      · split at h
        · exact runY_pre a h hk
        · exact runY_pre b h hk
      · cases h
  | R,r,.un a,c,S,acc,k,h,hk=>by
    cases c<;>simp only [runY] at h<;>first | (cases h; done) | skip
    rename_i id c1
    refine runY_pre a h fun e S' acc' h'=>?_
    cases e with
    | n=>exact hk _ _ _ h'
    | x i =>
      simp only at h'
      cases hb:Nat.beq i id with
      | true=>rw [hb] at h'; exact hk _ _ _ h'
      | false=>rw [hb] at h'; exact hk _ _ _ h'
    | r=>exact hk _ _ _ h'
  | R,r,.lp ks ms Γ exs a,c,S,acc,k,h,hk=>by
    cases c<;>simp only [runY] at h<;>first | (cases h; done) | skip
    rename_i c1
    split at h
    · rename_i s0 hs0
      obtain ⟨z,hz,ho⟩:=bindE h
      obtain ⟨e0,S0,hk0⟩:=outS_any ho
      have hzp:z.2 <+: es:=hk _ _ _ hk0
      obtain ⟨f,hz,hf⟩:∃f,loopN f N (s0,acc)=some z∧f=_:=⟨_,hz,rfl⟩
      have main:∀(m:Nat) (q:Γ.De×List u.De),loopN f m q=some z→q.2 <+: es:=by
        intro m
        induction m with
        | zero=>intro q hq; simp [loopN] at hq
        | succ m ih =>
          intro q hq
          simp only [loopN] at hq
          obtain ⟨x,hx,hq⟩:=bindE hq
          rw [hf] at hx
          refine runY_pre a hx fun e S' acc' h'=>?_
          have fin:(∃s',some (Sum.inl (s',acc'))=some x)∨(∃y,some (Sum.inr (y,acc'))=some x)→acc' <+: es:=by
            rintro (⟨s',e1⟩ | ⟨y,e1⟩)
            · injection e1 with e1; subst e1; exact ih _ hq
            · injection e1 with e1; subst e1
              injection hq with hq; subst hq; exact hzp
          cases e with
          | n =>
            simp only at h'
            split at h'
            · exact fin (.inl ⟨_,h'⟩)
            · cases h'
          | x i =>
            simp only at h'
            split at h'
            · exact fin (.inr ⟨_,h'⟩)
            · cases h'
          | r =>
            simp only at h'
            split at h'
            · exact fin (.inr ⟨_,h'⟩)
            · cases h'
      exact main N (s0,acc) hz
    · cases h
structure YCx (P:Program) (Y:TX) (K:List Con) (n:Nat) (ok:Ok) (w0:World) (bs:List Nat) (X:Cx) (O:Nat→Prop):Prop where
  hX:X.n=n
  hr:X.res=[]
  hp:X.pin=none
  hd:X.dfs=[]
  hl:X.lent=[]
  hK:KsX P Y X K
  hO:∀b,O b→b<X.w.heap.size∧∀o,¬ X.ok b o
  hC:∀b o,X.ok b o→ok b o∨w0.heap.size≤b∨b∈bs
  hW:w0.heap.size≤X.w.heap.size
theorem rel_below {X:Cx} {β:Nat→Nat} {ρ:Nat→Value} {S:St} {a:Act} {w:World} (h:Rel X β ρ S a w) (hl:X.lent=[]):Below X.w.heap.size X.w w:=by
  have:=h.bel
  rw [hl] at this
  exact this.nil
def reY (X:Cx) (β:Nat→Nat) (ρ:Nat→Value) (M:List (Nat×Ob)) (A B:World):Cx:=⟨X.n,okR X β ρ M A,B,[],⟨#[],[]⟩,none,[],by simp,X.dfs⟩
theorem reY_ok {ok:Ok} {w0:World} {bs:List Nat} {X:Cx} {O O':Nat→Prop} (hC:YCx P Y K n ok w0 bs X O) {β:Nat→Nat} {ρ:Nat→Value} {S:St} {a:Act} {A B:World} (h:Rel X β ρ S a A)
    (hO':∀b,O' b→O b∨A.heap.size≤b) (hOB:∀b,O' b→b<B.heap.size) (hsz:A.heap.size≤B.heap.size) (hsame:∀b,b<A.heap.size→¬ O b→B.heap[b]?=A.heap[b]?) :
    YCx P Y K n ok w0 bs (reY X β ρ S.mem A B) O'∧Rel (reY X β ρ S.mem A B) β ρ ⟨S.env,[]⟩ a B:=by
  have hno:∀b o,okR X β ρ S.mem A b o→¬ O b:=fun b o hbo hOb=>by
    obtain ⟨q1,q2⟩:=hC.hO b hOb
    rcases hbo.1 with q | q
    · exact q2 o q
    · omega
  have hev:Evo (okR X β ρ S.mem A) A B:=Evo.of_blocks hsz fun b o hbo=>hsame b hbo.2.1 (hno b o hbo)
  have hk:∀b o,okR X β ρ S.mem A b o→okOf (okR X β ρ S.mem A) B.heap.size (fun _=>0) [] (memO β ρ []) B b o:=fun b o hbo=>⟨.inl hbo,Nat.lt_of_lt_of_le hbo.2.1 hsz,by simp,by simp [memO]⟩
  refine ⟨⟨hC.hX,rfl,rfl,hC.hd,rfl,⟨hC.hK.1,?_⟩,fun b hb=>⟨hOB b hb,fun o hbo=>?_⟩,fun b o hbo=>?_,Nat.le_trans hC.hW (Nat.le_trans h.bel.size hsz)⟩,?_⟩
  · exact ((glob_here h hC.hK.2).keep hsz fun b o hbo=>hsame b hbo.2.1 (hno b o hbo)).weak fun b o hbo=>⟨hbo,by simp [reY],Nat.lt_of_lt_of_le hbo.2.1 hsz⟩
  · rcases hO' b hb with q | q
    · exact hno b o hbo q
    · have:=hbo.2.1; omega
  · have hbo':okR X β ρ S.mem A b o:=hbo
    rcases hbo'.1 with q | q
    · exact hC.hC b o q
    · exact .inr (.inl (Nat.le_trans hC.hW q))
  · exact { sz:=h.sz,df:=h.df,fr:=by simp [reY],pn:=by simp [reY],tm:=by simp,bel:=BelowL.refl _ _ _,obj:=by simp,dHH:=by simp,dHO:=by simp,
            dat:=AllD_mem.2 fun x hx=>by
              obtain ⟨e,he,rfl⟩:=List.mem_map.1 hx
              exact (enD β ρ a e).weak ((enD β ρ a e).evo (AllD_mem.1 h.dat _ (List.mem_map.2 ⟨e,he,rfl⟩)) hev) hk,
            own:=by simp [memO],dOO:=by simp [memO] }
section
variable (hT:TabOk P Y.T) {ok:Ok} {w0:World} {bs:List Nat} {l m:Nat} {a0:Act} {J:Nat→(Nat→Prop)→World→Prop}
  (hst:∀k O A B,J k O A→Below A.heap.size A B→J k O B) (hlt:∀k O A,J k O A→∀b,O b→b<A.heap.size∧(∀o,¬ ok b o)∧b∉bs)
  (hy:∀k O A e v,J k O A→es[k]?=some e→isV (rt u) (okC ok w0 A O bs) A e v→∀m,YieldAt Fence.wide m P l #[v] A fun r B=>r=.returned (.bool true) ∧
          ∃O',J (k+1) O' B∧(∀b,O' b→O b∨A.heap.size≤b)∧A.heap.size≤B.heap.size∧∀b,b<A.heap.size→¬ O b→B.heap[b]?=A.heap[b]?)
include hT hst hlt hy
def YOk (P:Program) (Y:TX) (K:List Con) (n:Nat) (ok:Ok) (w0:World) (bs:List Nat) (J:Nat→(Nat→Prop)→World→Prop) (a0:Act) (S:XS) (β:Nat→Nat) (ρ:Nat→Value) {R:Type} {u:Ty} (k:Ex→XS→List u.De→Option R) (r:R) (Q:Exit→Act→World→Prop):Prop :=
  ∀(X:Cx) (O:Nat→Prop) (e:Ex) (β':Nat→Nat) (ρ':Nat→Value) (S':XS) (a':Act) (w':World) (acc':List u.De),k e S' acc'=some r→YCx P Y K n ok w0 bs X O→J acc'.length O X.w→Keeps S S' β β' ρ ρ'→Rel X β' ρ' S'.flat a' w'→a'.tmps[0]?=a0.tmps[0]?→Q e.exit a' w'
theorem runHY_ok {R:Type} {r:R} {ops:List Oper} {yv:Value} (hyv:yv=.func (.yield l) #[] #[]):∀(hn:HnY) {os:List Oper} {ys:List Nat} {S:XS} {acc:List u.De} {k:XS→List u.De→Option R} {X:Cx} {O:Nat→Prop} {β:Nat→Nat} {ρ:Nat→Value} {a:Act} {w:World} {Q:Exit→Act→World→Prop},
    ¬ LetsOut Q→(∀d∈dstsL os,d∉[0])→runHY Y K n u ops hn os ys S acc k=some r→(∀S' acc',k S' acc'=some r→acc' <+: es)→YCx P Y K n ok w0 bs X O→J acc.length O X.w→Rel X β ρ S.flat a w→(∀t∈ys,a.tmps[t]?=some yv)→a.tmps[0]?=a0.tmps[0]? →
    YOk P Y K n ok w0 bs J a0 S β ρ (fun _=>k) r (fun _=>Q .normal)→wpListIn Fence.wide m P ⟨ops⟩ Q os a w
  | .done,os,ys,S,acc,k,X,O,β,ρ,a,w,Q,hQ,hz,h,hk,hC,hJ,hR,hys,h0,H=>by
    unfold runHY at h
    split at h
    · exact H X O .n β ρ S a w acc h hC hJ (Keeps.refl _ _ _) hR h0
    · cases h
  | .h m1 hn rr,os,ys,S,acc,k,X,O,β,ρ,a,w,Q,hQ,hz,h,hk,hC,hJ,hR,hys,h0,H=>by
    unfold runHY at h
    obtain ⟨hb,h⟩:=bvT h
    simp only [Bool.and_eq_true] at hb
    have hsplit:os=os.take m1++os.drop m1:=(List.take_append_drop m1 os).symm
    have hd1:∀d∈dstsL (os.take m1),d∈dstsL os:=fun d hd=>by
      rw [hsplit,dstsL_append]; exact List.mem_append_left _ hd
    have hd2:∀d∈dstsL (os.drop m1),d∈dstsL os:=fun d hd=>by
      rw [hsplit,dstsL_append]; exact List.mem_append_right _ hd
    have hrun:=runH_ok hT hC.hK hC.hX hC.hr (Q:=QL (dstsL (os.take m1)) a (fun a' w'=>wpListIn Fence.wide m P ⟨ops⟩ Q (os.drop m1) a' w') Q) hn (l:=os.take m1) (rest:=[]) hR h fun β' ρ' S' a' w' h1 h2 h3=>fun hsame=>by
      refine runHY_ok hyv rr hQ (fun d hd=>hz d (hd2 d hd)) h1 hk hC hJ h3 (fun t ht=>?_) ?_ fun X2 O2 e β2 ρ2 S2 a2 w2 acc2 q1 q2 q3 q4 q5 q6=>H X2 O2 e β2 ρ2 S2 a2 w2 acc2 q1 q2 q3 (h2.trans q4) q5 q6
      · rw [hsame t fun hm=>apart_no hb.2 hm ht]; exact hys t ht
      · rw [hsame 0 fun hm=>hz 0 (hd1 0 hm) (.head _)]; exact h0
    rw [List.append_nil] at hrun
    have:=wpList_tl (ro:=none) (m:=m) (tl:=os.drop m1) hQ (fun a w hz=>hz) (os.take m1) hb.1 (fun d hd=>hd) a w (fun t _=>rfl) hrun
    rw [List.take_append_drop] at this
    exact this
  | .mv rr,os,ys,S,acc,k,X,O,β,ρ,a,w,Q,hQ,hz,h,hk,hC,hJ,hR,hys,h0,H=>by
    unfold runHY at h
    split at h
    · rename_i o os'
      split at h
      · rename_i t d hop hdst
        obtain ⟨hb,h⟩:=bvT h
        simp only [Bool.and_eq_true] at hb
        have hw:=gOk_wanted hR hb.2
        obtain ⟨hwd,hwo⟩:=okW_ok hb.1.2 hC.hX hC.hr
        have hyt:=hys t (memN_ok2 hb.1.1)
        unfold wpListIn
        rw [if_pos hw]
        refine ⟨fun _ _=>trivial,?_⟩
        have hsem:Oper.semAt Fence.wide.round a.eval o=execOp a.eval o:=Oper.semAt_none _ _
        have hrun:(execOp a.eval o).run P w=.ok (.value yv) w:=by
          unfold execOp
          rw [hop]
          have:a.eval (.tmp t)=yv:=by
            show a.tmps.getD t undef=yv
            simp [Array.getD_eq_getD_getElem?,hyt]
          simp [this]
        rw [hsem,hrun]
        show wpListIn Fence.wide m P ⟨ops⟩ Q os' (a.put o.dst yv) w
        rw [hdst]
        have hR2:Rel X β ρ (XS.flat { S with env:=remE S.env d }) (a.put (some d) yv) w:=by
          have:=hR.del hwd yv
          have e:(St.del S.flat d)=XS.flat { S with env:=remE S.env d }:=by
            simp only [St.del,XS.flat,remE_append hwo]
          rw [e] at this
          exact this
        have hdz:d∉[0]:=hz d (by simp [dstsL,hdst])
        have hlt2:d<a.tmps.size:=by rw [hR.sz]; exact okD_lt hwd
        refine runHY_ok hyv rr hQ (fun d' hd'=>hz d' (by simp only [dstsL,hdst]; exact .tail _ hd')) h hk hC hJ hR2 (fun t' ht'=>?_) ((put_other (t:=0) (d:=d) (fun e=>hdz (by rw [←e]; exact .head _)) _).trans h0) fun X2 O2 e β2 ρ2 S2 a2 w2 acc2 q1 q2 q3 q4 q5 q6=>H X2 O2 e β2 ρ2 S2 a2 w2 acc2 q1 q2 q3 ⟨q4.fix,q4.fixM,q4.prot,q4.ag⟩ q5 q6
        by_cases e:t'=d
        · subst e; simp [Act.put,hlt2]
        · rcases List.mem_cons.1 ht' with e2 | ht'
          · exact absurd e2 e
          · rw [put_other e]; exact hys t' ht'
      · cases h
    · cases h
  | .yl rr,os,ys,S,acc,k,X,O,β,ρ,a,w,Q,hQ,hz,h,hk,hC,hJ,hR,hys,h0,H=>by
    unfold runHY at h
    split at h
    · rename_i o os'
      split at h
      · rename_i t x ts d hop hdst
        split at h
        · rename_i v hv
          split at h
          · rename_i y hyd
            obtain ⟨hb,h⟩:=bvT h
            simp only [Bool.and_eq_true,Bool.not_eq_true'] at hb
            obtain ⟨⟨⟨⟨⟨b1,b2⟩,b3⟩,b4⟩,b5⟩,b6⟩:=hb
            have hw:=gOk_wanted hR b3
            obtain ⟨hwd,hwo⟩:=okW_ok b2 hC.hX hC.hr
            have hyt:=hys t (memN_ok2 b1)
            have hyt':a.eval (.tmp t)=yv:=by
              show a.tmps.getD t undef=yv
              simp [Array.getD_eq_getD_getElem?,hyt]
            have hfm:S.fixM=[]:=by
              cases hE:S.fixM with
              | nil=>rfl
              | cons q l=>rw [hE] at b6; cases b6
            obtain ⟨cs,hv1,hv2⟩:=hR.ev (holdsC_nil a) hv
            have hval:isV (rt u) (okR X β ρ S.flat.mem w) w y (a.eval x):=by
              refine ⟨cs,asD_ok (M:=[]) (β:=β) (ρ:=ρ) (by simp [lookM]) hyd hv2,?_⟩
              rw [hv1]; simp only [AV.val,RT.val,rt_agg,bEq b5]; cases v.isAgg<;>rfl
            have hpre:acc++[y] <+: es:=runHY_pre rr h hk
            have hek:es[acc.length]?=some y:=by
              obtain ⟨tl,rfl⟩:=hpre
              simp
            have hJw:=hst _ _ _ _ hJ (rel_below hR hC.hl)
            have hvalC:isV (rt u) (okC ok w0 w O bs) w y (a.eval x):=hval.weak fun b o' hbo=>by
              refine ⟨?_,hbo.2.1,fun hOb=>?_⟩
              · rcases hbo.1 with q | q
                · exact hC.hC b o' q
                · exact .inr (.inl (Nat.le_trans hC.hW q))
              · obtain ⟨q1,q2⟩:=hC.hO b hOb
                rcases hbo.1 with q | q
                · exact q2 o' q
                · omega
            obtain ⟨fn,tmps,assign,body,hyr,hround⟩:=hy _ _ _ _ _ hJw hek hvalC (m - 1)
            unfold wpListIn
            rw [if_pos hw]
            refine ⟨fun _ _=>trivial,?_⟩
            have hsem:Oper.semAt Fence.wide.round a.eval o=execOp a.eval o:=Oper.semAt_none _ _
            have hrun:(execOp a.eval o).run P w=.ok (.round l fn tmps assign body) w:=by
              unfold execOp
              rw [hop]
              have hm:(Array.mk [x]).map a.eval=#[a.eval x]:=by simp
              simp [resolve,hm,hyt',hyv,Deferred.ofValue,invoke,hyr]
            rw [hsem,hrun]
            refine ⟨fun hd=>(by have h0:Fence.wide.depth.isSome=false:=rfl; rw [h0] at hd; cases hd),hround.mono ?_⟩
            rintro r2 B ⟨rfl,O',hJ',hO',hsz,hsame⟩
            obtain ⟨hC2,hR2⟩:=reY_ok hC hR hO' (fun b hb=>(hlt _ _ _ hJ' b hb).1) hsz hsame
            show wpListIn Fence.wide m P ⟨ops⟩ Q os' (a.put o.dst (.bool true)) B
            rw [hdst]
            obtain ⟨hwd2,_⟩:=okW_ok b2 hC2.hX hC2.hr
            have hR3:Rel (reY X β ρ S.flat.mem w B) β ρ (XS.flat (XS.put { S with mem:=[] } d [] (.d .bool true))) (a.put (some d) (.bool true)) B:=by
              have hflat:XS.flat { S with mem:=[] }=⟨S.flat.env,[]⟩:=by simp [XS.flat,hfm]
              rw [put_flat (S:={ S with mem:=[] }) hwo,hflat]
              exact hR2.put0 hwd2 (x:=.d .bool true) (c:=[.bool true]) rfl
            have hdz:d∉[0]:=hz d (by simp [dstsL,hdst])
            refine runHY_ok hyv rr hQ (fun d' hd'=>hz d' (by simp only [dstsL,hdst]; exact .tail _ hd')) h hk hC2 (by rw [List.length_append]; exact hJ') hR3 (fun t' ht'=>?_) ((put_other (t:=0) (d:=d) (fun e=>hdz (by rw [←e]; exact .head _)) _).trans h0) fun X2 O2 e β2 ρ2 S2 a2 w2 acc2 q1 q2 q3 q4 q5 q6=>H X2 O2 e β2 ρ2 S2 a2 w2 acc2 q1 q2 q3 ⟨q4.fix,q4.fixM,q4.prot,q4.ag⟩ q5 q6
            by_cases e:t'=d
            · subst e
              rw [memN_of ht'] at b4; cases b4
            · rw [put_other e]; exact hys t' ht'
          · cases h
        · cases h
      · cases h
    · cases h
  | .so t x y,os,ys,S,acc,k,X,O,β,ρ,a,w,Q,hQ,hz,h,hk,hC,hJ,hR,hys,h0,H=>by
    unfold runHY at h
    split at h
    · rename_i t' v he
      obtain ⟨hoff,h1⟩:=bvT h
      have ht':=(lookE_ok he).2
      simp only at ht'
      subst ht'
      split at h1
      · rename_i hv
        subst hv
        exact runHY_ok hyv x hQ hz h1 hk hC hJ (put_same hR he) hys h0 fun X2 O2 e β2 ρ2 S2 a2 w2 acc2 q1 q2 q3 q4 q5 q6=>H X2 O2 e β2 ρ2 S2 a2 w2 acc2 q1 q2 q3 ⟨q4.fix,q4.fixM,q4.prot,q4.ag⟩ q5 q6
      · rename_i hv
        have hv:v=false:=by simpa using hv
        subst hv
        exact runHY_ok hyv y hQ hz h1 hk hC hJ (put_same hR he) hys h0 fun X2 O2 e β2 ρ2 S2 a2 w2 acc2 q1 q2 q3 q4 q5 q6=>H X2 O2 e β2 ρ2 S2 a2 w2 acc2 q1 q2 q3 ⟨q4.fix,q4.fixM,q4.prot,q4.ag⟩ q5 q6
    · cases h
theorem runY_ok (ha0:a0.tmps[0]?=some (.func (.yield l) #[] #[])):∀{R:Type} {r:R} (an:AnY) {c:Code} {S:XS} {acc:List u.De} {k:Ex→XS→List u.De→Option R} {X:Cx} {O:Nat→Prop} {β:Nat→Nat} {ρ:Nat→Value} {a:Act} {w:World} {Q:Exit→Act→World→Prop},
    ¬ LetsOut Q→runY Y K n N u an c S acc k=some r→(∀e S' acc',k e S' acc'=some r→acc' <+: es)→YCx P Y K n ok w0 bs X O→J acc.length O X.w→Rel X β ρ S.flat a w→a.tmps[0]?=a0.tmps[0]?→YOk P Y K n ok w0 bs J a0 S β ρ k r Q→c.wp P Q a w
  | R,r,.nil,c,S,acc,k,X,O,β,ρ,a,w,Q,hQ,h,hk,hC,hJ,hR,h0,H=>by
    cases c<;>simp only [runY] at h<;>first | (cases h; done) | skip
    · exact wp_skip (H X O .n β ρ S a w acc h hC hJ (Keeps.refl _ _ _) hR h0)
    · rename_i id; exact wp_exit (H X O (.x id) β ρ S a w acc h hC hJ (Keeps.refl _ _ _) hR h0)
    · exact wp_ret (H X O .r β ρ S a w acc h hC hJ (Keeps.refl _ _ _) hR h0)
  | R,r,.reg hn,c,S,acc,k,X,O,β,ρ,a,w,Q,hQ,h,hk,hC,hJ,hR,h0,H=>by
    cases c with
    | region id ops draw =>
      obtain ⟨ops⟩:=ops
      cases draw with
      | true=>simp [runY] at h
      | false =>
        simp only [runY] at h
        obtain ⟨hb,h⟩:=bvT h
        simp only [Bool.and_eq_true] at hb
        refine (wpIn_wide (n:=1)).1 (wpIn_region_list ?_)
        have:=runH_ok hT hC.hK hC.hX hC.hr (Q:=QS (dstsL ops) a Q) hn (l:=ops) (rest:=[]) hR h fun β' ρ' S' a' w' h1 h2 h3=>fun hsame=>H X O .n β' ρ' S' a' w' acc h1 hC hJ h2 h3 ((hsame 0 fun hm=>apart_no hb.2 hm (.head _)).trans h0)
        rw [List.append_nil] at this
        exact wpList_in (ro:=none) hQ ops hb.1 (fun d hd=>hd) a w (fun t _=>rfl) this
    | _=>simp [runY] at h
  | R,r,.yr hn,c,S,acc,k,X,O,β,ρ,a,w,Q,hQ,h,hk,hC,hJ,hR,h0,H=>by
    cases c with
    | region id ops draw =>
      obtain ⟨ops⟩:=ops
      cases draw with
      | true=>simp [runY] at h
      | false =>
        simp only [runY] at h
        obtain ⟨hb,h⟩:=bvT h
        refine (wpIn_wide (n:=1)).1 (wpIn_region_list ?_)
        exact runHY_ok (m:=1) hT hst hlt hy rfl hn hQ (fun d hd hm=>apart_no hb hd hm) h (fun S' acc' h'=>hk _ _ _ h') hC hJ hR (fun t ht=>by
          have:t=0:=by simpa using ht
          subst this; rw [h0]; exact ha0) h0 fun X2 O2 e β2 ρ2 S2 a2 w2 acc2 q1 q2 q3 q4 q5 q6=>H X2 O2 .n β2 ρ2 S2 a2 w2 acc2 q1 q2 q3 q4 q5 q6
    | _=>simp [runY] at h
  | R,r,.two x y,c,S,acc,k,X,O,β,ρ,a,w,Q,hQ,h,hk,hC,hJ,hR,h0,H=>by
    cases c<;>simp only [runY] at h<;>first | (cases h; done) | skip
    · rename_i c1 c2
      refine wp_seq (runY_ok ha0 x (Q:=Exit.then (c2.wp P Q) Q) hQ h (fun e S' acc' h'=>?_) hC hJ hR h0 fun X2 O2 e β2 ρ2 S2 a2 w2 acc2 q1 q2 q3 q4 q5 q6=>?_)
      · cases e with
        | n=>exact runY_pre y h' hk
        | x i=>exact hk _ _ _ h'
        | r=>exact hk _ _ _ h'
      · cases e with
        | n=>exact runY_ok ha0 y hQ q1 hk q2 q3 q5 q6 fun X3 O3 e β3 ρ3 S3 a3 w3 acc3 p1 p2 p3 p4 p5 p6=>H X3 O3 e β3 ρ3 S3 a3 w3 acc3 p1 p2 p3 (q4.trans p4) p5 p6
        | x i=>exact H X2 O2 (.x i) β2 ρ2 S2 a2 w2 acc2 q1 q2 q3 q4 q5 q6
        | r=>exact H X2 O2 .r β2 ρ2 S2 a2 w2 acc2 q1 q2 q3 q4 q5 q6
    · rename_i co c1 c2
      split at h
      · rename_i v hv
        obtain ⟨cs,h1,h2⟩:=hR.ev (holdsC_nil a) hv
        have h2':cs=_:=h2
        subst h2'
        have h1':a.eval co=.bool v:=h1
        refine wp_cond_split h1' (fun hv=>?_) (fun hv=>?_)
        · rw [if_pos hv] at h
          exact runY_ok ha0 x hQ h hk hC hJ hR h0 H
        · rw [if_neg (by rw [hv]; simp)] at h
          exact runY_ok ha0 y hQ h hk hC hJ hR h0 H
      · cases h
  | R,r,.un x,c,S,acc,k,X,O,β,ρ,a,w,Q,hQ,h,hk,hC,hJ,hR,h0,H=>by
    cases c<;>simp only [runY] at h<;>first | (cases h; done) | skip
    rename_i id c1
    refine wp_block (runY_ok ha0 x (Q:=Exit.inBlock id Q) hQ h (fun e S' acc' h'=>?_) hC hJ hR h0 fun X2 O2 e β2 ρ2 S2 a2 w2 acc2 q1 q2 q3 q4 q5 q6=>?_)
    · cases e with
      | n=>exact hk _ _ _ h'
      | x i =>
        simp only at h'
        cases hb:Nat.beq i id with
        | true=>rw [hb] at h'; exact hk _ _ _ h'
        | false=>rw [hb] at h'; exact hk _ _ _ h'
      | r=>exact hk _ _ _ h'
    · cases e with
      | n=>exact H X2 O2 .n β2 ρ2 S2 a2 w2 acc2 q1 q2 q3 q4 q5 q6
      | x i =>
        simp only at q1
        show if i=id then Q .normal a2 w2 else Q (.exit i) a2 w2
        cases hb:Nat.beq i id with
        | true =>
          rw [hb] at q1
          rw [if_pos (Nat.eq_of_beq_eq_true hb)]
          exact H X2 O2 .n β2 ρ2 S2 a2 w2 acc2 q1 q2 q3 q4 q5 q6
        | false =>
          rw [hb] at q1
          rw [if_neg (fun e=>by rw [e,Nat.beq_refl] at hb; cases hb)]
          exact H X2 O2 (.x i) β2 ρ2 S2 a2 w2 acc2 q1 q2 q3 q4 q5 q6
      | r=>exact H X2 O2 .r β2 ρ2 S2 a2 w2 acc2 q1 q2 q3 q4 q5 q6
  | R,r,.lp ks ms Γ exs x,c,S,acc,k,X,O,β,ρ,a,w,Q,hQ,h,hk,hC,hJ,hR,h0,H=>by
    cases c<;>simp only [runY] at h<;>first | (cases h; done) | skip
    rename_i c1
    split at h
    · rename_i s0 hs0
      obtain ⟨z,hz,ho⟩:=bindE h
      obtain ⟨e0,S0,hk0⟩:=outS_any ho
      have hzp:z.2 <+: es:=hk _ _ _ hk0
      obtain ⟨f,hz,hf⟩:∃f,loopN f N (s0,acc)=some z∧f=_:=⟨_,hz,rfl⟩
      have main:∀(m:Nat) (q:Γ.De×List u.De),loopN f m q=some z→q.2 <+: es:=by
        intro m
        induction m with
        | zero=>intro q hq; simp [loopN] at hq
        | succ m ih =>
          intro q hq
          simp only [loopN] at hq
          obtain ⟨x,hx,hq⟩:=bindE hq
          rw [hf] at hx
          refine runY_pre _ hx fun e S' acc' h'=>?_
          have fin:(∃s',some (Sum.inl (s',acc'))=some x)∨(∃y,some (Sum.inr (y,acc'))=some x)→acc' <+: es:=by
            rintro (⟨s',e1⟩ | ⟨y,e1⟩)
            · injection e1 with e1; subst e1; exact ih _ hq
            · injection e1 with e1; subst e1
              injection hq with hq; subst hq; exact hzp
          cases e with
          | n =>
            simp only at h'
            split at h'
            · exact fin (.inl ⟨_,h'⟩)
            · cases h'
          | x i =>
            simp only at h'
            split at h'
            · exact fin (.inr ⟨_,h'⟩)
            · cases h'
          | r =>
            simp only at h'
            split at h'
            · exact fin (.inr ⟨_,h'⟩)
            · cases h'
      obtain ⟨β1,ρ1,h1,h2⟩:=dec_re (S0:=S.ent ks ms) (hR.ent ks ms) ⟨rfl,rfl,rfl⟩ hs0
      refine wp_loop_fuel (fun m a w=>∃(s:Γ.De) (ac:List u.De) (X1:Cx) (O1:Nat→Prop) (β':Nat→Nat) (ρ':Nat→Value),YCx P Y K n ok w0 bs X1 O1∧J ac.length O1 X1.w∧a.tmps[0]?=a0.tmps[0]?∧agP S.prot β β' ρ ρ'∧Rel X1 β' ρ' ((S.ent ks ms).re (enc Γ s)).flat a w∧loopN f m (s,ac)=some z) N ⟨s0,acc,X,O,β1,ρ1,hC,hJ,h0,h1,h2,hz⟩ ?_
      rintro m1 a1 w1 ⟨s,ac,X1,O1,β',ρ',hC1,hJ1,h01,h3,h4,h5⟩
      cases m1 with
      | zero=>simp [loopN] at h5
      | succ m1 =>
        simp only [loopN] at h5
        obtain ⟨q,hq,h5⟩:=bindE h5
        rw [hf] at hq
        have fin:∀acc',(∃s',some (Sum.inl (s',acc'))=some q)∨(∃y,some (Sum.inr (y,acc'))=some q)→acc' <+: es:=by
          rintro acc' (⟨s',e1⟩ | ⟨y,e1⟩)
          · injection e1 with e1; subst e1; exact main m1 _ h5
          · injection e1 with e1; subst e1
            injection h5 with h5; subst h5; exact hzp
        refine runY_ok ha0 x (Q:=Exit.then (fun a' w'=>∃k,k<m1+1∧∃(s:Γ.De) (ac:List u.De) (X1:Cx) (O1:Nat→Prop) (β':Nat→Nat) (ρ':Nat→Value),YCx P Y K n ok w0 bs X1 O1∧J ac.length O1 X1.w∧a'.tmps[0]?=a0.tmps[0]?∧agP S.prot β β' ρ ρ'∧Rel X1 β' ρ' ((S.ent ks ms).re (enc Γ s)).flat a' w'∧loopN f k (s,ac)=some z) Q) hQ hq (fun e S' acc' h'=>?_) hC1 hJ1 h4 h01 fun X2 O2 e β2 ρ2 S' a' w' acc2 h6 q2 q3 h7 h8 q6=>?_
        · cases e with
          | n =>
            simp only at h'
            split at h'
            · exact fin _ (.inl ⟨_,h'⟩)
            · cases h'
          | x i =>
            simp only at h'
            split at h'
            · exact fin _ (.inr ⟨_,h'⟩)
            · cases h'
          | r =>
            simp only at h'
            split at h'
            · exact fin _ (.inr ⟨_,h'⟩)
            · cases h'
        · cases e with
          | n =>
            simp only at h6
            split at h6
            · rename_i s' hd
              injection h6 with h6; subst h6
              obtain ⟨β3,ρ3,h9,h10⟩:=dec_re (S0:=S.ent ks ms) h8 ⟨h7.fix,h7.fixM,h7.prot⟩ hd
              exact ⟨m1,Nat.lt_succ_self m1,s',acc2,X2,O2,β3,ρ3,q2,q3,q6,(h3.trans h7.ag).trans h9,h10,h5⟩
            · cases h6
          | x i =>
            simp only at h6
            split at h6
            · rename_i s' hd
              injection h6 with h6; subst h6
              injection h5 with h5; subst h5
              obtain ⟨β3,ρ3,S1,h9,h10,h11⟩:=inj_ok ks ms hd ho ⟨h7.fix,h7.fixM,h7.prot⟩ h8
              exact H X2 O2 (.x i) β3 ρ3 _ a' w' acc2 h9 q2 q3 ⟨rfl,rfl,rfl,(h3.trans h7.ag).trans h10⟩ h11 q6
            · cases h6
          | r =>
            simp only at h6
            split at h6
            · rename_i s' hd
              injection h6 with h6; subst h6
              injection h5 with h5; subst h5
              obtain ⟨β3,ρ3,S1,h9,h10,h11⟩:=inj_ok ks ms hd ho ⟨h7.fix,h7.fixM,h7.prot⟩ h8
              exact H X2 O2 .r β3 ρ3 _ a' w' acc2 h9 q2 q3 ⟨rfl,rfl,rfl,(h3.trans h7.ag).trans h10⟩ h11 q6
            · cases h6
    · cases h
end
end
def envY:List DV→Nat→List En
  | [],_=>[]
  | v::l,i=>⟨i,[],.a v.1 v.2⟩::envY l (i+1)
def runFY (Y:TX) (K:List Con) (N:Nat) (u:Ty) (fn:Func) (an:AnY) (cs:List Ty) (x:Tup cs):Option (List u.De):=match fn.body with
  | some c=>bif Nat.ble (cs.length+1) fn.ntmps&&Nat.blt (cs.length+1) 100000 then runY Y K fn.ntmps N u an c ⟨envY (toL cs x) 1,globE Y.gl,[],[],[]⟩ [] fun e S acc=>match e with
    | .x _=>none
    | .n=>some acc
    | .r=>some acc else none
  | none=>none
theorem toL_len:∀(ts:List Ty) (x:Tup ts),(toL ts x).length=ts.length
  | [],_=>rfl
  | [t],x=>rfl
  | t::u::ts,x=>by simp [toL,toL_len (u::ts)]
theorem boxV_len {ok:Ok} {w:World}:∀{l:List DV} {bs:List Nat},boxV ok w l bs→bs.length=l.length
  | [],[],_=>rfl
  | v::l,b::bs,h=>by simp [boxV_len h.2]
  | [],_::_,h=>h.elim
  | _::_,[],h=>h.elim
theorem boxV_get {ok:Ok} {w:World}:∀{l:List DV} {bs:List Nat},boxV ok w l bs→∀(i:Nat) v,l[i]?=some v→∃b,bs[i]?=some b∧∃tid cs,w.heap[b]?=some (.cells cs.toArray tid (0,0))∧(rt v.1).rep ok w v.2 cs
  | [],[],_,i,v,hv=>by simp at hv
  | x::l,b::bs,h,0,v,hv=>by
    simp at hv; subst hv
    exact ⟨b,rfl,h.1⟩
  | x::l,b::bs,h,i+1,v,hv=>boxV_get h.2 i v (by simpa using hv)
  | [],_::_,h,_,_,_=>h.elim
  | _::_,[],h,_,_,_=>h.elim
theorem envY_get:∀{l:List DV} {i:Nat} {e:En},e∈envY l i→∃j v,l[j]?=some v∧e=⟨i+j,[],.a v.1 v.2⟩
  | v::l,i,e,h=>by
    rcases List.mem_cons.1 h with rfl | h
    · exact ⟨0,v,rfl,rfl⟩
    · obtain ⟨j,v',h1,h2⟩:=envY_get h
      exact ⟨j+1,v',h1,by rw [h2]; congr 1; omega⟩
theorem iter_ok {P:Program} {Y:TX} {K:List Con} {N:Nat} (hT:TabOk P Y.T) (hmix:P.follows .mixedOrders=true) (hK:KsOk P Y.gl K) {it:It} {fn:Func} (hf:P.funcs[it.f]?=some fn) (hres:fn.results=#[]) {an:AnY} (hrun:∀x,it.fn x=runFY Y K N it.u fn an it.cs x):ItOk P Y.gl it:=by
  intro ok w bs x es hok hG hes hbox hnd hbno l J W O0 hbel hst hlt hy hJ0 m
  rw [hrun] at hes
  unfold runFY at hes
  split at hes
  case h_2=>cases hes
  rename_i c hb
  obtain ⟨hc,hes⟩:=bvT hes
  simp only [Bool.and_eq_true] at hc
  have hn:=Nat.le_of_ble_eq_true hc.1
  have hsm:=Nat.le_of_ble_eq_true hc.2
  have hbl:=boxV_len hbox
  rw [toL_len] at hbl
  refine callsIn_wide.2 (calls_of_wp hf hb ?_)
  obtain ⟨a,ha⟩:∃a:Act,a={ tmps:=(#[Value.func (.yield l) #[] #[]]++(bs.map ptrV).toArray)++Array.replicate (fn.ntmps - (#[Value.func (.yield l) #[] #[]]++(bs.map ptrV).toArray).size) undef,defers:=[] }:=⟨_,rfl⟩
  rw [←ha]
  have hsize:(#[Value.func (.yield l) #[] #[]]++(bs.map ptrV).toArray).size=it.cs.length+1:=by
    simp [hbl]
    try omega
  have ha0:a.tmps[0]?=some (.func (.yield l) #[] #[]):=by
    rw [ha]
    show ((#[Value.func (.yield l) #[] #[]]++(bs.map ptrV).toArray)++_)[0]?=_
    rw [Array.getElem?_append_left (by simp),Array.getElem?_append_left (by simp)]
    rfl
  have hag:∀(j:Nat) b,bs[j]?=some b→a.tmps[1+j]?=some (ptrV b):=fun j b hj=>by
    rw [ha]
    have hjl:=(List.getElem?_eq_some_iff.1 hj).1
    rw [Array.getElem?_append_left (by rw [hsize]; omega),Array.getElem?_append_right (by simp)]
    simp [hj]
  obtain ⟨X,hX⟩:∃X:Cx,X=⟨fn.ntmps,fun b o=>ok b o∨b∈bs,W,[],⟨#[],[]⟩,none,[],by simp,[]⟩:=⟨_,rfl⟩
  have hev:Evo ok w W:=(Evo.of_below hbel).mono fun b o hbo=>hok b o hbo
  have hbW:∀b∈bs,b<w.heap.size:=fun b hb=>by
    obtain ⟨i,hi⟩:=List.getElem?_of_mem hb
    have hil:=(List.getElem?_eq_some_iff.1 hi).1
    have hvl:i<(toL it.cs x).length:=by rw [toL_len]; omega
    obtain ⟨b',h1,tid,cs,h2,_⟩:=boxV_get hbox i _ (List.getElem?_eq_getElem hvl)
    rw [hi] at h1; injection h1 with h1; subst h1
    exact heap_lt h2
  have hGX:GlobOk Y.gl (okN X) X.w:=by
    rw [hX]
    exact (hG.keep hbel.size fun b o hbo=>hbel.block b (hok b o hbo)).weak fun b o hbo=>⟨.inl hbo,by simp,Nat.lt_of_lt_of_le (hok b o hbo) hbel.size⟩
  have hGW:GlobOk Y.gl (okN X) W:=by
    have h:=hGX
    rw [show X.w=W by rw [hX]] at h
    exact h
  have hokR:∀b o,ok b o∨b∈bs→okR X (fun _=>0) (fun _=>undef) [] W b o:=fun b o hbo=>⟨.inl (by rw [hX]; exact hbo),by
    rcases hbo with h | h
    · exact Nat.lt_of_lt_of_le (hok b o h) hbel.size
    · exact Nat.lt_of_lt_of_le (hbW b h) hbel.size,by simp,by simp [memO]⟩
  have hR:Rel X (fun _=>0) (fun _=>undef) (XS.flat ⟨envY (toL it.cs x) 1,globE Y.gl,[],[],[]⟩) a W:=by
    have hS:Sb (fun _=>0) X [] [] [] (memO (fun _=>0) (fun _=>undef) []) a W :=
      { sz:=by rw [ha,hX]; simp only [Array.size_append,Array.size_replicate,hsize]; omega,df:=by rw [ha,hX],fr:=by rw [hX]; simp,pn:=by rw [hX]; simp,tm:=by simp,bel:=by rw [hX]; exact BelowL.refl _ _ _,dat:=trivial,obj:=by simp,own:=by simp [memO],dHH:=by simp,dHO:=by simp,dOO:=by simp [memO] }
    have e:XS.flat ⟨envY (toL it.cs x) 1,globE Y.gl,[],[],[]⟩=⟨envY (toL it.cs x) 1++globE Y.gl,[]⟩:=by simp [XS.flat]
    rw [e]
    refine Rel.ofSb hS rfl fun e he=>?_
    rcases List.mem_append.1 he with he | he
    · obtain ⟨j,v,hj,rfl⟩:=envY_get he
      obtain ⟨b,hb1,tid,cs,hb2,hb3⟩:=boxV_get hbox j v hj
      have hjl:=(List.getElem?_eq_some_iff.1 hj).1
      rw [toL_len] at hjl
      have hbm:=List.mem_of_getElem? hb1
      refine ⟨fun _=>⟨[ptrV b],?_,ptrV b,rfl,b,0,cs,rfl,(rt v.1).weak ((rt v.1).evo hb3 hev) fun b o hbo=>hokR b o (.inl hbo),fun j2 u2 hu2=>⟨hokR _ _ (.inr hbm),?_⟩⟩,.inl (holdsC_nil a)⟩
      · rw [rd_lt (Nat.ble_eq_true_of_le (by show 1+j+1≤100000; omega))]
        exact hag j b hb1
      · have hbw:W.heap[b]?=some (.cells cs.toArray tid (0,0)):=(hbel.block b (hbW b hbm)).trans hb2
        simp only [World.cell?,hbw,Nat.zero_add]
        simpa using hu2
    · exact globE_ok hGW (fun b o (hbo:okN X b o)=>⟨.inl hbo.1,(by have h:=hbo.2.2; rw [hX] at h; exact h),by simp,by simp [memO]⟩) e he
  have hC:YCx P Y K fn.ntmps ok w bs X O0:=by
    refine ⟨by rw [hX],by rw [hX],by rw [hX],by rw [hX],by rw [hX],⟨hK,hGX⟩,fun b hb=>?_,fun b o hbo=>?_,by rw [hX]; exact hbel.size⟩
    · obtain ⟨q1,q2,q3⟩:=hlt _ _ _ hJ0 b hb
      rw [hX]
      exact ⟨q1,fun o hbo=>hbo.elim (q2 o) q3⟩
    · rw [hX] at hbo
      exact hbo.elim .inl fun h=>.inr (.inr h)
  have hJX:J ([]:List it.u.De).length O0 X.w:=by rw [hX]; exact hJ0
  refine runY_ok (a0:=a) hT hst hlt hy ha0 an (Q:=bodyPost P fn _) ?_ hes (fun e S' acc' h'=>?_) hC hJX hR rfl fun X2 O2 e β' ρ' S' a' w' acc' h1 h2 h3 h4 h5 h6=>?_
  · rintro ⟨_,_,h⟩
    obtain ⟨⟨v,hv⟩,_⟩:=h
    cases hv
  · cases e with
    | x i=>cases h'
    | n=>injection h' with h'; subst h'; exact List.prefix_refl _
    | r=>injection h' with h'; subst h'; exact List.prefix_refl _
  · have hfin:acc'=es→bodyPost P fn (fun e B=>(∃v,e=.returned v)∧∃O,J es.length O B) .ret a' w':=fun he=>by
      subst he
      refine ⟨h5.df.trans h2.hd,.tuple #[],?_,⟨_,rfl⟩,O2,hst _ _ _ _ h3 (rel_below h5 h2.hl)⟩
      simp [results,hres]
    cases e with
    | x i=>cases h1
    | n=>exact hfin (by injection h1)
    | r=>exact hfin (by injection h1)
end Gx

/- From a statement's arguments to data, and back to the statement. -/
namespace Gx
open Go Go.RowKit Gd Go.WideShapes Go.ChangeShapes
set_option linter.unusedVariables false
set_option linter.unusedSimpArgs false
def gd:(t:Ty)→t.De→Prop
  | .int k,x=>goodI k x
  | .bool,_=>True
  | .str,x=>goodS x
  | .sl e,x=>goodL (gd e) x
  | .arr _ e,x=>∀y∈x,gd e y
  | .unit,_=>True
  | .pr f r,x=>gd f x.1∧gd r x.2
  | .st fs,x=>gd fs x
  | .ref,_=>True
  | .rose _,_=>True
abbrev OpensT (P:Program) (t:TypeId) (ty:Ty):Prop:=Opens P (rt ty) t (gd ty)
section
variable {P:Program}
theorem openT_int {t:TypeId} {k:IntKind} (ht:P.underlying t=some (.int k)) (hc:P.cellsOf t=1):OpensT P t (.int k):=opens_int ht hc
theorem openT_bool {t:TypeId} (ht:P.underlying t=some .bool) (hc:P.cellsOf t=1):OpensT P t .bool:=by
  have:=opens_bool ht hc
  exact ⟨this.1,this.2.1,fun enc w n cs x h=>let ⟨y,h1,_⟩:=this.2.2 enc w n cs x h; ⟨y,h1,trivial⟩⟩
theorem openT_str {t:TypeId} (ht:P.underlying t=some .string) (hc:P.cellsOf t=1):OpensT P t .str:=opens_str ht hc
theorem openT_sl {t e:TypeId} {ty:Ty} (ht:P.underlying t=some (.slice e)) (hc:P.cellsOf t=1) (he:OpensT P e ty) (hpos:Nat.ble 1 ty.size=true):OpensT P t (.sl ty) :=
  opens_sl ht hc he (by rw [rt_size]; exact Nat.le_of_ble_eq_true hpos)
inductive OpenF (P:Program) (ff:Array Field):Ty→Nat→Nat→Prop
  | last {ty:Ty} {i off t:Nat} {f:Field} (ho:OpensT P t ty) (hi:ff[i]?=some f) (ht:f.type=t) (hoff:f.offset=off):OpenF P ff ty i off
  | pr {ty r:Ty} {i off t:Nat} {f:Field} (ho:OpensT P t ty) (hi:ff[i]?=some f) (ht:f.type=t) (hoff:f.offset=off) (hr:OpenF P ff r (i+1) (off+ty.size)):OpenF P ff (.pr ty r) i off
theorem openF_rep {ff:Array Field} {H:Type} {enc:TypeId×Value→H} {w:World} {n:Nat} {cs:List Value} {xs:List (DataW H×List MemPlace)}
    (hlen:xs.length=ff.size) (hf:∀(i:Nat) (f:Field),ff[i]?=some f→DataW.trod enc P w 0 (fun _=>true) true n f.type ((cs.drop f.offset).take (P.cellsOf f.type))=xs[i]?) :
    ∀{ty:Ty} {i off:Nat},OpenF P ff ty i off→cs.length=off+ty.size→∃y,(rt ty).rep (lt w) w y (cs.drop off)∧gd ty y:=by
  intro ty i off h
  induction h with
  | last ho hi ht hoff =>
    intro hl
    obtain ⟨y,h1,h2⟩:=Opens.fld ho hlen hf _ _ hi ht hoff
    rw [List.take_of_length_le (by simp; rw [rt_size]; omega)] at h1
    exact ⟨y,h1,h2⟩
  | pr ho hi ht hoff hr ih =>
    intro hl
    rename_i ty r i off t f
    obtain ⟨y,h1,h2⟩:=Opens.fld ho hlen hf _ _ hi ht hoff
    have hl':cs.length=off+ty.size+r.size:=by
      have:(Ty.pr ty r).size=ty.size+r.size:=rfl
      omega
    obtain ⟨z,h3,h4⟩:=ih hl'
    refine ⟨(y,z),⟨_,cs.drop (off+ty.size),?_,h1,h3⟩,h2,h4⟩
    rw [rt_size,←List.drop_drop]
    exact (List.take_append_drop _ _).symm
theorem openT_st {t:TypeId} {fs:Ty} {ff:Array Field} (ht:P.underlying t=some (.struct ff)) (hc:P.cellsOf t=fs.size) (ho:OpenF P ff fs 0 0):OpensT P t (.st fs):=by
  refine ⟨by rw [hc,rt_size]; rfl,fun hv=>⟨fun _=>?_,fun h=>nomatch h⟩,fun enc w n cs x h=>?_⟩
  · obtain ⟨c,rfl,_⟩:=okWide_struct ht hv; exact ⟨_,rfl⟩
  · obtain ⟨xs,m,_,_,hl,hlen,hf⟩:=DataW.trod_struct ht h
    obtain ⟨y,h1,h2⟩:=openF_rep hlen hf ho (by rw [hl,hc]; simp)
    exact ⟨y,by simpa [rt,rAgg] using h1,h2⟩
theorem lends_nil {ok:Ok} {w:World} {β:Nat→Nat} {ρ:Nat→Value}:Lends (memO β ρ []) [] ok w:=⟨by simp [memO],.nil,by simp⟩
section
variable {β:Nat→Nat} {ρ:Nat→Value} {ok:Ok} {w:World}
theorem args1 {t0:Ty} {x0:t0.De} {v0:Value} (h0:isV (rt t0) ok w x0 v0) :
    ∀e∈[(⟨0,[],.d t0 x0⟩:En)],∃cs,[v0][e.t]?=some (e.av.val cs)∧cr β ρ ok w false e.av cs:=by
  intro e he
  obtain ⟨c0,p0,q0⟩:=cr_of_isV (β:=β) (ρ:=ρ) h0
  rcases List.mem_cons.1 he with rfl | he
  · exact ⟨c0,by rw [q0]; rfl,p0⟩
  · cases he
theorem post_true {c:Con} {x:c.Γ.De} {y:c.Δ.De} {f:FuncId} {args:Array Value} (h:Calls P f args w (RetL [] w (PostC c β ρ ok [] w x y))) (hy:resAV (enc c.Δ y).env=.d .bool true):Calls P f args w (Ret w (R1 rBool ok w true)):=by
  refine h.mono ?_
  rintro e w' ⟨v,rfl,⟨β',ρ',_,⟨cs,h1,h2⟩,_⟩,hb⟩
  refine ⟨v,rfl,?_,hb⟩
  rw [hy] at h1 h2
  have h2':cs=[.bool true]:=h2
  subst h2'
  exact isV_bool.2 h1
end
end
end Gx

/- Functions of the library, by the kit's contracts; the package-level variables that a statement lists. -/
namespace Gx
open Go Go.RowKit Go.Lib Go.Sort Gd
set_option linter.unusedVariables false
set_option linter.unusedSimpArgs false
set_option linter.constructorNameAsVariable false
section
variable {P:Program} {gl:List (Nat×Σ t:Ty,t.De)}
end
end Gx

/- slices.Clone. -/
namespace Gx
open Go Go.RowKit Gd
set_option linter.unusedVariables false
set_option linter.unusedSimpArgs false
section
variable {P:Program} {Y:TX}
end
end Gx

/- The second part. -/
import Derived.Test.YtfkpgpibpnghiaaGreatXFns
import Derived.Test.YtfkpgpibpnghiaaGreatGDraw
import Derived.Lib.RowBridge
import Derived.Test.YtfkpgpibpnghiaaGreatXRl
import Derived.KernelRfl
import Derived.Sort.Walk0
import Derived.Test.YtfkpgpibpnghiaaGreatXPlainHistoryApartA
namespace Gx
open Go Gd
set_option linter.unusedVariables false
set_option linter.unusedSimpArgs false
open Sz
open Sh
open Go Gd Sz
set_option linter.defProp false
set_option maxRecDepth 100000
set_option maxHeartbeats 4000000
set_option synthInstance.maxSize 100000
set_option synthInstance.maxHeartbeats 1000000
variable {N:Nat} [Y2 N]
theorem Jgc(x:Str):atr x=0∨atr x=1∨atr x=2∨atr x=3:=by
 obtain⟨r,e,h⟩:=(mkW (Yh.eq_1 0 x) True (fun r=>r=0∨r=1∨r=2∨r=3)).spec (fun r=>r=0∨r=1∨r=2∨r=3) ⟨trivial,fun _ h=>h⟩
 unfold atr
 rw[e,XQ]; exact h
theorem Q9y{n:Nat}{e:Ql}{k:Int}(h:Um n e k):k=1∨k=2∨k=3:=by
 cases n with
 | zero=>exact h.elim
 | succ n =>
  rw[Um]at h
  have:=Jgc e.x.2.2
  rcases h with h | h | h | ⟨h1,h2,k0,k1,h3,h4,h5⟩
  ·omega
  ·omega
  ·obtain⟨h1,h2,h3,h4⟩:=h
   omega
  ·clear h3 h4; omega
structure Q9z(n:Nat)(e:Ql)(k:Int):Prop where
 all:∀(i:Nat) (a:Ql),e.ks[i]?=some a→i<2→Um n a k
theorem Qqg{n:Nat}{e:Ql}{k:Int}(h0:∀a,e.ks[0]?=some a→Um n a k)(h1:∀a,e.ks[1]?=some a→Um n a k):Q9z n e k:=⟨fun i a ha hi=>by
 match i,hi with
 | 0,_=>exact h0 a ha
 | 1,_=>exact h1 a ha⟩
theorem Qx5{n:Nat}{e:Ql}(h:Um (n+1) e 1):e.x.1=1∨e.x.1=3∨(10<e.x.1∧e.x.1<16∧e.ks.length=2∧Q9z n e 1):=by
 rw[Um]at h
 rcases h with h | h | h | ⟨h1,h2,k0,k1,h3,h4,h5⟩
 ·exact .inl h.1
 ·exact absurd h.2.2.2 (by decide)
 ·exact .inr (.inl h.1)
 ·refine .inr (.inr ?_)
  have h6:10<e.x.1∧e.ks.length=2∧k0=1∧k1=1:=by clear h3 h4; omega
  obtain⟨h7,h8,rfl,rfl⟩:=h6
  exact⟨h7,h2,h8,Qqg h3 h4⟩
theorem Q51{n:Nat}{e:Ql}(h:Um (n+1) e 3):e.x.1=3∨(e.x.1=4∧e.ks.length=1∧∀a,e.ks[0]?=some a→Um n a 3)∨((e.x.1=5∨e.x.1=6)∧e.ks.length=2∧Q9z n e 3)∨(6<e.x.1∧e.ks.length=2∧∃k,(k=1∨k=2)∧Q9z n e k):=by
 rw[Um]at h
 rcases h with h | h | h | ⟨h1,h2,k0,k1,h3,h4,h5⟩
 ·exact absurd h.2.2 (by decide)
 ·exact absurd h.2.2.2 (by decide)
 ·exact .inl h.1
 ·rcases h5 with h5 | ⟨h5,h6 | h6 | h6 | h6⟩
  ·obtain⟨h6,h7,rfl,_⟩:=h5
   exact .inr (.inl ⟨h6,h7,h3⟩)
  ·obtain⟨h6,rfl,rfl,_⟩:=h6
   exact .inr (.inr (.inl ⟨h6,h5,Qqg h3 h4⟩))
  ·obtain⟨h6,rfl,h7,_⟩:=h6
   by_cases hk:k0=1∨k0=2
   ·exact .inr (.inr (.inr ⟨by omega,h5,k0,hk,Qqg h3 h4⟩))
   ·have hl:(0:Nat)<e.ks.length:=by omega
    have:=Q9y (h3 _ (List.getElem?_eq_getElem hl))
    omega
  ·obtain⟨h6,rfl,rfl,_⟩:=h6
   exact .inr (.inr (.inr ⟨by omega,h5,1,.inl rfl,Qqg h3 h4⟩))
  ·exact absurd h6.2.2.2 (by decide)
theorem Qci{N:Nat}[Y2 N]:∀(n m:Nat) (e:Ql) (v:Us),m≤n→Um m e 1→W (Zm N n e v) fun r=>r.2=true → -4611686018427387904≤r.1∧r.1≤4611686018427387904
 | n,0,e,v,hm,h=>h.elim
 | 0,m+1,e,v,hm,h=>by omega
 | n+1,m+1,e,v,hm,h=>by
  unfold Zm
  have ih:∀i,WP (Gm N (Zm N n) i e v) (fun R=>(0≤i∧i≤1∧i<e.ks.length∧Q9z m e 1)∧∀r:Int×Bool,(r.2=true → -4611686018427387904≤r.1∧r.1≤4611686018427387904)→R r):=fun i=>Lr fun hi=>Qpu (P:=fun x=>Um m x 1) (fun x hx=>Qci n m x v (by omega) hx) (fun a ha=>hi.2.2.2.all i.toNat a ha (by omega)) hi.1 hi.2.2.1
  have hd:∀a b:Int,(-4611686018427387904≤a∧a≤4611686018427387904)→b≠0→IntKind.wrap .i64 (a.tdiv b)=a.tdiv b:=fun a b ha hb=>by
   have h1:=Int.natAbs_tdiv_le_natAbs a b
   exact Q0 (by omega) (by omega)
  have hn:¬ e.x.1=1→¬ e.x.1=3→10<e.x.1∧e.x.1<16∧e.ks.length=2:=fun a b=>(Qx5 h).elim (fun c=>absurd c a) fun c=>c.elim (fun c=>absurd c b) fun c=>⟨c.1,c.2.1,c.2.2.1⟩
  have hneg:∀r:Int×Bool,(r.2=true → -4611686018427387904≤r.1∧r.1≤4611686018427387904)→¬ r.2=false → -4611686018427387904≤IntKind.wrap .i64 (0 - r.1)∧IntKind.wrap .i64 (0 - r.1)≤4611686018427387904:=fun r h1 h2=>by
   have:=h1 (by simpa using h2)
   rw[Q0 (by omega) (by omega)]; omega
  have hk:¬ e.x.1=1→¬ e.x.1=3→Q9z m e 1:=fun a b=>(Qx5 h).elim (fun c=>absurd c a) fun c=>c.elim (fun c=>absurd c b) fun c=>c.2.2.2
  clear h
  refine wp ?_
  try simp only[sS,reduceCtorEq]at *
  repeat' (first | intro _ | apply And.intro)
  all_goals first | assumption | omega | exact hk (by assumption) (by assumption) | (have q:=hneg _ (by assumption) (And.right (by assumption)); first | exact q.1 | exact q.2) | grind
structure Jvs(N:Nat)(e:Ql)(k:Int):Prop where
 out:∃m,m≤N∧Um m e k
@[reducible,instance] def Jnj{x0:Ql}{x1:Us}:WP (Qdv N x0 x1) (fun R=>Jvs N x0 1∧∀r:Int×Bool,True→R r):=Lr fun h=>let⟨m,hm,ht⟩:=h.out; (Qci N m x0 x1 hm ht).mono fun _ _=>trivial
theorem Jgd{N:Nat}[hN:Y2 N]{e:Ql}{n:Nat}(h:Um n e 2):Ei N e=some (2,0):=by
 obtain⟨M,rfl⟩:∃M,N=M+1:=⟨N - 1,by have:=hN.le; omega⟩
 cases n with
 | zero=>exact h.elim
 | succ n =>
  rw[Um]at h
  have h':(e.x.1=2∧e.ks.length=0∧e.x.2.2.length≤200)∨(e.x.1=3∧e.ks.length=0∧2=atr e.x.2.2):=by
   rcases h with h | h | h | ⟨h1,h2,k0,k1,h3,h4,h5⟩
   ·exact absurd h.2.2 (by decide)
   ·exact .inl ⟨h.1,h.2.1,h.2.2.1⟩
   ·exact .inr ⟨h.1,h.2.1,h.2.2.1⟩
   ·exfalso
    clear h3 h4; omega
  unfold Ei Qa9 Uw
  rcases h' with⟨h1,h2,h3⟩ | ⟨h1,h2,h3⟩
  ·rw[h1,h2]
   have h3':¬ ((List.length e.x.2.2:Int)>200):=by omega
   simp only[Wb]
   simp[h3']
  ·rw[h1,h2]
   simp only[Wb,Jl9,←h3]
   simp
structure Cmp(N:Nat)(e:Ql):Prop where
 two:e.ks.length=2
 kids:∃m k,m≤N∧(k=1∨k=2)∧Q9z m e k
@[reducible,instance] def Jme{x0:Ql}{x1:Us}:WP (M9 N x0 x1) (fun R=>(Cmp N x0∧sz x0≤4096)∧∀r:Int×Bool,True→R r):=Lr fun h=>by
 obtain⟨⟨h2,m,k,hm,hk,hK⟩,hs⟩:=h
 have l0:(0:Nat)<x0.ks.length:=by omega
 have l1:(1:Nat)<x0.ks.length:=by omega
 have e0:idx x0.ks 0=some x0.ks[0]:=K9 (i:=0) l0
 have e1:idx x0.ks 1=some x0.ks[1]:=K9 (i:=1) l1
 have t0:=hK.all 0 _ (List.getElem?_eq_getElem l0) (by omega)
 have t1:=hK.all 1 _ (List.getElem?_eq_getElem l1) (by omega)
 have s0:sz x0.ks[0]≤4096:=Nat.le_trans (Qex (XB l0)) (Nat.le_trans Qik hs)
 unfold M9
 rw[e0,QQ]
 rcases hk with rfl | rfl
 ·obtain⟨r,er,_⟩:=(Qtt (N:=N) (x0:=x0.ks[0])).spec (fun _=>True) ⟨s0,fun _ _=>trivial⟩
  rw[er,QQ,e1]
  have hT:∀x:Ql,Um m x 1→Jvs N x 1:=fun x hx=>⟨m,hm,hx⟩
  have q0:=hT _ t0
  have q1:=hT _ t1
  clear hK t0 t1 hT
  refine wp ?_
  try simp only[sS,reduceCtorEq]at *
  repeat' (first | intro _ | apply And.intro)
  all_goals first | assumption | trivial | grind
 ·rw[Jgd t0,QQ,if_pos (by rfl),e1]
  clear hK t0 t1
  refine wp ?_
  try simp only[sS,reduceCtorEq]at *
  repeat' (first | intro _ | apply And.intro)
  all_goals first | assumption | trivial | grind
theorem Qtu{N:Nat}[Y2 N]{self:Ql→Us→Option Bool}{i:Int}{e:Ql}{v:Us}{P:Ql→Prop}{Q:Bool→Prop}(ih:∀x,P x→W (self x v) Q)(h:∀a,e.ks[i.toNat]?=some a→P a)(h0:0≤i)(h1:i<e.ks.length):W (Zi N self i e v) Q:=by
 rw[Zi.eq_1]
 have hl:i.toNat<e.ks.length:=by omega
 have he:idx e.ks i=some e.ks[i.toNat]:=by unfold idx; rw[if_pos h0,List.getElem?_eq_getElem hl]
 obtain⟨r,er,hr⟩:=ih _ (h _ (List.getElem?_eq_getElem hl))
 rw[he]
 show W ((self e.ks[i.toNat] v).bind _) _
 rw[er]
 exact⟨_,rfl,hr⟩
theorem Qe4{N:Nat}[Y2 N]:∀(n m:Nat) (e:Ql) (v:Us),m≤n→m≤N→sz e≤4096→Um m e 3→W (Yp N n e v) fun _=>True
 | n,0,e,v,hm,_,_,h=>h.elim
 | 0,m+1,e,v,hm,_,_,h=>by omega
 | n+1,m+1,e,v,hm,hN,hs,h=>by
  unfold Yp
  have hks:sz e.ks≤4096:=Nat.le_trans Qik hs
  have ih:∀i,WP (Zi N (Yp N n) i e v) (fun R=>(0≤i∧i<e.ks.length∧∀a,e.ks[i.toNat]?=some a→Um m a 3)∧∀r:Bool,True→R r):=fun i=>Lr fun hi=>Qtu (P:=fun x=>sz x≤4096∧Um m x 3) (fun x hx=>Qe4 n m x v (by omega) (by omega) hx.1 hx.2) (fun a ha=>⟨Nat.le_trans (Qex (List.mem_of_getElem? ha)) hks,hi.2.2 a ha⟩) hi.1 hi.2.1
  have h3:=Q51 h
  clear h
  have q4:e.x.1=4→0<e.ks.length∧∀a,e.ks[(0:Int).toNat]?=some a→Um m a 3:=fun e4=>by
   rcases h3 with h | h | h | h
   ·omega
   ·exact⟨by omega,h.2.2⟩
   ·obtain⟨h,_⟩:=h; omega
   ·obtain⟨h,_⟩:=h; omega
  have q5:e.x.1=5∨e.x.1=6→e.ks.length=2∧(∀a,e.ks[(0:Int).toNat]?=some a→Um m a 3)∧∀a,e.ks[(1:Int).toNat]?=some a→Um m a 3:=fun e4=>by
   rcases h3 with h | h | h | h
   ·omega
   ·obtain⟨h,_⟩:=h; omega
   ·exact⟨h.2.1,fun a ha=>h.2.2.all 0 a ha (by omega),fun a ha=>h.2.2.all 1 a ha (by omega)⟩
   ·obtain⟨h,_⟩:=h; omega
  have q7:¬ e.x.1=3→¬ e.x.1=4→¬ e.x.1=5→¬ e.x.1=6→Cmp N e:=fun a3 a4 a5 a6=>by
   rcases h3 with h | h | h | h
   ·omega
   ·obtain⟨h,_⟩:=h; omega
   ·obtain⟨h,_⟩:=h; omega
   ·obtain⟨_,h1,k,hk,hK⟩:=h
    exact⟨h1,m,k,by omega,hk,hK⟩
  clear h3
  refine wp ?_
  try simp only[sS,reduceCtorEq]at *
  repeat' (first | intro _ | apply And.intro)
  all_goals first | assumption | trivial | omega | exact q7 (by assumption) (by assumption) (by assumption) (by assumption) | exact(q4 (by assumption)).2 _ (by assumption) | exact(q5 (.inl (by assumption))).2.1 _ (by assumption) | exact(q5 (.inl (by assumption))).2.2 _ (by assumption) | exact(q5 (.inr (by assumption))).2.1 _ (by assumption) | exact(q5 (.inr (by assumption))).2.2 _ (by assumption) | (have:=(q4 (by assumption)).1; omega) | (have:=(q5 (.inl (by assumption))).1; omega) | (have:=(q5 (.inr (by assumption))).1; omega) | grind
@[reducible,instance] def Jhs{x0:Ql}{x1:Us}:WP (Qg3 N x0 x1) (fun R=>(sz x0≤4096∧Um N x0 3)∧∀r:Bool,True→R r):=Lr fun h=>Qe4 N N x0 x1 (QG _) (QG _) h.1 h.2
@[reducible,instance] def Jph{x0 x1}:=mkW (Qhz.eq_1 N x0 x1) (sz x0≤4096) (fun r=>True)
@[reducible,instance] def Q90{x0 ca}:=mkW (Ig.eq_1 N x0 ca) (sz x0.2.1≤4096) (fun r=>True)
@[reducible,instance] def Q7g{x0 x1}{s}:=upL (N:=N) (s:=s) (P0.eq_def N x0 x1) (fun t=>t.2.1) x0.length (fun t=>sz x0≤4096∧x0.length≤4096∧t.2.2.length≤t.2.1) (fun r:((Int×(List Q6))⊕(Int×Int))=>∀a,r=.inl a→a.2.length≤4096)
@[reducible,instance] def Jge{x0 x1 x2}:=mkW (Kf.eq_1 N x0 x1 x2) (sz x0≤4096) (fun r=>r.2.2.length≤4096)
@[reducible,instance] def Jgf{cx dj cq g8 g9 gp du dv dw dy dz dp g5 dx dq g6 g7 ce cd cg}:=mkW (X9.eq_1 N cx dj cq g8 g9 gp du dv dw dy dz dp g5 dx dq g6 g7 ce cd cg) (True) (fun r=>True)
@[reducible,instance] def Q52{cx dj cq g8 g9 gp du dv dw dy dz dp g5 dx dq g6 g7 ce cd cg}:=mkW (W9.eq_1 N cx dj cq g8 g9 gp du dv dw dy dz dp g5 dx dq g6 g7 ce cd cg) (Ki cx∧dj.2.2.length≤1000000000∧cg.length≤4096∧sz gp.2.2.2.1≤4096∧Sh.sh gp.2.2.2.1∧sz gp.2.2.2.2.1≤4096∧Sh.sh gp.2.2.2.2.1∧sz gp.2.2.2.2.2.1≤4096∧sz gp.2.2.2.2.2.2≤4096∧Jb (fun d:Qn=>dpt d.2.1≤4096) gp.2.2.2.2.2.2) (fun r=>r.2.1=cx∧r.2.2.1=dj∧r.2.2.2.1=cq∧r.2.2.2.2.1=g8∧r.2.2.2.2.2.1=g9∧r.2.2.2.2.2.2.1=gp∧r.2.2.2.2.2.2.2.2.2.2.2.2.2.2.2.2.2.2.1=ce∧r.2.2.2.2.2.2.2.2.2.2.2.2.2.2.2.2.2.2.2.1=cd∧r.2.2.2.2.2.2.2.2.2.2.2.2.2.2.2.2.2.2.2.2.length≤4096) (k:=by
  intro h
  have g0:=h.1.hol
  try simp only[sS,reduceCtorEq]at *
  repeat' (first | intro _ | apply And.intro)
  all_goals first | exact lv)
@[reducible,instance] def Jpi{ct cp cw dl dm gc cz d6 d7 d8 d9 da db de dg dh di cd cg ci}:=mkW (Qbb.eq_1 N ct cp cw dl dm gc cz d6 d7 d8 d9 da db de dg dh di cd cg ci) (Ki ct∧cp.2.2.length≤1000000000∧ci.length≤4096∧sz gc.2.2.2.1≤4096∧Sh.sh gc.2.2.2.1∧sz gc.2.2.2.2.1≤4096∧Sh.sh gc.2.2.2.2.1∧sz gc.2.2.2.2.2.1≤4096∧sz gc.2.2.2.2.2.2≤4096∧Jb (fun d:Qn=>dpt d.2.1≤4096) gc.2.2.2.2.2.2) (fun r=>r.2.1=ct∧r.2.2.1=cp∧r.2.2.2.1=cw∧r.2.2.2.2.1=dl∧r.2.2.2.2.2.1=dm∧r.2.2.2.2.2.2.1=gc∧r.2.2.2.2.2.2.2.2.2.2.2.2.2.2.2.2.2.2.1=cd∧r.2.2.2.2.2.2.2.2.2.2.2.2.2.2.2.2.2.2.2.1=cg∧r.2.2.2.2.2.2.2.2.2.2.2.2.2.2.2.2.2.2.2.2.length≤4096)
@[reducible,instance] def Jht{ct cp cw dl dm gc cz d6 d7 d8 d9 da db de dg dh di cd cg ci cj}:=mkW (Vr.eq_1 N ct cp cw dl dm gc cz d6 d7 d8 d9 da db de dg dh di cd cg ci cj) (Ki ct∧cp.2.2.length≤1000000000∧ci.length≤4096∧sz gc.2.2.2.1≤4096∧Sh.sh gc.2.2.2.1∧sz gc.2.2.2.2.1≤4096∧Sh.sh gc.2.2.2.2.1∧sz gc.2.2.2.2.2.1≤4096∧sz gc.2.2.2.2.2.2≤4096∧Jb (fun d:Qn=>dpt d.2.1≤4096) gc.2.2.2.2.2.2) (fun r=>r.1=ct∧r.2.1=cp∧r.2.2.1=cw∧r.2.2.2.1=dl∧r.2.2.2.2.1=dm∧r.2.2.2.2.2.1=gc∧r.2.2.2.2.2.2.2.2.2.2.2.2.2.2.2.2.2.2.1=cd∧r.2.2.2.2.2.2.2.2.2.2.2.2.2.2.2.2.2.2.2.1=cg∧r.2.2.2.2.2.2.2.2.2.2.2.2.2.2.2.2.2.2.2.2.length≤4096)
@[reducible,instance] def Jhu{x0}{s}:=upL (N:=N) (s:=s) (Qgz.eq_def N x0) (fun t=>t.1) x0.1.length (fun t=>sz x0.1≤1000000000000∧t.2.1=x0.1.take t.1.toNat∧t.2.2.1=s.2.2.1∧t.2.2.2=s.2.2.2) (fun r:(((List Qa)×(List Qi)×(List Qd)))=>r.1=x0.1∧r.2.1=s.2.2.1∧r.2.2=s.2.2.2) (step:=by
  intro s h h0 h1 h2 hw
  try simp only[sS,reduceCtorEq]at *
  repeat' (first | intro _ | apply And.intro)
  all_goals first | grind [Y5,Uc,Kh.deep] | exact lv)
@[reducible,instance] def Q0k{x0}:=mkW (D7.eq_1 N x0) (sz x0≤1000000000000) (fun r=>r=x0)
@[reducible,instance] def Jmf{cx dj cq g8 g9 gp du dv dw dy dz dp g5 dx dq g6 g7 ce cd cg}:=mkW (Na.eq_1 N cx dj cq g8 g9 gp du dv dw dy dz dp g5 dx dq g6 g7 ce cd cg) (sz dj≤1000000000000) (fun r=>r.2.1=cx∧r.2.2.1=dj.1∧r.2.2.2.1.length=dj.2.1.length∧r.2.2.2.2.1.length≤dj.2.2.length+1∧r.2.2.2.2.2.2.2.2.2.2.2.2.2.2.2.2.2.2.2.2.1=ce∧r.2.2.2.2.2.2.2.2.2.2.2.2.2.2.2.2.2.2.2.2.2.1=cd∧r.2.2.2.2.2.2.2.2.2.2.2.2.2.2.2.2.2.2.2.2.2.2=cg)
@[reducible,instance] def Jpj{ct cp cw dl dm gc cz d6 d7 d8 d9 da db de dg dh di cd cg ci}:=mkW (Qbc.eq_1 N ct cp cw dl dm gc cz d6 d7 d8 d9 da db de dg dh di cd cg ci) (sz cp≤1000000000000) (fun r=>r.2.2.1.1=cp.1∧r.2.2.1.2.1.length=cp.2.1.length∧r.2.2.1.2.2.length≤cp.2.2.length+1∧r.2.2.2.2.2.2.2.2.2.2.2.2.2.2.2.2.2.2.1=cd∧r.2.2.2.2.2.2.2.2.2.2.2.2.2.2.2.2.2.2.2.1=cg∧r.2.2.2.2.2.2.2.2.2.2.2.2.2.2.2.2.2.2.2.2=ci)
@[reducible,instance] def Jhv{ct cp cw dl dm gc cz d6 d7 d8 d9 da db de dg dh di cd cg ci cj}:=mkW (Y8.eq_1 N ct cp cw dl dm gc cz d6 d7 d8 d9 da db de dg dh di cd cg ci cj) (sz cp≤1000000000000) (fun r=>r.2.1.1=cp.1∧r.2.1.2.1.length=cp.2.1.length∧r.2.1.2.2.length≤cp.2.2.length+1∧r.2.2.2.2.2.2.2.2.2.2.2.2.2.2.2.2.2.2.1=cd∧r.2.2.2.2.2.2.2.2.2.2.2.2.2.2.2.2.2.2.2.1=cg∧r.2.2.2.2.2.2.2.2.2.2.2.2.2.2.2.2.2.2.2.2=ci)
@[reducible,instance] def Qtv{x0 x1 x2}:=mkW (B8.eq_1 N x0 x1 x2) (Ki x0∧Zk x2∧x1.1.length≤900000000000∧sz x1.1≤1000000000000∧x1.2.1.length≤1000000000∧x1.2.2.length≤1000000000) (fun r=>r.1.length≤x1.1.length+7604273152∧sz r.1≤1000000000000∧r.2.1.length≤x1.2.1.length+1∧r.2.2.1.length≤x1.2.2.length+1∧r.2.2.2.2.2.2.2.2.2.2.2.2.2.1.length≤1000000000000∧r.2.2.2.2.2.2.2.2.2.2.2.2.2.2.1.length≤17301537∧r.2.2.2.2.2.2.2.2.2.2.2.2.2.2.2.length≤4096) (k:=by
  intro h
  try simp only[sS,reduceCtorEq]at *
  repeat' (first | intro _ | apply And.intro)
  all_goals first | (simp only[*,sz1,sh1,mx1,QH,Zf,JQ,and_true]; done) | (simp only[*,sz1,sh1,mx1,QH]at *; omega) | exact lv)
structure Qku(l:List Qc)(i j:Int):Prop where
 at_:∀k:Nat,(k:Int)<j→∀a b,l[k]?=some a→l[i.toNat]?=some b→a.1≠b.1
theorem Q91{l:List Qc}{i:Int}:Qku l i 0:=⟨fun k h=>by omega⟩
theorem Q92{l:List Qc}{i j:Int}{x y:Qc}(h:Qku l i j)(h0:0≤j)(hx:l[j.toNat]?=some x)(hy:l[i.toNat]?=some y)(hne:¬ x.1=y.1):Qku l i (j+1):=⟨fun k hk a b ha hb=>by
 by_cases e:(k:Int)<j
 ·exact h.at_ k e a b ha hb
 ·have:k=j.toNat:=by omega
  subst this
  rw[hx]at ha; rw[hy]at hb
  rw[←Option.some.inj ha,←Option.some.inj hb]; exact hne⟩
theorem Jgg{l:List Qc}{i j m:Int}(h:Qku l i j)(hm:m≤j):Qku l i m:=⟨fun k hk=>h.at_ k (by omega)⟩
structure Qtw(l:List Qc)(j:Int):Prop where
 at_:∀i:Nat,(i:Int)<j→Qku l i i
theorem Q53{l:List Qc}:Qtw l 0:=⟨fun k h=>by omega⟩
theorem Q54{l:List Qc}{j:Int}(h:Qtw l j)(h0:0≤j)(k:Qku l j j):Qtw l (j+1):=⟨fun i hi=>by
 by_cases e:(i:Int)<j
 ·exact h.at_ i e
 ·have:j=i:=by omega
  rw[←this]; exact k⟩
theorem Q93{l:List Qc}{j:Int}(h:Qtw l j)(hj:l.length≤j):Ids l:=⟨fun u hu v hv e=>by
 obtain⟨a,ha,ea⟩:=ZV hu
 obtain⟨b,hb,eb⟩:=ZV hv
 have ga:l[a]?=some u:=by rw[List.getElem?_eq_getElem ha,ea]
 have gb:l[b]?=some v:=by rw[List.getElem?_eq_getElem hb,eb]
 rcases KH a b with hab | hab | hab
 ·exact absurd e ((h.at_ b (by omega)).at_ a (by omega) u v ga (by simpa using gb))
 ·subst hab; rw[ga]at gb; exact Option.some.inj gb
 ·exact absurd e.symm ((h.at_ a (by omega)).at_ b (by omega) v u gb (by simpa using ga))⟩
@[reducible,instance] def Q0l{v4:Int}{x1:List Qc}{s:Int}:=upI (N:=N) (s:=s) (Lb.eq_def N v4 x1) (fun t=>t) v4 (fun t=>x1.length≤24∧0≤v4∧v4<x1.length∧Qku x1 v4 t) (fun r:Unit⊕Bool=>(∀u,r=.inl u→Qku x1 v4 v4)∧∀u,r=.inr u→u=false) (step:=by
  intro s h h0 hw
  try simp only[sS,reduceCtorEq]at *
  repeat' (first | intro _ | apply And.intro)
  all_goals first | assumption | omega | (rw[hw (by omega)]; exact Q92 h.2.2.2 h0 (by assumption) (by assumption) (by assumption)) | exact Jgg h.2.2.2 (by omega) | grind)
theorem Jt8{x0:Q2}{x2:Int}(e:x2=24)(hs:Sh.sh x0)(h:(sz x0:Int)≤4096∧(x0.1.length:Int)≤x2∧(x0.2.2.1.length:Int)≤x2∧Jb Kh x0.2.1∧Jb (fun p:Qm=>(p.2.2.2.2.2.length:Int)≤x2) x0.2.2.1):Ki x0:=by
 subst e
 obtain⟨h1,h2,h3,h4,h5⟩:=h
 have h6:=Zb (l:=x0.2.2.2.2.1)
 simp only[sz1,sh1,mx1]at h1 hs h6
 exact⟨by omega,by omega,hs.2.1,h4,by omega,by omega,Qfw h5 fun p hp=>by omega,by omega⟩
theorem Jpk{x:Qc}(h:¬ 12622780800≤x.2.2.2.2.2.2.1)(k:x.2.2.2.2.2.2.1<86400000∨12622780800<x.2.2.2.2.2.2.1)(l:(List.length x.2.2.2.2.2.1:Int)≤200):Zk x:=⟨by omega,by omega,by show List.length x.2.2.2.2.2.1≤9223372036854775807; omega⟩
@[reducible,instance] def Q0m{x1:List Qc}{s:Int}:=upL (N:=N) (s:=s) (Lc.eq_def N x1) (fun t=>t) x1.length (fun t=>x1.length≤24∧Qg7 Zk x1 t∧Qtw x1 t∧Qg7 UsA x1 t) (fun r:Unit⊕Bool=>(∀u,r=.inl u→Jb Zk x1∧Ids x1∧Jb UsA x1)∧∀u,r=.inr u→u=false) (step:=by
  intro s h h0 h1 h2 hw
  try simp only[sS,reduceCtorEq]at *
  repeat' (first | intro _ | apply And.intro)
  all_goals first | assumption | omega | exact Q91 | exact⟨T1 h.2.1 (by omega)⟩ | (rw[hw (by omega)]; exact Pe h0 h.2.1 (by assumption) (Jpk (by grind) (by grind) (by grind))) | exact Q93 h.2.2.1 (by omega) | (rw[hw (by omega)]; exact Q54 h.2.2.1 h0 (by assumption)) | exact⟨T1 h.2.2.2 (by omega)⟩ | (rw[hw (by omega)]; exact Pe h0 h.2.2.2 (by assumption) (by grind)) | grind)
@[reducible,instance] def Qgm{x0 x1 x2}:=mkW (Gz.eq_1 N x0 x1 x2) (sz x0≤9223372036854775807∧Sh.sh x0∧x2=24) (fun r=>r=true→x1.length≤24∧(sz x0:Int)≤4096∧Ki x0∧Jb Zk x1∧Ids x1∧Jb UsA x1∧Ga x0.1) (k:=by
  intro h
  have g0:=(fun q=>Jt8 (x2:=x2) h.2.2 h.2.1 q)
  try simp only[sS,reduceCtorEq]at *
  repeat' (first | intro _ | apply And.intro)
  all_goals first | exact Q53 | exact g0 (by grind) | exact lv)
abbrev GS(t:Ty)(i:Sz t.De)(j:Sh t.De):Prop:=∀x:t.De,gd t x→@sz _ i x≤9223372036854775807∧@Sh.sh _ j x
theorem gsI{k:IntKind}:GS (.int k) (inferInstanceAs (Sz Int)) (inferInstanceAs (Sh Int)):=fun _ _=>⟨JQ _,True.intro⟩
theorem gsB:GS .bool (inferInstanceAs (Sz Bool)) (inferInstanceAs (Sh Bool)):=fun _ _=>⟨JQ _,True.intro⟩
theorem gsS:GS .str (inferInstanceAs (Sz (List UInt8))) (inferInstanceAs (Sh (List UInt8))):=fun x h=>⟨JQ _,h⟩
theorem gsL{t:Ty}{i:Sz t.De}{j:Sh t.De}(h:GS t i j):GS (.sl t) (inferInstanceAs (Sz (List t.De))) (inferInstanceAs (Sh (List t.De))):=fun x g=>⟨Jk8 g.1 fun y hy=>(h y (g.2 y hy)).1,⟨fun y hy=>(h y (g.2 y hy)).2⟩⟩
theorem gsP{a b:Ty}{i:Sz a.De}{j:Sh a.De}{k:Sz b.De}{l:Sh b.De}(h:GS a i j)(h2:GS b k l):GS (.pr a b) (inferInstanceAs (Sz (a.De×b.De))) (inferInstanceAs (Sh (a.De×b.De))):=fun x g=>⟨KX.2 ⟨(h x.1 g.1).1,(h2 x.2 g.2).1⟩,(h x.1 g.1).2,(h2 x.2 g.2).2⟩
theorem gsR{t:Ty}:GS (.rose t) (inferInstanceAs (Sz (Xs t.De))) (inferInstanceAs (Sh (Xs t.De))):=fun x g=>by
 refine⟨?_,True.intro⟩
 obtain⟨n,hn⟩:=g
 revert x
 induction n with
 | zero=>exact fun x h=>h.elim
 | succ n ih =>
  intro x h
  exact Jln (e:=x) h.2.1 fun y hy=>ih y (h.2.2 y hy)
theorem gsT{t:Ty}{i:Sz t.De}{j:Sh t.De}(h:GS t i j):GS (.st t) i j:=h
theorem Jpl:GS Xy (inferInstanceAs (Sz Ql)) (inferInstanceAs (Sh Ql)):=gsR
theorem Jpm:GS Xx (inferInstanceAs (Sz Xo)) (inferInstanceAs (Sh Xo)):=gsT (gsP gsI (gsP gsI gsI))
theorem Jc6:GS H8 (inferInstanceAs (Sz Ua)) (inferInstanceAs (Sh Ua)):=gsT (gsP gsI (gsP gsI gsI))
theorem Jgh:GS Jf (inferInstanceAs (Sz Qb)) (inferInstanceAs (Sh Qb)):=gsT (gsP gsI gsI)
theorem Jmg:GS Jy (inferInstanceAs (Sz Qg)) (inferInstanceAs (Sh Qg)):=gsT (gsP gsI (gsP gsI (gsP gsI (gsP gsI (gsP gsS (gsP gsS gsI))))))
theorem Jpn:GS Uz (inferInstanceAs (Sz Qw)) (inferInstanceAs (Sh Qw)):=gsT (gsP gsS (gsL gsS))
theorem Jpo:GS Uh (inferInstanceAs (Sz Qx)) (inferInstanceAs (Sh Qx)):=gsT (gsP gsS (gsL Jpm))
theorem Jpp:GS H9 (inferInstanceAs (Sz Ji)) (inferInstanceAs (Sh Ji)):=gsT (gsP gsI (gsP gsS (gsP gsS (gsP gsI (gsL Jc6)))))
theorem Q55:GS Vo (inferInstanceAs (Sz Qn)) (inferInstanceAs (Sh Qn)):=gsT (gsP gsS (gsP Jpl gsI))
theorem Jgi:GS Ye (inferInstanceAs (Sz Qo)) (inferInstanceAs (Sh Qo)):=gsT (gsP gsS (gsP gsI (gsP gsB (gsP (gsL Jpn) (gsP (gsL Jpo) (gsP (gsL Jpp) (gsL Q55)))))))
theorem Jgj:GS Wk (inferInstanceAs (Sz Yc)) (inferInstanceAs (Sh Yc)):=gsT (gsP gsI (gsP (gsL gsS) (gsP gsI (gsP gsI (gsP gsI gsB)))))
theorem Q94:GS Yv (inferInstanceAs (Sz Qm)) (inferInstanceAs (Sh Qm)):=gsT (gsP gsS (gsP gsI (gsP gsI (gsP gsS (gsP gsB (gsL Jgj))))))
theorem Jt9:GS I1 (inferInstanceAs (Sz Xz)) (inferInstanceAs (Sh Xz)):=gsT (gsP gsS (gsP gsI gsI))
theorem Q0n:GS Ur (inferInstanceAs (Sz Yn)) (inferInstanceAs (Sh Yn)):=gsT (gsP gsI (gsP gsI (gsP gsB (gsP Jgh (gsP (gsL Jc6) gsI)))))
theorem Jpq:GS Ui (inferInstanceAs (Sz Q2)) (inferInstanceAs (Sh Q2)):=gsT (gsP (gsL Jmg) (gsP (gsL Jgi) (gsP (gsL Q94) (gsP (gsL Jt9) (gsP (gsL gsI) (gsL Q0n))))))
abbrev Q0o:Type:=(List Qa)×(List Qi)×(List Qd)×Qc×Int×Str×Int×Str×Int×Int×Int×Int×Int×(List Ja)×(List Qt)×(List Q6)
def Qbr(w:Q0o):Qp:=(w.1,w.2.1,w.2.2.1)
def Qtx(w:Q0o):Jm:=(w.2.2.2.1,w.2.2.2.2.1,w.2.2.2.2.2.1,w.2.2.2.2.2.2.1,w.2.2.2.2.2.2.2.1,w.2.2.2.2.2.2.2.2.2.2.2.2.2.1,w.2.2.2.2.2.2.2.2.2.2.2.2.2.2.1,w.2.2.2.2.2.2.2.2.1,w.2.2.2.2.2.2.2.2.2.1,w.2.2.2.2.2.2.2.2.2.2.1,w.2.2.2.2.2.2.2.2.2.2.2.2.2.2.2,w.2.2.2.2.2.2.2.2.2.2.2.1,w.2.2.2.2.2.2.2.2.2.2.2.2.1)
def Qcx(N:Nat)(b:Q2):List Qc→Qp→Option (Qp×List Jm)
 | [],s=>some (s,[])
 | u::l,s=>(B8 N b s u).bind fun w=>(Qcx N b l (Qbr w)).bind fun q=>some (q.1,Qtx w::q.2)
theorem Qoh{N:Nat}{b:Q2}{r:List Qc}(hr:r.length≤1000):∀(k n i:Nat) (s:Qp) (o:List Jm),r.length=i+k→k<n→o.length≤i →
  Qe (V2 N r b) n ((i:Int),s.1,s.2.1,s.2.2,o)=(Qcx N b (r.drop i) s).bind fun q=>some (q.1,o++q.2)
 | 0,0,i,s,o,hk,hn,ho=>by omega
 | 0,n+1,i,s,o,hk,hn,ho=>by
  have hi:i=r.length:=by omega
  subst hi
  rw[JE]
  have e:V2 N r b ((r.length:Int),s.1,s.2.1,s.2.2,o)=some (.inr (s,o)):=by
   unfold V2
   rw[if_neg (fun h=>by have:=of_decide_eq_true h; omega)]
  simp[Qe,e,Qcx]
 | k+1,0,i,s,o,hk,hn,ho=>by omega
 | k+1,n+1,i,s,o,hk,hn,ho=>by
  have hlt:i<r.length:=by omega
  rw[List.drop_eq_getElem_cons hlt]
  have e:V2 N r b ((i:Int),s.1,s.2.1,s.2.2,o)=(B8 N b s r[i]).bind fun w=>some (.inl (((i+1:Nat):Int),(Qbr w).1,(Qbr w).2.1,(Qbr w).2.2,o++[Qtx w])):=by
   unfold V2
   rw[if_pos (decide_eq_true (by omega)),K9 hlt,QQ]
   show(B8 N b s r[i]).bind _=_
   refine congrArg _ (funext fun w=>?_)
   rw[Q0 (n:=(i:Int)+1) (by omega) (by omega)]
   show(app 272 o [Qtx w]).bind _=_
   rw[Jj (by simp; omega)]; rfl
  simp only[Qcx,Qe,e]
  cases hw:B8 N b s r[i]with
  | none=>rfl
  | some w =>
   simp only[QQ]
   rw[Qoh hr k n (i+1) (Qbr w) (o++[Qtx w]) (by omega) (by omega) (by simp; omega)]
   cases Qcx N b (r.drop (i+1)) (Qbr w)with
   | none=>rfl
   | some q=>simp
structure Jmh(k:Nat)(s:Qp):Prop where
 buck:s.1.length≤k*7604273152
 size:sz s.1≤1000000000000
 wall:s.2.1.length≤k
 coun:s.2.2.length≤k
theorem Jc7{N:Nat}[Y2 N]{b:Q2}(hb:Ki b):∀(l:List Qc) (k:Nat) (s:Qp),k+l.length≤48→(∀u∈l,Zk u)→Jmh k s →
  ∃q,Qcx N b l s=some q∧Jmh (k+l.length) q.1∧q.2.length=l.length∧∀r∈q.2,sz r≤1000000000000
 | [],k,s,hk,hu,hs=>⟨(s,[]),rfl,hs,rfl,fun _ h=>absurd h QO⟩
 | u::l,k,s,hk,hu,hs=>by
  simp only[List.length_cons]at hk ⊢
  obtain⟨w,ew,h1,h2,h3,h4,h5,h6,h7⟩:=(Qtv (N:=N) (x0:=b) (x1:=s) (x2:=u)).spec _ ⟨⟨hb,hu u (.head _),by have:=hs.buck; omega,hs.size,by have:=hs.wall; omega,by have:=hs.coun; omega⟩,fun r h=>h⟩
  obtain⟨q,eq,g1,g2,g3⟩:=Jc7 (N:=N) hb l (k+1) (Qbr w) (by omega) (fun v hv=>hu v (.tail _ hv)) ⟨by have:=hs.buck; show w.1.length≤_; omega,h2,by have:=hs.wall; show w.2.1.length≤_; omega,by have:=hs.coun; show w.2.2.1.length≤_; omega⟩
  refine⟨(q.1,Qtx w::q.2),by simp only[Qcx,ew,QQ,eq],?_,by simp[g2],fun r hr=>?_⟩
  ·have:k+(l.length+1)=k+1+l.length:=by omega
   rw[this]; exact g1
  ·rcases QX.1 hr with rfl | hr
   ·simp only[Qtx,sz1,mx1]
    omega
   ·exact g3 r hr
theorem Qx6:Jmh 0 (([]:List Qa),([]:List Qi),([]:List Qd)):=⟨by simp,by rw[Jk9]; omega,by simp,by simp⟩
theorem Jgk{N:Nat}[hN:Y2 N]{b:Q2}{s:Qp}{l:List Qc}(hs:sz s≤1000000000000)(hl:l.length≤1000){o:List Qc}(ho:In N l=some o)(hp:o.Perm l):B9 N b s l=Qcx N b o s:=by
 obtain⟨c,ec,hc⟩:=(Qpt (N:=N) (x0:=s)).spec (fun r=>r=s) ⟨hs,fun r h=>h⟩
 have hlo:=hp.length_eq
 have this:Qe (V2 N o b) N ((0:Int),s.1,s.2.1,s.2.2,[])=(Qcx N b (o.drop 0) s).bind fun q=>some (q.1,[]++q.2):=Qoh (N:=N) (b:=b) (r:=o) (by omega) o.length N 0 s [] (by omega) (by have:=hN.le; omega) (by simp)
 rw[hc]at ec
 unfold B9
 rw[ec,QQ,ho,QQ]
 rw[this,XC]
 cases Qcx N b o s with
 | none=>rfl
 | some q=>simp
theorem Jmi{N:Nat}[hN:Y2 N]{b:Q2}{l o:List Qc}(hl:l.length≤1000)(ho:In N l=some o)(hp:o.Perm l):Zn N b l=Qcx N b o (([]:List Qa),([]:List Qi),([]:List Qd)):=by
 unfold Zn
 rw[Jgk (by decide) hl ho hp]
 cases Qcx N b o (([]:List Qa),([]:List Qi),([]:List Qd))with
 | none=>rfl
 | some q=>rfl
theorem Jpr(M:Nat):Kg (M+64)=some true:=by kernel_rfl
theorem Jmj{N:Nat}[hN:Y2 N]:Kg N=some true:=by
 have e:N=(N - 64)+64:=by have:=hN.le; omega
 rw[e]; exact Jpr _
theorem Jgl{N:Nat}[Y2 N]{s:List Jm}(h:sz s≤9223372036854775807):Zj N s s=some true:=by
 obtain⟨r,e,hr⟩:=(Sd (N:=N) (x0:=s) (x1:=s)).spec (fun r=>r=true) ⟨h,fun r h=>h rfl⟩
 rw[e,hr]
theorem Jgm{N:Nat}[Y2 N]{b:Q2}(hs:sz b≤4096)(ht:Jb Kh b.2.1):V3 N b=some b:=by
 obtain⟨r,e,hr⟩:=(Sc (N:=N) (x0:=b)).spec (fun r=>r=b) ⟨⟨hs,ht⟩,fun r h=>h⟩
 rw[e,hr]
theorem Jps{N:Nat}[Y2 N]{b:Q2}{l:List Qc}(gb:gd Ui b):∃r,Gz N b l 24=some r∧(r=true→l.length≤24∧sz b≤4096∧Ki b∧Jb Zk l∧Ids l∧Jb UsA l∧Ga b.1):=by
 have h:=Jpq b gb
 exact(Qgm (N:=N) (x0:=b) (x1:=l) (x2:=24)).spec _ ⟨⟨h.1,h.2,rfl⟩,fun r h hr=>by
  have h:=h hr
  exact⟨h.1,by omega,h.2.2.1,h.2.2.2.1,h.2.2.2.2⟩⟩
abbrev st0:Qp:=(([]:List Qa),([]:List Qi),([]:List Qd))
theorem big:Y2 18446744073709551616:=⟨QG _⟩
abbrev idB(b:Qa):Qu:=(b.2.1,b.2.2.1,b.2.2.2.1,b.2.2.2.2.2.2.1.1)
def E5(x b:Qa):Bool :=
 if x.1 != b.1 then decide (x.1<b.1)else if x.2.1 != b.2.1 then decide (x.2.1<b.2.1)else if !(x.2.2.1==b.2.2.1)then Op.bytesLess x.2.2.1 b.2.2.1 else if x.2.2.2.1 != b.2.2.2.1 then decide (x.2.2.2.1<b.2.2.2.1)else decide (x.2.2.2.2.2.2.1.1<b.2.2.2.2.2.2.1.1)
theorem Jmk{N:Nat}{x b:Qa}:Fa N x b=some (E5 x b):=by
 unfold Fa E5
 repeat' (split<;>try rfl)
def Jgn(x b:Qa):Bool:=(((((x.2.1==b.2.1)&&(x.2.2.1==b.2.2.1))&&(x.2.2.2.1==b.2.2.2.1))&&(x.2.2.2.2.1==b.2.2.2.2.1))&&(x.2.2.2.2.2.2.1.2==b.2.2.2.2.2.2.1.1))
def Jvt(x:Qa)(r:Int):Int:=(if(if 0>r then 0 else r)<(if 0>x.2.2.2.2.2.2.2.2.1 then 0 else x.2.2.2.2.2.2.2.2.1)then(if 0>r then 0 else r)else(if 0>x.2.2.2.2.2.2.2.2.1 then 0 else x.2.2.2.2.2.2.2.2.1))
def Jvu(x b:Qa)(r:Int):Qa:=(b.1,b.2.1,b.2.2.1,b.2.2.2.1,b.2.2.2.2.1,b.2.2.2.2.2.1,b.2.2.2.2.2.2.1,IntKind.wrap .i64 (b.2.2.2.2.2.2.2.1+Jvt x r),IntKind.wrap .i64 (b.2.2.2.2.2.2.2.2.1+Jvt x r),b.2.2.2.2.2.2.2.2.2.1,b.2.2.2.2.2.2.2.2.2.2)
def Cn(l:List Qa)(g:Qy):Qa:=match l.find? fun x=>Jgn x g.1 with
 | some x=>Jvu x g.1 g.2
 | none=>g.1
theorem Qkv(l:List Qa)(g:Qy):(Cn l g).1=g.1.1∧idB (Cn l g)=idB g.1:=by
 unfold Cn
 split
 ·exact⟨rfl,rfl⟩
 ·exact⟨rfl,rfl⟩
def T3(l:List Qa)(b:Qa):List Qa:=l.takeWhile (fun x=>E5 x b)++b::l.dropWhile (fun x=>E5 x b)
def Qgn(l:List Qa)(g:Qy):List Qa:=if l.any (fun x=>idB x==idB g.1)then l else T3 l (Cn l g)
theorem Qip{α:Type}{f:Int→Option (Int⊕Int)}{l:List α}(p:α→Bool)(hl:l.length≤9223372036854775806)
  (h:∀(i:Nat) (hi:i<l.length),f (i:Int)=some (if p l[i]then .inl (IntKind.wrap .i64 ((i:Int)+1))else .inr (i:Int))) (he:f (l.length:Int)=some (.inr (l.length:Int))) :
  ∀(k i n:Nat),l.length=i+k→k<n→Qe f n (i:Int)=some (((i+((l.drop i).takeWhile p).length:Nat):Int))
 | 0,i,n,hk,hn=>by
  obtain⟨m,rfl⟩:∃m,n=m+1:=⟨n - 1,by omega⟩
  have hi:i=l.length:=by omega
  subst hi
  simp[Qe,he]
 | k+1,i,n,hk,hn=>by
  obtain⟨m,rfl⟩:∃m,n=m+1:=⟨n - 1,by omega⟩
  have hlt:i<l.length:=by omega
  rw[List.drop_eq_getElem_cons hlt]
  simp only[Qe,h i hlt,QQ]
  cases hp:p l[i]with
  | true =>
   simp only[if_true]
   rw[Q0 (n:=(i:Int)+1) (by omega) (by omega)]
   have:=Qip p hl h he k (i+1) m (by omega) (by omega)
   rw[show((i:Int)+1)=((i+1:Nat):Int) by omega,this,XK hp]
   simp; omega
  | false =>
   rw[XV (by simp[hp])]
   simp
theorem Jua{N:Nat}[hN:Y2 N]{l:List Qa}{b:Qa}(hl:l.length≤1000000000000) :
  Qe (V5 N l b.1 b.2.1 b.2.2.1 b.2.2.2.1 b.2.2.2.2.1 b.2.2.2.2.2.1 b.2.2.2.2.2.2.1 b.2.2.2.2.2.2.2.1 b.2.2.2.2.2.2.2.2.1 b.2.2.2.2.2.2.2.2.2.1 b.2.2.2.2.2.2.2.2.2.2) N 0=some ((l.takeWhile fun x=>E5 x b).length:Int):=by
 have hB:=hN.le
 have:=Qip (f:=V5 N l b.1 b.2.1 b.2.2.1 b.2.2.2.1 b.2.2.2.2.1 b.2.2.2.2.2.1 b.2.2.2.2.2.2.1 b.2.2.2.2.2.2.2.1 b.2.2.2.2.2.2.2.2.1 b.2.2.2.2.2.2.2.2.2.1 b.2.2.2.2.2.2.2.2.2.2) (l:=l) (fun x=>E5 x b) (by omega) (fun i hi=>by
  unfold V5
  rw[if_pos (decide_eq_true (by omega)),K9 hi,QQ,QQ,Jmk,QQ,QQ]
  show(if E5 l[i] b=true then _ else _)=_
  cases E5 l[i] b<;>rfl) (by
  unfold V5
  rw[if_neg (fun h=>by have:=of_decide_eq_true h; omega)]
  rfl) l.length 0 N (by omega) (by omega)
 simpa using this
theorem Qqh{N:Nat}{b:Qa}(h:b.2.2.2.2.2.1.length≤1000000000000):W8 N b=some (b.1,b.2.1,b.2.2.1,b.2.2.2.1,b.2.2.2.2.1,b.2.2.2.2.2.2.1,b.2.2.2.2.2.2.2.1,b.2.2.2.2.2.2.2.2.1,b.2.2.2.2.2.2.2.2.2.1,b.2.2.2.2.2.2.2.2.2.2,b.2.2.2.2.2.1):=by
 unfold W8
 rw[Jj (by simp; omega)]
 rfl
theorem Jml{N:Nat}[hN:Y2 N]{l:List Qa}{g:Qy}(hl:l.length≤1000000000000)(hz:g.1.2.2.2.2.2.1.length≤1000000000000) :
  ∀(k i n:Nat),l.length=i+k→k<n→Qe (V4 N l g) n ((i:Int),g.1.1,g.1.2.1,g.1.2.2.1,g.1.2.2.2.1,g.1.2.2.2.2.1,g.1.2.2.2.2.2.2.1,g.1.2.2.2.2.2.2.2.1,g.1.2.2.2.2.2.2.2.2.1,g.1.2.2.2.2.2.2.2.2.2.1,g.1.2.2.2.2.2.2.2.2.2.2,g.1.2.2.2.2.2.1) =
   some ((Cn (l.drop i) g).1,(Cn (l.drop i) g).2.1,(Cn (l.drop i) g).2.2.1,(Cn (l.drop i) g).2.2.2.1,(Cn (l.drop i) g).2.2.2.2.1,(Cn (l.drop i) g).2.2.2.2.2.2.1,(Cn (l.drop i) g).2.2.2.2.2.2.2.1,(Cn (l.drop i) g).2.2.2.2.2.2.2.2.1,(Cn (l.drop i) g).2.2.2.2.2.2.2.2.2.1,(Cn (l.drop i) g).2.2.2.2.2.2.2.2.2.2,(Cn (l.drop i) g).2.2.2.2.2.1)
 | 0,i,n,hk,hn=>by
  obtain⟨m,rfl⟩:∃m,n=m+1:=⟨n - 1,by omega⟩
  have hi:i=l.length:=by omega
  subst hi
  simp only[Qe,V4]
  rw[if_neg (fun h=>by have:=of_decide_eq_true h; omega),JE]
  rfl
 | k+1,i,n,hk,hn=>by
  obtain⟨m,rfl⟩:∃m,n=m+1:=⟨n - 1,by omega⟩
  have hlt:i<l.length:=by omega
  have ih:=Jml (N:=N) (g:=g) hl hz k (i+1) m (by omega) (by omega)
  simp only[Qe,V4]
  rw[if_pos (decide_eq_true (by omega)),K9 hlt,QQ,QQ,List.drop_eq_getElem_cons hlt]
  have ep:Kx N l[i] g.1=some (Jgn l[i] g.1):=rfl
  show(((Kx N l[i] g.1).bind _).bind _)=_
  rw[ep,QQ]
  cases hp:Jgn l[i] g.1 with
  | true =>
   have ec:Cn (l[i]::l.drop (i+1)) g=Jvu l[i] g.1 g.2:=by unfold Cn; rw[XX (p:=fun x=>Jgn x g.1) hp]
   rw[ec,if_pos rfl]
   show(((B3 N l[i] g.1 g.2).bind _).bind _)=_
   unfold B3
   rw[Qqh hz,QQ,ep,hp,QQ,if_pos rfl]
   rfl
  | false =>
   have ec:Cn (l[i]::l.drop (i+1)) g=Cn (l.drop (i+1)) g:=by unfold Cn; rw[XZ (p:=fun x=>Jgn x g.1) (by simp[hp])]
   rw[ec,if_neg (by decide),QQ,Q0 (n:=(i:Int)+1) (by omega) (by omega)]
   exact ih
theorem Qe5{α:Type}{l:List α}{k:Nat}(h:k≤l.length):slc l 0 (k:Int)=some (l.take k):=by
 unfold slc
 rw[if_pos ⟨by omega,by omega,by omega⟩]
 rfl
theorem Qe6{α:Type}{l:List α}{k:Nat}(h:k≤l.length):slc l (k:Int) (l.length:Int)=some (l.drop k):=by
 unfold slc
 rw[if_pos ⟨by omega,by omega,by omega⟩,XO,List.take_of_length_le (by rw[List.length_drop]; omega)]
theorem Ap{α:Type}(p:α→Bool):∀l:List α,l.take (l.takeWhile p).length=l.takeWhile p∧l.drop (l.takeWhile p).length=l.dropWhile p
 | []=>⟨rfl,rfl⟩
 | x::l=>by
  cases hp:p x with
  | true=>simp[ZY,ZU,hp,(Ap p l).1,(Ap p l).2]
  | false=>simp[ZY,ZU,hp]
theorem Jub{N:Nat}[hN:Y2 N]{l:List Qa}{g:Qy}{m:List (Qu×Bool)}(hl:l.length≤1000000000000)(hz:g.1.2.2.2.2.2.1.length≤1000000000000) :
  X8 N g l m=some (if(Qr (k:=Q5) (idB g.1) m).getD false then(m,l)else(Yd (k:=Q5) (idB g.1) true m,T3 l (Cn l g))):=by
 have hB:=hN.le
 unfold X8
 have e0:Ay N g.1=some (idB g.1):=rfl
 rw[e0,QQ]
 cases hf:(Qr (k:=Q5) (idB g.1) m).getD false with
 | true=>rw[if_pos rfl,if_pos rfl]
 | false =>
  rw[if_neg (by decide),if_neg (by decide),Qqh hz,QQ]
  have e1:=Jml (N:=N) (g:=g) hl hz l.length 0 N (by omega) (by omega)
  rw[XC]at e1
  have e1':=e1
  generalize hc:Cn l g=c at e1'
  show(Qe (V4 N l g) N (0,_)).bind _=_
  rw[show((0:Int),g.1.1,g.1.2.1,g.1.2.2.1,g.1.2.2.2.1,g.1.2.2.2.2.1,g.1.2.2.2.2.2.2.1,g.1.2.2.2.2.2.2.2.1,g.1.2.2.2.2.2.2.2.2.1,g.1.2.2.2.2.2.2.2.2.2.1,g.1.2.2.2.2.2.2.2.2.2.2,g.1.2.2.2.2.2.1)=(((0:Nat):Int),g.1.1,g.1.2.1,g.1.2.2.1,g.1.2.2.2.1,g.1.2.2.2.2.1,g.1.2.2.2.2.2.2.1,g.1.2.2.2.2.2.2.2.1,g.1.2.2.2.2.2.2.2.2.1,g.1.2.2.2.2.2.2.2.2.2.1,g.1.2.2.2.2.2.2.2.2.2.2,g.1.2.2.2.2.2.1)from rfl,e1',QQ]
  dsimp only
  have hw:=ZB (l:=l) (fun x=>E5 x c)
  have hwl:=hw.length_le
  have hd:=congrArg List.length (QI (p:=fun x=>E5 x c) (l:=l))
  rw[List.length_append]at hd
  rw[Jua (b:=c) hl,QQ,Qe5 hwl,QQ,Qe6 hwl,(Ap _ l).1,(Ap _ l).2,Jj (by simp only[QH]; omega),QQ,QV,
   Jj (by simp only[List.length_cons,QH]; omega),QQ,QQ,Jj (by simp only[List.length_append,List.length_cons,QH]; omega),QQ]
  have h2:=(Qkv l g).2
  rw[hc]at h2
  show(Ay N c).bind _=_
  have e3:Ay N c=some (idB c):=rfl
  rw[e3,QQ,h2]
  unfold T3
  simp
section
variable {t:Ty} {V:Type} {k j:t.De} {x:V}
theorem Qm7(ht:Sm t=true):∀{m:List (t.De×V)},Qr k (Yd k x m:List (t.De×V))=some x
 | []=>by simp only[Yd,Qr,(Uy ht).2 rfl,cond_true]
 | z::m=>by
  unfold Yd
  cases hk:eqK t k z.1 with
  | true=>simp only[Qr,(Uy ht).2 rfl,cond_true]
  | false=>simp only[cond_false,Qr,hk]; exact Qm7 ht
theorem Qty(ht:Sm t=true)(h:j≠k):∀{m:List (t.De×V)},Qr j (Yd k x m:List (t.De×V))=Qr j m
 | []=>by
  have e:eqK t j k=false:=XP.2 fun e=>h ((Uy ht).1 e)
  simp only[Yd,Qr,e,cond_false]
 | z::m=>by
  unfold Yd
  have e:eqK t j k=false:=XP.2 fun e=>h ((Uy ht).1 e)
  cases hk:eqK t k z.1 with
  | true=>have:=(Uy ht).1 hk; subst this; simp only[cond_true,Qr,e,cond_false]
  | false=>simp only[cond_false,Qr,Qty ht h]
end
structure Qha(m:List (Qu×Bool))(l:List Qa):Prop where
 ok:∀k:Qu,(Qr (k:=Q5) k m).getD false=l.any fun x=>idB x==k
theorem Jgo:Qha [] []:=⟨fun k=>rfl⟩
theorem Qx7{m:List (Qu×Bool)}{l l':List Qa}{k:Qu}(h:Qha m l)(hl:∀j:Qu,(l'.any fun x=>idB x==j)=((l.any fun x=>idB x==j)||k==j)):Qha (Yd (k:=Q5) k true m) l':=⟨fun j=>by
 rw[hl]
 by_cases e:j=k
 ·subst e
  rw[Qm7 (t:=Q5) rfl]; simp
 ·rw[Qty (t:=Q5) rfl e,h.ok]
  have:(k==j)=false:=by simpa using fun h=>e h.symm
  rw[this,Bool.or_false]⟩
theorem Jmm{l:List Qa}{b:Qa}{p:Qa→Bool}:(T3 l b).any p=(l.any p||p b):=by
 unfold T3
 rw[KP,List.any_cons]
 conv=>rhs; rw[←QI (p:=fun x=>E5 x b) (l:=l),KP]
 cases(l.takeWhile fun x=>E5 x b).any p<;>cases p b<;>simp
theorem Jmn{l:List Qa}{b:Qa}:(T3 l b).length=l.length+1:=by
 unfold T3
 have:=congrArg List.length (QI (p:=fun x=>E5 x b) (l:=l))
 rw[List.length_append]at this
 rw[List.length_append,List.length_cons]; omega
def Fj(t:Int)(s:List Qa×List (Qu×Bool))(g:Qy):List Qa×List (Qu×Bool) :=
 if g.1.2.2.2.2.2.2.1.1≤t then(if(Qr (k:=Q5) (idB g.1) s.2).getD false then s else(T3 s.1 (Cn s.1 g),Yd (k:=Q5) (idB g.1) true s.2))else s
theorem Jmo{t:Int}{s:List Qa×List (Qu×Bool)}{g:Qy}(h:Qha s.2 s.1):Qha (Fj t s g).2 (Fj t s g).1∧(Fj t s g).1=(if g.1.2.2.2.2.2.2.1.1≤t then Qgn s.1 g else s.1):=by
 unfold Fj Qgn
 rw[h.ok]
 by_cases c1:g.1.2.2.2.2.2.2.1.1≤t
 ·rw[if_pos c1,if_pos c1]
  cases ha:s.1.any fun x=>idB x==idB g.1 with
  | true=>exact⟨h,rfl⟩
  | false=>exact⟨Qx7 h fun j=>by
    show(T3 s.1 (Cn s.1 g)).any _=_
    rw[Jmm,(Qkv s.1 g).2],rfl⟩
 ·rw[if_neg c1,if_neg c1]; exact⟨h,rfl⟩
theorem Qx8{t:Int}{s:List Qa×List (Qu×Bool)}{g:Qy}:(Fj t s g).1.length≤s.1.length+1:=by
 unfold Fj
 split
 ·split
  ·exact ZQ _
  ·rw[Jmn]; exact QG _
 ·exact ZQ _
theorem Qiq{t:Int}:∀{l:List Qy} {s:List Qa×List (Qu×Bool)},(l.foldl (Fj t) s).1.length≤s.1.length+l.length
 | [],s=>QG _
 | g::l,s=>by
  have h1:=Qiq (t:=t) (l:=l) (s:=Fj t s g)
  have h2:=Qx8 (t:=t) (s:=s) (g:=g)
  simp only[XM,List.length_cons]; omega
theorem Qx9{t:Int}:∀{l:List Qy} {s:List Qa×List (Qu×Bool)},Qha s.2 s.1→Qha (l.foldl (Fj t) s).2 (l.foldl (Fj t) s).1∧(l.foldl (Fj t) s).1=(l.filter fun g=>decide (g.1.2.2.2.2.2.2.1.1≤t)).foldl Qgn s.1
 | [],s,h=>⟨h,rfl⟩
 | g::l,s,h=>by
  obtain⟨h1,h2⟩:=Jmo (t:=t) (g:=g) h
  obtain⟨h3,h4⟩:=Qx9 (l:=l) h1
  refine⟨h3,?_⟩
  rw[XM,h4,h2]
  by_cases c:g.1.2.2.2.2.2.2.1.1≤t
  ·rw[if_pos c,QA (by simpa using c)]; rfl
  ·rw[if_neg c,QB (by simpa using c)]
abbrev StM:Type:=List Qa×List (Qu×Bool)
theorem Juc{N:Nat}[hN:Y2 N]{r:List Qy}{t:Int}{s:StM}(hr:r.length≤4096)(hz:∀g∈r,g.1.2.2.2.2.2.1.length≤1000000000000)(hs:s.1.length≤999999990000) :
  Qe (U0 N r t) N (0,s.1,s.2)=some (r.foldl (Fj t) s):=by
 have hB:=hN.le
 refine A8 r (Nat.le_trans hr (by decide)) (f:=U0 N r t) (fun(s:StM) i=>(i,s.1,s.2)) (fun i q=>q.1.length≤s.1.length+i) (fun s l=>l.foldl (Fj t) s) ?_ ?_ (by omega) (KC _ _)
 ·intro s _ h
  simp only[U0]
  rw[h]; rfl
 ·intro q i g xs h1 h2 h3 h4 h5 hq
  left
  have hi:=(List.getElem?_eq_some_iff.1 h1).1
  refine⟨Fj t q g,?_,?_,rfl⟩
  ·simp only[U0]
   rw[if_pos h2,h3,QQ,QQ,h4]
   unfold Fj
   by_cases c:g.1.2.2.2.2.2.2.1.1≤t
   ·rw[if_pos (decide_eq_true c),if_pos c,Jub (by omega) (hz g (List.mem_of_getElem? h1)),QQ,QQ]
    split<;>rfl
   ·rw[if_neg (by simpa using c),if_neg c,QQ]
  ·have:=Qx8 (t:=t) (s:=q) (g:=g); omega
noncomputable def grs(N:Nat)(pr:List Qm)(h:Q7)(c:Qb):List Qy:=(Uu N h pr c).getD []
structure Jmp(N:Nat)(pr:List Qm)(h:Q7)(c:Qb):Prop where
 e:Uu N h pr c=some (grs N pr h c)
 l:(grs N pr h c).length≤32
 z:∀g∈grs N pr h c,g.1.2.2.2.2.2.1.length≤1000000000000
theorem Jud{N:Nat}[hN:Y2 N]{r:List Q7}{pr:List Qm}{c:Qb}{t:Int}{s:StM}(hr:r.length≤32)(hg:∀h∈r,Jmp N pr h c)(hs:s.1.length≤999999980000) :
  Qe (U1 N r pr c t) N (0,s.1,s.2)=some ((r.flatMap fun h=>grs N pr h c).foldl (Fj t) s):=by
 have hB:=hN.le
 refine A8 r (Nat.le_trans hr (by decide)) (f:=U1 N r pr c t) (fun(s:StM) i=>(i,s.1,s.2)) (fun i q=>q.1.length≤s.1.length+32*i) (fun s l=>(l.flatMap fun h=>grs N pr h c).foldl (Fj t) s) ?_ ?_ (by omega) (KC _ _)
 ·intro s _ h
  simp only[U1]
  rw[h]; rfl
 ·intro q i h xs h1 h2 h3 h4 h5 hq
  left
  have hi:=(List.getElem?_eq_some_iff.1 h1).1
  have hk:=hg h (List.mem_of_getElem? h1)
  refine⟨(grs N pr h c).foldl (Fj t) q,?_,?_,?_⟩
  ·simp only[U1]
   rw[if_pos h2,h3,QQ,hk.e,QQ,Juc (Nat.le_trans hk.l (by omega)) hk.z (by omega),QQ,h4]
  ·have:=Qiq (t:=t) (l:=grs N pr h c) (s:=q)
   have:=hk.l; omega
  ·rw[JA,List.foldl_append]
theorem I0q{α β:Type}{f:α→List β}{K:Nat}:∀{l:List α},(∀x∈l,(f x).length≤K)→(l.flatMap f).length≤l.length*K
 | [],_=>by simp
 | x::l,h=>by
  rw[JA,List.length_append,List.length_cons,Nat.succ_mul]
  have h1:=h x (.head _)
  have h2:=I0q (l:=l) fun y hy=>h y (.tail _ hy)
  omega
theorem Jue{N:Nat}[hN:Y2 N]{r:List Qb}{hs:List Q7}{pr:List Qm}{t:Int}{s:StM}(hr:r.length≤8000000)(hl:hs.length≤32)(hg:∀c∈r,∀h∈hs,Jmp N pr h c)(hb:s.1.length≤900000000000) :
  Qe (V1 N r hs pr t) N (0,s.1,s.2)=some ((r.flatMap fun c=>hs.flatMap fun h=>grs N pr h c).foldl (Fj t) s):=by
 have hB:=hN.le
 refine A8 r (Nat.le_trans hr (by decide)) (f:=V1 N r hs pr t) (fun(s:StM) i=>(i,s.1,s.2)) (fun i q=>q.1.length≤s.1.length+1024*i) (fun s l=>(l.flatMap fun c=>hs.flatMap fun h=>grs N pr h c).foldl (Fj t) s) ?_ ?_ (by omega) (KC _ _)
 ·intro s _ h
  simp only[V1]
  rw[h]; rfl
 ·intro q i c xs h1 h2 h3 h4 h5 hq
  left
  have hi:=(List.getElem?_eq_some_iff.1 h1).1
  have hk:=hg c (List.mem_of_getElem? h1)
  refine⟨(hs.flatMap fun h=>grs N pr h c).foldl (Fj t) q,?_,?_,?_⟩
  ·simp only[V1]
   rw[if_pos h2,h3,QQ,QQ,Jud hl hk (by omega),QQ,h4]
  ·have h6:=Qiq (t:=t) (l:=hs.flatMap fun h=>grs N pr h c) (s:=q)
   have h7:=I0q (f:=fun h=>grs N pr h c) (K:=32) (l:=hs) fun h hh=>(hk h hh).l
   omega
  ·rw[JA,List.foldl_append]
theorem Jmq{N:Nat}[hN:Y2 N]{x:Qp}(hl:x.1.length≤1000000000000)(hz:∀b∈x.1,b.2.2.2.2.2.1.length≤1000000000000):∃m,Qha m x.1∧Qe (V0 N x) N (0,[],[])=some (x.1,m):=by
 have hB:=hN.le
 have key:Qe (V0 N x) N (0,[],[])=some (x.1.foldl (fun(s:StM) b=>(s.1++[b],Yd (k:=Q5) (idB b) true s.2)) ([],[])):=by
  refine A8 x.1 (Nat.le_trans hl (by decide)) (f:=V0 N x) (fun(s:StM) i=>(i,s.1,s.2)) (fun i q=>q.1.length≤i) (fun s l=>l.foldl (fun(s:StM) b=>(s.1++[b],Yd (k:=Q5) (idB b) true s.2)) s) (n:=N) (s:=(([],[]):StM)) ?_ ?_ (by omega) (QG _)
  ·intro s _ h
   simp only[V0]
   rw[h]; rfl
  ·intro q i b xs h1 h2 h3 h4 h5 hq
   left
   have hi:=(List.getElem?_eq_some_iff.1 h1).1
   refine⟨(q.1++[b],Yd (k:=Q5) (idB b) true q.2),?_,by simp; omega,rfl⟩
   simp only[V0]
   rw[if_pos h2,h3,QQ,Qqh (hz b (List.mem_of_getElem? h1)),QQ]
   show(app 120 q.1 [b]).bind _=_
   rw[Jj (by simp only[List.length_cons,QH]; omega),QQ,h4]
   rfl
 have gen:∀(l:List Qa) (s:StM),Qha s.2 s.1→Qha (l.foldl (fun(s:StM) b=>(s.1++[b],Yd (k:=Q5) (idB b) true s.2)) s).2 (s.1++l)∧(l.foldl (fun(s:StM) b=>(s.1++[b],Yd (k:=Q5) (idB b) true s.2)) s).1=s.1++l:=by
  intro l
  induction l with
  | nil=>exact fun s h=>⟨by simpa using h,by simp⟩
  | cons b l ih =>
   intro s h
   have:=ih (s.1++[b],Yd (k:=Q5) (idB b) true s.2) (Qx7 h fun j=>by simp[KP])
   simpa using this
 obtain⟨h1,h2⟩:=gen x.1 ([],[]) Jgo
 refine⟨_,h1,?_⟩
 rw[key]
 congr 1
 exact Prod.ext h2 rfl
structure Jxj(N:Nat)(ev:List Qg)(pr:List Qm)(a t:Int)(gs:List Qy):Prop where
 acc:∀g∈gs,g.1.1=a
 eq:∀s:Qp,s.1.length≤900000000000→(∀b∈s.1,b.2.2.2.2.2.1.length≤1000000000000)→s.2.1.length≤1000000000000→s.2.2.length≤1000000000000→Jz N ev pr s a t=some (gs.foldl Qgn s.1,s.2.1,s.2.2)
abbrev Q56:Type:=Int×Int×Int×Str×Int×Int
def Qgo(b:Qa):Q56:=(b.2.2.2.2.2.2.2.2.2.1,b.2.2.2.2.2.2.1.2,b.2.1,b.2.2.1,b.2.2.2.1,b.2.2.2.2.2.2.1.1)
def blt(a b:Q56):Prop:=a.1<b.1∨(a.1=b.1∧(a.2.1<b.2.1∨(a.2.1=b.2.1∧(a.2.2.1<b.2.2.1∨(a.2.2.1=b.2.2.1∧(a.2.2.2.1<b.2.2.2.1∨(a.2.2.2.1=b.2.2.2.1∧(a.2.2.2.2.1<b.2.2.2.2.1∨(a.2.2.2.2.1=b.2.2.2.2.1∧a.2.2.2.2.2<b.2.2.2.2.2)))))))))
instance {a b:Q56}:Decidable (blt a b):=by unfold blt; infer_instance
theorem Jpt(a b:Str):a<b∨a=b∨b<a:=by
 by_cases h:a<b
 ·exact .inl h
 ·by_cases k:b<a
  ·exact .inr (.inr k)
  ·exact .inr (.inl (List.le_antisymm (List.not_lt.1 k) (List.not_lt.1 h)))
theorem Jc8(a b:Q56):blt a b∨a=b∨blt b a:=by
 obtain⟨a1,a2,a3,a4,a5,a6⟩:=a
 obtain⟨b1,b2,b3,b4,b5,b6⟩:=b
 unfold blt
 simp only[Prod.mk.injEq]
 rcases JY a1 b1 with h | h | h
 ·exact .inl (.inl h)
 ·subst h
  rcases JY a2 b2 with h | h | h
  ·exact .inl (.inr ⟨rfl,.inl h⟩)
  ·subst h
   rcases JY a3 b3 with h | h | h
   ·exact .inl (.inr ⟨rfl,.inr ⟨rfl,.inl h⟩⟩)
   ·subst h
    rcases Jpt a4 b4 with h | h | h
    ·exact .inl (.inr ⟨rfl,.inr ⟨rfl,.inr ⟨rfl,.inl h⟩⟩⟩)
    ·subst h
     rcases JY a5 b5 with h | h | h
     ·exact .inl (.inr ⟨rfl,.inr ⟨rfl,.inr ⟨rfl,.inr ⟨rfl,.inl h⟩⟩⟩⟩)
     ·subst h
      rcases JY a6 b6 with h | h | h
      ·exact .inl (.inr ⟨rfl,.inr ⟨rfl,.inr ⟨rfl,.inr ⟨rfl,.inr ⟨rfl,h⟩⟩⟩⟩⟩)
      ·subst h
       exact .inr (.inl ⟨rfl,rfl,rfl,rfl,rfl,rfl⟩)
      ·exact .inr (.inr (.inr ⟨rfl,.inr ⟨rfl,.inr ⟨rfl,.inr ⟨rfl,.inr ⟨rfl,h⟩⟩⟩⟩⟩))
     ·exact .inr (.inr (.inr ⟨rfl,.inr ⟨rfl,.inr ⟨rfl,.inr ⟨rfl,.inl h⟩⟩⟩⟩))
    ·exact .inr (.inr (.inr ⟨rfl,.inr ⟨rfl,.inr ⟨rfl,.inl h⟩⟩⟩))
   ·exact .inr (.inr (.inr ⟨rfl,.inr ⟨rfl,.inl h⟩⟩))
  ·exact .inr (.inr (.inr ⟨rfl,.inl h⟩))
 ·exact .inr (.inr (.inl h))
theorem Q95(a:Q56):¬ blt a a:=by
 unfold blt
 have:¬ a.2.2.2.1<a.2.2.2.1:=List.lt_irrefl _
 simp[this]
theorem Qya{a b c:Q56}(h:blt a b)(k:blt b c):blt a c:=by
 obtain⟨a1,a2,a3,a4,a5,a6⟩:=a
 obtain⟨b1,b2,b3,b4,b5,b6⟩:=b
 obtain⟨c1,c2,c3,c4,c5,c6⟩:=c
 unfold blt at *
 simp only at *
 rcases h with h | ⟨rfl,h | ⟨rfl,h | ⟨rfl,h | ⟨rfl,h | ⟨rfl,h⟩⟩⟩⟩⟩
 ·rcases k with k | ⟨rfl,_⟩
  ·exact .inl (ZT h k)
  ·exact .inl h
 ·rcases k with k | ⟨rfl,k | ⟨rfl,_⟩⟩
  ·exact .inl k
  ·exact .inr ⟨rfl,.inl (ZT h k)⟩
  ·exact .inr ⟨rfl,.inl h⟩
 ·rcases k with k | ⟨rfl,k | ⟨rfl,k | ⟨rfl,_⟩⟩⟩
  ·exact .inl k
  ·exact .inr ⟨rfl,.inl k⟩
  ·exact .inr ⟨rfl,.inr ⟨rfl,.inl (ZT h k)⟩⟩
  ·exact .inr ⟨rfl,.inr ⟨rfl,.inl h⟩⟩
 ·rcases k with k | ⟨rfl,k | ⟨rfl,k | ⟨rfl,k | ⟨rfl,_⟩⟩⟩⟩
  ·exact .inl k
  ·exact .inr ⟨rfl,.inl k⟩
  ·exact .inr ⟨rfl,.inr ⟨rfl,.inl k⟩⟩
  ·exact .inr ⟨rfl,.inr ⟨rfl,.inr ⟨rfl,.inl (List.lt_trans h k)⟩⟩⟩
  ·exact .inr ⟨rfl,.inr ⟨rfl,.inr ⟨rfl,.inl h⟩⟩⟩
 ·rcases k with k | ⟨rfl,k | ⟨rfl,k | ⟨rfl,k | ⟨rfl,k | ⟨rfl,_⟩⟩⟩⟩⟩
  ·exact .inl k
  ·exact .inr ⟨rfl,.inl k⟩
  ·exact .inr ⟨rfl,.inr ⟨rfl,.inl k⟩⟩
  ·exact .inr ⟨rfl,.inr ⟨rfl,.inr ⟨rfl,.inl k⟩⟩⟩
  ·exact .inr ⟨rfl,.inr ⟨rfl,.inr ⟨rfl,.inr ⟨rfl,.inl (ZT h k)⟩⟩⟩⟩
  ·exact .inr ⟨rfl,.inr ⟨rfl,.inr ⟨rfl,.inr ⟨rfl,.inl h⟩⟩⟩⟩
 ·rcases k with k | ⟨rfl,k | ⟨rfl,k | ⟨rfl,k | ⟨rfl,k | ⟨rfl,k⟩⟩⟩⟩⟩
  ·exact .inl k
  ·exact .inr ⟨rfl,.inl k⟩
  ·exact .inr ⟨rfl,.inr ⟨rfl,.inl k⟩⟩
  ·exact .inr ⟨rfl,.inr ⟨rfl,.inr ⟨rfl,.inl k⟩⟩⟩
  ·exact .inr ⟨rfl,.inr ⟨rfl,.inr ⟨rfl,.inr ⟨rfl,.inl k⟩⟩⟩⟩
  ·exact .inr ⟨rfl,.inr ⟨rfl,.inr ⟨rfl,.inr ⟨rfl,.inr ⟨rfl,ZT h k⟩⟩⟩⟩⟩
theorem Jgp{a b:Q56}(h:blt a b):¬ blt b a:=fun k=>Q95 _ (Qya h k)
theorem Q96{a b c:Q56}(h:¬ blt b a)(k:¬ blt c b):¬ blt c a:=fun q=>by
 rcases Jc8 a b with h1 | h1 | h1
 ·exact k (Qya q h1)
 ·subst h1; exact k q
 ·exact h h1
theorem Jgq{N:Nat}{a b:Qa}:Hw N a b=some (decide (blt (Qgo a) (Qgo b))):=by
 have cmp:∀x y:Int,Uv N x y=some (if x<y then -1 else if y<x then 1 else 0):=fun x y=>by
  unfold Uv
  by_cases h:x<y
  ·simp[h]
  ·by_cases k:y<x<;>simp[h,k]
 unfold Hw
 simp only[cmp,QQ]
 unfold blt Qgo
 rcases JY a.2.2.2.2.2.2.2.2.2.1 b.2.2.2.2.2.2.2.2.2.1 with h | h | h
 ·simp[h]
 ·rcases JY a.2.2.2.2.2.2.1.2 b.2.2.2.2.2.2.1.2 with h2 | h2 | h2
  ·simp[h,h2]
  ·rcases JY a.2.1 b.2.1 with h3 | h3 | h3
   ·simp[h,h2,h3]
   ·by_cases h4:a.2.2.1=b.2.2.1
    ·rcases JY a.2.2.2.1 b.2.2.2.1 with h5 | h5 | h5
     ·simp[h,h2,h3,h4,h5]
     ·have h8:¬ b.2.2.1<b.2.2.1:=List.lt_irrefl _
      simp[h,h2,h3,h4,h5,h8]
     ·have h6:=ZZ h5
      have h7:¬ a.2.2.2.1=b.2.2.2.1:=by omega
      simp[h,h2,h3,h4,h5,h6,h7]
    ·simp[h,h2,h3,h4,Go.Proofs.bytesLess_eq]
   ·have h6:=ZZ h3
    have h7:¬ a.2.1=b.2.1:=by omega
    simp[h,h2,h3,h6,h7]
  ·have h6:=ZZ h2
   have h7:¬ a.2.2.2.2.2.2.1.2=b.2.2.2.2.2.2.1.2:=by omega
   simp[h,h2,h6,h7]
 ·have h6:=ZZ h
  have h7:¬ a.2.2.2.2.2.2.2.2.2.1=b.2.2.2.2.2.2.2.2.2.1:=by omega
  simp[h,h6,h7]
abbrev bk0:Qa:=(0,0,[],0,0,[],(0,0),0,0,0,false)
def at_(l:List Qa)(i:Int):Qa:=l.getD i.toNat bk0
def leI(l:List Qa)(i j:Int):Bool:=!decide (blt (Qgo (at_ l j)) (Qgo (at_ l i)))
theorem Qtz{l:List Qa}{i:Int}(h0:0≤i)(h:i<l.length):idx l i=some (at_ l i):=by
 obtain⟨n,rfl⟩:∃n:Nat,i=n:=⟨i.toNat,by omega⟩
 have hn:n<l.length:=by omega
 rw[K9 hn]
 unfold at_
 rw[XO,JO,List.getElem?_eq_getElem hn]; rfl
def InR(l:List Qa)(r:List Int):Prop:=∀i∈r,0≤i∧i<(l.length:Int)
theorem T4{N:Nat}{l:List Qa}{r q:List Int}(hr:InR l r)(hq:InR l q)(hL:r.length+q.length≤1000000000000):∀(d i k n:Nat) (o:List Int),r.length+q.length=i+k+d→i≤r.length→k≤q.length→d<n→o.length=i+k →
  Qe (Zu N r q l) n ((i:Int),(k:Int),o)=some (o++List.merge (r.drop i) (q.drop k) (leI l))
 | 0,i,k,n,o,hd,hi,hk,hn,ho=>by
  obtain⟨m,rfl⟩:∃m,n=m+1:=⟨n - 1,by omega⟩
  have e1:i=r.length:=by omega
  have e2:k=q.length:=by omega
  subst e1 e2
  simp only[Qe,Zu]
  rw[if_neg (by simp),JE,JE]
  simp
 | d+1,i,k,n,o,hd,hi,hk,hn,ho=>by
  obtain⟨m,rfl⟩:∃m,n=m+1:=⟨n - 1,by omega⟩
  have wi:IntKind.wrap .i64 ((i:Int)+1)=((i+1:Nat):Int):=Q0 (n:=(i:Int)+1) (by omega) (by omega)
  have wk:IntKind.wrap .i64 ((k:Int)+1)=((k+1:Nat):Int):=Q0 (n:=(k:Int)+1) (by omega) (by omega)
  simp only[Qe,Zu]
  rw[if_pos (by simp only[JU,decide_eq_true_eq]; omega)]
  by_cases c1:k=q.length
  ·have hlt:i<r.length:=by omega
   rw[if_pos (by simp[c1]),QQ,if_pos rfl,K9 hlt,QQ,Jj (by simp; omega),QQ,QQ,wi]
   have ih:=T4 (N:=N) hr hq hL d (i+1) k m (o++[r[i]]) (by omega) (by omega) hk (by omega) (by simp; omega)
   refine ih.trans ?_
   rw[List.drop_eq_getElem_cons hlt,c1,JE]
   simp
  ·have hlk:k<q.length:=by omega
   rw[if_neg (by simp; omega)]
   by_cases c2:i<r.length
   ·have q1:=hq _ (XB hlk)
    have r1:=hr _ (XB c2)
    rw[if_pos (by simp; omega),K9 hlk,QQ,Qtz q1.1 q1.2,QQ,K9 c2,QQ,Qtz r1.1 r1.2,QQ,Jgq,QQ,QQ]
    rw[List.drop_eq_getElem_cons c2,List.drop_eq_getElem_cons hlk]
    cases hle:leI l r[i] q[k]with
    | true =>
     have hb:(!decide (blt (Qgo (at_ l q[k])) (Qgo (at_ l r[i]))))=true:=hle
     rw[hb,if_pos rfl,QQ,Jj (by simp; omega),QQ,QQ,wi,KF _ _ _ hle]
     have ih:=T4 (N:=N) hr hq hL d (i+1) k m (o++[r[i]]) (by omega) (by omega) hk (by omega) (by simp; omega)
     refine ih.trans ?_
     rw[List.drop_eq_getElem_cons hlk]
     simp
    | false =>
     have hb:(!decide (blt (Qgo (at_ l q[k])) (Qgo (at_ l r[i]))))=false:=hle
     rw[hb,if_neg (by decide),QQ,Jj (by simp; omega),QQ,QQ,wk,KA _ _ _ (by simp[hle])]
     have ih:=T4 (N:=N) hr hq hL d i (k+1) m (o++[q[k]]) (by omega) hi (by omega) (by omega) (by simp; omega)
     refine ih.trans ?_
     rw[List.drop_eq_getElem_cons c2]
     simp
   ·have e1:i=r.length:=by omega
    rw[if_neg (by simp; omega),QQ,if_neg (by decide),K9 hlk,QQ,Jj (by simp; omega),QQ,QQ,wk]
    have ih:=T4 (N:=N) hr hq hL d i (k+1) m (o++[q[k]]) (by omega) hi (by omega) (by omega) (by simp; omega)
    refine ih.trans ?_
    rw[List.drop_eq_getElem_cons hlk,e1,JE]
    simp
theorem Jgr{l:List Qa}{i j k:Int}(h:leI l i j=true)(h2:leI l j k=true):leI l i k=true:=by
 unfold leI at *
 simp only[JN,decide_eq_false_iff_not]at *
 exact Q96 h h2
theorem Jgs{l:List Qa}{i j:Int}:(leI l i j||leI l j i)=true:=by
 unfold leI
 simp only[JU,JN,decide_eq_false_iff_not]
 by_cases h:blt (Qgo (at_ l j)) (Qgo (at_ l i))
 ·exact .inr (Jgp h)
 ·exact .inl h
def rng(a b:Nat):List Int:=(List.range' a (b - a)).map Int.ofNat
theorem Q97{a b:Nat}{i:Int}(h:i∈rng a b):(a:Int)≤i∧i<b:=by
 unfold rng at h
 obtain⟨n,hn,rfl⟩:=QK.1 h
 rw[List.mem_range'_1]at hn
 simp only[Int.ofNat_eq_natCast]
 omega
theorem Qyb{a b c:Nat}(h:a≤b)(h2:b≤c):rng a b++rng b c=rng a c:=by
 unfold rng
 rw[←QN]
 congr 1
 have:=List.range'_append_1 (s:=a) (m:=b - a) (n:=c - b)
 rw[show a+(b - a)=b by omega,show b - a+(c - b)=c - a by omega]at this
 exact this
theorem Qyc{N:Nat}{b:Nat}(hb:b≤1000000000000):∀(d a n:Nat) (o:List Int),b=a+d→d<n→o.length≤a→Qe (Zt N (b:Int)) n ((a:Int),o)=some (o++rng a b)
 | 0,a,n,o,hd,hn,ho=>by
  obtain⟨m,rfl⟩:∃m,n=m+1:=⟨n - 1,by omega⟩
  simp only[Qe,Zt]
  rw[if_neg (by simp; omega),show b=a by omega]
  simp[rng]
 | d+1,a,n,o,hd,hn,ho=>by
  obtain⟨m,rfl⟩:∃m,n=m+1:=⟨n - 1,by omega⟩
  simp only[Qe,Zt]
  have wi:IntKind.wrap .i64 ((a:Int)+1)=((a+1:Nat):Int):=Q0 (n:=(a:Int)+1) (by omega) (by omega)
  rw[if_pos (by simp; omega),Jj (by simp; omega),QQ,QQ,wi]
  have ih:=Qyc (N:=N) hb d (a+1) m (o++[(a:Int)]) (by omega) (by omega) (by simp; omega)
  refine ih.trans ?_
  rw[←Qyb (a:=a) (b:=a+1) (c:=b) (by omega) (by omega)]
  simp[rng]
theorem Qt0{N:Nat}[hN:Y2 N]{l:List Qa}(hl:l.length≤1000000000000):∀(n a b:Nat),a≤b→b≤l.length→b - a<n→∃r,Va N n l (a:Int) (b:Int)=some r∧r.Perm (rng a b)∧r.Pairwise fun i j=>leI l i j=true
 | 0,a,b,_,_,h=>by omega
 | n+1,a,b,hab,hb,h=>by
  have hB:=hN.le
  unfold Va
  have e1:IntKind.wrap .i64 ((b:Int) - (a:Int))=((b - a:Nat):Int):=by rw[Q0 (by omega) (by omega)]; omega
  rw[e1]
  by_cases h2:b - a<2
  ·rw[if_pos (decide_eq_true (by omega)),Qyc (by omega) (b - a) a N [] (by omega) (by omega) (by simp),QQ]
   refine⟨_,rfl,.refl _,?_⟩
   rw[QV]
   unfold rng
   rcases Nat.lt_or_ge (b - a) 1 with h3 | h3
   ·rw[show b - a=0 by omega]; exact .nil
   ·rw[show b - a=1 by omega]; exact XA _ _
  ·rw[if_neg (fun hc=>h2 (by have:=of_decide_eq_true hc; omega))]
   have hd:IntKind.wrap .i64 ((a:Int)+IntKind.wrap .i64 (Int.tdiv ((b - a:Nat):Int) 2))=((a+(b - a) / 2:Nat):Int):=by
    rw[QF (by omega),Q0 (n:=((b - a:Nat):Int) / 2) (by omega) (by omega),Q0 (by omega) (by omega)]; omega
   rw[hd]
   obtain⟨x,ex,px,sx⟩:=Qt0 (N:=N) hl n a (a+(b - a) / 2) (by omega) (by omega) (by omega)
   obtain⟨y,ey,py,sy⟩:=Qt0 (N:=N) hl n (a+(b - a) / 2) b (by omega) (by omega) (by omega)
   have lx:=px.length_eq
   have ly:=py.length_eq
   unfold rng at lx ly
   rw[List.length_map,List.length_range']at lx ly
   have ix:InR l x:=fun i hi=>by have:=Q97 (px.mem_iff.1 hi); omega
   have iy:InR l y:=fun i hi=>by have:=Q97 (py.mem_iff.1 hi); omega
   have hm:Gd.mkL 8 0 ((b - a:Nat):Int) (0:Int)=some []:=by
    unfold Gd.mkL
    rw[if_pos ⟨by omega,by omega,by omega⟩]; rfl
   have h3:=T4 (N:=N) (r:=x) (q:=y) ix iy (by omega) (x.length+y.length) 0 0 N [] (by omega) (by omega) (by omega) (by omega) (by simp)
   have h3':Qe (Zu N x y l) N (0,0,[])=_:=h3
   rw[ex,QQ,ey,QQ,hm,QQ,h3',QQ]
   refine⟨_,rfl,?_,?_⟩
   ·simp only[QV,XC]
    rw[←Qyb (a:=a) (b:=a+(b - a) / 2) (c:=b) (by omega) (by omega)]
    exact(KN (leI l)).trans (px.append py)
   ·simp only[QV,XC]
    exact VW (le:=leI l) (fun x y z h k=>Jgr h k) (fun x y=>Jgs) x y sx sy
def Q98(a b:Qa):Prop:=¬ blt (Qgo b) (Qgo a)
theorem Juf(l:List Qa):(rng 0 l.length).map (at_ l)=l:=by
 unfold rng
 rw[VU]
 refine ZM (by simp) fun i h1 h2=>?_
 simp[at_,h2]
theorem Jgt{N:Nat}[hN:Y2 N]{l:List Qa}(hl:l.length≤1000000000000):∃r,Rv N l 0 (l.length:Int)=some r∧r.Perm (rng 0 l.length)∧(r.map (at_ l)).Perm l∧(r.map (at_ l)).Pairwise Q98:=by
 have hB:=hN.le
 obtain⟨r,e,hp,hs⟩:=Qt0 (N:=N) hl N 0 l.length (by omega) (QG _) (by omega)
 refine⟨r,e,hp,?_,?_⟩
 ·have:=hp.map (at_ l)
  rw[Juf]at this
  exact this
 ·refine JB.2 (hs.imp fun {i j} h=>?_)
  unfold leI at h
  simpa[Q98]using h
def tkN(b:Qa)(n:Int):Int:=if b.2.2.2.2.2.2.2.2.1<n then b.2.2.2.2.2.2.2.2.1 else n
def Jc9(b:Qa)(k:Int):Qa:=(b.1,b.2.1,b.2.2.1,b.2.2.2.1,b.2.2.2.2.1,b.2.2.2.2.2.1,b.2.2.2.2.2.2.1,b.2.2.2.2.2.2.2.1,IntKind.wrap .i64 (b.2.2.2.2.2.2.2.2.1 - k),b.2.2.2.2.2.2.2.2.2.1,b.2.2.2.2.2.2.2.2.2.2)
def Qe7(q:Qa×Int):Ja:=(q.1.2.1,q.1.2.2.1,q.1.2.2.2.1,q.1.2.2.2.2.2.2.1.1,q.2)
def tkV(us:Qa→Bool):List Qa→Int→List (Qa×Int)×Int
 | [],n=>([],n)
 | b::l,n=>if n=0 then([],n)else if us b then((b,tkN b n)::(tkV us l (IntKind.wrap .i64 (n - tkN b n))).1,(tkV us l (IntKind.wrap .i64 (n - tkN b n))).2)else tkV us l n
def Se(T:List (Qa×Int))(b:Qa):Qa:=match T.find? fun q=>idB q.1==idB b with
 | some q=>Jc9 b q.2
 | none=>b
abbrev TkS:Type:=Int×List Qa×List Ja
def tkI(us:Qa→Bool)(x0:List Qa):TkS→List Int→TkS
 | s,[]=>s
 | s,j::js=>if s.1=0 then s else if us (at_ x0 j)then tkI us x0 (IntKind.wrap .i64 (s.1 - tkN (at_ s.2.1 j) s.1),s.2.1.set j.toNat (Jc9 (at_ s.2.1 j) (tkN (at_ s.2.1 j) s.1)),s.2.2++[Qe7 (at_ x0 j,tkN (at_ s.2.1 j) s.1)]) js else tkI us x0 s js
theorem Jgu{N:Nat}[hN:Y2 N]{r:List Int}{x0:List Qa}{x1 x2 x3:Int}{x4:Str}{x5:Bool}{x6:Int}{us:Qa→Bool}(hr:InR x0 r)(hl:r.length≤1000000000000)(hu:∀b∈x0,Vq N b x1 x2 x3 x4 x5 x6=some (us b)){s:TkS}(hs:s.2.1.length=x0.length)(ht:s.2.2=[]) :
  Qe (Kc N r x0 x1 x2 x3 x4 x5 x6) N (s.1,0,s.2.1,s.2.2)=some (tkI us x0 s r):=by
 have hB:=hN.le
 refine A8 r (Nat.le_trans hl (by decide)) (f:=Kc N r x0 x1 x2 x3 x4 x5 x6) (fun(s:TkS) i=>(s.1,i,s.2.1,s.2.2)) (fun i q=>q.2.1.length=x0.length∧q.2.2.length≤i) (fun s l=>tkI us x0 s l) ?_ ?_ (by omega) ⟨hs,by simp[ht]⟩
 ·intro s _ h
  simp only[Kc]
  rw[h]; rfl
 ·intro q i j xs h1 h2 h3 h4 h5 hq
  have hi:=(List.getElem?_eq_some_iff.1 h1).1
  have hj:=hr j (List.mem_of_getElem? h1)
  have hb:at_ x0 j∈x0:=by
   have:=Qtz hj.1 hj.2
   exact List.mem_of_getElem? (Jk5 this).2.2
  simp only[Kc]
  rw[if_pos h2,h3,QQ]
  by_cases c0:q.1=0
  ·right
   rw[if_pos (by simpa using c0),QQ]
   simp only[tkI]
   rw[if_pos c0]
  ·left
   rw[if_neg (by simpa using c0),Qtz hj.1 hj.2,QQ,hu _ hb,QQ]
   cases hus:us (at_ x0 j)with
   | false =>
    refine⟨q,?_,⟨hq.1,by omega⟩,?_⟩
    ·rw[if_pos (by decide),QQ]
     simp only[h4]
    ·simp only[tkI,hus]
     rw[if_neg c0]; simp
   | true =>
    refine⟨(IntKind.wrap .i64 (q.1 - tkN (at_ q.2.1 j) q.1),q.2.1.set j.toNat (Jc9 (at_ q.2.1 j) (tkN (at_ q.2.1 j) q.1)),q.2.2++[Qe7 (at_ x0 j,tkN (at_ q.2.1 j) q.1)]),?_,?_,?_⟩
    ·rw[if_neg (by decide),Qtz (l:=q.2.1) hj.1 (by omega)]
     simp only[QQ]
     have e1:Qfo N (at_ x0 j)=some (idB (at_ x0 j)):=rfl
     rw[e1,QQ,Jj (by simp only[List.length_cons,QH]; omega),QQ]
     simp only[QQ,h4]
     rfl
    ·simp only[List.length_set,List.length_append,List.length_cons,QH]
     exact⟨hq.1,by omega⟩
    ·simp only[tkI,hus]
     rw[if_neg c0,if_pos trivial]
theorem Qfz(T:List (Qa×Int))(b:Qa):idB (Se T b)=idB b∧(Se T b).1=b.1:=by
 unfold Se
 split
 ·exact⟨rfl,rfl⟩
 ·exact⟨rfl,rfl⟩
def Jpu(l:List Qa):Prop:=∀(i j:Nat) (hi:i<l.length) (hj:j<l.length),idB l[i]=idB l[j]→i=j
theorem Qm8{l:List Qa}{j:Int}(h0:0≤j)(h:j<l.length):at_ l j=l[j.toNat]'(by omega):=by
 unfold at_
 rw[JO,List.getElem?_eq_getElem (by omega)]; rfl
theorem Q99{us:Qa→Bool}{x0:List Qa}(hd:Jpu x0):∀(js:List Int) (n:Int) (T:List (Qa×Int)),InR x0 js→js.Nodup→(∀j∈js,∀q∈T,idB q.1≠idB (at_ x0 j)) →
  tkI us x0 (n,x0.map (Se T),T.map Qe7) js=((tkV us (js.map (at_ x0)) n).2,x0.map (Se (T++(tkV us (js.map (at_ x0)) n).1)),(T++(tkV us (js.map (at_ x0)) n).1).map Qe7)
 | [],n,T,_,_,_=>by simp[tkI,tkV]
 | j::js,n,T,hi,hn,ht=>by
  have hj:=hi j (.head _)
  have hi':InR x0 js:=fun i h=>hi i (.tail _ h)
  obtain⟨hnj,hn'⟩:=JW.1 hn
  simp only[tkI,tkV,JV]
  by_cases c0:n=0
  ·rw[if_pos c0,if_pos c0]; simp
  ·rw[if_neg c0,if_neg c0]
   cases hu:us (at_ x0 j)with
   | false =>
    simp only[JZ,if_false]
    exact Q99 hd js n T hi' hn' fun i h=>ht i (.tail _ h)
   | true =>
    simp only[if_true]
    have hlen:(x0.map (Se T)).length=x0.length:=List.length_map _
    have e1:at_ (x0.map (Se T)) j=at_ x0 j:=by
     rw[Qm8 (l:=x0.map (Se T)) hj.1 (by omega),XE,←Qm8 hj.1 hj.2]
     unfold Se
     have:T.find? (fun q=>idB q.1==idB (at_ x0 j))=none:=ZE.2 fun q hq=>by
      have:=ht j (.head _) q hq
      simpa using this
     rw[this]
    rw[e1]
    have e2:(x0.map (Se T)).set j.toNat (Jc9 (at_ x0 j) (tkN (at_ x0 j) n))=x0.map (Se (T++[(at_ x0 j,tkN (at_ x0 j) n)])):=by
     refine ZM (by simp) fun i h1 h2=>?_
     have hil:i<x0.length:=by simpa using h2
     rw[List.getElem_set,XE,XE]
     by_cases c:j.toNat=i
     ·subst c
      rw[if_pos rfl]
      have e3:x0[j.toNat]=at_ x0 j:=(Qm8 hj.1 hj.2).symm
      rw[e3]
      unfold Se
      have h3:T.find? (fun q=>idB q.1==idB (at_ x0 j))=none:=ZE.2 fun q hq=>by
       have:=ht j (.head _) q hq
       simpa using this
      rw[KE,h3]
      simp
     ·rw[if_neg c]
      have h4:idB (at_ x0 j)≠idB x0[i]:=fun h=>c (by
       rw[Qm8 hj.1 hj.2]at h
       exact hd _ _ _ _ h)
      unfold Se
      rw[KE]
      cases T.find? (fun q=>idB q.1==idB x0[i])with
      | some q=>rfl
      | none =>
       have:((idB (at_ x0 j))==idB x0[i])=false:=by simpa using h4
       simp[this]
    rw[e2]
    have e3:T.map Qe7++[Qe7 (at_ x0 j,tkN (at_ x0 j) n)]=(T++[(at_ x0 j,tkN (at_ x0 j) n)]).map Qe7:=by simp
    rw[e3]
    have ih:=Q99 (us:=us) hd js (IntKind.wrap .i64 (n - tkN (at_ x0 j) n)) (T++[(at_ x0 j,tkN (at_ x0 j) n)]) hi' hn' (fun i h q hq=>by
     rcases QZ.1 hq with hq | hq
     ·exact ht i (.tail _ h) q hq
     ·rw[JK]at hq
      subst hq
      intro he
      have hi2:=hi' i h
      rw[Qm8 hj.1 hj.2,Qm8 hi2.1 hi2.2]at he
      have:=hd _ _ _ _ he
      exact hnj ((by omega:i=j)▸h))
    rw[ih]
    simp
theorem Jgv{N:Nat}[hN:Y2 N]{l:List Qa}(hl:l.length≤1000000000000)(hz:∀b∈l,b.2.2.2.2.2.1.length≤1000000000000):Fb N l=some l:=by
 have hB:=hN.le
 have key:Qe (Zr N l) N (0,([]:List Qa))=some (l.foldl (fun(s:List Qa) b=>s++[b]) []):=by
  refine A8 l (Nat.le_trans hl (by decide)) (f:=Zr N l) (fun(s:List Qa) i=>(i,s)) (fun i q=>q.length≤i) (fun s l=>l.foldl (fun(s:List Qa) b=>s++[b]) s) ?_ ?_ (by omega) (QG _)
  ·intro s _ h
   simp only[Zr]
   rw[h]; rfl
  ·intro q i b xs h1 h2 h3 h4 h5 hq
   left
   have hi:=(List.getElem?_eq_some_iff.1 h1).1
   refine⟨q++[b],?_,by simp; omega,rfl⟩
   simp only[Zr]
   have ec:M7 N b=_:=Qqh (N:=N) (hz b (List.mem_of_getElem? h1))
   rw[if_pos h2,h3,QQ,ec,QQ]
   show(app 120 q [b]).bind _=_
   rw[Jj (by simp only[List.length_cons,QH]; omega),QQ,h4]
 unfold Fb
 rw[key,QQ]
 have:∀(l s:List Qa),l.foldl (fun(s:List Qa) b=>s++[b]) s=s++l:=by
  intro l
  induction l with
  | nil=>simp
  | cons b l ih=>intro s; simp[ih]
 rw[this]; rfl
theorem Jgw(a b:Nat):(rng a b).Nodup:=by
 unfold rng
 exact List.Pairwise.map _ (fun x y h e=>h (Int.ofNat.inj e)) (List.nodup_range' (s:=a) (n:=b - a))
theorem Jda{N:Nat}[hN:Y2 N]{x0:List Qa}{x1 x2 x3:Int}{x4:Str}{x5:Bool}{x6 x7:Int}{us:Qa→Bool}(hl:x0.length≤1000000000000)(hz:∀b∈x0,b.2.2.2.2.2.1.length≤1000000000000)(hu:∀b∈x0,Vq N b x1 x2 x3 x4 x5 x6=some (us b))(hd:Jpu x0) :
  ∃Bs:List Qa,Bs.Perm x0∧Bs.Pairwise Q98∧A3 N x0 x1 x2 x3 x4 x5 x6 x7=some ((tkV us Bs (if 0>x7 then 0 else x7)).2,x0.map (Se (tkV us Bs (if 0>x7 then 0 else x7)).1),(tkV us Bs (if 0>x7 then 0 else x7)).1.map Qe7):=by
 obtain⟨r,e,hp,h1,h2⟩:=Jgt (N:=N) hl
 refine⟨r.map (at_ x0),h1,h2,?_⟩
 have hr:InR x0 r:=fun i hi=>by have:=Q97 (hp.mem_iff.1 hi); omega
 have hlen:=hp.length_eq
 unfold rng at hlen
 rw[List.length_map,List.length_range']at hlen
 unfold A3
 rw[Jgv hl hz,QQ,e,QQ]
 have e1:=Jgu (N:=N) (s:=((if 0>x7 then 0 else x7),x0,[])) hr (by omega) hu rfl rfl
 have e2:=Q99 (us:=us) hd r (if 0>x7 then 0 else x7) [] hr (hp.nodup_iff.2 (Jgw _ _)) (fun _ _ q hq=>absurd hq QO)
 have e3:x0.map (Se [])=x0:=by
  have:Se []=id:=funext fun b=>rfl
  rw[this,List.map_id]
 rw[e3]at e2
 rw[QV]at e2
 have e1':Qe (Kc N r x0 x1 x2 x3 x4 x5 x6) N ((if 0>x7 then 0 else x7),0,x0,([]:List Ja))=_:=e1
 rw[e1',QQ]
 have e2':tkI us x0 ((if 0>x7 then 0 else x7),x0,([]:List Ja)) r=_:=e2
 rw[e2']
theorem Qbs{us p:Qa→Bool}:∀(l:List Qa) (n:Int),(∀b∈l,us b=true→p b=true)→tkV us (l.filter p) n=tkV us l n
 | [],n,_=>rfl
 | b::l,n,h=>by
  have hl:∀b∈l,us b=true→p b=true:=fun x hx=>h x (.tail _ hx)
  cases hp:p b with
  | true =>
   rw[QA hp]
   simp only[tkV]
   rw[Qbs l _ hl,Qbs l _ hl]
  | false =>
   have hu:us b=false:=by
    cases hu:us b with
    | false=>rfl
    | true=>have:=h b (.head _) hu; rw[hp]at this; cases this
   rw[QB (by simp[hp]),Qbs l _ hl]
   simp only[tkV,hu]
   by_cases c:n=0
   ·rw[if_pos c]
    subst c
    cases l with
    | nil=>rfl
    | cons x l=>simp[tkV]
   ·rw[if_neg c]; simp
theorem Q0p{us:Qa→Bool}:∀(l:List Qa) (n:Int),∀q∈(tkV us l n).1,q.1∈l∧us q.1=true
 | [],n=>fun q hq=>absurd hq QO
 | b::l,n=>fun q hq=>by
  simp only[tkV]at hq
  split at hq
  ·exact absurd hq QO
  ·split at hq
   ·rename_i hu
    rcases QX.1 hq with rfl | hq
    ·exact⟨.head _,hu⟩
    ·have:=Q0p l _ q hq
     exact⟨.tail _ this.1,this.2⟩
   ·have:=Q0p l _ q hq
    exact⟨.tail _ this.1,this.2⟩
theorem Jgx{l m n:List Qa}(hd:Jpu n)(h1:l.Perm n)(h2:m.Perm n)(s1:l.Pairwise Q98)(s2:m.Pairwise Q98):l=m :=
 List.Perm.eq_of_pairwise (fun a b ha hb hab hba=>by
  rcases Jc8 (Qgo a) (Qgo b)with h | h | h
  ·exact absurd h hba
  ·obtain⟨i,hi,rfl⟩:=XG.1 (h1.mem_iff.1 ha)
   obtain⟨j,hj,rfl⟩:=XG.1 (h2.mem_iff.1 hb)
   have:idB n[i]=idB n[j]:=by
    unfold Qgo at h
    simp only[Prod.mk.injEq]at h ⊢
    exact⟨h.2.2.1,h.2.2.2.1,h.2.2.2.2.1,h.2.2.2.2.2⟩
   have:=hd i j hi hj this
   subst this; rfl
  ·exact absurd h hab) s1 s2 (h1.trans h2.symm)
abbrev fIx(l:List Qi)(k:Int):Option Nat:=l.findIdx? fun w=>w.1==k
theorem Qe8{N:Nat}{x0:List Qi}(hl:x0.length≤1000000000000):∀(k i n:Nat) (m:List (Int×Int)),x0.length=i+k→k<n→(∀j,Qr (k:=.int .i64) j m=(fIx (x0.take i) j).map Int.ofNat) →
  ∃r,Qe (Vz N x0) n ((i:Int),m)=some r∧∀j,Qr (k:=.int .i64) j r=(fIx x0 j).map Int.ofNat
 | 0,i,n,m,hk,hn,h=>by
  obtain⟨q,rfl⟩:∃q,n=q+1:=⟨n - 1,by omega⟩
  have e:x0.take i=x0:=List.take_of_length_le (by omega)
  rw[e]at h
  simp only[Qe,Vz]
  rw[if_neg (fun h=>by have:=of_decide_eq_true h; omega)]
  exact⟨m,rfl,h⟩
 | k+1,i,n,m,hk,hn,h=>by
  obtain⟨q,rfl⟩:∃q,n=q+1:=⟨n - 1,by omega⟩
  have hlt:i<x0.length:=by omega
  have et:x0.take (i+1)=x0.take i++[x0[i]]:=by rw[List.take_add_one,List.getElem?_eq_getElem hlt]; rfl
  have hli:(x0.take i).length=i:=by rw[List.length_take]; omega
  have ef:∀j,fIx (x0.take (i+1)) j=(fIx (x0.take i) j).or (if x0[i].1==j then some i else none):=fun j=>by
   rw[et]
   unfold fIx
   rw[List.findIdx?_append,hli]
   congr 1
   cases hb:(x0[i].1==j)<;>simp[List.findIdx?_cons,hb]
  simp only[Qe,Vz]
  rw[if_pos (decide_eq_true (by omega)),K9 hlt,QQ,Q0 (n:=(i:Int)+1) (by omega) (by omega)]
  have hs:((Qr (k:=.int .i64) x0[i].1 m).isSome)=(fIx (x0.take i) x0[i].1).isSome:=by rw[h]; cases fIx (x0.take i) x0[i].1<;>rfl
  rw[hs]
  cases hf:fIx (x0.take i) x0[i].1 with
  | some p =>
   rw[Option.isSome_some,if_neg (by decide),QQ]
   simp only[QQ]
   refine Qe8 (N:=N) hl k (i+1) q m (by omega) (by omega) fun j=>?_
   rw[ef,h j]
   by_cases c:x0[i].1=j
   ·subst c; rw[hf]; rfl
   ·have:(x0[i].1==j)=false:=by simpa using c
    rw[this]
    cases fIx (x0.take i) j<;>rfl
  | none =>
   rw[KQ,if_pos (by decide),QQ]
   simp only[QQ]
   refine Qe8 (N:=N) hl k (i+1) q _ (by omega) (by omega) fun j=>?_
   rw[ef]
   by_cases c:x0[i].1=j
   ·subst c
    rw[Qm7 (t:=.int .i64) rfl,hf]
    simp
   ·have:(x0[i].1==j)=false:=by simpa using c
    rw[Qty (t:=.int .i64) rfl (fun e=>c e.symm),this,h j]
    cases fIx (x0.take i) j<;>rfl
theorem Q57{N:Nat}[hN:Y2 N]{x0:List Qi}(hl:x0.length≤1000000000000):∃r,Hu N x0=some r∧K8 N x0=some r∧∀j,Qr (k:=.int .i64) j r=(fIx x0 j).map Int.ofNat:=by
 have hB:=hN.le
 obtain⟨r,e,h⟩:=Qe8 (N:=N) hl x0.length 0 N [] (by omega) (by omega) (fun j=>by simp[fIx,Qr])
 have e':Qe (Vz N x0) N (0,[])=some r:=e
 have e2:Qe (K7 N x0) N (0,[])=some r:=by
  rw[←e']
  refine Q4d (fun s=>?_) _ _
  unfold K7 Vz
  cases idx x0 s.1<;>rfl
 refine⟨r,?_,?_,h⟩
 ·unfold Hu; rw[e']; rfl
 ·unfold K8; rw[e2]; rfl
theorem Q58{l:List Qi}{k:Int}{i:Nat}(h:fIx l k=some i):∃A w B,l=A++w::B∧A.length=i∧w.1=k∧∀v∈A,v.1≠k:=by
 obtain⟨hi,h1,h2⟩:=List.findIdx?_eq_some_iff_getElem.1 h
 refine⟨l.take i,l[i],l.drop (i+1),?_,by rw[List.length_take]; omega,by simpa using h1,fun v hv=>?_⟩
 ·rw[←List.drop_eq_getElem_cons hi,List.take_append_drop]
 ·obtain⟨j,hj,rfl⟩:=XG.1 hv
  rw[List.length_take]at hj
  have:=h2 j (by omega)
  rw[List.getElem_take]
  simpa using this
theorem Q59{l:List Qi}{k:Int}(h:fIx l k=none):∀v∈l,v.1≠k:=fun v hv=>by
 have:=List.findIdx?_eq_none_iff.1 h v hv
 simpa using this
theorem Qqi{α:Type}{A B:List α}{w:α}:idx (A++w::B) (A.length:Int)=some w:=by
 rw[K9 (i:=A.length) (by simp)]
 simp
theorem Jdb{α:Type}{A B:List α}{w v:α}:(A++w::B).set A.length v=A++v::B:=by
 rw[KR _ _ (QG _)]
 simp
theorem Jug{N:Nat}[hN:Y2 N]{x0:List Qi}{k:Int}(hl:x0.length≤1000000000000):∃A w B,Ee N x0 k=some ((A.length:Int),A++w::B)∧w.1=k∧(∀v∈A,v.1≠k)∧(x0=A++w::B∨x0=A++B∧w=(k,0,0,0,-1)∧∀v∈B,v.1≠k):=by
 have hB:=hN.le
 obtain⟨r,e,_,h⟩:=Q57 (N:=N) hl
 unfold Ee
 rw[e,QQ,h k]
 cases hf:fIx x0 k with
 | some i =>
  obtain⟨A,w,B,h1,h2,h3,h4⟩:=Q58 hf
  refine⟨A,w,B,?_,h3,h4,.inl h1⟩
  rw[if_pos (by rfl),Jj (by simp; omega),QQ,QV,h1,h2]
  rfl
 | none =>
  rw[if_neg (by decide)]
  have hn:=Q59 hf
  have e1:=Qip (f:=Kv N x0 k) (l:=x0) (fun w=>decide (w.1<k)) (by omega) (fun i hi=>by
   unfold Kv
   rw[if_pos (decide_eq_true (by omega)),K9 hi,QQ,QQ]
   cases decide (x0[i].1<k)<;>rfl) (by
   unfold Kv
   rw[if_neg (fun h=>by have:=of_decide_eq_true h; omega)]
   rfl) x0.length 0 N (by omega) (by omega)
  rw[XC,QY]at e1
  have e1':Qe (Kv N x0 k) N 0=_:=e1
  have hd:=congrArg List.length (QI (p:=fun w:Qi=>decide (w.1<k)) (l:=x0))
  rw[List.length_append]at hd
  refine⟨x0.takeWhile fun w=>decide (w.1<k),(k,0,0,0,-1),x0.dropWhile fun w=>decide (w.1<k),?_,rfl,fun v hv=>hn v (ZB _ |>.subset hv),.inr ⟨(QI).symm,rfl,fun v hv=>hn v ((ZC _).subset hv)⟩⟩
  rw[e1',QQ,Qe5 (by omega),QQ,Qe6 (by omega),(Ap _ x0).1,(Ap _ x0).2,Jj (by simp only[QH]; omega),QQ,QV,
   Jj (by simp only[List.length_cons,QH]; omega),QQ,QQ,Jj (by simp only[List.length_append,List.length_cons,QH]; omega),QQ]
  simp
abbrev Qt1:Type:=Int×Int×Int
abbrev Je(c:Qd):Qt1:=(c.1,c.2.1,c.2.2.1)
def clt(a b:Qt1):Bool:=decide (a.1<b.1∨(a.1=b.1∧(a.2.1<b.2.1∨(a.2.1=b.2.1∧a.2.2<b.2.2))))
theorem Qqj{a b:Qt1}:clt a b=true↔(a.1<b.1∨(a.1=b.1∧(a.2.1<b.2.1∨(a.2.1=b.2.1∧a.2.2<b.2.2)))):=decide_eq_true_iff
theorem Nk{a b c:Qt1}(h:clt a b=true)(k:clt b c=true):clt a c=true:=by
 rw[Qqj]at *; omega
theorem Qm9{a b:Qt1}(h:clt a b=true):a≠b:=fun e=>by
 subst e; rw[Qqj]at h; omega
theorem Q0q(a b:Qt1):clt a b=true∨a=b∨clt b a=true:=by
 obtain⟨a1,a2,a3⟩:=a
 obtain⟨b1,b2,b3⟩:=b
 rw[Qqj,Qqj]
 simp only[Prod.mk.injEq]
 omega
theorem Qf0{a b:Qt1}(h:clt a b=true):clt b a=false:=XP.2 fun k=>Qm9 (Nk h k) rfl
theorem Qna{N:Nat}[hN:Y2 N]{x y:Qd}:Za N x y=some (if clt (Je x) (Je y)then -1 else if clt (Je y) (Je x)then 1 else 0):=by
 obtain⟨M,rfl⟩:∃M,N=M+4:=⟨N - 4,by have:=hN.le; omega⟩
 obtain⟨x1,x2,x3,x4⟩:=x
 obtain⟨y1,y2,y3,y4⟩:=y
 have w1:IntKind.wrap .i64 ((0:Int)+1)=1:=by decide
 have w2:IntKind.wrap .i64 ((1:Int)+1)=2:=by decide
 have w3:IntKind.wrap .i64 ((2:Int)+1)=3:=by decide
 have w1':IntKind.wrap .i64 1=1:=by decide
 have w2':IntKind.wrap .i64 2=2:=by decide
 have w3':IntKind.wrap .i64 3=3:=by decide
 have i0:∀(a b c:List Int),idx [a,b,c] 0=some a:=fun _ _ _=>rfl
 have i1:∀(a b c:List Int),idx [a,b,c] 1=some b:=fun _ _ _=>rfl
 have i2:∀(a b c:List Int),idx [a,b,c] 2=some c:=fun _ _ _=>rfl
 have j0:∀(a b:Int),idx [a,b] 0=some a:=fun _ _=>rfl
 have j1:∀(a b:Int),idx [a,b] 1=some b:=fun _ _=>rfl
 unfold Za
 unfold clt Je
 simp only
 rcases JY x1 y1 with h | h | h
 ·simp[Qe,Ju,i0,j0,j1,h]
 ·subst h
  rcases JY x2 y2 with h2 | h2 | h2
  ·simp[Qe,Ju,i0,i1,j0,j1,w1,w1',h2]
  ·subst h2
   rcases JY x3 y3 with h3 | h3 | h3
   ·simp[Qe,Ju,i0,i1,i2,j0,j1,w1,w2,w1',w2',h3]
   ·subst h3
    simp[Qe,Ju,i0,i1,i2,j0,j1,w1,w2,w3,w1',w2',w3']
   ·have h4:=ZZ h3
    simp[Qe,Ju,i0,i1,i2,j0,j1,w1,w2,w1',w2',h3,h4]
  ·have h4:=ZZ h2
   have h5:¬ x2=y2:=by omega
   simp[Qe,Ju,i0,i1,j0,j1,w1,w1',h2,h4,h5]
 ·have h4:=ZZ h
  have h5:¬ x1=y1:=by omega
  simp[Qe,Ju,i0,j0,j1,h,h4,h5]
theorem Qnb{α:Type}{f:α→Bool}:∀{l:List α},l.Pairwise (fun x y=>f y=true→f x=true)→l.takeWhile f=l.filter f∧l.dropWhile f=l.filter fun x=>!f x
 | [],_=>⟨rfl,rfl⟩
 | x::l,h=>by
  obtain⟨h1,h2⟩:=List.pairwise_cons.1 h
  cases hf:f x with
  | true =>
   obtain⟨k1,k2⟩:=Qnb h2
   simp[ZY,ZU,hf,k1,k2]
  | false =>
   have hl:∀y∈l,f y=false:=fun y hy=>by
    cases hy2:f y with
    | false=>rfl
    | true=>have:=h1 y hy hy2; rw[hf]at this; cases this
   have e1:l.filter f=[]:=XL.2 fun y hy=>by simp[hl y hy]
   have e2:(l.filter fun x=>!f x)=l:=ZW.2 fun y hy=>by simp[hl y hy]
   simp[ZY,ZU,hf,e1,e2]
theorem Qir{α τ:Type}{f:Int→Option (Int⊕τ)}{l:List α}(p:α→Bool)(R:Nat→τ)(E:τ)(hl:l.length≤9223372036854775806)
  (h:∀(i:Nat) (hi:i<l.length),f (i:Int)=some (if p l[i]then .inl (IntKind.wrap .i64 ((i:Int)+1))else .inr (R i))) (he:f (l.length:Int)=some (.inr E)) :
  ∀(k i n:Nat),l.length=i+k→k<n→Qe f n (i:Int)=some (if i+((l.drop i).takeWhile p).length<l.length then R (i+((l.drop i).takeWhile p).length)else E)
 | 0,i,n,hk,hn=>by
  obtain⟨m,rfl⟩:∃m,n=m+1:=⟨n - 1,by omega⟩
  have hi:i=l.length:=by omega
  subst hi
  simp[Qe,he]
 | k+1,i,n,hk,hn=>by
  obtain⟨m,rfl⟩:∃m,n=m+1:=⟨n - 1,by omega⟩
  have hlt:i<l.length:=by omega
  rw[List.drop_eq_getElem_cons hlt]
  simp only[Qe,h i hlt,QQ]
  cases hp:p l[i]with
  | true =>
   simp only[if_true]
   rw[Q0 (n:=(i:Int)+1) (by omega) (by omega)]
   have:=Qir p R E hl h he k (i+1) m (by omega) (by omega)
   rw[show((i:Int)+1)=((i+1:Nat):Int) by omega,this,XK hp,List.length_cons]
   have e:i+1+((l.drop (i+1)).takeWhile p).length=i+(((l.drop (i+1)).takeWhile p).length+1):=by omega
   rw[e]
  | false =>
   rw[XV (by simp[hp])]
   simp[hlt]
noncomputable def prm(N:Nat)(c:Qd):Bool:=(U3 N c).getD false
theorem Jmr{N:Nat}[hN:Y2 N]{c:Qd}:U3 N c=some (prm N c):=by
 obtain⟨r,e,_⟩:=(Qgl (N:=N) (x0:=c)).spec (fun _=>True) (by simp)
 unfold prm; rw[e]; rfl
theorem Jpv{N:Nat}{c d:Qd}(h:Je c=Je d):prm N c=prm N d:=by
 obtain⟨c1,c2,c3,c4⟩:=c
 obtain⟨d1,d2,d3,d4⟩:=d
 simp only[Prod.mk.injEq]at h
 obtain⟨rfl,rfl,rfl⟩:=h
 rfl
def rgd(c:Qd):Bool:=((((decide (c.2.2.2.1≥0))&&(decide (c.2.2.2.1≤1125899906842624)))&&(decide (c.2.2.2.2≥0)))&&(decide (c.2.2.2.2≤1125899906842624)))
theorem Qt2{N:Nat}{c:Qd}:Wc N c=some (rgd c):=rfl
abbrev nzC(c:Qd):Bool:=(c.2.2.2.1 != 0)||(c.2.2.2.2 != 0)
structure Qhb(N:Nat)(l:List Qd):Prop where
 all:∀c∈l,prm N c=true∧rgd c=true∧nzC c=true
 srt:l.Pairwise fun c d=>clt (Je c) (Je d)=true
theorem Jgy{N:Nat}:Qhb N []:=⟨fun c h=>absurd h QO,.nil⟩
theorem Qkw{N:Nat}{l:List Qd}{p:Qd→Bool}(h:Qhb N l):Qhb N (l.filter p):=⟨fun c hc=>h.all c (QU.1 hc).1,h.srt.sublist JF⟩
theorem Jms{N:Nat}[hN:Y2 N]{l:List Qd}(hl:l.length≤1000000000000)(h:Qhb N l):Fc N l=some true:=by
 have hB:=hN.le
 have e:=Qir (f:=Zv N l) (l:=l) (fun _=>true) (fun _=>.inl ()) (.inl ()) (by omega) (fun i hi=>by
  obtain⟨h1,h2,h3⟩:=h.all _ (XB hi)
  have h4:((l[i].2.2.2.1==0)&&(l[i].2.2.2.2==0))=false:=by
   unfold nzC at h3
   cases ha:(l[i].2.2.2.1==0)<;>cases hb:(l[i].2.2.2.2==0)<;>simp_all
  unfold Zv
  rw[if_pos (decide_eq_true (by omega)),K9 hi,QQ,Jmr,h1,QQ,if_neg (by decide),Qt2,h2,QQ,QQ,h4]
  rw[if_neg (by decide)]
  by_cases c:i=0
  ·subst c
   rw[if_neg (by decide),QQ,if_neg (by decide)]; rfl
  ·have e1:IntKind.wrap .i64 ((i:Int) - 1)=((i - 1:Nat):Int):=by rw[Q0 (by omega) (by omega)]; omega
   have e2:clt (Je l[i - 1]) (Je l[i])=true:=JT.1 h.srt (i - 1) i (by omega) hi (by omega)
   rw[if_pos (decide_eq_true (by omega)),e1,K9 (by omega),QQ,Qna,e2,QQ,QQ,if_pos rfl,if_neg (by decide)]; rfl) (by
  unfold Zv
  rw[if_neg (fun h=>by have:=of_decide_eq_true h; omega)]) l.length 0 N (by omega) (by omega)
 have e':Qe (Zv N l) N 0=some (.inl ()):=by
  refine e.trans ?_
  split<;>rfl
 unfold Fc
 rw[e']; rfl
def Co(l:List Qd)(c:Qd):Qd:=match l.find? fun x=>Je x==Je c with
 | some x=>(c.1,c.2.1,c.2.2.1,IntKind.wrap .i64 (c.2.2.2.1+x.2.2.2.1),IntKind.wrap .i64 (c.2.2.2.2+x.2.2.2.2))
 | none=>c
theorem Jmt{l:List Qd}{c:Qd}:Je (Co l c)=Je c:=by
 unfold Co
 split<;>rfl
theorem Qt3{A B:List Qd}{s:Qd}(hl:A.length+B.length≤1000000000000) :
  ((app 40 ([]:List Qd) A).bind fun q15=>(if(s.2.2.2.1 != 0)||(s.2.2.2.2 != 0)then(app 40 q15 ([s]:List Qd)).bind fun q17=>some q17 else some q15:Option (List Qd)).bind fun v18=>(some B).bind fun s19=>(app 40 v18 s19).bind fun q20=>some ((0:Int),q20))=some ((0:Int),A++(if nzC s then [s]else [])++B):=by
 rw[Jj (by simp only[QH]; omega),QQ,QV]
 by_cases hz:nzC s=true
 ·rw[if_pos hz,if_pos hz,Jj (by simp only[List.length_cons,QH]; omega),QQ,QQ,QQ,Jj (by simp only[List.length_append,List.length_cons,QH]; omega),QQ]
 ·rw[if_neg hz,if_neg hz,QQ,QQ,Jj (by omega),QQ,QC]
noncomputable def Jmu(N:Nat)(l:List Qd)(c:Qd):Int×List Qd :=
 if !prm N c then(8,[])else if !rgd c then(6,[])else if !rgd (Co l c)then(6,[])else
  (0,l.filter (fun x=>clt (Je x) (Je c))++(if nzC (Co l c)then [Co l c]else [])++l.filter fun x=>clt (Je c) (Je x))
theorem Jsq{N:Nat}[hN:Y2 N]{l:List Qd}{c:Qd}(hl:l.length≤1000000000000)(h:Qhb N l):V9 N l c=some (Jmu N l c):=by
 have hB:=hN.le
 unfold V9 Jmu
 rw[Jms hl h,QQ,if_neg (by decide),Jmr,QQ,QQ]
 cases hp:prm N c with
 | false=>rw[if_pos (by decide),if_pos (by decide)]
 | true =>
  rw[if_neg (by decide),if_neg (by decide),Qt2,QQ]
  cases hr:rgd c with
  | false=>rw[if_pos (by decide),if_pos (by decide)]
  | true =>
   rw[if_neg (by decide),if_neg (by decide)]
   have hm:l.Pairwise (fun x y=>clt (Je y) (Je c)=true→clt (Je x) (Je c)=true):=h.srt.imp fun hxy hy=>Nk hxy hy
   obtain⟨t1,t2⟩:=Qnb hm
   obtain⟨k1,k2⟩:=Ap (fun x=>clt (Je x) (Je c)) l
   have hsum:=congrArg List.length (QI (p:=fun x=>clt (Je x) (Je c)) (l:=l))
   rw[List.length_append]at hsum
   have e:=Qir (f:=Zw N l c) (l:=l) (fun x=>clt (Je x) (Je c)) (fun i=>.inr (if clt (Je c) (Je (l.getD i c))then((i:Int),(i:Int))else((i:Int),((i+1:Nat):Int)))) (.inl ()) (by omega) (fun i hi=>by
    unfold Zw
    have eg:l.getD i c=l[i]:=by rw[JO,List.getElem?_eq_getElem hi]; rfl
    rw[if_pos (decide_eq_true (by omega)),K9 hi,QQ,Qna,QQ,eg,Q0 (n:=(i:Int)+1) (by omega) (by omega)]
    cases h1:clt (Je l[i]) (Je c)<;>cases h2:clt (Je c) (Je l[i])<;>simp) (by
    unfold Zw
    rw[if_neg (fun h=>by have:=of_decide_eq_true h; omega)]) l.length 0 N (by omega) (by omega)
   rw[XC,QY]at e
   have e':Qe (Zw N l c) N 0=_:=e
   have hA:∀x∈l.takeWhile (fun x=>clt (Je x) (Je c)),clt (Je x) (Je c)=true:=fun x hx=>by
    rw[t1]at hx; exact(QU.1 hx).2
   have hsplit:=QI (p:=fun x=>clt (Je x) (Je c)) (l:=l)
   have hfind:l.find? (fun x=>Je x==Je c)=(l.dropWhile fun x=>clt (Je x) (Je c)).find? fun x=>Je x==Je c:=by
    conv=>lhs; rw[←hsplit,KE]
    have:(l.takeWhile fun x=>clt (Je x) (Je c)).find? (fun x=>Je x==Je c)=none:=ZE.2 fun x hx=>by
     have:=Qm9 (hA x hx)
     simpa using this
    rw[this]; rfl
   have hgt:l.filter (fun x=>clt (Je c) (Je x))=(l.dropWhile fun x=>clt (Je x) (Je c)).filter fun x=>clt (Je c) (Je x):=by
    conv=>lhs; rw[←hsplit,QR]
    have:(l.takeWhile fun x=>clt (Je x) (Je c)).filter (fun x=>clt (Je c) (Je x))=[]:=XL.2 fun x hx=>by
     rw[Qf0 (hA x hx)]; decide
    rw[this]; rfl
   have hsD:(l.dropWhile fun x=>clt (Je x) (Je c)).Pairwise fun c d=>clt (Je c) (Je d)=true:=h.srt.sublist (ZC _)
   have hD:∀x∈l.dropWhile (fun x=>clt (Je x) (Je c)),clt (Je x) (Je c)=false:=fun x hx=>by
    rw[t2]at hx; simpa using(QU.1 hx).2
   unfold Io
   rw[e']
   generalize hAt:l.takeWhile (fun x=>clt (Je x) (Je c))=A at *
   generalize hDt:l.dropWhile (fun x=>clt (Je x) (Je c))=D at *
   rw[←t1,hgt]
   cases D with
   | nil =>
    have hs:Co l c=c:=by unfold Co; rw[hfind]; rfl
    simp only[QH]at hsum
    rw[if_neg (by omega)]
    simp only[QQ]
    rw[hs,if_neg (by simp),QQ,Qt2,hr,QQ,if_neg (by decide),if_neg (by decide),Qe5 (QG _),QQ,Qe6 (QG _),List.take_length,JE]
    have hlA:l=A:=by simpa using hsplit.symm
    rw[←hlA]
    exact Qt3 (B:=[]) (by simp only[QH]; omega)
   | cons x D =>
    obtain⟨hx1,hx2⟩:=List.pairwise_cons.1 hsD
    simp only[List.length_cons]at hsum
    have hgx:l.getD A.length c=x:=by
     rw[←hsplit,JO,JM (QG _),Nat.sub_self]; rfl
    rw[if_pos (by omega)]
    simp only[QQ]
    rw[hgx]
    have hxc:=hD x (.head _)
    have hix:idx l (A.length:Int)=some x:=by rw[←hsplit]; exact Qqi
    cases h2:clt (Je c) (Je x)with
    | true =>
     have hne:(Je x==Je c)=false:=by
      exact beq_eq_false_iff_ne.2 (Qm9 h2).symm
     have hfn:(x::D).find? (fun x=>Je x==Je c)=none:=by
      rw[XZ (by simp[hne])]
      exact ZE.2 fun y hy=>by
       exact fun e=>Qm9 (Nk h2 (hx1 y hy)) (beq_iff_eq.1 e).symm
     have hs:Co l c=c:=by unfold Co; rw[hfind,hfn]
     have hgD:(x::D).filter (fun x=>clt (Je c) (Je x))=x::D:=ZW.2 fun y hy=>by
      rcases QX.1 hy with rfl | hy
      ·exact h2
      ·exact Nk h2 (hx1 y hy)
     rw[if_pos rfl,hs,hgD]
     simp only
     rw[if_neg (by simp),QQ,Qt2,hr,QQ,if_neg (by decide),if_neg (by decide),Qe5 (by omega),QQ,Qe6 (by omega),k1,k2]
     exact Qt3 (by simp only[List.length_cons]; omega)
    | false =>
     have he:Je x=Je c:=by
      rcases Q0q (Je x) (Je c)with h3 | h3 | h3
      ·rw[hxc]at h3; cases h3
      ·exact h3
      ·rw[h2]at h3; cases h3
     have hfn:(x::D).find? (fun x=>Je x==Je c)=some x:=by
      rw[XX (by simpa using he)]
     have hgD:(x::D).filter (fun x=>clt (Je c) (Je x))=D:=by
      rw[QB (by simp[h2])]
      exact ZW.2 fun y hy=>by rw[←he]; exact hx1 y hy
     have hs:Co l c=(c.1,c.2.1,c.2.2.1,IntKind.wrap .i64 (c.2.2.2.1+x.2.2.2.1),IntKind.wrap .i64 (c.2.2.2.2+x.2.2.2.2)):=by unfold Co; rw[hfind,hfn]
     rw[hgD]
     simp only[JZ,if_false]
     rw[if_pos (decide_eq_true (by omega)),hix,QQ,QQ,QQ,←hs,Qt2,QQ]
     cases hrs:rgd (Co l c)with
     | false=>rw[if_pos (by decide),if_pos (by decide)]
     | true =>
      have hk3:l.drop (A.length+1)=D:=by
       rw[←List.drop_drop,k2]; rfl
      rw[if_neg (by decide),if_neg (by decide),Qe5 (by omega),QQ,Qe6 (by omega),k1,hk3]
      exact Qt3 (by omega)
structure Qis(ev:List Qg)(l:List Qa):Prop where
 own:∀b∈l,Kj ev b.1 b.2.1
 srt:l.Pairwise fun x y=>x.1≤y.1
 dis:l.Pairwise fun x y=>idB x≠idB y
theorem Q0r{x y:Qa}(h:idB x=idB y):x.2.1=y.2.1:=congrArg (fun k:Qu=>k.1) h
theorem Jmv{ev:List Qg}:Qis ev []:=⟨fun b h=>absurd h QO,.nil,.nil⟩
theorem Qqk{l:List Qa}(h:l.Pairwise fun x y=>idB x≠idB y):Jpu l:=fun i j hi hj e=>by
 rcases KH i j with c | c | c
 ·exact absurd e (JT.1 h i j hi hj c)
 ·exact c
 ·exact absurd e.symm (JT.1 h j i hj hi c)
theorem Q6a{ev:List Qg}{l:List Qa}{p:Qa→Bool}(h:Qis ev l):Qis ev (l.filter p):=⟨fun b hb=>h.own b (QU.1 hb).1,h.srt.sublist JF,h.dis.sublist JF⟩
theorem Jpw{x b:Qa}(h:E5 x b=true):x.1≤b.1:=by
 unfold E5 at h
 split at h
 ·have:=of_decide_eq_true h; omega
 ·rename_i c
  have:x.1=b.1:=by simpa using c
  omega
theorem Jdc{x b:Qa}(h:E5 x b=false):b.1≤x.1:=by
 unfold E5 at h
 split at h
 ·have:=of_decide_eq_false h; omega
 ·rename_i c
  have:x.1=b.1:=by simpa using c
  omega
theorem Jpx{l:List Qa}{b x:Qa}:x∈T3 l b↔x=b∨x∈l:=by
 unfold T3
 conv=>rhs; rw[←QI (p:=fun x=>E5 x b) (l:=l)]
 simp only[QZ,QX]
 grind
theorem Jmw{l:List Qa}{b:Qa}:(T3 l b).Perm (b::l):=by
 unfold T3
 refine List.perm_middle.trans ?_
 rw[QI]
theorem Jdd{l:List Qa}{b:Qa}:l.Pairwise (fun x y=>x.1≤y.1)→∀x∈l.dropWhile (fun x=>E5 x b),b.1≤x.1:=by
 induction l with
 | nil=>exact fun _ x hx=>absurd hx QO
 | cons y l ih =>
  intro h x hx
  obtain⟨h1,h2⟩:=List.pairwise_cons.1 h
  cases hb:E5 y b with
  | true =>
   rw[ZJ (p:=fun x=>E5 x b) hb]at hx
   exact ih h2 x hx
  | false =>
   rw[ZX (p:=fun x=>E5 x b) (by simp[hb])]at hx
   have:=Jdc hb
   rcases QX.1 hx with rfl | hx
   ·exact this
   ·have:=h1 x hx; omega
theorem Q6b{ev:List Qg}{l:List Qa}{g:Qy}(h:Qis ev l)(hg:Kj ev g.1.1 g.1.2.1):Qis ev (Qgn l g):=by
 unfold Qgn
 cases ha:l.any fun x=>idB x==idB g.1 with
 | true=>exact h
 | false =>
  rw[if_neg (by decide)]
  obtain⟨c1,c2⟩:=Qkv l g
  have c3:=Q0r c2
  have hn:∀x∈l,idB x≠idB g.1:=fun x hx e=>by
   have:=List.any_eq_false.1 ha x hx
   exact this (by rw[e]; exact beq_self_eq_true _)
  refine⟨fun b hb=>?_,?_,?_⟩
  ·rcases Jpx.1 hb with rfl | hb
   ·rw[c1,c3]; exact hg
   ·exact h.own b hb
  ·unfold T3
   refine QE.2 ⟨h.srt.sublist (ZB _),List.pairwise_cons.2 ⟨fun y hy=>Jdd h.srt y hy,h.srt.sublist (ZC _)⟩,fun x hx y hy=>?_⟩
   have hx1:x.1≤(Cn l g).1:=by
    have:=JX.1 (List.all_takeWhile (p:=fun x=>E5 x (Cn l g)) (l:=l)) x hx
    exact Jpw this
   rcases QX.1 hy with rfl | hy
   ·exact hx1
   ·have:=Jdd h.srt y hy; omega
  ·refine(Jmw.pairwise_iff (fun {a b} hab=>Ne.symm hab)).2 (List.pairwise_cons.2 ⟨fun x hx e=>?_,h.dis⟩)
   rw[c2]at e
   exact hn x hx e.symm
theorem Q6c{ev:List Qg}:∀{gs:List Qy} {l:List Qa},Qis ev l→(∀g∈gs,Kj ev g.1.1 g.1.2.1)→Qis ev (gs.foldl Qgn l)
 | [],l,h,_=>h
 | g::gs,l,h,hg=>Q6c (gs:=gs) (Q6b h (hg g (.head _))) fun x hx=>hg x (.tail _ hx)
def isA(a:Int)(b:Qa):Bool:=b.1==a
theorem Qbt{a:Int}{b:Qa}:isA a b=true↔b.1=a:=by unfold isA; exact beq_iff_eq
theorem P9{α:Type}{p q:α→Bool}:∀{l:List α},(∀x∈l,q x=true→p x=true)→(l.filter p).find? q=l.find? q
 | [],_=>rfl
 | x::l,h=>by
  have ih:=P9 (l:=l) fun y hy=>h y (.tail _ hy)
  cases hq:q x with
  | true =>
   rw[QA (h x (.head _) hq),XX hq,XX hq]
  | false =>
   rw[XZ (by simp[hq])]
   cases hp:p x with
   | true=>rw[QA hp,XZ (by simp[hq])]; exact ih
   | false=>rw[QB (by simp[hp])]; exact ih
theorem Jaa{α:Type}{p q:α→Bool}{l:List α}(h:∀x∈l,q x=true→p x=true):(l.filter p).any q=l.any q:=by
 rw[Bool.eq_iff_iff,ZI,ZI]
 constructor
 ·rintro⟨x,hx,hq⟩; exact⟨x,(QU.1 hx).1,hq⟩
 ·rintro⟨x,hx,hq⟩; exact⟨x,QU.2 ⟨hx,h x hx hq⟩,hq⟩
theorem Qt4{a:Int}{b:Qa}(hb:b.1=a):∀{l:List Qa},l.Pairwise (fun x y=>x.1≤y.1)→(T3 l b).filter (isA a)=T3 (l.filter (isA a)) b
 | [],_=>by simp[T3,isA,hb]
 | x::l,h=>by
  obtain⟨h1,h2⟩:=List.pairwise_cons.1 h
  have ih:=Qt4 hb h2
  unfold T3 at ih ⊢
  cases hx:E5 x b with
  | true =>
   rw[XK (p:=fun x=>E5 x b) hx,ZJ (p:=fun x=>E5 x b) hx,QM]
   cases hp:isA a x with
   | true =>
    rw[QA hp,QA hp,ih,XK (p:=fun x=>E5 x b) hx,ZJ (p:=fun x=>E5 x b) hx,QM]
   | false =>
    rw[QB (by simp[hp]),QB (by simp[hp]),ih]
  | false =>
   rw[XV (p:=fun x=>E5 x b) (by simp[hx]),ZX (p:=fun x=>E5 x b) (by simp[hx]),QV,QA (Qbt.2 hb)]
   cases hp:isA a x with
   | true =>
    rw[QA hp,XV (p:=fun x=>E5 x b) (by simp[hx]),ZX (p:=fun x=>E5 x b) (by simp[hx])]
    rfl
   | false =>
    have hne:x.1≠a:=fun e=>by rw[Qbt.2 e]at hp; cases hp
    have hge:=Jdc hx
    have e1:l.filter (isA a)=[]:=XL.2 fun y hy=>by
     have:=h1 y hy
     rw[Qbt]; omega
    rw[QB (by simp[hp]),e1]
    rfl
theorem Jgz{a:Int}{l:List Qa}{b:Qa}(hb:b.1≠a):(T3 l b).filter (isA a)=l.filter (isA a):=by
 unfold T3
 conv=>rhs; rw[←QI (p:=fun x=>E5 x b) (l:=l)]
 rw[QR,QR,QB (by rw[Qbt]; exact hb)]
theorem Jde{ev:List Qg}(hu:Ga ev){l:List Qa}(h:Qis ev l){a s:Int}(hs:Kj ev a s):∀x∈l,x.2.1=s→isA a x=true:=fun x hx e=>Qbt.2 (hu.u _ _ s (e▸h.own x hx) hs)
theorem Jpy{ev:List Qg}(hu:Ga ev){a:Int}{l:List Qa}{g:Qy}(h:Qis ev l)(hg:Kj ev g.1.1 g.1.2.1)(ha:g.1.1=a):(Qgn l g).filter (isA a)=Qgn (l.filter (isA a)) g:=by
 subst ha
 unfold Qgn
 have e1:(l.filter (isA g.1.1)).any (fun x=>idB x==idB g.1)=l.any fun x=>idB x==idB g.1:=Jaa fun x hx e=>Jde hu h hg x hx (Q0r (beq_iff_eq.1 e))
 rw[e1]
 split
 ·rfl
 ·have e2:Cn (l.filter (isA g.1.1)) g=Cn l g:=by
   unfold Cn
   rw[P9 fun x hx e=>Jde hu h hg x hx (by
    unfold Jgn at e
    simp only[QJ,beq_iff_eq]at e
    exact e.1.1.1.1)]
  rw[e2]
  exact Qt4 (Qkv l g).1 h.srt
theorem Jg0{a:Int}{l:List Qa}{g:Qy}(ha:g.1.1≠a):(Qgn l g).filter (isA a)=l.filter (isA a):=by
 unfold Qgn
 split
 ·rfl
 ·exact Jgz (by rw[(Qkv l g).1]; exact ha)
theorem Q6d{ev:List Qg}(hu:Ga ev){a:Int}:∀{gs:List Qy} {l:List Qa},Qis ev l→(∀g∈gs,g.1.1=a∧Kj ev g.1.1 g.1.2.1)→(gs.foldl Qgn l).filter (isA a)=gs.foldl Qgn (l.filter (isA a))
 | [],l,_,_=>rfl
 | g::gs,l,h,hg=>by
  obtain⟨h1,h2⟩:=hg g (.head _)
  rw[XM,XM,Q6d hu (gs:=gs) (Q6b h h2) fun x hx=>hg x (.tail _ hx),Jpy hu h h2 h1]
theorem Qt5{a:Int}:∀{gs:List Qy} {l:List Qa},(∀g∈gs,g.1.1≠a)→(gs.foldl Qgn l).filter (isA a)=l.filter (isA a)
 | [],l,_=>rfl
 | g::gs,l,hg=>by
  rw[XM,Qt5 (gs:=gs) fun x hx=>hg x (.tail _ hx),Jg0 (hg g (.head _))]
theorem Qt6{a:Int}{l:List Qa}{T:List (Qa×Int)}:(l.map (Se T)).filter (isA a)=(l.filter (isA a)).map (Se T):=by
 rw[List.filter_map]
 congr 1
 refine KG fun x _=>?_
 unfold isA
 rw[Function.comp,(Qfz T x).2]
theorem Jpz{ev:List Qg}{l:List Qa}{T:List (Qa×Int)}(h:Qis ev l):Qis ev (l.map (Se T)):=by
 refine⟨fun b hb=>?_,?_,?_⟩
 ·obtain⟨x,hx,rfl⟩:=QK.1 hb
  obtain⟨h1,h2⟩:=Qfz T x
  have h3:=Q0r h1
  rw[h2,h3]; exact h.own x hx
 ·exact JB.2 (h.srt.imp fun {x y} hxy=>by rw[(Qfz T x).2,(Qfz T y).2]; exact hxy)
 ·exact JB.2 (h.dis.imp fun {x y} hxy=>by rw[(Qfz T x).1,(Qfz T y).1]; exact hxy)
theorem Jmx{us:Qa→Bool}{a:Int}{l Bs Cs:List Qa}{n:Int}(hd:l.Pairwise fun x y=>idB x≠idB y)(hu:∀b∈l,us b=true→isA a b=true)(h1:Bs.Perm l)(s1:Bs.Pairwise Q98)(h2:Cs.Perm (l.filter (isA a)))(s2:Cs.Pairwise Q98):tkV us Cs n=tkV us Bs n:=by
 have e:Cs=Bs.filter (isA a):=Jgx (Qqk (hd.sublist JF)) h2 (h1.filter _) s2 (s1.sublist JF)
 rw[e]
 exact Qbs Bs n fun b hb=>hu b (h1.mem_iff.1 hb)
theorem Jab{us:Qa→Bool}{a:Int}{l Bs:List Qa}{n:Int}(hd:l.Pairwise fun x y=>idB x≠idB y)(hu:∀b∈l,us b=true→isA a b=false)(h1:Bs.Perm l):(l.map (Se (tkV us Bs n).1)).filter (isA a)=l.filter (isA a):=by
 rw[Qt6]
 refine(List.map_congr_left fun b hb=>?_).trans (List.map_id _)
 obtain⟨hb,hp⟩:=QU.1 hb
 unfold Se
 cases hf:(tkV us Bs n).1.find? fun q=>idB q.1==idB b with
 | none=>rfl
 | some q =>
  exfalso
  obtain⟨q1,q2⟩:=Q0p Bs n q (KZ hf)
  have q3:idB q.1=idB b:=by simpa using List.find?_some hf
  have q4:=h1.mem_iff.1 q1
  obtain⟨i,hi,ei⟩:=XG.1 q4
  obtain⟨j,hj,ej⟩:=XG.1 hb
  have:=Qqk hd i j hi hj (by rw[ei,ej]; exact q3)
  subst this
  have e:q.1=b:=ei.symm.trans ej
  rw[e]at q2
  rw[hu b hb q2]at hp
  cases hp
theorem Juh{N:Nat}[hN:Y2 N]{ev:List Qg}{pr:List Qm}{a t:Int}(he:ev.length≤32)(hp:pr.length≤32)(hs:sz pr≤4096)(hb:Jb (fun p:Qm=>p.2.2.2.2.2.length≤32) pr)(ht:t≤86400000) :
  ∃gs:List Qy,(∀g∈gs,g.1.1=a∧Kj ev g.1.1 g.1.2.1)∧∀s:Qp,s.1.length≤900000000000→(∀b∈s.1,b.2.2.2.2.2.1.length≤1000000000000)→s.2.1.length≤1000000000000→s.2.2.length≤1000000000000→Jz N ev pr s a t=some (gs.foldl Qgn s.1,s.2.1,s.2.2):=by
 obtain⟨d,ed,_⟩:=(Qpo (N:=N) (x0:=ev) (x1:=a)).spec (fun _=>True) (by simp; omega)
 by_cases hc:(((decide (t≥0))&&(decide (t<12622780800)))&&(decide (d>0)))=true
 ·obtain⟨h,eh,h1,h2⟩:=(Qkt (N:=N) (x0:=ev) (x1:=a)).spec _ ⟨he,fun r h=>h⟩
  have ht0:0≤t:=by
   simp only[QJ,decide_eq_true_eq]at hc; omega
  obtain⟨c,ec,c1⟩:=(Qpp (N:=N) (x0:=h) (x1:=d) (x2:=t)).spec _ ⟨⟨h1,ht0,ht⟩,fun r h=>h⟩
  have hl:=Zb (l:=h)
  have hgr:∀x∈h,∀p:Qb,Jmp N pr x p∧∀g∈grs N pr x p,g.1.1=a∧Kj ev g.1.1 g.1.2.1:=fun x hx p=>by
   obtain⟨r,er,r1,r2,r3⟩:=(Qbq (N:=N) (x0:=x) (x1:=pr) (x2:=p)).spec _ ⟨⟨Nat.le_trans (Qex hx) h1,hp,hs,hb⟩,fun r h=>h⟩
   have e:grs N pr x p=r:=by unfold grs; rw[er]; rfl
   refine⟨⟨e▸er,e▸r1,fun g hg=>?_⟩,fun g hg=>?_⟩
   ·rw[e]at hg
    have k:=Nat.le_trans (Qex hg) r2
    have k2:=Zb (l:=g.1.2.2.2.2.2.1)
    simp only[sz1,mx1]at k; omega
   ·rw[e]at hg
    have q:=r3.all g hg
    have q2:=h2.all x hx
    rw[q.acc,q.sub,q2.acc]
    exact⟨rfl,q2.add⟩
  refine⟨(c.flatMap fun p=>h.flatMap fun x=>grs N pr x p).filter fun g=>decide (g.1.2.2.2.2.2.2.1.1≤t),fun g hg=>?_,fun s hs1 hs2 hs3 hs4=>?_⟩
  ·obtain⟨p,hp,hg⟩:=KB.1 (QU.1 hg).1
   obtain⟨x,hx,hg⟩:=KB.1 hg
   exact(hgr x hx p).2 g hg
  ·obtain⟨m,hm,em⟩:=Jmq (N:=N) (x:=s) (by omega) hs2
   unfold Jz
   have e4:=Jue (N:=N) (r:=c) (hs:=h) (pr:=pr) (t:=t) (s:=(s.1,m)) (by omega) (by omega) (fun p _ x hx=>(hgr x hx p).1) hs1
   have e4':Qe (V1 N c h pr t) N (0,s.1,m)=_:=e4
   rw[em,QQ,Jj (by simp only[QH]; omega),QQ,Jj (by simp only[QH]; omega),QQ,ed,QQ,if_pos hc,eh,QQ,ec,QQ,e4',QQ,QQ]
   rw[(Qx9 (t:=t) hm).2]
   rfl
 ·refine⟨[],fun g hg=>absurd hg QO,fun s hs1 hs2 hs3 hs4=>?_⟩
  obtain⟨m,hm,em⟩:=Jmq (N:=N) (x:=s) (by omega) hs2
  unfold Jz
  rw[em,QQ,Jj (by simp only[QH]; omega),QQ,Jj (by simp only[QH]; omega),QQ,ed,QQ,if_neg hc,QQ]
  rfl
structure WAt(x0:List Qi)(k:Int)(A:List Qi)(w:Qi)(B:List Qi):Prop where
 acc:w.1=k
 fst:∀v∈A,v.1≠k
 is_:x0=A++w::B∨x0=A++B∧w=(k,0,0,0,-1)∧∀v∈B,v.1≠k
def isW(a:Int)(w:Qi):Bool:=w.1==a
theorem Cp{a:Int}{w:Qi}:isW a w=true↔w.1=a:=by unfold isW; exact beq_iff_eq
theorem A9{a:Int}{A:List Qi}(h:∀v∈A,v.1≠a):A.filter (isW a)=[]:=XL.2 fun v hv=>by rw[Cp]; exact h v hv
theorem Jp0{x0 A B A' B':List Qi}{k:Int}{w w':Qi}(h:WAt x0 k A w B)(h':WAt (x0.filter (isW k)) k A' w' B'):A'=[]∧w'=w∧B'=B.filter (isW k):=by
 have ha:∀v∈x0.filter (isW k),v.1=k:=fun v hv=>Cp.1 (QU.1 hv).2
 have hA:A'=[]:=by
  cases hA:A' with
  | nil=>rfl
  | cons v l =>
   exfalso
   have hv:v∈A':=by rw[hA]; exact .head _
   rcases h'.is_ with e | ⟨e,_⟩
   ·exact h'.fst v hv (ha v (by rw[e]; exact List.mem_append_left _ hv))
   ·exact h'.fst v hv (ha v (by rw[e]; exact List.mem_append_left _ hv))
 subst hA
 refine⟨rfl,?_⟩
 have hf:=A9 h.fst
 rcases h.is_ with e | ⟨e,e2,e3⟩
 ·have e1:x0.filter (isW k)=w::B.filter (isW k):=by rw[e,QR,hf,QV,QA (Cp.2 h.acc)]
  rw[e1]at h'
  rcases h'.is_ with q | ⟨q,_,q3⟩
  ·simp only[QV,List.cons.injEq]at q
   exact⟨q.1.symm,q.2.symm⟩
  ·exfalso
   simp only[QV]at q
   exact q3 w (q▸.head _) h.acc
 ·have e1:x0.filter (isW k)=[]:=by rw[e,QR,hf,A9 e3]; rfl
  rw[e1]at h'
  rcases h'.is_ with q | ⟨q,q2,q3⟩
  ·simp at q
  ·simp only[QV]at q
   rw[←q,A9 e3]
   exact⟨q2.trans e2.symm,rfl⟩
theorem Jg1{x0 A B:List Qi}{k a:Int}{w v:Qi}(h:WAt x0 k A w B)(hk:k≠a)(hv:v.1=k):(A++v::B).filter (isW a)=x0.filter (isW a):=by
 have e1:(A++v::B).filter (isW a)=A.filter (isW a)++B.filter (isW a):=by
  rw[QR,QB (by rw[Cp,hv]; exact hk)]
 rw[e1]
 rcases h.is_ with e | ⟨e,_,_⟩
 ·rw[e,QR,QB (by rw[Cp,h.acc]; exact hk)]
 ·rw[e,QR]
theorem Q0s{N:Nat}[hN:Y2 N]{s:Qp}(h:sz s≤1000000000000):Gl N s=some s:=by
 obtain⟨r,e,q⟩:=(Qpn (N:=N) (x0:=s)).spec (fun r=>r=s) ⟨h,fun r h=>h⟩
 rw[e,q]
noncomputable def Jmy(N:Nat)(ev:List Qg)(k t:Int)(w:Qi):Qi :=
 let v:=(Qe (Y0 N ev k [w] 0 t) N (0,w)).getD w
 (v.1,v.2.1,v.2.2.1,v.2.2.2.1,(if t>v.2.2.2.2 then t else v.2.2.2.2))
theorem Q0t{N:Nat}[hN:Y2 N]{ev:List Qg}{k t:Int}(he:ev.length≤32) :
  (∀s:Qp,sz s≤1000000000000→J5 N ev s k t=some s) ∨
  ((∀w:Qi,(Jmy N ev k t w).1=w.1)∧∀s:Qp,sz s≤1000000000000→∃A w B,WAt s.2.1 k A w B∧J5 N ev s k t=some (s.1,A++Jmy N ev k t w::B,s.2.2)):=by
 obtain⟨o,eo,_⟩:=(Qm1 (N:=N) (x0:=ev) (x1:=k) (x2:=t)).spec (fun _=>True) (by simp; omega)
 have hbody:∀s:Qp,sz s≤1000000000000→J5 N ev s k t=((if(decide (t<0))||(decide (t≥12622780800))then some true else some (!o):Option Bool).bind fun v6=>if v6 then some (s.1,s.2.1,s.2.2)else(Ee N s.2.1 k).bind fun w7=>(idx w7.2 w7.1).bind fun _=>(idx w7.2 w7.1).bind fun x9=>(Qe (Y0 N ev k w7.2 w7.1 t) N (0,x9)).bind fun v28=>(idx w7.2 w7.1).bind fun _=>(idx w7.2 w7.1).bind fun y29=>some (s.1,(List.set w7.2 (Int.toNat w7.1) (v28.1,v28.2.1,v28.2.2.1,v28.2.2.2.1,(if t>v28.2.2.2.2 then t else v28.2.2.2.2))),s.2.2)):=fun s hs=>by
  unfold J5
  rw[Q0s hs,QQ,eo]
  rfl
 have hloop:∀w:Qi,∃v,Qe (Y0 N ev k [w] 0 t) N (0,w)=some v∧v.1=w.1:=fun w=>by
  obtain⟨v,e,q⟩:=(Qe2 (N:=N) (x0:=ev) (x2:=k) (r8:=[w]) (r7:=0) (x3:=t) (s:=(0,w))).spec (fun v=>v.1=w.1) ⟨by simp; omega,fun r h=>h⟩
  exact⟨v,e,q⟩
 by_cases hc:((decide (t<0))||(decide (t≥12622780800)))=true
 ·refine .inl fun s hs=>?_
  rw[hbody s hs,if_pos hc,QQ,if_pos rfl]
 ·cases o with
  | false =>
   refine .inl fun s hs=>?_
   rw[hbody s hs,if_neg hc,QQ,if_pos (by decide)]
  | true =>
   refine .inr ⟨fun w=>?_,fun s hs=>?_⟩
   ·obtain⟨v,e,q⟩:=hloop w
    unfold Jmy
    rw[e]; exact q
   ·have hl:s.2.1.length≤1000000000000:=by
     have:=Zb (l:=s.2.1)
     simp only[sz1,mx1,Qko]at hs; omega
    obtain⟨A,w,B,e,h1,h2,h3⟩:=Jug (N:=N) (x0:=s.2.1) (k:=k) hl
    refine⟨A,w,B,⟨h1,h2,h3⟩,?_⟩
    obtain⟨v,ev',q⟩:=hloop w
    have ef:Y0 N ev k (A++w::B) (A.length:Int) t=Y0 N ev k [w] 0 t:=by
     funext x
     unfold Y0
     have e0:idx [w] 0=some w:=rfl
     rw[Qqi,e0]
    have e5:Jmy N ev k t w=(v.1,v.2.1,v.2.2.1,v.2.2.2.1,(if t>v.2.2.2.2 then t else v.2.2.2.2)):=by
     unfold Jmy; rw[ev']; rfl
    rw[hbody s hs,if_neg hc,QQ,if_neg (by decide),e,QQ,Qqi,QQ,QQ,ef,ev',QQ,QQ,QQ,XO,Jdb,e5]
noncomputable def Q6e(N:Nat)(amt:Int)(pre:Bool)(w:Qi):Option (Int×Int×Qi) :=
 if(!pre||decide (amt≤0))=true then none else
  let r6:=(A5 N w).getD 0
  let p:=(if 1125899906842624<(if r6<amt then r6 else amt)then 1125899906842624 else(if r6<amt then r6 else amt))
  let d:=(B7 N w p).getD (w,1)
  if d.2 != 0 then none else some (p,IntKind.wrap .i64 (amt - p),d.1)
theorem Jmz{N:Nat}[hN:Y2 N]{k amt:Int}{pre:Bool} :
  (∀w r,Q6e N amt pre w=some r→r.2.2.1=w.1)∧∀s:Qp,sz s≤1000000000000→((∀v∈s.2.1,v.1≠k)∧Vg N s k amt pre=some (0,amt,s)) ∨
   ∃A w B,s.2.1=A++w::B∧w.1=k∧(∀v∈A,v.1≠k)∧Vg N s k amt pre=some (match Q6e N amt pre w with | none=>(0,amt,s) | some r=>(r.1,r.2.1,s.1,A++r.2.2::B,s.2.2)):=by
 have hfree:∀w,∃r,A5 N w=some r:=fun w=>by
  obtain⟨r,e,_⟩:=(Qva (N:=N) (x0:=w)).spec (fun _=>True) (by simp)
  exact⟨r,e⟩
 have hdeb:∀w p,∃r,B7 N w p=some r∧(r.2=0→r.1.1=w.1):=fun w p=>by
  obtain⟨r,e,q⟩:=(Qtr (N:=N) (x0:=w) (x1:=p)).spec (fun r=>r.2=0→r.1.1=w.1) (by simp)
  exact⟨r,e,q⟩
 refine⟨fun w r h=>?_,fun s hs=>?_⟩
 ·unfold Q6e at h
  split at h
  ·cases h
  ·obtain⟨x,ex⟩:=hfree w
   rw[ex]at h
   simp only[XQ]at h
   obtain⟨d,ed,q⟩:=hdeb w (if 1125899906842624<(if x<amt then x else amt)then 1125899906842624 else(if x<amt then x else amt))
   rw[ed]at h
   simp only[XQ]at h
   split at h
   ·cases h
   ·rename_i c
    cases Option.some.inj h
    exact q (by simpa using c)
 ·have hl:s.2.1.length≤1000000000000:=by
   have:=Zb (l:=s.2.1)
   simp only[sz1,mx1,Qko]at hs; omega
  obtain⟨r,_,e2,h⟩:=Q57 (N:=N) (x0:=s.2.1) hl
  unfold Vg
  rw[Q0s hs,QQ]
  rw[e2,QQ]
  have hj:=h k
  cases hf:fIx s.2.1 k with
  | none =>
   left
   rw[hf]at hj
   refine⟨Q59 hf,?_⟩
   rw[hj,if_pos (by simp)]
  | some i =>
   right
   rw[hf]at hj
   obtain⟨A,w,B,h1,h2,h3,h4⟩:=Q58 hf
   refine⟨A,w,B,h1,h3,h4,?_⟩
   have hg:(Qr (k:=.int .i64) k r).getD 0=(A.length:Int):=by rw[hj,h2]; rfl
   have hsome:(Qr (k:=.int .i64) k r).isSome=true:=by rw[hj]; rfl
   rw[hg,hsome]
   by_cases c:(!pre||decide (amt≤0))=true
   ·have e:Q6e N amt pre w=none:=by unfold Q6e; rw[if_pos c]
    rw[e,if_pos (by rw[c]; rfl)]
   ·have hix:idx s.2.1 (A.length:Int)=some w:=by rw[h1]; exact Qqi
    obtain⟨x,ex⟩:=hfree w
    obtain⟨d,ed,q⟩:=hdeb w (if 1125899906842624<(if x<amt then x else amt)then 1125899906842624 else(if x<amt then x else amt))
    have e:Q6e N amt pre w=(if d.2 != 0 then none else some ((if 1125899906842624<(if x<amt then x else amt)then 1125899906842624 else(if x<amt then x else amt)),IntKind.wrap .i64 (amt - (if 1125899906842624<(if x<amt then x else amt)then 1125899906842624 else(if x<amt then x else amt))),d.1)):=by
     unfold Q6e
     rw[if_neg c,ex]
     simp only[XQ]
     rw[ed]; rfl
    rw[e,if_neg (by simp only[Bool.not_true,Bool.or_false]; exact c),hix,QQ,QQ,ex,QQ,QQ,QQ,ed,QQ]
    by_cases c2:(d.2 != 0)=true
    ·rw[if_pos c2,if_pos c2]
    ·rw[if_neg c2,if_neg c2,QQ,QQ,XO,h1,Jdb]
theorem Jg2{N:Nat}{b:Qa}{x1 x2 x3 x6:Int}{x4:Str}{x5:Bool}(h:Vq N b x1 x2 x3 x4 x5 x6=some true):b.2.1=x2∨b.1=x1:=by
 unfold Vq at h
 by_cases c:((b.2.1 != x2)&&(((!b.2.2.2.2.2.2.2.2.2.2)||(b.1 != x1))||(!x5)))=true
 ·exfalso
  obtain⟨v,hv,h⟩:=Option.bind_eq_some_iff.1 h
  by_cases hv:v=true
  ·rw[if_pos hv]at h; cases h
  ·rw[if_neg hv,if_pos c]at h; cases h
 ·simp only[QJ,bne_iff_ne,ne_eq,JU]at c
  by_cases c1:b.2.1=x2
  ·exact .inl c1
  ·by_cases c2:b.1=x1
   ·exact .inr c2
   ·exact absurd ⟨c1,.inl (.inr c2)⟩ c
noncomputable def usF(N:Nat)(x1 x2 x3:Int)(x4:Str)(x5:Bool)(x6:Int)(b:Qa):Bool:=(Vq N b x1 x2 x3 x4 x5 x6).getD false
theorem Jm0{N:Nat}[hN:Y2 N]{x1 x2 x3 x6:Int}{x4:Str}{x5:Bool}{b:Qa}(h:b.2.2.2.2.2.1.length≤1000000000000):Vq N b x1 x2 x3 x4 x5 x6=some (usF N x1 x2 x3 x4 x5 x6 b):=by
 obtain⟨r,e,_⟩:=(Qpr (N:=N) (x0:=b) (x1:=x1) (x2:=x2) (x3:=x3) (x4:=x4) (x5:=x5) (x6:=x6)).spec (fun _=>True) ⟨by omega,fun _ _=>trivial⟩
 unfold usF; rw[e]; rfl
theorem Jui{N:Nat}[hN:Y2 N]{x1 x2 x3 x6:Int}{x4:Str}{x5:Bool}{b:Qa}(h:b.2.2.2.2.2.1.length≤1000000000000)(hu:usF N x1 x2 x3 x4 x5 x6 b=true):b.2.1=x2∨b.1=x1:=Jg2 (N:=N) (by rw[Jm0 h,hu])
theorem Juj{N:Nat}[hN:Y2 N]{l:List Qd}{x1 x2 x3:Int}(hl:l.length≤1000000000000):V8 N l x1 x2 x3=some ((l.find? fun c=>Je c==(x1,x2,x3)).getD (x1,x2,x3,0,0)):=by
 have hB:=hN.le
 have key:∀(k i n:Nat),l.length=i+k→k<n→Qe (Wa N l x1 x2 x3) n ((i:Int),(0,0,0,0,0))=some (match (l.drop i).find? fun c=>Je c==(x1,x2,x3)with | some c=>.inr c | none=>.inl (0,0,0,0,0)):=by
  intro k
  induction k with
  | zero =>
   intro i n hk hn
   obtain⟨m,rfl⟩:∃m,n=m+1:=⟨n - 1,by omega⟩
   have hi:i=l.length:=by omega
   subst hi
   simp only[Qe,Wa]
   rw[if_neg (fun h=>by have:=of_decide_eq_true h; omega),JE]
   rfl
  | succ k ih =>
   intro i n hk hn
   obtain⟨m,rfl⟩:∃m,n=m+1:=⟨n - 1,by omega⟩
   have hlt:i<l.length:=by omega
   simp only[Qe,Wa]
   rw[if_pos (decide_eq_true (by omega)),K9 hlt,QQ,Qna,QQ,Q0 (n:=(i:Int)+1) (by omega) (by omega),List.drop_eq_getElem_cons hlt]
   cases he:(Je l[i]==(x1,x2,x3))with
   | true =>
    have e:=beq_iff_eq.1 he
    have e1:clt (Je l[i]) (Je (x1,x2,x3,0,0))=false:=XP.2 fun h=>Qm9 h e
    have e2:clt (Je (x1,x2,x3,0,0)) (Je l[i])=false:=XP.2 fun h=>Qm9 h e.symm
    rw[e1,e2,XX (p:=fun c:Qd=>Je c==(x1,x2,x3)) he]
    simp
   | false =>
    have hne:Je l[i]≠(x1,x2,x3):=beq_eq_false_iff_ne.1 he
    rw[XZ (p:=fun c:Qd=>Je c==(x1,x2,x3)) (by simp only[he]; decide)]
    have e0:((if clt (Je l[i]) (Je (x1,x2,x3,0,0))=true then(-1:Int)else if clt (Je (x1,x2,x3,0,0)) (Je l[i])=true then 1 else 0)==0)=false:=by
     rcases Q0q (Je l[i]) (Je (x1,x2,x3,0,0))with h | h | h
     ·rw[h]; rfl
     ·exact absurd h hne
     ·rw[h,Qf0 h]; rfl
    rw[e0,if_neg (by decide)]
    exact ih (i+1) m (by omega) (by omega)
 have e:=key l.length 0 N (by omega) (by omega)
 have e':Qe (Wa N l x1 x2 x3) N (0,(0,0,0,0,0))=_:=e
 unfold V8
 rw[e',XC,QQ]
 cases l.find? fun c=>Je c==(x1,x2,x3)with
 | none=>rfl
 | some c=>rfl
def Ra(N:Nat)(s:Qp)(u:Qc)(e:Int):Option Q0o:=(D7 N s).bind fun w=>some (w.1,w.2.1,w.2.2,u,e,[],0,[],0,0,0,0,0,[],[],[])
def Jac(N:Nat)(b:Q2)(s:Qp)(u:Qc):Option Q0o :=
 if u.2.2.2.2.2.2.2.2.2.1||(u.2.2.2.2.2.2.2.1==0)then Ra N s u 0 else
 (Wz N b.1 u.2.2.2.1 u.2.2.2.2.2.2.1).bind fun sp=>if !sp.2 then Ra N s u 11 else
 (K5 N b.1 u.2.2.2.1 u.2.2.2.2.2.2.1).bind fun cs=>if cs.1.2.1 != u.2.2.1 then Ra N s u 11 else if sp.1.2.2.2.1 then Ra N s u 16 else
 (Uk N b.1 cs.1.2.1 u.2.2.2.2.2.2.1).bind fun ac =>
 (D8 N b.2.1 sp.1.2.1 u.2.2.2.2.2.2.1).bind fun tf=>if !tf.2.2.2.1 then Ra N s u 18 else
 (Ht N tf.2.2.2.2.1 u.2.2.2.2.2.1).bind fun z =>
 (J5 N b.1 s u.2.2.1 u.2.2.2.2.2.2.1).bind fun w1 =>
 (Jz N b.1 b.2.2.1 (w1.1,w1.2.1,w1.2.2) u.2.2.1 u.2.2.2.2.2.2.1).bind fun w4 =>
 (Ys N (w4.1,w4.2.1,w4.2.2) u z.1 sp.1.2.2.2.2).bind fun w7 =>
 (Xj N (tf.1,tf.2.1,tf.2.2.1,tf.2.2.2.2.1,tf.2.2.2.2.2.1,tf.2.2.2.2.2.2.1,tf.2.2.2.2.2.2.2) b.2.2.2.2.1 u (IntKind.wrap .i64 (u.2.2.2.2.2.2.2.1 - w7.1))).bind fun p=>if p.2.1 != 0 then Ra N s u p.2.1 else
 (Qe (U2 N p.2.2) N (p.1,0)).bind fun g=>if decide (g>1125899906842624)then Ra N s u 6 else
 (Ke N ac.1.2.2.1 u.2.2.2.2.2.2.1).bind fun cy =>
 (V8 N w7.2.2.2.1 u.2.2.2.1 u.2.1 cy.1).bind fun c =>
 (Lh N tf.2.2.2.2.2.1 b.2.2.2.2.1 u.2.2.2.2.2.2.1).bind fun bd =>
 (K6 N u z.1 bd c sp.1.2.2.2.2).bind fun en =>
 (Kf N tf.2.2.2.2.2.2.2 en g).bind fun d=>if d.2.1 != 0 then Ra N s u d.2.1 else
 (Vg N (w7.2.1,w7.2.2.1,w7.2.2.2.1) u.2.2.1 d.1 ac.1.2.2.2.1).bind fun y =>
 (V9 N y.2.2.2.2 (u.2.2.2.1,u.2.1,cy.1,u.2.2.2.2.2.2.2.1,d.1)).bind fun k=>if k.1 != 0 then Ra N s u k.1 else
 some (y.2.2.1,y.2.2.2.1,k.2,u,0,tf.1,tf.2.1,z.1,p.1,g,d.1,y.1,y.2.1,w7.2.2.2.2,p.2.2,d.2.2)
theorem e11:(((11:Int)==0)=true)=False:=by decide
theorem e16:(((16:Int)==0)=true)=False:=by decide
theorem e18:(((18:Int)==0)=true)=False:=by decide
theorem e6:(((6:Int)==0)=true)=False:=by decide
theorem e0:(((0:Int)==0)=true)=True:=by decide
theorem n0:(((0:Int) != 0)=true)=False:=by decide
theorem n11:(((11:Int) != 0)=true)=True:=by decide
theorem n16:(((16:Int) != 0)=true)=True:=by decide
theorem n18:(((18:Int) != 0)=true)=True:=by decide
theorem n6:(((6:Int) != 0)=true)=True:=by decide
theorem Jm1{N:Nat}{b:Q2}{s:Qp}{u:Qc}:B8 N b s u=Jac N b s u:=by
 unfold B8 Jac
 by_cases c0:(u.2.2.2.2.2.2.2.2.2.1||(u.2.2.2.2.2.2.2.1==0))=true
 ·rw[if_pos c0,if_pos c0]; rfl
 ·rw[if_neg c0,if_neg c0]
  simp only[Qax,Qaw,G4,e0,if_true]
  cases h1:Wz N b.1 u.2.2.2.1 u.2.2.2.2.2.2.1 with
  | none=>rfl
  | some sp =>
   simp only[QQ]
   cases h2:sp.2 with
   | false =>
    simp only[Bool.not_false,if_true,QQ,Xh,Zl,Vr,Y8,e11,n11,if_false]
    rfl
   | true =>
    simp only[Bool.not_true,JZ,if_false]
    cases h3:K5 N b.1 u.2.2.2.1 u.2.2.2.2.2.2.1 with
    | none=>rfl
    | some cs =>
     simp only[QQ]
     by_cases c1:(cs.1.2.1 != u.2.2.1)=true
     ·rw[if_pos c1,if_pos c1]
      simp only[QQ,Xh,Zl,Vr,Y8,e11,n11,if_false,if_true]
      rfl
     ·rw[if_neg c1,if_neg c1]
      by_cases c2:sp.1.2.2.2.1=true
      ·rw[if_pos c2,if_pos c2]
       simp only[QQ,Xh,Zl,Vr,Y8,e16,n16,if_false,if_true]
       rfl
      ·rw[if_neg c2,if_neg c2]
       cases h4:Uk N b.1 cs.1.2.1 u.2.2.2.2.2.2.1 with
       | none=>rfl
       | some ac =>
        simp only[QQ,Xh,Qa0,Ed,e0,if_true]
        cases h5:D8 N b.2.1 sp.1.2.1 u.2.2.2.2.2.2.1 with
        | none=>rfl
        | some tf =>
         simp only[QQ]
         cases c3:tf.2.2.2.1 with
         | false =>
          simp only[Bool.not_false,if_true,QQ,Zl,Vr,Y8,e18,n18,if_false]
          rfl
         | true =>
          simp only[Bool.not_true,JZ,if_false]
          cases h6:Ht N tf.2.2.2.2.1 u.2.2.2.2.2.1 with
          | none=>rfl
          | some z =>
           simp only[QQ,Zl,Qa8,B4,e0,if_true]
           cases h7:J5 N b.1 s u.2.2.1 u.2.2.2.2.2.2.1 with
           | none=>rfl
           | some w1 =>
            simp only[QQ]
            cases h8:Jz N b.1 b.2.2.1 (w1.1,w1.2.1,w1.2.2) u.2.2.1 u.2.2.2.2.2.2.1 with
            | none=>rfl
            | some w4 =>
             simp only[QQ]
             cases h9:Ys N (w4.1,w4.2.1,w4.2.2) u z.1 sp.1.2.2.2.2 with
             | none=>rfl
             | some w7 =>
              simp only[QQ,B6]
              cases h10:Xj N (tf.1,tf.2.1,tf.2.2.1,tf.2.2.2.2.1,tf.2.2.2.2.2.1,tf.2.2.2.2.2.2.1,tf.2.2.2.2.2.2.2) b.2.2.2.2.1 u (IntKind.wrap .i64 (u.2.2.2.2.2.2.2.1 - w7.1))with
              | none=>rfl
              | some p =>
               simp only[QQ]
               by_cases c4:(p.2.1 != 0)=true
               ·rw[if_pos c4,if_pos c4]
                have q:((p.2.1==0)=true)=False:=by simpa using c4
                have q2:((p.2.1 != 0)=true)=True:=by simpa using c4
                simp only[QQ,Vr,Y8,q,q2,if_false,if_true]
                rfl
               ·rw[if_neg c4,if_neg c4]
                cases h11:Qe (U2 N p.2.2) N (p.1,0)with
                | none=>rfl
                | some g =>
                 simp only[QQ]
                 by_cases c5:decide (g>1125899906842624)=true
                 ·rw[if_pos c5,if_pos c5]
                  simp only[QQ,Vr,Y8,e6,n6,if_false,if_true]
                  rfl
                 ·rw[if_neg c5,if_neg c5]
                  simp only[QQ,Vr,Qbb,W9,X9,e0,if_true]
                  cases h12:Ke N ac.1.2.2.1 u.2.2.2.2.2.2.1 with
                  | none=>rfl
                  | some cy =>
                   simp only[QQ]
                   cases h13:V8 N w7.2.2.2.1 u.2.2.2.1 u.2.1 cy.1 with
                   | none=>rfl
                   | some c =>
                    simp only[QQ]
                    cases h14:Lh N tf.2.2.2.2.2.1 b.2.2.2.2.1 u.2.2.2.2.2.2.1 with
                    | none=>rfl
                    | some bd =>
                     simp only[QQ]
                     cases h15:K6 N u z.1 bd c sp.1.2.2.2.2 with
                     | none=>rfl
                     | some en =>
                      simp only[QQ]
                      cases h16:Kf N tf.2.2.2.2.2.2.2 en g with
                      | none=>rfl
                      | some d =>
                       simp only[QQ]
                       by_cases c6:(d.2.1 != 0)=true
                       ·rw[if_pos c6,if_pos c6]
                        have q:((d.2.1==0)=true)=False:=by simpa using c6
                        have q2:((d.2.1 != 0)=true)=True:=by simpa using c6
                        simp only[QQ,Y8,q,q2,if_false,if_true]
                        rfl
                       ·rw[if_neg c6,if_neg c6]
                        simp only[QQ,Y8,Qbc,Na,X9,e0,if_true,h12]
                        cases h17:Vg N (w7.2.1,w7.2.2.1,w7.2.2.2.1) u.2.2.1 d.1 ac.1.2.2.2.1 with
                        | none=>rfl
                        | some y =>
                         simp only[QQ]
                         cases h18:V9 N y.2.2.2.2 (u.2.2.2.1,u.2.1,cy.1,u.2.2.2.2.2.2.2.1,d.1)with
                         | none=>rfl
                         | some k =>
                          simp only[QQ]
                          by_cases c7:(k.1 != 0)=true
                          ·rw[if_pos c7,if_pos c7]
                           have q2:((k.1 != 0)=true)=True:=by simpa using c7
                           simp only[QQ,q2,if_true]
                           rfl
                          ·rw[if_neg c7,if_neg c7]
                           simp only[QQ,n0,if_false]
open Classical in
noncomputable def Eu(ev:List Qg)(a:Int)(c:Qd):Bool:=decide (Kj ev a c.1)
open Classical in
theorem T5{ev:List Qg}{a:Int}{c:Qd}:Eu ev a c=true↔Kj ev a c.1:=by unfold Eu; exact decide_eq_true_iff
noncomputable def Js(ev:List Qg)(a:Int)(s:Qp):Qp:=(s.1.filter (isA a),s.2.1.filter (isW a),s.2.2.filter (Eu ev a))
structure SZ(s:Qp):Prop where
 z:sz s.1≤1000000000000
 w:s.2.1.length≤1099511627
 c:s.2.2.length≤1099511627
structure SI(N:Nat)(ev:List Qg)(s:Qp):Prop where
 b:Qis ev s.1
 c:Qhb N s.2.2
theorem SZ.all{s:Qp}(h:SZ s):sz s≤1000000000000:=by
 have h1:=h.z; have h2:=h.w; have h3:=h.c
 simp only[sz1,mx1,Qko]; omega
theorem SZ.len{s:Qp}(h:SZ s):s.1.length≤1000000000000:=Nat.le_trans Zb h.z
theorem SZ.zon{s:Qp}(h:SZ s):∀b∈s.1,b.2.2.2.2.2.1.length≤1000000000000:=fun b hb=>by
 have k:=Nat.le_trans (Qex hb) h.z
 have k2:=Zb (l:=b.2.2.2.2.2.1)
 simp only[sz1,mx1]at k; omega
theorem Qe9{ev:List Qg}{a:Int}{s:Qp}(h:SZ s):SZ (Js ev a s):=⟨Nat.le_trans (Qzt (List.length_filter_le _ _) fun x hx=>(QU.1 hx).1) h.z,Nat.le_trans (List.length_filter_le _ _) h.w,Nat.le_trans (List.length_filter_le _ _) h.c⟩
theorem Jm2{N:Nat}{ev:List Qg}{a:Int}{s:Qp}(h:SI N ev s):SI N ev (Js ev a s):=⟨Q6a h.b,Qkw h.c⟩
section
variable {N:Nat} [hN:Y2 N] {ev:List Qg} {a k t:Int} {s:Qp}
theorem Jm3{s':Qp}(he:ev.length≤32)(hz:SZ s)(h:J5 N ev s k t=some s') :
  s'.1=s.1∧s'.2.2=s.2.2∧s'.2.1.length≤s.2.1.length+1∧(k=a→J5 N ev (Js ev a s) k t=some (Js ev a s'))∧(k≠a→Js ev a s'=Js ev a s):=by
 rcases Q0t (N:=N) (ev:=ev) (k:=k) (t:=t) he with f | ⟨f1,f2⟩
 ·rw[f s hz.all]at h
  cases Option.some.inj h
  exact⟨rfl,rfl,ZQ _,fun _=>f _ (Qe9 hz).all,fun _=>rfl⟩
 ·obtain⟨A,w,B,hw,e⟩:=f2 s hz.all
  rw[e]at h
  cases Option.some.inj h
  refine⟨rfl,rfl,?_,fun hk=>?_,fun hk=>?_⟩
  ·rcases hw.is_ with q | ⟨q,_,_⟩
   ·rw[q]; simp
   ·rw[q]; simp; omega
  ·subst hk
   obtain⟨A',w',B',hw',e'⟩:=f2 (Js ev k s) (Qe9 hz).all
   obtain⟨q1,q2,q3⟩:=Jp0 hw hw'
   rw[e',q1,q2,q3]
   unfold Js
   simp only[QV,Option.some.injEq,Prod.mk.injEq,true_and,and_true]
   rw[QR,A9 hw.fst,QV,QA (Cp.2 ((f1 w).trans hw.acc))]
  ·unfold Js
   simp only[Prod.mk.injEq,true_and,and_true]
   exact Jg1 hw hk ((f1 w).trans hw.acc)
theorem Jm4{pr:List Qm}{s':Qp}(hu:Ga ev)(he:ev.length≤32)(hp:pr.length≤32)(hs:sz pr≤4096)(hb:Jb (fun p:Qm=>p.2.2.2.2.2.length≤32) pr)(ht:t≤86400000)(hz:SZ s)(hl:s.1.length≤900000000000)(hi:SI N ev s)(h:Jz N ev pr s k t=some s') :
  SI N ev s'∧s'.2.1=s.2.1∧s'.2.2=s.2.2∧(k=a→Jz N ev pr (Js ev a s) k t=some (Js ev a s'))∧(k≠a→Js ev a s'=Js ev a s):=by
 obtain⟨gs,g1,g2⟩:=Juh (N:=N) (ev:=ev) (pr:=pr) (a:=k) (t:=t) he hp hs hb ht
 have hw:=hz.w; have hc:=hz.c
 rw[g2 s hl hz.zon (by omega) (by omega)]at h
 cases Option.some.inj h
 have hr:=Qe9 (ev:=ev) (a:=a) hz
 have hrw:=hr.w; have hrc:=hr.c
 refine⟨⟨Q6c hi.b fun g hg=>(g1 g hg).2,hi.c⟩,rfl,rfl,fun hk=>?_,fun hk=>?_⟩
 ·subst hk
  rw[g2 (Js ev k s) (Nat.le_trans (List.length_filter_le _ _) hl) hr.zon (by omega) (by omega)]
  unfold Js
  simp only[Option.some.injEq,Prod.mk.injEq,and_true]
  exact(Q6d hu hi.b g1).symm
 ·unfold Js
  simp only[Prod.mk.injEq,and_true]
  exact Qt5 fun g hg=>by rw[(g1 g hg).1]; exact hk
theorem Q6f{u:Qc}{z:Str}{f:Bool}(hz:SZ s):Ys N s u z f=(A3 N s.1 u.2.2.1 u.2.2.2.1 u.2.1 z f u.2.2.2.2.2.2.1 u.2.2.2.2.2.2.2.1).bind fun w=>some (w.1,w.2.1,s.2.1,s.2.2,w.2.2):=by
 unfold Ys
 rw[Q0s hz.all,QQ]
theorem Jm5{u:Qc}{z:Str}{f:Bool}{w:Int×(List Qa)×(List Qi)×(List Qd)×(List Ja)}(hu:Ga ev)(hz:SZ s)(hi:SI N ev s)(hsub:Kj ev u.2.2.1 u.2.2.2.1)(h:Ys N s u z f=some w) :
  SI N ev (w.2.1,w.2.2.1,w.2.2.2.1)∧w.2.2.1=s.2.1∧w.2.2.2.1=s.2.2∧(u.2.2.1=a→Ys N (Js ev a s) u z f=some (w.1,(Js ev a (w.2.1,w.2.2.1,w.2.2.2.1)).1,(Js ev a (w.2.1,w.2.2.1,w.2.2.2.1)).2.1,(Js ev a (w.2.1,w.2.2.1,w.2.2.2.1)).2.2,w.2.2.2.2))∧(u.2.2.1≠a→Js ev a (w.2.1,w.2.2.1,w.2.2.2.1)=Js ev a s):=by
 have hus:∀b∈s.1,Vq N b u.2.2.1 u.2.2.2.1 u.2.1 z f u.2.2.2.2.2.2.1=some (usF N u.2.2.1 u.2.2.2.1 u.2.1 z f u.2.2.2.2.2.2.1 b):=fun b hb=>Jm0 (hz.zon b hb)
 have hacc:∀b∈s.1,usF N u.2.2.1 u.2.2.2.1 u.2.1 z f u.2.2.2.2.2.2.1 b=true→b.1=u.2.2.1:=fun b hb h=>by
  rcases Jui (hz.zon b hb) h with q | q
  ·exact hu.u _ _ _ (q▸hi.b.own b hb) hsub
  ·exact q
 obtain⟨Bs,p1,p2,e⟩:=Jda (N:=N) (x7:=u.2.2.2.2.2.2.2.1) hz.len hz.zon hus (Qqk hi.b.dis)
 rw[Q6f hz,e,QQ]at h
 cases Option.some.inj h
 refine⟨⟨Jpz hi.b,hi.c⟩,rfl,rfl,fun hk=>?_,fun hk=>?_⟩
 ·have hr:=Qe9 (ev:=ev) (a:=a) hz
  have hir:=Jm2 (a:=a) hi
  have hm:∀b∈(Js ev a s).1,b∈s.1:=fun b hb=>(QU.1 hb).1
  obtain⟨Cs,q1,q2,e'⟩:=Jda (N:=N) (x7:=u.2.2.2.2.2.2.2.1) (us:=usF N u.2.2.1 u.2.2.2.1 u.2.1 z f u.2.2.2.2.2.2.1) hr.len hr.zon (fun b hb=>hus b (hm b hb)) (Qqk hir.b.dis)
  rw[Q6f hr,e',QQ,Jmx hi.b.dis (fun b hb h=>Qbt.2 ((hacc b hb h).trans hk)) p1 p2 q1 q2]
  unfold Js
  simp only[Option.some.injEq,Prod.mk.injEq,true_and,and_true]
  exact Qt6.symm
 ·unfold Js
  simp only[Prod.mk.injEq,and_true]
  refine Jab hi.b.dis (fun b hb h=>?_) p1
  cases hp:isA a b with
  | false=>rfl
  | true=>exact absurd ((hacc b hb h).symm.trans (Qbt.1 hp)) hk
theorem Jm6{amt:Int}{pre:Bool}{y:Int×Int×(List Qa)×(List Qi)×(List Qd)}(hz:SZ s)(h:Vg N s k amt pre=some y) :
  y.2.2.1=s.1∧y.2.2.2.2=s.2.2∧(k=a→Vg N (Js ev a s) k amt pre=some (y.1,y.2.1,Js ev a y.2.2))∧(k≠a→Js ev a y.2.2=Js ev a s):=by
 obtain⟨f1,f2⟩:=Jmz (N:=N) (k:=k) (amt:=amt) (pre:=pre)
 have hr:=Qe9 (ev:=ev) (a:=a) hz
 have hw:∀v∈(Js ev k s).2.1,v.1=k:=fun v hv=>Cp.1 (QU.1 hv).2
 rcases f2 s hz.all with⟨g1,g2⟩ | ⟨A,w,B,g1,g2,g3,g4⟩
 ·rw[g2]at h
  cases Option.some.inj h
  refine⟨rfl,rfl,fun hk=>?_,fun hk=>rfl⟩
  subst hk
  rcases f2 (Js ev k s) hr.all with⟨r1,r2⟩ | ⟨A',w',B',r1,r2,r3,r4⟩
  ·exact r2
  ·exfalso
   have hv:w'∈(Js ev k s).2.1:=by rw[r1]; exact List.mem_append_right _ (.head _)
   exact g1 w' (QU.1 hv).1 r2
 ·rw[g4]at h
  have hf:s.2.1.filter (isW k)=w::B.filter (isW k):=by rw[g1,QR,A9 g3,QV,QA (Cp.2 g2)]
  cases hp:Q6e N amt pre w with
  | none =>
   rw[hp]at h
   cases Option.some.inj h
   refine⟨rfl,rfl,fun hk=>?_,fun hk=>rfl⟩
   subst hk
   rcases f2 (Js ev k s) hr.all with⟨r1,r2⟩ | ⟨A',w',B',r1,r2,r3,r4⟩
   ·exact r2
   ·have hA:A'=[]:=by
     cases hA:A' with
     | nil=>rfl
     | cons v l =>
      have hv:v∈A':=by rw[hA]; exact .head _
      exact absurd (hw v (by rw[r1]; exact List.mem_append_left _ hv)) (r3 v hv)
    subst hA
    have e:w'=w:=by
     have:w::B.filter (isW k)=w'::B':=hf.symm.trans r1
     simp only[List.cons.injEq]at this
     exact this.1.symm
    rw[r4,e,hp]
  | some r =>
   rw[hp]at h
   cases Option.some.inj h
   refine⟨rfl,rfl,fun hk=>?_,fun hk=>?_⟩
   ·subst hk
    rcases f2 (Js ev k s) hr.all with⟨r1,r2⟩ | ⟨A',w',B',r1,r2,r3,r4⟩
    ·exfalso
     exact r1 w (by show w∈s.2.1.filter (isW k); rw[hf]; exact .head _) g2
    ·have hA:A'=[]:=by
      cases hA:A' with
      | nil=>rfl
      | cons v l =>
       have hv:v∈A':=by rw[hA]; exact .head _
       exact absurd (hw v (by rw[r1]; exact List.mem_append_left _ hv)) (r3 v hv)
     subst hA
     have e:w::B.filter (isW k)=w'::B':=hf.symm.trans r1
     simp only[List.cons.injEq]at e
     rw[r4,←e.1,hp,←e.2]
     unfold Js
     simp only[QV,Option.some.injEq,Prod.mk.injEq,true_and,and_true]
     rw[QR,A9 g3,QV,QA (Cp.2 ((f1 w r hp).trans g2))]
   ·unfold Js
    simp only[Prod.mk.injEq,true_and,and_true]
    rw[g1,QR,QR,QB (by rw[Cp,f1 w r hp,g2]; exact hk),QB (by rw[Cp,g2]; exact hk)]
theorem Juk{l:List Qd}{x1 x2 x3:Int}{c:Qd}(hl:l.length≤1099511627)(hs:Kj ev a x1)(h:V8 N l x1 x2 x3=some c):V8 N (l.filter (Eu ev a)) x1 x2 x3=some c:=by
 have:=List.length_filter_le (Eu ev a) l
 rw[Juj (by omega)]at h ⊢
 rw[P9 fun x hx e=>T5.2 (by
  have e1:=beq_iff_eq.1 e
  have e2:x.1=x1:=congrArg (fun k:Qt1=>k.1) e1
  rw[e2]; exact hs)]
 exact h
theorem Jm7{l:List Qd}{c:Qd}{r:Int×List Qd}(hu:Ga ev)(hl:l.length≤1099511627)(hi:Qhb N l)(hs:Kj ev k c.1)(h:V9 N l c=some r) :
  (r.1=0→Qhb N r.2)∧(k=a→V9 N (l.filter (Eu ev a)) c=some (r.1,r.2.filter (Eu ev a)))∧(k≠a→r.1=0→r.2.filter (Eu ev a)=l.filter (Eu ev a)):=by
 have hlf:=List.length_filter_le (Eu ev a) l
 rw[Jsq (by omega) hi]at h
 cases Option.some.inj h
 have hsum:Je (Co l c)=Je c:=Jmt
 have hs1:(Co l c).1=c.1:=congrArg (fun k:Qt1=>k.1) hsum
 refine⟨fun h0=>?_,fun hk=>?_,fun hk h0=>?_⟩
 ·unfold Jmu at h0 ⊢
  cases hp:prm N c with
  | false=>rw[hp]at h0; simp at h0
  | true =>
   cases hr:rgd c with
   | false=>rw[hp,hr]at h0; simp at h0
   | true =>
    cases hr2:rgd (Co l c)with
    | false=>rw[hp,hr,hr2]at h0; simp at h0
    | true =>
     simp only[Bool.not_true,JZ,if_false]
     have hA:∀x∈l.filter (fun x=>clt (Je x) (Je c)),clt (Je x) (Je c)=true:=fun x hx=>(QU.1 hx).2
     have hD:∀x∈l.filter (fun x=>clt (Je c) (Je x)),clt (Je c) (Je x)=true:=fun x hx=>(QU.1 hx).2
     refine⟨fun x hx=>?_,?_⟩
     ·rcases QZ.1 hx with hx | hx
      ·rcases QZ.1 hx with hx | hx
       ·exact hi.all x (QU.1 hx).1
       ·cases hn:nzC (Co l c)with
        | false=>rw[hn]at hx; simp at hx
        | true =>
         rw[hn,if_pos rfl,JK]at hx
         subst hx
         exact⟨(Jpv hsum).trans hp,hr2,hn⟩
      ·exact hi.all x (QU.1 hx).1
     ·refine QE.2 ⟨QE.2 ⟨hi.srt.sublist JF,?_,fun x hx y hy=>?_⟩,hi.srt.sublist JF,fun x hx y hy=>?_⟩
      ·split
       ·exact XA _ _
       ·exact .nil
      ·split at hy
       ·rw[JK]at hy
        rw[hy,hsum]; exact hA x hx
       ·exact absurd hy QO
      ·rcases QZ.1 hx with hx | hx
       ·exact Nk (hA x hx) (hD y hy)
       ·split at hx
        ·rw[JK]at hx
         rw[hx,hsum]; exact hD y hy
        ·exact absurd hx QO
 ·subst hk
  have hm:Eu ev k (Co l c)=true:=T5.2 (by rw[hs1]; exact hs)
  rw[Jsq (by omega) (Qkw hi)]
  have es:Co (l.filter (Eu ev k)) c=Co l c:=by
   unfold Co
   rw[P9 fun x hx e=>T5.2 (by
    have e2:x.1=c.1:=congrArg (fun k:Qt1=>k.1) (beq_iff_eq.1 e)
    rw[e2]; exact hs)]
  unfold Jmu
  rw[es]
  split
  ·rfl
  ·split
   ·rfl
   ·split
    ·rfl
    ·simp only[QR,Option.some.injEq,Prod.mk.injEq,true_and]
     rw[XW,XW,XW,XW]
     have e3:(if nzC (Co l c)=true then [Co l c]else []).filter (Eu ev k)=if nzC (Co l c)=true then [Co l c]else []:=by
      split
      ·rw[QA hm]; rfl
      ·rfl
     rw[e3]
     congr 2
     ·congr 1
      funext x; rw[Bool.and_comm]
     ·funext x; rw[Bool.and_comm]
 ·have hm:Eu ev a (Co l c)=false:=by
   cases hb:Eu ev a (Co l c)with
   | false=>rfl
   | true =>
    have:=T5.1 hb
    rw[hs1]at this
    exact absurd (hu.u _ _ _ hs this) hk
  unfold Jmu at h0 ⊢
  cases hp:prm N c with
  | false=>rw[hp]at h0; simp at h0
  | true =>
   cases hr:rgd c with
   | false=>rw[hp,hr]at h0; simp at h0
   | true =>
    cases hr2:rgd (Co l c)with
    | false=>rw[hp,hr,hr2]at h0; simp at h0
    | true =>
     simp only[Bool.not_true,JZ,if_false,QR]
     have e3:(if nzC (Co l c)=true then [Co l c]else []).filter (Eu ev a)=[]:=by
      split
      ·rw[QB (by simp[hm])]; rfl
      ·rfl
     rw[e3,QC]
     have hmono:l.Pairwise (fun x y=>clt (Je y) (Je c)=true→clt (Je x) (Je c)=true):=hi.srt.imp fun hxy hy=>Nk hxy hy
     obtain⟨t1,t2⟩:=Qnb hmono
     have e4:(l.filter fun x=>clt (Je c) (Je x)).filter (Eu ev a)=(l.filter fun x=>!clt (Je x) (Je c)).filter (Eu ev a):=by
      rw[XW,XW]
      refine KG fun x hx=>?_
      cases hb:Eu ev a x with
      | false=>rfl
      | true =>
       have hne:Je x≠Je c:=fun e=>by
        have e2:x.1=c.1:=congrArg (fun k:Qt1=>k.1) e
        have:=T5.1 hb
        rw[e2]at this
        exact hk (hu.u _ _ _ hs this)
       rcases Q0q (Je x) (Je c)with q | q | q
       ·rw[q,Qf0 q]; rfl
       ·exact absurd q hne
       ·rw[q,Qf0 q]; rfl
     rw[e4,←t1,←t2,←QR,QI]
end
def Jvv(w:Q0o)(s:Qp):Q0o:=(s.1,s.2.1,s.2.2,w.2.2.2)
section
variable {N:Nat} [hN:Y2 N] {b:Q2} {s:Qp} {u:Qc} {w:Q0o} {a e:Int}
theorem Q0u(h:sz s≤1000000000000):D7 N s=some s:=by
 obtain⟨r,e,q⟩:=(Q0k (N:=N) (x0:=s)).spec (fun r=>r=s) ⟨h,fun r h=>h⟩
 rw[e,q]
theorem Cq(hz:sz s≤1000000000000)(hi:SI N b.1 s)(h:Ra N s u e=some w):SI N b.1 (Qbr w)∧w.2.2.2.1=u∧Ra N (Js b.1 a s) u e=some (Jvv w (Js b.1 a (Qbr w))):=by
 have hr:sz (Js b.1 a s)≤1000000000000:=by
  have h1:=Qzt (l:=s.1.filter (isA a)) (m:=s.1) (List.length_filter_le _ _) fun x hx=>(QU.1 hx).1
  have h2:=List.length_filter_le (isW a) s.2.1
  have h3:=List.length_filter_le (Eu b.1 a) s.2.2
  unfold Js
  simp only[sz1,mx1,Qko]at *; omega
 unfold Ra at h ⊢
 rw[Q0u hz,QQ]at h
 rw[Q0u hr,QQ]
 cases Option.some.inj h
 exact⟨hi,rfl,rfl⟩
theorem Gb(hz:sz s≤1000000000000)(hi:SI N b.1 s)(h:Ra N s u e=some w):SI N b.1 (Qbr w)∧w.2.2.2.1=u∧Js b.1 a (Qbr w)=Js b.1 a s:=by
 unfold Ra at h
 rw[Q0u hz,QQ]at h
 cases Option.some.inj h
 exact⟨hi,rfl,rfl⟩
theorem Q6g{cs:Qz×Bool}(hb:Ki b)(hA:UsA u)(h:K5 N b.1 u.2.2.2.1 u.2.2.2.2.2.2.1=some cs)(hc:cs.1.2.1=u.2.2.1):Kj b.1 u.2.2.1 u.2.2.2.1:=by
 obtain⟨r,e,_,q⟩:=(Qtp (N:=N) (x0:=b.1) (x1:=u.2.2.2.1) (x2:=u.2.2.2.2.2.2.1)).spec _ ⟨hb.ev,fun r h=>h⟩
 rw[h]at e
 cases Option.some.inj e
 rw[hc]at q
 have:=hA.acc
 exact q.resolve_left (by omega)
theorem Jm8{s4:Qp}{k:Int}(hb:Ki b)(hU:Zk u)(hz:SZ s)(hl:s.1.length≤900000000000)(h:Jz N b.1 b.2.2.1 s k u.2.2.2.2.2.2.1=some s4):sz s4.1≤1000000000000:=by
 have h1:=hz.z; have h2:=hz.w; have h3:=hz.c
 obtain⟨r,e,_,q,_⟩:=(Qm2 (N:=N) (x0:=b.1) (x1:=b.2.2.1) (x2:=s) (x3:=k) (x4:=u.2.2.2.2.2.2.1)).spec _ ⟨⟨hb.ev,hb.prodL,hb.prodS,hb.prodO,hl,by omega,by omega,by omega,hU.start⟩,fun r h=>h⟩
 rw[h]at e
 cases Option.some.inj e
 exact q
theorem Q6h{z:Str}{f:Bool}{w7:Int×(List Qa)×(List Qi)×(List Qd)×(List Ja)}(hz:SZ s)(h:Ys N s u z f=some w7):sz w7.2.1≤1000000000000:=by
 have h1:=hz.all
 obtain⟨r,e,_,q,_⟩:=(Qps (N:=N) (x0:=s) (x1:=u) (x2:=z) (x3:=f)).spec _ ⟨by omega,fun r h=>h⟩
 rw[h]at e
 cases Option.some.inj e
 exact q
end
theorem Jp1{N:Nat}[hN:Y2 N]{b:Q2}{s:Qp}{u:Qc}{w:Q0o}{a:Int}(hb:Ki b)(hU:Zk u)(hA:UsA u)(hu:Ga b.1)(hz:SZ s)(hl:s.1.length≤900000000000)(hw:s.2.1.length≤1000000000)(hc:s.2.2.length≤1000000000)(hi:SI N b.1 s)(ha:u.2.2.1=a)(h:Jac N b s u=some w):SI N b.1 (Qbr w)∧w.2.2.2.1=u∧Jac N b (Js b.1 a s) u=some (Jvv w (Js b.1 a (Qbr w))):=by
 revert h
 unfold Jac
 by_cases c0:(u.2.2.2.2.2.2.2.2.2.1||(u.2.2.2.2.2.2.2.1==0))=true
 ·rw[if_pos c0,if_pos c0]; exact Cq hz.all hi
 ·rw[if_neg c0,if_neg c0]
  cases h1:Wz N b.1 u.2.2.2.1 u.2.2.2.2.2.2.1 with
  | none=>exact fun h=>by cases h
  | some sp =>
   simp only[QQ]
   by_cases c1:(!sp.2)=true
   ·rw[if_pos c1,if_pos c1]; exact Cq hz.all hi
   ·rw[if_neg c1,if_neg c1]
    cases h2:K5 N b.1 u.2.2.2.1 u.2.2.2.2.2.2.1 with
    | none=>exact fun h=>by cases h
    | some cs =>
     simp only[QQ]
     by_cases c2:(cs.1.2.1 != u.2.2.1)=true
     ·rw[if_pos c2,if_pos c2]; exact Cq hz.all hi
     ·rw[if_neg c2,if_neg c2]
      have hsub:Kj b.1 u.2.2.1 u.2.2.2.1:=Q6g hb hA h2 (by simpa using c2)
      by_cases c3:sp.1.2.2.2.1=true
      ·rw[if_pos c3,if_pos c3]; exact Cq hz.all hi
      ·rw[if_neg c3,if_neg c3]
       cases h3:Uk N b.1 cs.1.2.1 u.2.2.2.2.2.2.1 with
       | none=>exact fun h=>by cases h
       | some ac =>
        simp only[QQ]
        cases h4:D8 N b.2.1 sp.1.2.1 u.2.2.2.2.2.2.1 with
        | none=>exact fun h=>by cases h
        | some tf =>
         simp only[QQ]
         by_cases c4:(!tf.2.2.2.1)=true
         ·rw[if_pos c4,if_pos c4]; exact Cq hz.all hi
         ·rw[if_neg c4,if_neg c4]
          cases h5:Ht N tf.2.2.2.2.1 u.2.2.2.2.2.1 with
          | none=>exact fun h=>by cases h
          | some z =>
           simp only[QQ]
           cases h6:J5 N b.1 s u.2.2.1 u.2.2.2.2.2.2.1 with
           | none=>exact fun h=>by cases h
           | some w1 =>
            obtain⟨a1,a2,a3,a4,a5⟩:=Jm3 (a:=a) hb.ev hz h6
            have z1:SZ w1:=⟨by rw[a1]; exact hz.z,by omega,by rw[a2]; omega⟩
            have i1:SI N b.1 w1:=⟨by rw[a1]; exact hi.b,by rw[a2]; exact hi.c⟩
            rw[a4 ha]; simp only[QQ]
            cases h7:Jz N b.1 b.2.2.1 (w1.1,w1.2.1,w1.2.2) u.2.2.1 u.2.2.2.2.2.2.1 with
            | none=>exact fun h=>by cases h
            | some w4 =>
             obtain⟨i4,b2,b3,b4,b5⟩:=Jm4 (a:=a) (s:=w1) hu hb.ev hb.prodL hb.prodS hb.prodO hU.start z1 (by rw[a1]; exact hl) i1 h7
             have z4:SZ w4:=⟨Jm8 hb hU z1 (by rw[a1]; exact hl) h7,by rw[b2]; exact z1.w,by rw[b3]; exact z1.c⟩
             have e7:Jz N b.1 b.2.2.1 ((Js b.1 a w1).1,(Js b.1 a w1).2.1,(Js b.1 a w1).2.2) u.2.2.1 u.2.2.2.2.2.2.1=some (Js b.1 a w4):=b4 ha
             rw[e7]
             simp only[QQ]
             cases h8:Ys N (w4.1,w4.2.1,w4.2.2) u z.1 sp.1.2.2.2.2 with
             | none=>exact fun h=>by cases h
             | some w7 =>
              obtain⟨i7,d2,d3,d4,d5⟩:=Jm5 (a:=a) (s:=w4) hu z4 i4 hsub h8
              have z7:SZ (w7.2.1,w7.2.2.1,w7.2.2.2.1):=⟨Q6h z4 h8,by show w7.2.2.1.length≤_; rw[d2]; exact z4.w,by show w7.2.2.2.1.length≤_; rw[d3]; exact z4.c⟩
              have e8:Ys N ((Js b.1 a w4).1,(Js b.1 a w4).2.1,(Js b.1 a w4).2.2) u z.1 sp.1.2.2.2.2=_:=d4 ha
              rw[e8]
              simp only[QQ]
              cases h9:Xj N (tf.1,tf.2.1,tf.2.2.1,tf.2.2.2.2.1,tf.2.2.2.2.2.1,tf.2.2.2.2.2.2.1,tf.2.2.2.2.2.2.2) b.2.2.2.2.1 u (IntKind.wrap .i64 (u.2.2.2.2.2.2.2.1 - w7.1))with
              | none=>exact fun h=>by cases h
              | some p =>
               simp only[QQ]
               by_cases c5:(p.2.1 != 0)=true
               ·rw[if_pos c5,if_pos c5]; exact Cq hz.all hi
               ·rw[if_neg c5,if_neg c5]
                cases h10:Qe (U2 N p.2.2) N (p.1,0)with
                | none=>exact fun h=>by cases h
                | some g =>
                 simp only[QQ]
                 by_cases c6:decide (g>1125899906842624)=true
                 ·rw[if_pos c6,if_pos c6]; exact Cq hz.all hi
                 ·rw[if_neg c6,if_neg c6]
                  cases h11:Ke N ac.1.2.2.1 u.2.2.2.2.2.2.1 with
                  | none=>exact fun h=>by cases h
                  | some cy =>
                   simp only[QQ]
                   cases h12:V8 N w7.2.2.2.1 u.2.2.2.1 u.2.1 cy.1 with
                   | none=>exact fun h=>by cases h
                   | some c =>
                    have e12:V8 N (Js b.1 a (w7.2.1,w7.2.2.1,w7.2.2.2.1)).2.2 u.2.2.2.1 u.2.1 cy.1=some c:=Juk (by exact z7.c) (ha▸hsub) h12
                    rw[e12]
                    simp only[QQ]
                    cases h13:Lh N tf.2.2.2.2.2.1 b.2.2.2.2.1 u.2.2.2.2.2.2.1 with
                    | none=>exact fun h=>by cases h
                    | some bd =>
                     simp only[QQ]
                     cases h14:K6 N u z.1 bd c sp.1.2.2.2.2 with
                     | none=>exact fun h=>by cases h
                     | some en =>
                      simp only[QQ]
                      cases h15:Kf N tf.2.2.2.2.2.2.2 en g with
                      | none=>exact fun h=>by cases h
                      | some d =>
                       simp only[QQ]
                       by_cases c7:(d.2.1 != 0)=true
                       ·rw[if_pos c7,if_pos c7]; exact Cq hz.all hi
                       ·rw[if_neg c7,if_neg c7]
                        cases h16:Vg N (w7.2.1,w7.2.2.1,w7.2.2.2.1) u.2.2.1 d.1 ac.1.2.2.2.1 with
                        | none=>exact fun h=>by cases h
                        | some y =>
                         obtain⟨f1,f2,f3,f4⟩:=Jm6 (ev:=b.1) (a:=a) z7 h16
                         have i8:Qhb N y.2.2.2.2:=by rw[f2]; exact i7.c
                         have l8:y.2.2.2.2.length≤1099511627:=by rw[f2]; exact z7.c
                         have e16:Vg N ((Js b.1 a (w7.2.1,w7.2.2.1,w7.2.2.2.1)).1,(Js b.1 a (w7.2.1,w7.2.2.1,w7.2.2.2.1)).2.1,(Js b.1 a (w7.2.1,w7.2.2.1,w7.2.2.2.1)).2.2) u.2.2.1 d.1 ac.1.2.2.2.1=_:=f3 ha
                         rw[e16]
                         simp only[QQ]
                         cases h17:V9 N y.2.2.2.2 (u.2.2.2.1,u.2.1,cy.1,u.2.2.2.2.2.2.2.1,d.1)with
                         | none=>exact fun h=>by cases h
                         | some k =>
                          obtain⟨k1,k2,k3⟩:=Jm7 (k:=u.2.2.1) (a:=a) hu l8 i8 hsub h17
                          have e17:V9 N (Js b.1 a y.2.2).2.2 (u.2.2.2.1,u.2.1,cy.1,u.2.2.2.2.2.2.2.1,d.1)=_:=k2 ha
                          rw[e17]
                          simp only[QQ]
                          by_cases c8:(k.1 != 0)=true
                          ·rw[if_pos c8,if_pos c8]; exact Cq hz.all hi
                          ·rw[if_neg c8,if_neg c8]
                           have k0:k.1=0:=by simpa using c8
                           intro h
                           cases Option.some.inj h
                           refine⟨⟨by show Qis b.1 y.2.2.1; rw[f1]; exact i7.b,k1 k0⟩,rfl,?_⟩
                           rfl
theorem Jg3{N:Nat}[hN:Y2 N]{b:Q2}{s:Qp}{u:Qc}{w:Q0o}{a:Int}(hb:Ki b)(hU:Zk u)(hA:UsA u)(hu:Ga b.1)(hz:SZ s)(hl:s.1.length≤900000000000)(hw:s.2.1.length≤1000000000)(hc:s.2.2.length≤1000000000)(hi:SI N b.1 s)(ha:u.2.2.1≠a)(h:Jac N b s u=some w):SI N b.1 (Qbr w)∧w.2.2.2.1=u∧Js b.1 a (Qbr w)=Js b.1 a s:=by
 revert h
 unfold Jac
 by_cases c0:(u.2.2.2.2.2.2.2.2.2.1||(u.2.2.2.2.2.2.2.1==0))=true
 ·rw[if_pos c0]; exact Gb hz.all hi
 ·rw[if_neg c0]
  cases h1:Wz N b.1 u.2.2.2.1 u.2.2.2.2.2.2.1 with
  | none=>exact fun h=>by cases h
  | some sp =>
   simp only[QQ]
   by_cases c1:(!sp.2)=true
   ·rw[if_pos c1]; exact Gb hz.all hi
   ·rw[if_neg c1]
    cases h2:K5 N b.1 u.2.2.2.1 u.2.2.2.2.2.2.1 with
    | none=>exact fun h=>by cases h
    | some cs =>
     simp only[QQ]
     by_cases c2:(cs.1.2.1 != u.2.2.1)=true
     ·rw[if_pos c2]; exact Gb hz.all hi
     ·rw[if_neg c2]
      have hsub:Kj b.1 u.2.2.1 u.2.2.2.1:=Q6g hb hA h2 (by simpa using c2)
      by_cases c3:sp.1.2.2.2.1=true
      ·rw[if_pos c3]; exact Gb hz.all hi
      ·rw[if_neg c3]
       cases h3:Uk N b.1 cs.1.2.1 u.2.2.2.2.2.2.1 with
       | none=>exact fun h=>by cases h
       | some ac =>
        simp only[QQ]
        cases h4:D8 N b.2.1 sp.1.2.1 u.2.2.2.2.2.2.1 with
        | none=>exact fun h=>by cases h
        | some tf =>
         simp only[QQ]
         by_cases c4:(!tf.2.2.2.1)=true
         ·rw[if_pos c4]; exact Gb hz.all hi
         ·rw[if_neg c4]
          cases h5:Ht N tf.2.2.2.2.1 u.2.2.2.2.2.1 with
          | none=>exact fun h=>by cases h
          | some z =>
           simp only[QQ]
           cases h6:J5 N b.1 s u.2.2.1 u.2.2.2.2.2.2.1 with
           | none=>exact fun h=>by cases h
           | some w1 =>
            obtain⟨a1,a2,a3,a4,a5⟩:=Jm3 (a:=a) hb.ev hz h6
            have z1:SZ w1:=⟨by rw[a1]; exact hz.z,by omega,by rw[a2]; omega⟩
            have i1:SI N b.1 w1:=⟨by rw[a1]; exact hi.b,by rw[a2]; exact hi.c⟩
            simp only[QQ]
            cases h7:Jz N b.1 b.2.2.1 (w1.1,w1.2.1,w1.2.2) u.2.2.1 u.2.2.2.2.2.2.1 with
            | none=>exact fun h=>by cases h
            | some w4 =>
             obtain⟨i4,b2,b3,b4,b5⟩:=Jm4 (a:=a) (s:=w1) hu hb.ev hb.prodL hb.prodS hb.prodO hU.start z1 (by rw[a1]; exact hl) i1 h7
             have z4:SZ w4:=⟨Jm8 hb hU z1 (by rw[a1]; exact hl) h7,by rw[b2]; exact z1.w,by rw[b3]; exact z1.c⟩
             simp only[QQ]
             cases h8:Ys N (w4.1,w4.2.1,w4.2.2) u z.1 sp.1.2.2.2.2 with
             | none=>exact fun h=>by cases h
             | some w7 =>
              obtain⟨i7,d2,d3,d4,d5⟩:=Jm5 (a:=a) (s:=w4) hu z4 i4 hsub h8
              have z7:SZ (w7.2.1,w7.2.2.1,w7.2.2.2.1):=⟨Q6h z4 h8,by show w7.2.2.1.length≤_; rw[d2]; exact z4.w,by show w7.2.2.2.1.length≤_; rw[d3]; exact z4.c⟩
              simp only[QQ]
              cases h9:Xj N (tf.1,tf.2.1,tf.2.2.1,tf.2.2.2.2.1,tf.2.2.2.2.2.1,tf.2.2.2.2.2.2.1,tf.2.2.2.2.2.2.2) b.2.2.2.2.1 u (IntKind.wrap .i64 (u.2.2.2.2.2.2.2.1 - w7.1))with
              | none=>exact fun h=>by cases h
              | some p =>
               simp only[QQ]
               by_cases c5:(p.2.1 != 0)=true
               ·rw[if_pos c5]; exact Gb hz.all hi
               ·rw[if_neg c5]
                cases h10:Qe (U2 N p.2.2) N (p.1,0)with
                | none=>exact fun h=>by cases h
                | some g =>
                 simp only[QQ]
                 by_cases c6:decide (g>1125899906842624)=true
                 ·rw[if_pos c6]; exact Gb hz.all hi
                 ·rw[if_neg c6]
                  cases h11:Ke N ac.1.2.2.1 u.2.2.2.2.2.2.1 with
                  | none=>exact fun h=>by cases h
                  | some cy =>
                   simp only[QQ]
                   cases h12:V8 N w7.2.2.2.1 u.2.2.2.1 u.2.1 cy.1 with
                   | none=>exact fun h=>by cases h
                   | some c =>
                    simp only[QQ]
                    cases h13:Lh N tf.2.2.2.2.2.1 b.2.2.2.2.1 u.2.2.2.2.2.2.1 with
                    | none=>exact fun h=>by cases h
                    | some bd =>
                     simp only[QQ]
                     cases h14:K6 N u z.1 bd c sp.1.2.2.2.2 with
                     | none=>exact fun h=>by cases h
                     | some en =>
                      simp only[QQ]
                      cases h15:Kf N tf.2.2.2.2.2.2.2 en g with
                      | none=>exact fun h=>by cases h
                      | some d =>
                       simp only[QQ]
                       by_cases c7:(d.2.1 != 0)=true
                       ·rw[if_pos c7]; exact Gb hz.all hi
                       ·rw[if_neg c7]
                        cases h16:Vg N (w7.2.1,w7.2.2.1,w7.2.2.2.1) u.2.2.1 d.1 ac.1.2.2.2.1 with
                        | none=>exact fun h=>by cases h
                        | some y =>
                         obtain⟨f1,f2,f3,f4⟩:=Jm6 (ev:=b.1) (a:=a) z7 h16
                         have i8:Qhb N y.2.2.2.2:=by rw[f2]; exact i7.c
                         have l8:y.2.2.2.2.length≤1099511627:=by rw[f2]; exact z7.c
                         simp only[QQ]
                         cases h17:V9 N y.2.2.2.2 (u.2.2.2.1,u.2.1,cy.1,u.2.2.2.2.2.2.2.1,d.1)with
                         | none=>exact fun h=>by cases h
                         | some k =>
                          obtain⟨k1,k2,k3⟩:=Jm7 (k:=u.2.2.1) (a:=a) hu l8 i8 hsub h17
                          simp only[QQ]
                          by_cases c8:(k.1 != 0)=true
                          ·rw[if_pos c8]; exact Gb hz.all hi
                          ·rw[if_neg c8]
                           have k0:k.1=0:=by simpa using c8
                           intro h
                           cases Option.some.inj h
                           refine⟨⟨by show Qis b.1 y.2.2.1; rw[f1]; exact i7.b,k1 k0⟩,rfl,?_⟩
                           have q1:Js b.1 a y.2.2=Js b.1 a s:=(f4 ha).trans ((d5 ha).trans ((b5 ha).trans (a5 ha)))
                           have q2:=k3 ha k0
                           have q3:y.2.2.2.2.filter (Eu b.1 a)=s.2.2.filter (Eu b.1 a):=congrArg (fun x:Qp=>x.2.2) q1
                           have q4:y.2.2.1.filter (isA a)=s.1.filter (isA a):=congrArg (fun x:Qp=>x.1) q1
                           have q5:y.2.2.2.1.filter (isW a)=s.2.1.filter (isW a):=congrArg (fun x:Qp=>x.2.1) q1
                           exact Prod.ext q4 (Prod.ext q5 (q2.trans q3))
def isU(a:Int)(u:Qc):Bool:=u.2.2.1==a
def isR(a:Int)(r:Jm):Bool:=r.1.2.2.1==a
theorem Qit{N:Nat}[hN:Y2 N]{b:Q2}{a:Int}(hb:Ki b)(hu:Ga b.1):∀(l:List Qc) (k:Nat) (s:Qp) (q:Qp×List Jm),k+l.length≤48→(∀u∈l,Zk u∧UsA u)→Jmh k s→SI N b.1 s→Qcx N b l s=some q →
  Qcx N b (l.filter (isU a)) (Js b.1 a s)=some (Js b.1 a q.1,q.2.filter (isR a))
 | [],k,s,q,hk,hl,hs,hi,h=>by
  cases Option.some.inj h
  rfl
 | u::l,k,s,q,hk,hl,hs,hi,h=>by
  simp only[List.length_cons]at hk
  have h1:=hs.buck; have h2:=hs.size; have h3:=hs.wall; have h4:=hs.coun
  have hz:sz s.1≤1000000000000:=h2
  obtain⟨w,ew,p1,p2,p3,p4,p5,p6,p7⟩:=(Qtv (N:=N) (x0:=b) (x1:=s) (x2:=u)).spec _ ⟨⟨hb,(hl u (.head _)).1,by omega,hz,by omega,by omega⟩,fun r h=>h⟩
  have hst:Jmh (k+1) (Qbr w):=⟨by show w.1.length≤_; omega,p2,by show w.2.1.length≤_; omega,by show w.2.2.1.length≤_; omega⟩
  simp only[Qcx,ew,QQ]at h
  obtain⟨r,er,hr⟩:=Option.bind_eq_some_iff.1 h
  cases Option.some.inj hr
  have hU:=hl u (.head _)
  have hl':∀v∈l,Zk v∧UsA v:=fun v hv=>hl v (.tail _ hv)
  have ew':=ew
  rw[Jm1]at ew'
  by_cases ha:u.2.2.1=a
  ·obtain⟨i1,i2,i3⟩:=Jp1 (a:=a) hb hU.1 hU.2 hu ⟨hz,by omega,by omega⟩ (by omega) (by omega) (by omega) hi ha ew'
   have ih:=Qit (a:=a) hb hu l (k+1) (Qbr w) r (by omega) hl' hst i1 er
   have c1:isU a u=true:=by unfold isU; exact beq_iff_eq.2 ha
   have c2:isR a (Qtx w)=true:=by unfold isR; exact beq_iff_eq.2 (by show w.2.2.2.1.2.2.1=a; rw[i2]; exact ha)
   rw[←Jm1]at i3
   rw[QA c1]
   simp only[Qcx]
   rw[i3,QQ]
   show(Qcx N b (l.filter (isU a)) (Js b.1 a (Qbr w))).bind _=_
   rw[ih,QQ]
   show some (Js b.1 a r.1,Qtx w::r.2.filter (isR a))=some (Js b.1 a r.1,(Qtx w::r.2).filter (isR a))
   rw[QA c2]
  ·obtain⟨i1,i2,i3⟩:=Jg3 (a:=a) hb hU.1 hU.2 hu ⟨hz,by omega,by omega⟩ (by omega) (by omega) (by omega) hi ha ew'
   have ih:=Qit (a:=a) hb hu l (k+1) (Qbr w) r (by omega) hl' hst i1 er
   have c1:isU a u=false:=by unfold isU; exact beq_eq_false_iff_ne.2 ha
   have c2:isR a (Qtx w)=false:=by unfold isR; exact beq_eq_false_iff_ne.2 (by show w.2.2.2.1.2.2.1≠a; rw[i2]; exact ha)
   rw[QB (by simp[c1]),←i3,ih]
   show some (Js b.1 a r.1,r.2.filter (isR a))=some (Js b.1 a r.1,(Qtx w::r.2).filter (isR a))
   rw[QB (by simp[c2])]
theorem Jm9{N:Nat}[hN:Y2 N]{l:List Qc}{a:Int}(hr:l.length≤1000):Qe (J6 N l a) N (0,[])=some (l.filter (isU a)):=by
 have hB:=hN.le
 have key:Qe (J6 N l a) N (0,([]:List Qc))=some ([]++l.filter (isU a)):=by
  refine A8 l (Nat.le_trans hr (by decide)) (f:=J6 N l a) (fun(s:List Qc) i=>(i,s)) (fun i q=>q.length≤i) (fun s l=>s++l.filter (isU a)) ?_ ?_ (by omega) (QG _)
  ·intro s _ h
   simp only[J6]
   rw[h]; simp
  ·intro q i x xs h1 h2 h3 h4 h5 hq
   left
   have hi:=(List.getElem?_eq_some_iff.1 h1).1
   simp only[J6]
   rw[if_pos h2,h3,QQ,QQ,h4]
   cases hc:isU a x with
   | true =>
    refine⟨q++[x],?_,by simp; omega,by rw[QA hc]; simp⟩
    have hc':(x.2.2.1==a)=true:=hc
    rw[hc',if_pos rfl,Jj (by simp; omega)]; rfl
   | false =>
    refine⟨q,?_,by omega,by rw[QB (by simp[hc])]⟩
    have hc':(x.2.2.1==a)=false:=hc
    rw[hc',if_neg (by decide)]; rfl
 simpa using key
theorem Jg4{N:Nat}[hN:Y2 N]{l:List Jm}{a:Int}(hr:l.length≤1000):Qe (J7 N l a) N (0,[])=some (l.filter (isR a)):=by
 have hB:=hN.le
 have key:Qe (J7 N l a) N (0,([]:List Jm))=some ([]++l.filter (isR a)):=by
  refine A8 l (Nat.le_trans hr (by decide)) (f:=J7 N l a) (fun(s:List Jm) i=>(i,s)) (fun i q=>q.length≤i) (fun s l=>s++l.filter (isR a)) ?_ ?_ (by omega) (QG _)
  ·intro s _ h
   simp only[J7]
   rw[h]; simp
  ·intro q i x xs h1 h2 h3 h4 h5 hq
   left
   have hi:=(List.getElem?_eq_some_iff.1 h1).1
   simp only[J7]
   rw[if_pos h2,h3,QQ,QQ,QQ,QQ,h4]
   cases hc:isR a x with
   | true =>
    refine⟨q++[x],?_,by simp; omega,by rw[QA hc]; simp⟩
    have hc':(x.1.2.2.1==a)=true:=hc
    rw[hc',if_pos rfl,Jj (by simp; omega)]; rfl
   | false =>
    refine⟨q,?_,by omega,by rw[QB (by simp[hc])]⟩
    have hc':(x.1.2.2.1==a)=false:=hc
    rw[hc',if_neg (by decide)]; rfl
 simpa using key
theorem Jul{N:Nat}[hN:Y2 N]{x0:Q2}{x1:List Qc}{x2:Int}(g0:gd Ui x0):Ub N x0 x1 x2=some true:=by
 obtain⟨r,er,hr⟩:=Jps (N:=N) (l:=x1) g0
 unfold Ub
 rw[er,QQ]
 cases r with
 | false=>rw[if_pos (by decide),Jmj]; rfl
 | true =>
  rw[if_neg (by decide)]
  obtain⟨h1,h2,h3,h4,h5,h6,h7⟩:=hr rfl
  have le1:=List.length_filter_le (isU x2) x1
  obtain⟨o,eo,po,so⟩:=Q5i (N:=N) (l:=x1) (by omega)
  obtain⟨o1,eo1,po1,so1⟩:=Q5i (N:=N) (l:=x1.filter (isU x2)) (by omega)
  have hids:Ids (x1.filter (isU x2)):=⟨fun u hu v hv e=>h5.inj u (QU.1 hu).1 v (QU.1 hv).1 e⟩
  have heq:o1=o.filter (isU x2):=Q5h hids po1 (po.filter _) so1 (so.sublist JF)
  have l0:=po.length_eq
  have l1:=po1.length_eq
  obtain⟨q,eq,q1,q2,q3⟩:=Jc7 (N:=N) h3 o 0 st0 (by omega) (fun u hu=>h4.all u (po.mem_iff.1 hu)) Qx6
  have hown:=Qit (N:=N) (a:=x2) h3 h7 o 0 st0 q (by omega) (fun u hu=>⟨h4.all u (po.mem_iff.1 hu),h6.all u (po.mem_iff.1 hu)⟩) Qx6 ⟨Jmv,Jgy⟩ eq
  rw[←heq]at hown
  have hown':Qcx N x0 o1 st0=some (Js x0.1 x2 q.1,q.2.filter (isR x2)):=hown
  have r1:Zn N x0 (x1.filter (isU x2))=some (Js x0.1 x2 q.1,q.2.filter (isR x2)):=by rw[Jmi (by omega) eo1 po1,hown']
  have r2:Zn N x0 x1=some q:=by rw[Jmi (by omega) eo po,eq]
  have le2:=List.length_filter_le (isR x2) q.2
  have hq:sz (q.2.filter (isR x2))≤9223372036854775807:=Jk8 (by omega) fun r hr=>Nat.le_trans (q3 r (QU.1 hr).1) (by omega)
  rw[Jm9 (by omega),QQ,Jgm h2 h3.tarO,QQ]
  show(Zn N x0 _).bind _=_
  rw[r1,QQ,QQ,Jj (by rw[QH]; omega),QQ,QV]
  show(Zn N x0 _).bind _=_
  rw[r2,QQ,Jg4 (by omega),QQ,Jgl hq]
  simp only[QQ,if_true,Jmj]
theorem Qnc(x0:Q2)(g0:gd Ui x0)(x1:List Qc)(g1:gd (.sl J9) x1)(x2:Int)(g2:gd (.int .i64) x2):∃N,Ub N x0 x1 x2=some true:=⟨18446744073709551616,have:=big; Jul g0⟩
end Gx

/- Texts of mine, one behind the other; nothing is assumed. -/
import Derived.Test.YtaaepbggooiblaaGreatDoorB16
import Derived.Test.YtaaepbggooiblaaGreatDoorB09
import Derived.Test.YtaaepbggooiblaaGreatDoorB06
set_option linter.unusedSimpArgs false
set_option linter.unusedVariables false
set_option maxRecDepth 4000
namespace Go.W.T
open Go Go.W Go.M Go.Proofs
theorem Gx{B:Nat}{H:Hp}{w:World}{p:PS}(h:PR B H w p):
  Calls P og #[pt (B+5) 0] w (Post w (bound p) (PX B) fun x v w'=>v=.tuple #[.bool x.1,i64 x.2.1]∧PR B H w' x.2.2):=by
 refine Post.R fun R M hM hok hno=>?_
 apply yO
 unfold nJ
 have hl:=h.lt
 rw[bound]at hM
 refine Cl.bind (w0:=w) (X0:=PX B) hM (gu h [91]) hno ?_
 rintro⟨b1,q1⟩ v w1 hM hk1 hq1 hs1 ⟨rfl,hp1⟩
 cases b1 with
 |true=>
  repeat' first|refine .x ?_|refine .y ?_|refine .z ?_|fail
  refine Cl.bind (w0:=w) (X0:=PX B) hM (GV hp1 1 1000) hno ?_
  rintro⟨n,u,q2⟩ v w2 hM hk2 hq2 hs2 ⟨rfl,hp2⟩
  repeat' first|refine .x ?_|refine .y ?_|refine .z ?_|fail
  have hl2:=hp2.lt
  refine Cl.bind (w0:=w) (X0:=PX B) hM (JR (hp2.ext (by exact kpA)) [[93]] (aK ..) (by omega) (by decide)) hno ?_
  rintro q3 v w3 hM hk3 hq3 hs3 ⟨rfl,hp3⟩
  exact hok _ _ _ hM hq3.out ⟨rfl,hp3⟩
 |false=>
  repeat' first|refine .x ?_|refine .y ?_|refine .z ?_|fail
  have hl1:=hp1.lt
  refine Cl.bind (w0:=w) (X0:=PX B) hM (JR (hp1.ext (by exact kpA)) [[60]] (aK ..) (by omega) (by decide)) hno ?_
  rintro q2 v w2 hM hk2 hq2 hs2 ⟨rfl,hp2⟩
  refine Cl.bind (w0:=w) (X0:=PX B) hM (gu hp2 [62]) hno ?_
  rintro⟨b3,q3⟩ v w3 hM hk3 hq3 hs3 ⟨rfl,hp3⟩
  cases b3 with
  |true=>repeat' (first|refine .x ?_|refine .y ?_|refine .z ?_|fail);exact hok _ _ _ hM hq3.out ⟨rfl,hp3⟩
  |false=>
   repeat' first|refine .x ?_|refine .y ?_|refine .z ?_|fail
   refine Cl.bind (w0:=w) (X0:=PX B) hM (GV hp3 0 4294967295) hno ?_
   rintro⟨n,u,q4⟩ v w4 hM hk4 hq4 hs4 ⟨rfl,hp4⟩
   repeat' first|refine .x ?_|refine .y ?_|refine .z ?_|fail
   have hl4:=hp4.lt
   refine Cl.bind (w0:=w) (X0:=PX B) hM (JR (hp4.ext (by exact kpA)) [[62]] (aK ..) (by omega) (by decide)) hno ?_
   rintro q5 v w5 hM hk5 hq5 hs5 ⟨rfl,hp5⟩
   exact hok _ _ _ hM hq5.out ⟨rfl,hp5⟩
theorem LJ{B:Nat}{H:Hp}{w:World}{p:PS}(h:PR B H w p):
  Calls P dM #[pt (B+5) 0,.map (some (B+1))] w (Post w (Nl p) (PX B) fun x v w'=>v=wdv x.1∧PR B H w' x.2.2):=by
 refine Post.R fun R M hM hok hno=>?_
 apply mD
 unfold ik
 have hl:=h.lt
 rw[Nl,M.own]at hM
 have hM0:M=(name p).andThen fun w=>(once p.names w.s w.at_).andThen fun l=>(advance { p with names:=l }).andThen fun p=>.ok (w,(),p):=by
  rw[hM]
  cases name p with
  |no=>rfl
  |ok x=>
   simp only[Res.dw]
   cases once p.names x.s x.at_ with
   |no=>rfl
   |ok l=>
    simp only[Res.dw]
    cases advance { p with names:=l }<;>rfl
 clear hM
 have hM:=hM0
 clear hM0
 repeat' first|refine .x ?_|refine .y ?_|refine .z ?_|fail
 have h0:=h.ext (w':=w.alloc (cl [.int .i64 0,.string ⟨#[]⟩,.int .i64 0,.int .i64 0] 104)) (by exact kpA)
 refine Cl.bind (w0:=w) (X0:=PX B) hM (OO h0) hno ?_
 rintro x v w1 hM hk1 hq1 hs1 ⟨rfl,rfl,h1⟩
 rw[size_alloc]at hs1
 unfold wdv
 have hp:=h1.hp
 rw[aO]at hp
 have hl1:=h1.lt
 repeat' first|refine .x ?_|refine .y ?_|refine .z ?_|fail
 obtain⟨es,ck,hm1,hm2⟩:=h1.hn
 have hm3:(ah (w1.alloc (cl [.int .i64 0,.string ⟨#[]⟩,.int .i64 0,.int .i64 0] 104)) w1.heap.size (cl [i64 p.w.kind,.string (bs p.w.s),i64 p.w.at_,i64 p.w.n] 104)).heap[B+1]?=some (.map es ck):=
  (aQ (by omega)).trans ((bf (by omega)).trans hm1)
 refine Cl.bind (w0:=w) (X0:=PX B) hM (Tt _ (B+1) p.names p.w.s p.w.at_ ⟨es,ck,hm3,hm2⟩) hno ?_
 rintro l' v w2 hM hk2 hq2 hs2 hn2
 rw[ag,size_alloc]at hs2
 have h2:PR B H w2 { p with names:=l' }:=by
  refine PR.names (w:=(ah (w1.alloc (cl [.int .i64 0,.string ⟨#[]⟩,.int .i64 0,.int .i64 0] 104)) w1.heap.size (cl [i64 p.w.kind,.string (bs p.w.s),i64 p.w.at_,i64 p.w.n] 104))) ?_ hk2 hn2
  exact h1.ext (by exact kpA)
 refine Cl.bind (w0:=w) (X0:=PX B) hM (qB h2) hno ?_
 rintro p3 v w3 hM hk3 hq3 hs3 ⟨rfl,h3⟩
 repeat' first|refine .x ?_|refine .y ?_|refine .z ?_|fail
 exact hok _ _ _ hM (by exact kpA) ⟨rfl,h3.tmp (a:=w.heap.size) (by exact kpA) (by omega) (h.sub.fresh (Nat.le_refl _))⟩
structure Nmr {σ:Type} (B s:Nat) (nm:PS→Res (Wd×σ×PS)) (J0:World→Prop) (J:σ→World→Prop):Prop where
 hs:B+1≤s∧s<B+2∨B+6≤s
 call:∀{H:Hp} {w:World} {p:PS},PR B H w p→J0 w→Calls P dM #[pt (B+5) 0,.map (some s)] w (Post w (nm p) [(B,B+6),(s,s+1)] fun x v w'=>v=wdv x.1∧J x.2.1 w'∧PR B H w' x.2.2)
 lt:∀{w:World},J0 w→B+6≤w.heap.size→s<w.heap.size
 k0:∀{w w'},J0 w→Kp (PX B) w w'→J0 w'
 k:∀{x w w'},J x w→Kp (PX B) w w'→J x w'
 t:∀{x w w' a b},J x w→Kp [(a,b)] w w'→B+6≤a→s<a→J x w'
theorem aF.kp{w w':World}{s:Nat}{l:List By}{X:List (Nat×Nat)}(h:aF w s l)(k:Kp X w w')(ho:Out X s):aF w' s l:=by
 obtain⟨es,ck,a,b⟩:=h
 exact⟨es,ck,(k.same s (lt_of_heap a) ho).trans a,b⟩
theorem ak.kp{k:IntKind}{w w':World}{s:Nat}{l:List Int}{X:List (Nat×Nat)}(h:ak k w s l)(kk:Kp X w w')(ho:Out X s):ak k w' s l:=by
 obtain⟨es,ck,a,b⟩:=h
 exact⟨es,ck,(kk.same s (lt_of_heap a) ho).trans a,b⟩
theorem V8{B s:Nat}(hs:B+6≤s)(l:List By):Nmr B s (XD l) (fun w=>aF w s l) (fun l' w=>aF w s l') where
 hs:=Or.inr hs
 call h hj:=LK h hs hj
 lt h _:=by obtain⟨_,_,a,_⟩:=h;exact lt_of_heap a
 k0 h k:=aF.kp h k ⟨by omega,trivial⟩
 k h k:=aF.kp h k ⟨by omega,trivial⟩
 t h k _ ha:=aF.kp h k ⟨by omega,trivial⟩
theorem Post.mono{β:Type}{w:World}{m:Res β}{X Y:List (Nat×Nat)}{good good':β→Value→World→Prop}{en:Ending}{w':World}(h:Post w m X good en w')
  (hX:∀i,i<w.heap.size→Out Y i→Out X i) (hg:∀b v w',m=.ok b→Kp X w w'→good b v w'→good' b v w'):Post w m Y good' en w':=by
 obtain⟨h1,h2⟩:=h
 refine⟨h1.mono hX,?_⟩
 cases hm:m with
 |ok b=>rw[hm]at h2;obtain⟨v,hv,hb⟩:=h2;exact⟨v,hv,hg b v w' hm h1 hb⟩
 |no e a=>rw[hm]at h2;exact h2
theorem V9{B:Nat}:Nmr B (B+1) Nl (fun _=>True) (fun _ _=>True) where
 hs:=Or.inl ⟨by omega,by omega⟩
 call h _:=(LJ h).mono fun _ _ hp=>hp.mono (fun i _ ho=>⟨ho.1,trivial⟩) fun _ _ _ _ _ hb=>⟨hb.1,trivial,hb.2⟩
 lt _ h:=by omega
 k0 _ _:=trivial
 k _ _:=trivial
 t _ _ _ _:=trivial
theorem Gr.mono{H H':Hp}{n m:Nat}(h:Gr H H' m)(hn:n≤m):Gr H H' n:=⟨h.1,fun i x hx=>(h.2 i x hx).imp id fun a=>by omega⟩
theorem PR.tmps{B:Nat}{H H':Hp}{w0 w w':World}{p0 p:PS}{m:Nat}(h:PR B H' w p)(h0:PR B H w0 p0)(g:Gr H H' m)(k:Kp [(w0.heap.size,m)] w w'):PR B H' w' p:=by
 have hl:=h0.lt
 refine h.kp k (fun i h1=>⟨by omega,trivial⟩) (fun i h1 h2=>⟨by omega,trivial⟩) (fun b x hx=>⟨?_,trivial⟩)
 rcases g.2 b x hx with h1|h1
 ·have:=lt_of_heap (h0.sub b x.1 x.2 h1);omega
 ·omega
set_option maxHeartbeats 1000000 in
theorem Tn{σ:Type}{B s:Nat}{nm:PS→Res (Wd×σ×PS)}{J0:World→Prop}{J:σ→World→Prop}(N:Nmr B s nm J0 J){H:Hp}{w:World}{p:PS}(h:PR B H w p)(hj:J0 w):
  Calls P ql #[pt (B+5) 0,.map (some s)] w (Post w (decl nm p) [(B,B+6),(s,s+1)] fun x v w'=>∃H' tv,v=.tuple #[.agg #[.string (bs x.1.name),tv],wdv x.2.1]∧Gr H H' w.heap.size∧iM H' x.1.ty tv∧J x.2.2.1 w'∧PR B H' w' x.2.2.2):=by
 refine Post.R fun R M hM hok hno=>?_
 apply zU
 unfold pO
 have hl:=h.lt
 have hs:=N.lt hj hl
 have hp:=h.hp
 rw[aO]at hp
 rw[decl]at hM
 repeat' first|refine .x ?_|refine .y ?_|refine .z ?_|fail
 have hA:Kp [] w ((w.alloc (cl [.string ⟨#[]⟩,.nilIface] 223)).alloc (cl [.int .i64 0,.string ⟨#[]⟩,.int .i64 0,.int .i64 0] 104)):=by exact kpA
 have hA1:((w.alloc (cl [.string ⟨#[]⟩,.nilIface] 223)).alloc (cl [.int .i64 0,.string ⟨#[]⟩,.int .i64 0,.int .i64 0] 104)).heap[w.heap.size]?=some (cl [.string ⟨#[]⟩,.nilIface] 223):=(bf (by rw[size_alloc];omega)).trans (aK ..)
 have hA2:((w.alloc (cl [.string ⟨#[]⟩,.nilIface] 223)).alloc (cl [.int .i64 0,.string ⟨#[]⟩,.int .i64 0,.int .i64 0] 104)).heap[w.heap.size+1]?=some (cl [.int .i64 0,.string ⟨#[]⟩,.int .i64 0,.int .i64 0] 104):=jP (by rw[size_alloc])
 have hAs:((w.alloc (cl [.string ⟨#[]⟩,.nilIface] 223)).alloc (cl [.int .i64 0,.string ⟨#[]⟩,.int .i64 0,.int .i64 0] 104)).heap.size=w.heap.size+2:=by simp only[size_alloc]
 generalize (w.alloc (cl [.string ⟨#[]⟩,.nilIface] 223)).alloc (cl [.int .i64 0,.string ⟨#[]⟩,.int .i64 0,.int .i64 0] 104)=wA at *
 have hpA:=h.ext hA
 have hjA:=N.k0 hj hA.any
 refine Cl.plain (w0:=w) (X0:=[(B,B+6),(s,s+1)]) (yK wA p.w [115,116,114,105,110,103]) (fun w1 hk1 hq1 hs1=>?_) (by exact kpA)
 have hp1:=hpA.ext hk1
 have hj1:=N.k0 hjA hk1.any
 have hc1:=hp1.hp
 rw[aO]at hc1
 cases hT:p.w.is [115,116,114,105,110,103]with
 |true=>
  rw[hT]at hM
  simp only[Bool.true_or,if_true,Bool.true_and]at hM
  repeat' first|refine .x ?_|refine .y ?_|refine .z ?_|fail
  refine Cl.bind (w0:=w) (X0:=[(B,B+6),(s,s+1)]) hM (qB hp1) hno ?_
  rintro q2 v w2 hM hk2 hq2 hs2 ⟨rfl,hp2⟩
  refine Cl.bind (w0:=w) (X0:=[(B,B+6),(s,s+1)]) hM (N.call hp2 (N.k0 hj1 hk2)) hno ?_
  rintro⟨x3,l3,q3⟩ v w3 hM hk3 hq3 hs3 ⟨rfl,hj3,hp3⟩
  have hc3:=hp3.hp
  rw[aO]at hc3
  have hl3:=hp3.lt
  dsimp only at hM hc3
  unfold wdv
  repeat' first|refine .x ?_|refine .y ?_|refine .z ?_|fail
  have hB:Kp [] w3 (ah (w3.alloc (cl [.int .i64 0,.string ⟨#[]⟩,.int .i64 0,.int .i64 0] 104)) w3.heap.size (cl [i64 x3.kind,.string (bs x3.s),i64 x3.at_,i64 x3.n] 104)):=by exact kpA
  have hB1:(ah (w3.alloc (cl [.int .i64 0,.string ⟨#[]⟩,.int .i64 0,.int .i64 0] 104)) w3.heap.size (cl [i64 x3.kind,.string (bs x3.s),i64 x3.at_,i64 x3.n] 104)).heap[w3.heap.size]?=some (cl [i64 x3.kind,.string (bs x3.s),i64 x3.at_,i64 x3.n] 104):=aj rfl (by simp only[size_alloc];omega)
  generalize ah (w3.alloc (cl [.int .i64 0,.string ⟨#[]⟩,.int .i64 0,.int .i64 0] 104)) w3.heap.size (cl [i64 x3.kind,.string (bs x3.s),i64 x3.at_,i64 x3.n] 104)=wB at *
  have hBs:=lt_of_heap hB1
  refine Jn.by (fun _ w4=>q3.w.is [60]=true∧Kp [] wB w4∧PR B H w4 q3) (fun J hJ=>?_) ?_
  ·repeat' first|refine .x ?_|refine .y ?_|refine .z ?_|fail
   refine Cl.plain (w0:=w) (X0:=[(B,B+6),(s,s+1)]) (yK wB q3.w [60]) (fun w4 hk4 hq4 hs4=>?_) (by exact kpA)
   cases hL:q3.w.is [60]with
   |true=>
    repeat' first|refine .x ?_|refine .y ?_|refine .z ?_|fail
    exact hJ _ _ ⟨hL,hk4,(hp3.ext hB).ext hk4⟩
   |false=>
    rw[hL]at hM
    repeat' first|refine .x ?_|refine .y ?_|refine .z ?_|fail
    refine Cl.bind (w0:=w) (X0:=[(B,B+6),(s,s+1)]) (m:=(bad q3:Res (Bool×Int×PS))) (k:=fun y=>.ok (⟨x3.s,.bytes true y.1 y.2.1⟩,x3,l3,y.2.2)) (by rw[hM];rfl) (GZ ((hp3.ext hB).ext hk4)) hno ?_
    rintro _ _ _ _ _ _ _ hf
    exact hf.elim
  ·rintro _ w4 jk ⟨hL,hk4,hp4⟩
   have hs4:=hk4.size
   rw[hL]at hM
   simp only[Bool.not_true,Bool.false_eq_true,if_false]at hM
   refine Cl.bind (w0:=w) (X0:=[(B,B+6),(s,s+1)]) hM (Gx hp4) hno ?_
   rintro⟨f5,n5,q5⟩ v w5 hM hk5 hq5 hs5 ⟨rfl,hp5⟩
   repeat' first|refine .x ?_|refine .y ?_|refine .z ?_|fail
   refine hok _ _ _ hM (by exact kpA) ⟨H,_,rfl,Gr.refl _ _,rfl,?_,?_⟩
   ·exact N.t (a:=w.heap.size) (b:=w.heap.size+2) (N.k (N.k (N.k hj3 hB.any) hk4.any) hk5) (by exact kpA) (by omega) (by omega)
   ·exact hp5.tmps h (m:=w.heap.size+2) (Gr.refl _ _) (by exact kpA)
 |false=>
  rw[hT]at hM
  simp only[Bool.false_or,Bool.false_and,Bool.false_eq_true,if_false]at hM
  repeat' first|refine .x ?_|refine .y ?_|refine .z ?_|fail
  refine Cl.plain (w0:=w) (X0:=[(B,B+6),(s,s+1)]) (yK w1 p.w [111,112,97,113,117,101]) (fun w1b UE hq1b hs1b=>?_) (by exact kpA)
  have Y5:=hp1.ext UE
  have Zh:=N.k0 hj1 UE.any
  cases hO:p.w.is [111,112,97,113,117,101]with
  |true=>
   rw[hO,if_pos rfl]at hM
   repeat' first|refine .x ?_|refine .y ?_|refine .z ?_|fail
   refine Cl.bind (w0:=w) (X0:=[(B,B+6),(s,s+1)]) hM (qB Y5) hno ?_
   rintro q2 v w2 hM hk2 hq2 hs2 ⟨rfl,hp2⟩
   refine Cl.bind (w0:=w) (X0:=[(B,B+6),(s,s+1)]) hM (N.call hp2 (N.k0 Zh hk2)) hno ?_
   rintro⟨x3,l3,q3⟩ v w3 hM hk3 hq3 hs3 ⟨rfl,hj3,hp3⟩
   have hl3:=hp3.lt
   dsimp only at hM
   unfold wdv
   repeat' first|refine .x ?_|refine .y ?_|refine .z ?_|fail
   have hB:Kp [] w3 (ah (w3.alloc (cl [.int .i64 0,.string ⟨#[]⟩,.int .i64 0,.int .i64 0] 104)) w3.heap.size (cl [i64 x3.kind,.string (bs x3.s),i64 x3.at_,i64 x3.n] 104)):=by exact kpA
   have hB1:(ah (w3.alloc (cl [.int .i64 0,.string ⟨#[]⟩,.int .i64 0,.int .i64 0] 104)) w3.heap.size (cl [i64 x3.kind,.string (bs x3.s),i64 x3.at_,i64 x3.n] 104)).heap[w3.heap.size]?=some (cl [i64 x3.kind,.string (bs x3.s),i64 x3.at_,i64 x3.n] 104):=aj rfl (by simp only[size_alloc];omega)
   generalize ah (w3.alloc (cl [.int .i64 0,.string ⟨#[]⟩,.int .i64 0,.int .i64 0] 104)) w3.heap.size (cl [i64 x3.kind,.string (bs x3.s),i64 x3.at_,i64 x3.n] 104)=wB at *
   have hBs:=lt_of_heap hB1
   refine Jn.direct ?_
   repeat' first|refine .x ?_|refine .y ?_|refine .z ?_|fail
   intro jk
   refine Cl.bind (w0:=w) (X0:=[(B,B+6),(s,s+1)]) hM (Gx (hp3.ext hB)) hno ?_
   rintro⟨f5,n5,q5⟩ v w5 hM hk5 hq5 hs5 ⟨rfl,hp5⟩
   repeat' first|refine .x ?_|refine .y ?_|refine .z ?_|fail
   refine hok _ _ _ hM (by exact kpA) ⟨H,_,rfl,Gr.refl _ _,rfl,?_,?_⟩
   ·exact N.t (a:=w.heap.size) (b:=w.heap.size+2) (N.k (N.k hj3 hB.any) hk5) (by exact kpA) (by omega) (by omega)
   ·exact hp5.tmps h (m:=w.heap.size+2) (Gr.refl _ _) (by exact kpA)
  |false=>
   rw[hO]at hM
   simp only[Bool.false_eq_true,if_false]at hM
   repeat' first|refine .x ?_|refine .y ?_|refine .z ?_|fail
   refine Cl.bind (w0:=w) (X0:=[(B,B+6),(s,s+1)]) hM (Ti Y5) hno ?_
   rintro⟨t2,q2⟩ tv w2 hM hk2 hq2 hs2 ⟨H2,hg2,ht2,hp2⟩
   dsimp only at hM ht2
   obtain⟨ti,tu,rfl⟩:=ht2.form
   have PH:Gr H H2 (w.heap.size+2):=hg2.mono (by omega)
   refine Cl.bind (w0:=w) (X0:=[(B,B+6),(s,s+1)]) hM (gu hp2 [42]) hno ?_
   rintro⟨b3,q3⟩ v w3 hM hk3 hq3 hs3 ⟨rfl,hp3⟩
   cases b3 with
   |true=>
    repeat' first|refine .x ?_|refine .y ?_|refine .z ?_|fail
    simp only[if_true]at hM
    refine Cl.bind (w0:=w) (X0:=[(B,B+6),(s,s+1)]) hM (N.call hp3 (N.k0 (N.k0 Zh hk2) hk3)) hno ?_
    rintro⟨x4,l4,q4⟩ v w4 hM hk4 hq4 hs4 ⟨rfl,hj4,hp4⟩
    have hl4:=hp4.lt
    dsimp only at hM
    have t1:w4.heap[w.heap.size]?=some (cl [.string ⟨#[]⟩,.nilIface] 223):=
     mW hk4 (by omega) ⟨by omega,by omega,trivial⟩ (mW hk3 (by omega) ⟨by omega,trivial⟩ (mW hk2 (by omega) ⟨by omega,trivial⟩ (mW UE (by omega) trivial (mW hk1 (by omega) trivial hA1))))
    have t2:w4.heap[w.heap.size+1]?=some (cl [.int .i64 0,.string ⟨#[]⟩,.int .i64 0,.int .i64 0] 104):=
     mW hk4 (by omega) ⟨by omega,by omega,trivial⟩ (mW hk3 (by omega) ⟨by omega,trivial⟩ (mW hk2 (by omega) ⟨by omega,trivial⟩ (mW UE (by omega) trivial (mW hk1 (by omega) trivial hA2))))
    clear hk1 hk2 hk3 hA1 hA2 UE hA hpA hp1 Y5 hp2
    unfold wdv
    repeat' first|refine .x ?_|refine .y ?_|refine .z ?_|fail
    refine hok _ _ _ hM (by exact kpA) ⟨H2,_,rfl,PH.mono (by omega),⟨_,rfl,ht2⟩,?_,?_⟩
    ·exact N.t (a:=w.heap.size) (b:=w.heap.size+2) hj4 (by exact kpA) (by omega) (by omega)
    ·exact hp4.tmps h (m:=w.heap.size+2) PH (by exact kpA)
   |false=>
    repeat' first|refine .x ?_|refine .y ?_|refine .z ?_|fail
    simp only[Bool.false_eq_true,if_false]at hM
    refine Cl.bind (w0:=w) (X0:=[(B,B+6),(s,s+1)]) hM (N.call hp3 (N.k0 (N.k0 Zh hk2) hk3)) hno ?_
    rintro⟨x4,l4,q4⟩ v w4 hM hk4 hq4 hs4 ⟨rfl,hj4,hp4⟩
    have hl4:=hp4.lt
    have hc4:=hp4.hp
    rw[aO]at hc4
    dsimp only at hM hc4
    unfold wdv
    repeat' first|refine .x ?_|refine .y ?_|refine .z ?_|fail
    have hB:Kp [] w4 (ah (w4.alloc (cl [.int .i64 0,.string ⟨#[]⟩,.int .i64 0,.int .i64 0] 104)) w4.heap.size (cl [i64 x4.kind,.string (bs x4.s),i64 x4.at_,i64 x4.n] 104)):=by exact kpA
    have hB1:(ah (w4.alloc (cl [.int .i64 0,.string ⟨#[]⟩,.int .i64 0,.int .i64 0] 104)) w4.heap.size (cl [i64 x4.kind,.string (bs x4.s),i64 x4.at_,i64 x4.n] 104)).heap[w4.heap.size]?=some (cl [i64 x4.kind,.string (bs x4.s),i64 x4.at_,i64 x4.n] 104):=aj rfl (by simp only[size_alloc];omega)
    generalize ah (w4.alloc (cl [.int .i64 0,.string ⟨#[]⟩,.int .i64 0,.int .i64 0] 104)) w4.heap.size (cl [i64 x4.kind,.string (bs x4.s),i64 x4.at_,i64 x4.n] 104)=wB at *
    have hBs:=lt_of_heap hB1
    refine Jn.by (fun vals w5=>∃d u q,M=.ok (⟨x4.s,d⟩,x4,l4,q)∧vals=[u]∧iM H2 d u∧Kp (PX B) wB w5∧PR B H2 w5 q) (fun J hJ=>?_) ?_
    ·repeat' first|refine .x ?_|refine .y ?_|refine .z ?_|fail
     refine Cl.plain (w0:=w) (X0:=[(B,B+6),(s,s+1)]) (yK wB q4.w [91]) (fun w5 hk5 hq5 hs5=>?_) (by exact kpA)
     have hp5:=(hp4.ext hB).ext hk5
     have hc5:=hp5.hp
     rw[aO]at hc5
     cases hL:q4.w.is [91]with
     |true=>
      rw[hL]at hM
      simp only[Bool.true_or,if_true]at hM
      repeat' first|refine .x ?_|refine .y ?_|refine .z ?_|fail
      refine Cl.bind (w0:=w) (X0:=[(B,B+6),(s,s+1)]) hM (Gx hp5) hno ?_
      rintro⟨f6,n6,q6⟩ v w6 hM hk6 hq6 hs6 ⟨rfl,hp6⟩
      repeat' first|refine .x ?_|refine .y ?_|refine .z ?_|fail
      exact hJ _ _ ⟨_,_,_,hM,rfl,⟨_,rfl,ht2⟩,by exact kpA,hp6⟩
     |false=>
      rw[hL]at hM
      simp only[Bool.false_or]at hM
      repeat' first|refine .x ?_|refine .y ?_|refine .z ?_|fail
      refine Cl.plain (w0:=w) (X0:=[(B,B+6),(s,s+1)]) (yK w5 q4.w [60]) (fun w6 hk6 hq6 hs6=>?_) (by exact kpA)
      have hp6:=hp5.ext hk6
      cases hK:q4.w.is [60]with
      |true=>
       rw[hK,if_pos rfl]at hM
       repeat' first|refine .x ?_|refine .y ?_|refine .z ?_|fail
       refine Cl.bind (w0:=w) (X0:=[(B,B+6),(s,s+1)]) hM (Gx hp6) hno ?_
       rintro⟨f7,n7,q7⟩ v w7 hM hk7 hq7 hs7 ⟨rfl,hp7⟩
       repeat' first|refine .x ?_|refine .y ?_|refine .z ?_|fail
       exact hJ _ _ ⟨_,_,_,hM,rfl,⟨_,rfl,ht2⟩,by exact kpA,hp7⟩
      |false=>
       rw[hK]at hM
       simp only[Bool.false_eq_true,if_false]at hM
       repeat' first|refine .x ?_|refine .y ?_|refine .z ?_|fail
       exact hJ _ _ ⟨_,_,_,hM,rfl,ht2,by exact kpA,hp6⟩
    ·rintro _ w5 jk ⟨d,u,q,hM,rfl,hu,hk5,hp5⟩
     have hs5:=hk5.size
     obtain⟨ui,uu,rfl⟩:=hu.form
     repeat' first|refine .x ?_|refine .y ?_|refine .z ?_|fail
     refine hok _ _ _ hM ?_ ⟨H2,_,rfl,PH.mono (by omega),hu,?_,?_⟩
     ·have:Kp [(B,B+6),(s,s+1)] w w5:=(hq4.out.trans hB fun i _ ho=>⟨ho,trivial⟩).trans hk5 fun i _ ho=>⟨ho,ho.1,trivial⟩
      exact kpA
     ·exact N.t (a:=w.heap.size) (b:=w.heap.size+2) (N.k (N.k hj4 hB.any) hk5) (by exact kpA) (by omega) (by omega)
     ·exact hp5.tmps h (m:=w.heap.size+2) PH (by exact kpA)
end Go.W.T
namespace Go.W.T
open Go Go.W Go.M Go.Proofs
def SlF(H:Hp)(e:TypeId)(n:Nat)(l:List Value)(v:Value):Prop:=∃b rest cap,v=.slice (some ⟨b,0,none⟩) n cap∧H b=some (l++rest,e)
theorem SlF.le{H H':Hp}{e:TypeId}{n:Nat}{l:List Value}{v:Value}(h:SlF H e n l v)(k:Hle H H'):SlF H' e n l v:=by
 obtain⟨b,r,c,h1,h2⟩:=h;exact⟨b,r,c,h1,k _ _ h2⟩
def iC(H:Hp):List Decl→List Value→Prop
 |[],[]=>True
 |d::ds,s::t::r=>s=.string (bs d.name)∧iM H d.ty t∧iC H ds r
 |_,_=>False
def jo(H:Hp):List Arm→List Value→Prop
 |[],[]=>True
 |a::ar,ns::s::t::r=>SlF H fU a.nums.length (a.nums.map i64) ns∧s=.string (bs a.decl.name)∧iM H a.decl.ty t∧jo H ar r
 |_,_=>False
def dR(H:Hp):List rP→List Value→Prop
 |[],[]=>True
 |q::qs,s::n::a::t::r=>s=.string (bs q.name)∧n=.int .u32 q.n∧iM H q.arg a∧iM H q.res t∧dR H qs r
 |_,_=>False
def jl(H:Hp):List uz→List Value→Prop
 |[],[]=>True
 |v::vs,s::n::q::r=>s=.string (bs v.name)∧n=.int .u32 v.n∧(∃l,dR H v.procs l∧SlF H aP v.procs.length l q)∧jl H vs r
 |_,_=>False
def fQ(H:Hp)(d:Def)(v:Value):Prop:=
 match d.k with
 |.const n=>∃b,v=.iface ED (pt b 0)∧H b=some ([.string (bs d.name),i64 d.at_,i64 n],zk)
 |.alias t=>∃b u,v=.iface EE (pt b 0)∧H b=some ([.string (bs d.name),i64 d.at_,u],rZ)∧iM H t u
 |.enum ns is=>∃b u x,v=.iface yB (pt b 0)∧H b=some ([.string (bs d.name),i64 d.at_,u,x],bI)∧SlF H lV ns.length (ns.map κs) u∧SlF H fU is.length (is.map i64) x
 |.struct ds=>∃b u l,v=.iface uH (pt b 0)∧H b=some ([.string (bs d.name),i64 d.at_,u],bV)∧iC H ds l∧SlF H fJ ds.length l u
 |.union of nm ar els=>∃b o u l e,v=.iface vP (pt b 0)∧H b=some ([.string (bs d.name),i64 d.at_,o,.string (bs nm),u,e],aG)∧iM H of o∧jo H ar l∧SlF H bu ar.length l u ∧
   (match els with
    |none=>e=.pointer none
    |some x=>∃c t,e=pt c 0∧H c=some ([.string (bs x.name),t],fJ)∧iM H x.ty t)
 |.prog n vs=>∃b u l,v=.iface su (pt b 0)∧H b=some ([.string (bs d.name),i64 d.at_,.int .u32 n,u],aU)∧jl H vs l∧SlF H ay vs.length l u
theorem iC.le{H H':Hp}(k:Hle H H'):∀{ds:List Decl} {l:List Value},iC H ds l→iC H' ds l
 |[],[],_=>trivial
 |_::_,_::_::_,h=>⟨h.1,h.2.1.le k,iC.le k h.2.2⟩
 |[],_::_,h=>h.elim
 |_::_,[],h=>h.elim
 |_::_,[_],h=>h.elim
theorem iC.snoc{H:Hp}{d:Decl}{t:Value}(ht:iM H d.ty t):∀{ds:List Decl} {l:List Value},iC H ds l→iC H (ds++[d]) (l++[.string (bs d.name),t])
 |[],[],_=>⟨rfl,ht,trivial⟩
 |_::_,_::_::_,h=>⟨h.1,h.2.1,iC.snoc ht h.2.2⟩
 |[],_::_,h=>h.elim
 |_::_,[],h=>h.elim
 |_::_,[_],h=>h.elim
theorem jo.le{H H':Hp}(k:Hle H H'):∀{ds:List Arm} {l:List Value},jo H ds l→jo H' ds l
 |[],[],_=>trivial
 |_::_,_::_::_::_,h=>⟨h.1.le k,h.2.1,h.2.2.1.le k,jo.le k h.2.2.2⟩
 |[],_::_,h=>h.elim
 |_::_,[],h=>h.elim
 |_::_,[_],h=>h.elim
 |_::_,[_,_],h=>h.elim
theorem jo.snoc{H:Hp}{d:Arm}{ns t:Value}(hn:SlF H fU d.nums.length (d.nums.map i64) ns)(ht:iM H d.decl.ty t):∀{ds:List Arm} {l:List Value},jo H ds l→jo H (ds++[d]) (l++[ns,.string (bs d.decl.name),t])
 |[],[],_=>⟨hn,rfl,ht,trivial⟩
 |_::_,_::_::_::_,h=>⟨h.1,h.2.1,h.2.2.1,jo.snoc hn ht h.2.2.2⟩
 |[],_::_,h=>h.elim
 |_::_,[],h=>h.elim
 |_::_,[_],h=>h.elim
 |_::_,[_,_],h=>h.elim
theorem dR.le{H H':Hp}(k:Hle H H'):∀{ds:List rP} {l:List Value},dR H ds l→dR H' ds l
 |[],[],_=>trivial
 |_::_,_::_::_::_::_,h=>⟨h.1,h.2.1,h.2.2.1.le k,h.2.2.2.1.le k,dR.le k h.2.2.2.2⟩
 |[],_::_,h=>h.elim
 |_::_,[],h=>h.elim
 |_::_,[_],h=>h.elim
 |_::_,[_,_],h=>h.elim
 |_::_,[_,_,_],h=>h.elim
theorem dR.snoc{H:Hp}{q:rP}{a t:Value}(ha:iM H q.arg a)(ht:iM H q.res t):∀{ds:List rP} {l:List Value},dR H ds l→dR H (ds++[q]) (l++[.string (bs q.name),.int .u32 q.n,a,t])
 |[],[],_=>⟨rfl,rfl,ha,ht,trivial⟩
 |_::_,_::_::_::_::_,h=>⟨h.1,h.2.1,h.2.2.1,h.2.2.2.1,dR.snoc ha ht h.2.2.2.2⟩
 |[],_::_,h=>h.elim
 |_::_,[],h=>h.elim
 |_::_,[_],h=>h.elim
 |_::_,[_,_],h=>h.elim
 |_::_,[_,_,_],h=>h.elim
theorem jl.le{H H':Hp}(k:Hle H H'):∀{ds:List uz} {l:List Value},jl H ds l→jl H' ds l
 |[],[],_=>trivial
 |_::_,_::_::_::_,h=>⟨h.1,h.2.1,by obtain⟨l,h1,h2⟩:=h.2.2.1;exact⟨l,h1.le k,h2.le k⟩,jl.le k h.2.2.2⟩
 |[],_::_,h=>h.elim
 |_::_,[],h=>h.elim
 |_::_,[_],h=>h.elim
 |_::_,[_,_],h=>h.elim
theorem jl.snoc{H:Hp}{v:uz}{q:Value}{pl:List Value}(hp:dR H v.procs pl)(hq:SlF H aP v.procs.length pl q):∀{ds:List uz} {l:List Value},jl H ds l→jl H (ds++[v]) (l++[.string (bs v.name),.int .u32 v.n,q])
 |[],[],_=>⟨rfl,rfl,⟨pl,hp,hq⟩,trivial⟩
 |_::_,_::_::_::_,h=>⟨h.1,h.2.1,h.2.2.1,jl.snoc hp hq h.2.2.2⟩
 |[],_::_,h=>h.elim
 |_::_,[],h=>h.elim
 |_::_,[_],h=>h.elim
 |_::_,[_,_],h=>h.elim
theorem fQ.le{H H':Hp}{d:Def}{v:Value}(h:fQ H d v)(k:Hle H H'):fQ H' d v:=by
 obtain⟨nm,at_,dk⟩:=d
 cases dk with
 |const n=>obtain⟨b,h1,h2⟩:=h;exact⟨b,h1,k _ _ h2⟩
 |alias t=>obtain⟨b,u,h1,h2,h3⟩:=h;exact⟨b,u,h1,k _ _ h2,h3.le k⟩
 |enum ns is=>obtain⟨b,u,x,h1,h2,h3,h4⟩:=h;exact⟨b,u,x,h1,k _ _ h2,h3.le k,h4.le k⟩
 |struct ds=>obtain⟨b,u,l,h1,h2,h3,h4⟩:=h;exact⟨b,u,l,h1,k _ _ h2,h3.le k,h4.le k⟩
 |union of n ar els=>
  obtain⟨b,o,u,l,e,h1,h2,h3,h4,h5,h6⟩:=h
  refine⟨b,o,u,l,e,h1,k _ _ h2,h3.le k,h4.le k,h5.le k,?_⟩
  cases els with
  |none=>exact h6
  |some x=>obtain⟨c,t,h7,h8,h9⟩:=h6;exact⟨c,t,h7,k _ _ h8,h9.le k⟩
 |prog n vs=>obtain⟨b,u,l,h1,h2,h3,h4⟩:=h;exact⟨b,u,l,h1,k _ _ h2,h3.le k,h4.le k⟩
theorem Ak{α β:Type}[BEq α](f:β→Value)(m:List (α×β))(a:α)(v:β):qH (m.map fun x=>(x.1,f x.2)) a (f v)=(aY m a v).map fun x=>(x.1,f x.2):=by
 induction m with
 |nil=>rfl
 |cons x r ih=>
  simp only[List.map_cons,qH,aY]
  cases a==x.1 with
  |true=>rfl
  |false=>simp only[Bool.false_eq_true,if_false,ih,List.map_cons]
theorem PR.consts{B:Nat}{H:Hp}{w w':World}{p:PS}{l:List (By×Int)}(h:PR B H w p)(k:Kp [(B+2,B+3)] w w')(hc:∃es clock,w'.heap[B+2]?=some (.map es clock)∧MK κs es clock (l.map fun x=>(x.1,i64 x.2))):PR B H w' { p with consts:=l }:=by
 have hl:=h.lt
 have hB:=h.hB
 have hs:∀i,B≤i→i<B+6→i≠B+2→w'.heap[i]?=w.heap[i]?:=fun i a b c=>k.same i (by omega) ⟨by omega,trivial⟩
 obtain⟨b1,b2,b3,b4⟩:=h.hn
 obtain⟨d1,d2,m,d3,d4,d5⟩:=h.he
 obtain⟨f1,f2,f3,f4⟩:=h.hg
 exact { gl:=h.gl.kp k (fun i hi=>⟨by omega,trivial⟩),hB:=h.hB,sub:=h.sub.kp k (fun b x hx=>by have:=h.dom b x hx;exact⟨by omega,trivial⟩),dom:=h.dom,
         lt := by have := k.size; omega, hp := (hs _ (by omega) (by omega) (by omega)).trans h.hp, ht := (hs _ (by omega) (by omega) (by omega)).trans h.ht,
         hn := ⟨b1, b2, (hs _ (by omega) (by omega) (by omega)).trans b3, b4⟩, hc := hc,
         he := ⟨d1, d2, m, (hs _ (by omega) (by omega) (by omega)).trans d3, d4, d5⟩, hg := ⟨f1, f2, (hs _ (by omega) (by omega) (by omega)).trans f3, f4⟩,
         len := h.len, pos := h.pos, c0 := h.c0, c1 := h.c1, c2 := h.c2 }
theorem PR.enums{B:Nat}{H:Hp}{w w':World}{p:PS}{l:List (By×List Int)}(h:PR B H w p)(k:Kp [(B+3,B+4)] w w')(hc:∃es clock m,w'.heap[B+3]?=some (.map es clock)∧MK κs es clock m∧fZ H m l):PR B H w' { p with enums:=l }:=by
 have hl:=h.lt
 have hB:=h.hB
 have hs:∀i,B≤i→i<B+6→i≠B+3→w'.heap[i]?=w.heap[i]?:=fun i a b c=>k.same i (by omega) ⟨by omega,trivial⟩
 obtain⟨b1,b2,b3,b4⟩:=h.hn
 obtain⟨d1,d2,d3,d4⟩:=h.hc
 obtain⟨f1,f2,f3,f4⟩:=h.hg
 exact { gl:=h.gl.kp k (fun i hi=>⟨by omega,trivial⟩),hB:=h.hB,sub:=h.sub.kp k (fun b x hx=>by have:=h.dom b x hx;exact⟨by omega,trivial⟩),dom:=h.dom,
         lt := by have := k.size; omega, hp := (hs _ (by omega) (by omega) (by omega)).trans h.hp, ht := (hs _ (by omega) (by omega) (by omega)).trans h.ht,
         hn := ⟨b1, b2, (hs _ (by omega) (by omega) (by omega)).trans b3, b4⟩, he := hc,
         hc := ⟨d1, d2, (hs _ (by omega) (by omega) (by omega)).trans d3, d4⟩, hg := ⟨f1, f2, (hs _ (by omega) (by omega) (by omega)).trans f3, f4⟩,
         len := h.len, pos := h.pos, c0 := h.c0, c1 := h.c1, c2 := h.c2 }
theorem PR.iQ{B:Nat}{H:Hp}{w w':World}{p:PS}{l:List Int}(h:PR B H w p)(k:Kp [(B+4,B+5)] w w')(hc:ak .u32 w' (B+4) l):PR B H w' { p with iQ:=l }:=by
 have hl:=h.lt
 have hB:=h.hB
 have hs:∀i,B≤i→i<B+6→i≠B+4→w'.heap[i]?=w.heap[i]?:=fun i a b c=>k.same i (by omega) ⟨by omega,trivial⟩
 obtain⟨b1,b2,b3,b4⟩:=h.hn
 obtain⟨d1,d2,d3,d4⟩:=h.hc
 obtain⟨f1,f2,m,f3,f4,f5⟩:=h.he
 exact { gl:=h.gl.kp k (fun i hi=>⟨by omega,trivial⟩),hB:=h.hB,sub:=h.sub.kp k (fun b x hx=>by have:=h.dom b x hx;exact⟨by omega,trivial⟩),dom:=h.dom,
         lt := by have := k.size; omega, hp := (hs _ (by omega) (by omega) (by omega)).trans h.hp, ht := (hs _ (by omega) (by omega) (by omega)).trans h.ht,
         hn := ⟨b1, b2, (hs _ (by omega) (by omega) (by omega)).trans b3, b4⟩, hg := hc,
         hc := ⟨d1, d2, (hs _ (by omega) (by omega) (by omega)).trans d3, d4⟩, he := ⟨f1, f2, m, (hs _ (by omega) (by omega) (by omega)).trans f3, f4, f5⟩,
         len := h.len, pos := h.pos, c0 := h.c0, c1 := h.c1, c2 := h.c2 }
theorem PR.counts{B:Nat}{H:Hp}{w w':World}{p p':PS}(h:PR B H w p)(k:Kp [(B+5,B+6)] w w')(hp:w'.heap[B+5]?=some (cl (aO B p') aI))
  (e:p'={ p with n0:=p'.n0,n1:=p'.n1,n2:=p'.n2 }) (c0:p'.n0≤24) (c1:p'.n1≤40) (c2:p'.n2≤4):PR B H w' p':=by
 have hl:=h.lt
 have ht:w'.heap[B]?=w.heap[B]?:=k.same B (by omega) ⟨by omega,trivial⟩
 have e1:p'.txt=p.txt:=by rw[e]
 have e2:p'.pos=p.pos:=by rw[e]
 exact h.step (k.mono fun i hi ho=>⟨ho.2.1,trivial⟩) hp (by rw[ht,h.ht,e1,e2]) (by rw[e]) (by rw[e]) (by rw[e]) (by rw[e]) e1 (by rw[e1,e2];exact h.pos) c0 c1 c2
theorem PR.own{B:Nat}{H:Hp}{w w':World}{p:PS}{o:Option Nat}(h:PR B H w p)(k:Kp (own o) w w')(ho:∀b,o=some b→B+6≤b∧H b=none):PR B H w' p:=by
 cases o with
 |none=>exact h.ext k
 |some b=>obtain⟨h1,h2⟩:=ho b rfl;exact h.tmp k h1 h2
theorem aW{B:Nat}{H:Hp}{w:World}{p:PS}(h:PR B H w p)(l:List By){b:Nat}{t:TypeId}{lv:List Value}(hb:w.heap[b]?=some (cl lv t):=by exact lookA)(hlv:l.map κs=lv:=by rfl)
  (hB:B+6≤b:=by omega) (hl:l.length<100:=by decide):
  Calls P iY #[pt (B+5) 0,.slice (some ⟨b,0,none⟩) l.length l.length] w (Post w (want p l) (PX B) fun p' v w'=>v=.tuple #[]∧PR B H w' p'):=by
 subst hlv
 exact JR h l hb hB hl
theorem LG{B s:Nat}{H:Hp}{w:World}{p:PS}{l:List By}(h:PR B H w p)(hs:B+6≤s)(hset:aF w s l):
  Calls P mO #[pt (B+5) 0,.map (some s)] w (Post w (member p l) [(B,B+6),(s,s+1)] fun x v w'=>∃H' tv,v=.agg #[.string (bs x.1.name),tv]∧Gr H H' w.heap.size∧iM H' x.1.ty tv∧aF w' s x.2.1∧PR B H' w' x.2.2):=by
 refine Post.R fun R M hM hok hno=>?_
 apply xO
 unfold lY
 have hl:=h.lt
 have hsl:s<w.heap.size:=by obtain⟨_,_,a,_⟩:=hset;exact lt_of_heap a
 rw[member]at hM
 repeat' first|refine .x ?_|refine .y ?_|refine .z ?_|fail
 have h0:=h.ext (w':=w.alloc (cl [.string ⟨#[]⟩,.nilIface] 223)) (by exact kpA)
 refine Cl.bind (w0:=w) (X0:=[(B,B+6),(s,s+1)]) hM (Tn (V8 hs l) h0 (aF.kp (X:=[]) hset (by exact kpA) trivial)) hno ?_
 rintro⟨d,x,l',q⟩ v w1 hM hk1 hq1 hs1 ⟨H1,tv,rfl,hg1,ht1,Iq,hp1⟩
 rw[size_alloc]at hs1
 dsimp only at hM ht1 Iq hp1
 obtain⟨ti,tu,rfl⟩:=ht1.form
 unfold wdv
 have hl1:=hp1.lt
 repeat' first|refine .x ?_|refine .y ?_|refine .z ?_|fail
 have hg1':Gr H H1 (w.heap.size+1):=hg1.mono (by rw[size_alloc];omega)
 refine Cl.bind (w0:=w) (X0:=[(B,B+6),(s,s+1)]) hM (aW (hp1.ext (by exact kpA)) [[59]]) hno ?_
 rintro q2 v w2 hM hk2 hq2 hs2 ⟨rfl,hp2⟩
 have hl2:=hp2.lt
 simp only[size_alloc,ag,size_drew]at hs2
 repeat' first|refine .x ?_|refine .y ?_|refine .z ?_|fail
 refine hok _ _ _ hM (by exact kpA) ⟨H1,_,rfl,hg1'.mono (by omega),ht1,?_,?_⟩
 ·exact aF.kp (X:=[(w.heap.size,w.heap.size+1)]) (aF.kp (aF.kp (X:=[]) Iq (by exact kpA) trivial) hk2 ⟨by omega,trivial⟩) (by exact kpA) ⟨by omega,trivial⟩
 ·exact hp2.tmps h (m:=w.heap.size+1) hg1' (by exact kpA)
theorem OQ{B:Nat}{H:Hp}{w:World}{p:PS}(h:PR B H w p):
  Calls P jK #[pt (B+5) 0] w (Post w (constant p) (PX B) fun x v w'=>∃H',Gr H H' w.heap.size∧fQ H' x.1 v∧PR B H' w' x.2):=by
 refine Post.R fun R M hM hok hno=>?_
 apply vG
 unfold jF
 have hp:=h.hp
 have hl:=h.lt
 rw[aO]at hp
 rw[constant]at hM
 repeat' first|refine .x ?_|refine .y ?_|refine .z ?_|fail
 refine Cl.eX (w0:=w) (X0:=PX B) hM (iO h p.n1 40) hno ?_
 rintro _ v w1 e1 hM hk1 hq1 hs1 rfl
 have c1:=gJ e1
 repeat' first|refine .x ?_|refine .y ?_|refine .z ?_|fail
 refine Cl.eX (w0:=w1) (X0:=PX B) hM (aW (h.ext (by exact kpA)) [[99,111,110,115,116]]) hno ?_
 rintro q2 v w2 e2 hM hk2 hq2 hs2 ⟨rfl,hp2⟩
 have hl2:=hp2.lt
 rw[size_alloc]at hs2
 refine Cl.eX (w0:=w1) (X0:=PX B) hM (Jj hp2) hno ?_
 rintro⟨x3,q3⟩ v w3 e3 hM hk3 hq3 hs3 ⟨rfl,hp3⟩
 have hl3:=hp3.lt
 dsimp only at hM e3
 repeat' first|refine .x ?_|refine .y ?_|refine .z ?_|fail
 refine Cl.eX (w0:=w1) (X0:=PX B) hM (aW (hp3.ext (by exact kpA)) [[61]]) hno ?_
 rintro q4 v w4 e4 hM hk4 hq4 hs4 ⟨rfl,hp4⟩
 have hl4:=hp4.lt
 simp only[size_alloc,ag]at hs4
 have hb4:w4.heap[w3.heap.size]?=some (cl [.string (bs x3.s),i64 x3.at_] 194):=by exact lookA
 refine Cl.eX (w0:=w1) (X0:=PX B) hM (GV hp4 least top) hno ?_
 rintro⟨n5,u5,q5⟩ v w5 e5 hM hk5 hq5 hs5 ⟨rfl,hp5⟩
 have hl5:=hp5.lt
 dsimp only at hM e5 hp5
 have hb5:w5.heap[w3.heap.size]?=some (cl [.string (bs x3.s),i64 x3.at_] 194):=by exact lookA
 repeat' first|refine .x ?_|refine .y ?_|refine .z ?_|fail
 refine Cl.eX (w0:=w1) (X0:=PX B) hM (aW (hp5.ext (by exact kpA)) [[59]]) hno ?_
 rintro q6 v w6 e6 hM hk6 hq6 hs6 ⟨rfl,hp6⟩
 have hl6:=hp6.lt
 simp only[size_alloc,ag]at hs6
 have hb6:w6.heap[w3.heap.size]?=some (cl [.string (bs x3.s),i64 x3.at_] 194):=by exact lookA
 have hc6:=hp6.hp
 rw[aO]at hc6
 obtain⟨es,ck,hm1,hm2⟩:=hp6.hc
 have hn:q6.n1=p.n1:=by
  have a1:=iq e2
  have a2:=CQ e3
  have a3:=iq e4
  have a4:=Ad e5
  have a5:=iq e6
  simp only[nn,Prod.mk.injEq]at a1 a2 a3 a4 a5
  omega
 repeat' first|refine .x ?_|refine .y ?_|refine .z ?_|fail
 refine Mu.str hm2 (by exact lookA) fun es' ck' hm'=>?_
 rw[Ak (f:=i64)]at hm'
 repeat' first|refine .x ?_|refine .y ?_|refine .z ?_|fail
 have a1:PR B H (ah w6.drew (B+5) (cl (aO B { q6 with n1:=q6.n1+1 }) aI)) { q6 with n1:=q6.n1+1 }:=
  hp6.counts (by exact kpA) (aj rfl (by simp only[size_drew];omega)) rfl hp6.c0 (by show q6.n1+1≤40;omega) hp6.c2
 have a2:=(a1.ext (w':=(ah w6.drew (B+5) (cl (aO B { q6 with n1:=q6.n1+1 }) aI)).drew) (by exact kpA)).consts (l:=aY q6.consts x3.s n5) (w':=ah (ah w6.drew (B+5) (cl (aO B { q6 with n1:=q6.n1+1 }) aI)).drew (B+2) (.map es' ck')) (by exact kpA) ⟨es',ck',aj rfl (by simp only[size_drew,ag];omega),hm'⟩
 have a3:=a2.ext (w':=(ah (ah w6.drew (B+5) (cl (aO B { q6 with n1:=q6.n1+1 }) aI)).drew (B+2) (.map es' ck')).alloc (cl [.string (bs x3.s),i64 x3.at_,i64 n5] zk)) (by exact kpA)
 have hnew:H w6.heap.size=none:=hp6.sub.fresh (Nat.le_refl _)
 exact hok _ _ _ hM (by exact kpA) ⟨_,Gr.add (b:=w6.heap.size) hnew (by omega),⟨_,rfl,Bf ..⟩,a3.add (by exact lookA) (by omega) hnew⟩
theorem VB{B:Nat}{H:Hp}{w:World}{p:PS}(h:PR B H w p):
  Calls P oq #[pt (B+5) 0] w (Post w (alias p) (PX B) fun x v w'=>∃H',Gr H H' w.heap.size∧fQ H' x.1 v∧PR B H' w' x.2):=by
 refine Post.R fun R M hM hok hno=>?_
 apply yQ
 unfold nM
 have hl:=h.lt
 rw[alias]at hM
 repeat' first|refine .x ?_|refine .y ?_|refine .z ?_|fail
 refine Cl.bind (w0:=w) (X0:=PX B) hM (aW (h.ext (by exact kpA)) [[116,121,112,101,100,101,102]]) hno ?_
 rintro q1 v w1 hM hk1 hq1 hs1 ⟨rfl,hp1⟩
 have hl1:=hp1.lt
 rw[size_alloc]at hs1
 have hc1:=hp1.hp
 rw[aO]at hc1
 repeat' first|refine .x ?_|refine .y ?_|refine .z ?_|fail
 refine Cl.bind (w0:=w) (X0:=PX B) hM (Tn V9 hp1 trivial) hno ?_
 rintro⟨d,x,l',q2⟩ v w2 hM hk2 hq2 hs2 ⟨H2,tv,rfl,hg2,ht2,_,hp2⟩
 have hl2:=hp2.lt
 dsimp only at hM ht2 hp2
 obtain⟨ti,tu,rfl⟩:=ht2.form
 unfold wdv
 repeat' first|refine .x ?_|refine .y ?_|refine .z ?_|fail
 refine Cl.bind (w0:=w) (X0:=PX B) hM (aW (hp2.ext (by exact kpA)) [[59]]) hno ?_
 rintro q3 v w3 hM hk3 hq3 hs3 ⟨rfl,hp3⟩
 have hl3:=hp3.lt
 simp only[size_alloc,ag]at hs3
 have hb3:w3.heap[w2.heap.size]?=some (cl [.string (bs d.name),.iface ti tu] fJ):=by exact lookA
 have hb4:w3.heap[w2.heap.size+1]?=some (cl [i64 x.kind,.string (bs x.s),i64 x.at_,i64 x.n] Dl):=by exact lookA
 repeat' first|refine .x ?_|refine .y ?_|refine .z ?_|fail
 have a3:=hp3.ext (w':=w3.alloc (cl [.string (bs x.s),i64 x.at_,.iface ti tu] rZ)) (by exact kpA)
 have hnew:H2 w3.heap.size=none:=hp3.sub.fresh (Nat.le_refl _)
 have hg3:Gr H2 _ w3.heap.size:=Gr.add (b:=w3.heap.size) (l:=[.string (bs x.s),i64 x.at_,.iface ti tu]) (t:=rZ) hnew (Nat.le_refl _)
 exact hok _ _ _ hM (by exact kpA) ⟨_,(hg2.trans hg3 (by omega)).mono (by omega),⟨_,_,rfl,Bf ..,ht2.le hg3.1⟩,a3.add (by exact lookA) (by omega) hnew⟩
end Go.W.T
namespace Go.W.T
open Go Go.W Go.M Go.Proofs
theorem Gw.some{w:World}{e:TypeId}{m:Nat}{v:Value}{n:Nat}{l:List Value}{o:Option Nat}(h:Gw w e m v n l o)(hn:0<n):∃b rest cap,o=some b∧v=.slice (some ⟨b,0,none⟩) n cap∧w.heap[b]?=some (cl (l++rest) e):=by
 obtain⟨h1,h2⟩:=h
 cases o with
 |none=>omega
 |some b=>obtain⟨r,c,h3,h4,_⟩:=h2;exact⟨b,r,c,rfl,h3,h4⟩
theorem PR.frz{B:Nat}{H H':Hp}{w:World}{p:PS}{n b:Nat}{l:List Value}{t:TypeId}(h:PR B H' w p)(g:Gr H H' n)(hb:w.heap[b]?=some (cl l t))(hB:B+6≤b)(hH:H' b=none)(hn:n≤b):
  ∃H2,Gr H H2 n∧Hle H' H2∧PR B H2 w p∧H2 b=some (l,t)∧∀c,c≠b→H2 c=H' c:=by
 have h1:Gr H' (hadd H' b l t) n:=Gr.add hH hn
 exact⟨hadd H' b l t,g.trans h1 (Nat.le_refl _),h1.1,h.add hb hB hH,Bf ..,fun c hc=>by rw[hadd,if_neg hc]⟩
theorem fZ.aY{H:Hp}{a:By}{v:Value}{ns:List Int}(h:Dc H v ns):∀{m:List (By×Value)} {l:List (By×List Int)},fZ H m l→fZ H (qH m a v) (aY l a ns)
 |[],[],_=>⟨rfl,h,trivial⟩
 |x::m,y::l,h1=>by
  obtain⟨h2,h3,h4⟩:=h1
  unfold qH M.aY
  rw[h2]
  cases a==y.1 with
  |true=>exact⟨rfl,h,h4⟩
  |false=>exact⟨h2,h3,fZ.aY h h4⟩
 |[],_::_,h1=>h1.elim
 |_::_,[],h1=>h1.elim
theorem Ul{B s:Nat}{H:Hp}{p:PS}{is:List Int}(hs:B+6≤s)(hH:H s=none):
  AX (.func (.func 121) #[.map (some s)] #[]) (fun n a=>once is n a) (fun w=>PR B H w p∧ak .i64 w s is) (fun l w=>PR B H w p∧ak .i64 w s l) [(s,s+1)]:=by
 refine Or.inr ⟨rfl,fun w n a E K ⟨h1,h2⟩ hok hno=>?_⟩
 refine eY.f (by kernel_rfl) ?_
 refine Cl.by (Jl w s is n a h2) ?_ ?_ ?_
 ·rintro v w' ⟨hk,hp⟩
  cases hm:once is n a with
  |ok l=>
   rw[hm]at hp
   obtain⟨v',hv,hl⟩:=hp
   cases hv
   exact hok l v w' hm hk hk.size ⟨h1.tmp hk hs hH,hl⟩
  |no e c=>rw[hm]at hp;obtain⟨_,hv,_⟩:=hp;cases hv
 ·rintro ch w' ⟨hk,hp⟩
  cases hm:once is n a with
  |ok l=>rw[hm]at hp;obtain⟨_,hv,_⟩:=hp;cases hv
  |no e c=>rw[hm]at hp;obtain⟨_,hv,hf⟩:=hp;cases hv;exact hno e c ch w' hm hk hf
 ·rintro w' ⟨hk,hp⟩
  cases hm:once is n a with
  |ok l=>rw[hm]at hp;obtain⟨_,hv,_⟩:=hp;cases hv
  |no e c=>rw[hm]at hp;obtain⟨_,hv,_⟩:=hp;cases hv
theorem PV(p:PS):∀s:List Int,advance p=(advance p).andThen fun q=>.ok q:=fun _=>by cases advance p<;>rfl
theorem Yn{B:Nat}{H:Hp}{w:World}{p:PS}(h:PR B H w p):
  Calls P qj #[pt (B+5) 0] w (Post w (enum p) (PX B) fun x v w'=>∃H',Gr H H' w.heap.size∧fQ H' x.1 v∧PR B H' w' x.2):=by
 refine Post.R fun R M hM hok hno=>?_
 apply zT
 unfold pM
 have hl:=h.lt
 have hfr:∀b,w.heap.size≤b→H b=none:=fun b hb=>h.sub.fresh hb
 rw[enum]at hM
 repeat' first|refine .x ?_|refine .y ?_|refine .z ?_|fail
 refine Cl.bind (w0:=w) (X0:=PX B) hM (aW (h.ext (by exact kpA)) [[101,110,117,109]]) hno ?_
 rintro q1 v w1 hM hk1 hq1 hs1 ⟨rfl,hp1⟩
 have hl1:=hp1.lt
 rw[size_alloc]at hs1
 refine Cl.bind (w0:=w) (X0:=PX B) hM (Jj hp1) hno ?_
 rintro⟨x,q2⟩ v w2 hM hk2 hq2 hs2 ⟨rfl,hp2⟩
 have hl2:=hp2.lt
 dsimp only at hM hp2
 repeat' first|refine .x ?_|refine .y ?_|refine .z ?_|fail
 refine Cl.bind (w0:=w) (X0:=PX B) hM (aW (hp2.ext (by exact kpA)) [[123]]) hno ?_
 rintro q3 v w3 hM hk3 hq3 hs3 ⟨rfl,hp3⟩
 have hl3:=hp3.lt
 simp only[size_alloc,ag]at hs3
 have he3:w3.heap[w2.heap.size]?=some (cl [.string (bs x.s),i64 x.at_,.slice none 0 0,.slice none 0 0] bI):=by exact lookA
 have Y3:Kp (PX B) w w3:=hq3.out
 repeat' first|refine .x ?_|refine .y ?_|refine .z ?_|fail
 refine Lp.nat (n:=12) (fun n vals w'=>∃(p':PS) (ns:List By) (is:List Int) (v1 v2:Value) (o1 o2:Option Nat),vals=[]∧ns.length+n=12∧is.length=ns.length∧PR B H w' p' ∧
  w'.heap[w2.heap.size]?=some (cl [.string (bs x.s),i64 x.at_,v1,v2] bI)∧Gw w' lV 1 v1 ns.length (ns.map κs) o1∧Gw w' fU 1 v2 ns.length (is.map i64) o2∧ak .i64 w' w3.heap.size is ∧
  (∀b,o1=some b→w3.heap.size<b∧o2≠some b)∧(∀b,o2=some b→w3.heap.size<b)∧Kp (PX B) w w'∧w3.heap.size<w'.heap.size ∧
  M=(um n p' ns is).andThen fun x_1=>(want x_1.2.2 [[125],[59]]).andThen fun p=>.ok (⟨x.s,x.at_,.enum x_1.1 x_1.2.1⟩,{ p with enums:=aY p.enums x.s x_1.2.1 })) ?_ ?_
 ·refine⟨q3,[],[],.slice none 0 0,.slice none 0 0,none,none,rfl,rfl,rfl,hp3.ext (by exact kpA),by exact lookA,Gw.nil _ _ _,Gw.nil _ _ _,⟨#[],0,aK ..,MK.empty⟩,by simp,by simp,by exact kpA,by simp only[size_alloc];omega,hM⟩
 rintro n _ wL jk C ⟨p',ns,is,v1,v2,o1,o2,rfl,hn,hlen,hpL,heL,hg1,hg2,hsL,ho1,ho2,hkL,WJ,hML⟩ hC
 obtain⟨a1,cp1,rfl⟩:=hg1.len
 obtain⟨a2,cp2,rfl⟩:=hg2.len
 have hcL:=hpL.hp
 have hlL:=hpL.lt
 rw[aO]at hcL
 repeat' first|refine .x ?_|refine .y ?_|refine .z ?_|fail
 cases n with
 |zero=>
  refine Cl.eX (w0:=w) (X0:=PX B) (m:=count p' ns.length 12) (k:=fun _=>M) ?_ (iO hpL ns.length 12) hno ?_
  ·rw[count,if_pos (by omega)];rw[hML,um];rfl
  ·rintro _ v w4 e4
   have:=gJ e4
   omega
 |succ n=>
 refine Cl.eX (w0:=w) (X0:=PX B) (m:=count p' ns.length 12) (k:=fun _=>M) (by rw[count,if_neg (by omega)];rfl) (iO hpL ns.length 12) hno ?_
 rintro _ v w4 e4 _ hk4 hq4 hs4 rfl
 rw[um]at hML
 simp only[Res.assoc]at hML
 have c1:=gJ e4
 repeat' first|refine .x ?_|refine .y ?_|refine .z ?_|fail
 refine Cl.eX (w0:=w) (X0:=PX B) hML (iO hpL p'.n1 40) hno ?_
 rintro _ v w5 e5 hM5 hk5 hq5 hs5 rfl
 have c2:=gJ e5
 refine Cl.eX (w0:=w) (X0:=PX B) hM5 (Jj hpL) hno ?_
 rintro⟨x6,q6⟩ v w6 e6 hM6 hk6 hq6 hs6 ⟨rfl,hp6⟩
 have hl6:=hp6.lt
 dsimp only at hM6 hp6 e6
 repeat' first|refine .x ?_|refine .y ?_|refine .z ?_|fail
 refine Cl.eX (w0:=w) (X0:=PX B) hM6 (aW (hp6.ext (by exact kpA)) [[61]]) hno ?_
 rintro q7 v w7 e7 hM7 hk7 hq7 hs7 ⟨rfl,hp7⟩
 have hl7:=hp7.lt
 simp only[size_alloc,ag]at hs7
 have hb7:w7.heap[w6.heap.size]?=some (cl [.string (bs x6.s),i64 x6.at_] zh):=by exact lookA
 have hkA:Kp (PX B) w5 w7:=by exact kpA
 have he7:w7.heap[w2.heap.size]?=some (cl [.string (bs x.s),i64 x.at_,.slice a1 ns.length cp1,.slice a2 ns.length cp2] bI):=(hkA.same w2.heap.size (by omega) ⟨by omega,trivial⟩).trans heL
 have hs7':=ak.kp hsL hkA ⟨by omega,trivial⟩
 refine Cl.eX (w0:=w) (X0:=PX B) hM7 (zf hp7 least Qs _ _ (fun w=>PR B H w q7∧ak .i64 w w3.heap.size is) (fun l w=>PR B H w q7∧ak .i64 w w3.heap.size l) [(w3.heap.size,w3.heap.size+1)] (fun _ q=>q)
  ⟨hp7,hs7'⟩ (fun _ _ a k=>⟨a.1.ext k,ak.kp a.2 k trivial⟩) (Ul (by omega) (hfr _ (by omega))) (fun _ _ a=>a.1) (PV q7)) hno ?_
 rintro⟨n8,l8,q8⟩ v w8 e8 hM8 hk8 hq8 hs8 ⟨rfl,hp8,wI,⟨_,hsI⟩,hkI⟩
 have hl8:=hp8.lt
 dsimp only at hM8 hp8 e8 hsI
 have hs8':=ak.kp hsI hkI ⟨by omega,trivial⟩
 clear hkI
 have hb8:w8.heap[w6.heap.size]?=some (cl [.string (bs x6.s),i64 x6.at_] zh):=by exact lookA
 have he8:w8.heap[w2.heap.size]?=some (cl [.string (bs x.s),i64 x.at_,.slice a1 ns.length cp1,.slice a2 ns.length cp2] bI):=by exact lookA
 have hkB:Kp [(B,B+6),(w3.heap.size,w3.heap.size+1)] w5 w8:=by exact kpA
 have hc8:=hp8.hp
 rw[aO]at hc8
 have hn8:q8.n1=p'.n1:=by
  have a1:=CQ e6
  have a2:=iq e7
  have a3:=Ad e8
  simp only[nn,Prod.mk.injEq]at a1 a2 a3
  omega
 obtain⟨es,ck,hm1,hm2⟩:=hp8.hc
 repeat' first|refine .x ?_|refine .y ?_|refine .z ?_|fail
 refine Mu.str hm2 (by exact lookA) fun es' ck' hm'=>?_
 rw[Ak (f:=i64)]at hm'
 have b1:PR B H (ah w8.drew (B+5) (cl (aO B { q8 with n1:=q8.n1+1 }) aI)) { q8 with n1:=q8.n1+1 }:=
  hp8.counts (by exact kpA) (aj rfl (by simp only[size_drew];omega)) rfl hp8.c0 (by show q8.n1+1≤40;omega) hp8.c2
 have b2:PR B H (ah (ah w8.drew (B+5) (cl (aO B { q8 with n1:=q8.n1+1 }) aI)).drew (B+2) (.map es' ck')) { q8 with n1:=q8.n1+1,consts:=aY q8.consts x6.s n8 }:=
  (b1.ext (w':=(ah w8.drew (B+5) (cl (aO B { q8 with n1:=q8.n1+1 }) aI)).drew) (by exact kpA)).consts (l:=aY q8.consts x6.s n8) (by exact kpA) ⟨es',ck',aj rfl (by simp only[size_drew,ag];omega),hm'⟩
 repeat' first|refine .x ?_|refine .y ?_|refine .z ?_|fail
 refine Ap.w (fun w9=>Kp [(B,B+6),(w3.heap.size,w3.heap.size+1)] w5 w9∧PR B H w9 { q8 with n1:=q8.n1+1,consts:=aY q8.consts x6.s n8 } ∧
   w9.heap[w2.heap.size]?=some (cl [.string (bs x.s),i64 x.at_,.slice a1 ns.length cp1,.slice a2 ns.length cp2] bI)∧w9.heap[w8.heap.size]?=some (cl [κs x6.s] lV) ∧
   ak .i64 w9 w3.heap.size l8∧w8.heap.size<w9.heap.size) ⟨by exact kpA,b2.ext (by exact kpA),by exact lookA,by exact lookA,ak.kp (X:=[(B,B+6)]) hs8' (by exact kpA) ⟨by omega,trivial⟩,by simp only[size_alloc,size_drew,ag];omega⟩ ?_
 rintro w9 ⟨k9,b9,e9,n9,s9,z9⟩
 have g19:=hg1.kp k9 (fun b hb=>⟨by have:=ho1 b hb;omega,by have:=ho1 b hb;omega,trivial⟩)
 have g29:=hg2.kp k9 (fun b hb=>⟨by have:=ho2 b hb;omega,by have:=ho2 b hb;omega,trivial⟩)
 refine Ap.g g19 n9 rfl rfl ?_ (by omega)
 intro v1 w10 o1' g1 Ir k10
 have z10:=k10.size
 have e10:=(k10.same w2.heap.size (by omega) (aB fun hb=>by have:=ho1 _ hb;omega)).trans e9
 have s10:=ak.kp s9 k10 (aB fun hb=>by have:=ho1 _ hb;omega)
 have b10:=b9.own k10 (fun b hb=>by have:=ho1 b hb;exact⟨by omega,hfr b (by omega)⟩)
 have g2:=g29.kp k10 (fun b hb=>aB fun hb2=>(ho1 b hb2).2 hb)
 obtain⟨a1',rJ,rfl⟩:=g1.len
 repeat' first|refine .x ?_|refine .y ?_|refine .z ?_|fail
 refine Ap.w (fun w9=>Kp [(w2.heap.size,w2.heap.size+1)] w10 w9 ∧
   w9.heap[w2.heap.size]?=some (cl [.string (bs x.s),i64 x.at_,.slice a1' (ns.length+1) rJ,.slice a2 ns.length cp2] bI)∧w9.heap[w10.heap.size]?=some (cl [.int .i64 n8] fU)) ⟨by exact kpA,by exact lookA,by exact lookA⟩ ?_
 rintro w11 ⟨k11,e11,n11⟩
 have z11:=k11.size
 have b11:=b10.tmp k11 (by omega) (hfr _ (by omega))
 have s11:=ak.kp s10 k11 ⟨by omega,trivial⟩
 have g11:=g1.kp k11 (fun b hb=>⟨by rcases Ir with r|r<;>rw[r]at hb;· have:=ho1 b hb;omega
                                    · cases hb; omega, trivial⟩)
 have g21:=g2.kp k11 (fun b hb=>⟨by have:=ho2 b hb;omega,trivial⟩)
 refine Ap.g g21 n11 rfl rfl ?_ (by omega)
 intro v2 w12 o2' g22 Za k12
 have z12:=k12.size
 have e12:=(k12.same w2.heap.size (by omega) (aB fun hb=>by have:=ho2 _ hb;omega)).trans e11
 have s12:=ak.kp s11 k12 (aB fun hb=>by have:=ho2 _ hb;omega)
 have b12:=b11.own k12 (fun b hb=>by have:=ho2 b hb;exact⟨by omega,hfr b (by omega)⟩)
 have g12:=g11.kp k12 (fun b hb=>aB fun hb2=>by
  rcases Ir with r|r<;>rw[r]at hb
  ·exact(ho1 b hb).2 hb2
  ·cases hb;have:=hg2.lt _ hb2;have:=k9.size;omega)
 obtain⟨a2',UY,rfl⟩:=g22.len
 repeat' first|refine .x ?_|refine .y ?_|refine .z ?_|fail
 have hl8e:l8=is++[n8]:=O0 e8
 refine Cl.w (fun w9=>Kp [(w2.heap.size,w2.heap.size+1)] w12 w9 ∧
   w9.heap[w2.heap.size]?=some (cl [.string (bs x.s),i64 x.at_,.slice a1' (ns.length+1) rJ,.slice a2' (ns.length+1) UY] bI)) ⟨by exact kpA,by exact lookA⟩ ?_
 rintro w13 ⟨k13,e13⟩
 have z13:=k13.size
 have b13:=b12.tmp k13 (by omega) (hfr _ (by omega))
 have s13:=ak.kp s12 k13 ⟨by omega,trivial⟩
 have o1f:∀b,o1'=some b→w3.heap.size<b∧o2'≠some b:=by
  intro b hb
  rcases Ir with r|r<;>rw[r]at hb
  ·have h1:=ho1 b hb
   refine⟨h1.1,fun h2=>?_⟩
   rcases Za with r2|r2<;>rw[r2]at h2
   ·exact h1.2 h2
   ·cases h2;have:=hg1.lt _ hb;have:=k9.size;omega
  ·cases hb
   refine⟨by omega,fun h2=>?_⟩
   rcases Za with r2|r2<;>rw[r2]at h2
   ·have:=hg2.lt _ h2;have:=k9.size;omega
   ·have h3:=Option.some.inj h2;have h4:=lt_of_heap n11;have h5:=g11.lt _ r;have:=lt_of_heap n9;omega
 have o2f:∀b,o2'=some b→w3.heap.size<b:=by
  intro b hb
  rcases Za with r|r<;>rw[r]at hb
  ·exact ho2 b hb
  ·cases hb;omega
 have g13:=g12.kp k13 (fun b hb=>⟨by have:=o1f b hb;omega,trivial⟩)
 have g23:=g22.kp k13 (fun b hb=>⟨by have:=o2f b hb;omega,trivial⟩)
 have kk:Kp (PX B) w w13:=by
  have c1:Kp (PX B) w w9:=hkL.trans k9 (fun i hi ho=>⟨ho,ho.1,by omega,trivial⟩)
  have c2:=c1.own k10 (fun b hb=>by have:=ho1 b hb;omega)
  have c3:Kp (PX B) w w11:=c2.trans k11 (fun i hi ho=>⟨ho,by omega,trivial⟩)
  have c4:=c3.own k12 (fun b hb=>by have:=ho2 b hb;omega)
  exact c4.trans k13 (fun i hi ho=>⟨ho,by omega,trivial⟩)
 refine Cl.bind (w0:=w) (X0:=PX B) (hkp:=kk) hM8 (gu b13 [44]) hno ?_
 rintro⟨bb,q14⟩ v w14 CX Je Uz hs14 ⟨hv,E8⟩
 dsimp only at CX E8 hv
 subst hv
 have g14:=g13.kp Je (fun b hb=>⟨by have:=o1f b hb;omega,trivial⟩)
 have g24:=g23.kp Je (fun b hb=>⟨by have:=o2f b hb;omega,trivial⟩)
 have e14:w14.heap[w2.heap.size]?=some (cl [.string (bs x.s),i64 x.at_,.slice a1' (ns.length+1) rJ,.slice a2' (ns.length+1) UY] bI):=by exact lookA
 rw[hl8e]at s13
 have en:(ns++[x6.s]).length=ns.length+1:=by simp
 have em1:(ns++[x6.s]).map κs=ns.map κs++[κs x6.s]:=by simp
 have em2:(is++[n8]).map i64=is.map i64++[.int .i64 n8]:=by simp
 cases bb with
 |true=>
  repeat' first|refine .x ?_|refine .y ?_|refine .z ?_|fail
  refine hC n [] w14 (by omega) ⟨q14,ns++[x6.s],is++[n8],_,_,o1',o2',rfl,by rw[en];omega,by simp;omega,E8,e14,by rw[en,em1];exact g14,by rw[en,em2];exact g24,ak.kp s13 Je ⟨by omega,trivial⟩,o1f,o2f,Uz.out,by omega,CX⟩
 |false=>
  repeat' first|refine .x ?_|refine .y ?_|refine .z ?_|fail
  simp only[Bool.false_eq_true,if_false,Res.dw]at CX
  refine Cl.bind (w0:=w) (X0:=PX B) CX (aW (E8.ext (by exact kpA)) [[125],[59]]) hno ?_
  rintro q15 v w15 Sm Zf Y4 WL ⟨rfl,Jd⟩
  have hl15:=Jd.lt
  simp only[size_alloc]at WL
  have e15:w15.heap[w2.heap.size]?=some (cl [.string (bs x.s),i64 x.at_,.slice a1' (ns.length+1) rJ,.slice a2' (ns.length+1) UY] bI):=by exact lookA
  have WI:Kp (PX B) w14 w15:=by exact kpA
  have g15:=g14.kp WI (fun b hb=>⟨by have:=o1f b hb;omega,trivial⟩)
  have g25:=g24.kp WI (fun b hb=>⟨by have:=o2f b hb;omega,trivial⟩)
  obtain⟨c1,Dx,cap1,rfl,hv1,hh1⟩:=Gw.some g15 (by omega)
  obtain⟨c2,XB,cap2,rfl,hv2,hh2⟩:=Gw.some g25 (by omega)
  cases hv1
  cases hv2
  have oc1:=o1f c1 rfl
  have oc2:=o2f c2 rfl
  have hc15:=Jd.hp
  rw[aO]at hc15
  obtain⟨H0,G0,L0,A0,R0,N0⟩:=Jd.frz (Gr.refl H w.heap.size) e15 (by omega) (hfr _ (by omega)) (by omega)
  obtain⟨H1,G1,L1,A1,R1,N1⟩:=A0.frz G0 hh1 (by omega) (by rw[N0 _ (by omega)];exact hfr _ (by omega)) (by omega)
  obtain⟨H2,G2,L2,A2,R2,N2⟩:=A1.frz G1 hh2 (by omega) (by rw[N1 _ (fun e=>oc1.2 (by rw[e])),N0 _ (by omega)];exact hfr _ (by omega)) (by omega)
  have YT:(is++[n8]).length=ns.length+1:=by simp;omega
  have hD:fQ H2 ⟨x.s,x.at_,.enum (ns++[x6.s]) (is++[n8])⟩ (.iface yB (pt w2.heap.size 0)):=by
   refine⟨w2.heap.size,_,_,rfl,L2 _ _ (L1 _ _ R0),⟨c1,Dx,rJ,by rw[en],?_⟩,⟨c2,XB,UY,by rw[YT],?_⟩⟩
   ·rw[em1];exact L2 _ _ R1
   ·rw[em2];exact R2
  have hE:Dc H2 (pt w2.heap.size 0) (is++[n8]):=by
   refine⟨w2.heap.size,x.s,x.at_,.slice (some ⟨c1,0,none⟩) (ns.length+1) rJ,c2,XB,UY,rfl,?_,?_,by rw[YT];omega⟩
   ·rw[YT];exact L2 _ _ (L1 _ _ R0)
   ·rw[em2];exact R2
  obtain⟨es2,ck2,m2,hm3,hm4,hm5⟩:=A2.he
  repeat' first|refine .x ?_|refine .y ?_|refine .z ?_|fail
  refine Mu.str hm4 (by exact lookA) fun es3 ck3 hm6=>?_
  have A3:=(A2.ext (w':=w15.drew) (by exact kpA)).enums (l:=aY q15.enums x.s (is++[n8])) (w':=ah w15.drew (B+3) (.map es3 ck3)) (by exact kpA) ⟨es3,ck3,_,aj rfl (by simp only[size_drew];omega),hm6,fZ.aY hE hm5⟩
  exact hok _ _ _ Sm (by exact kpA) ⟨H2,G2,hD,A3⟩
theorem LC{B:Nat}{H:Hp}{w:World}{p:PS}(h:PR B H w p):
  Calls P jA #[pt (B+5) 0] w (Post w (oL p) (PX B) fun x v w'=>∃H',Gr H H' w.heap.size∧fQ H' x.1 v∧PR B H' w' x.2):=by
 refine Post.R fun R M hM hok hno=>?_
 apply uC
 unfold jy
 have hl:=h.lt
 have hfr:∀b,w.heap.size≤b→H b=none:=fun b hb=>h.sub.fresh hb
 rw[oL]at hM
 repeat' first|refine .x ?_|refine .y ?_|refine .z ?_|fail
 refine Cl.bind (w0:=w) (X0:=PX B) hM (aW (h.ext (by exact kpA)) [[115,116,114,117,99,116]]) hno ?_
 rintro q1 v w1 hM hk1 hq1 hs1 ⟨rfl,hp1⟩
 have hl1:=hp1.lt
 rw[size_alloc]at hs1
 refine Cl.bind (w0:=w) (X0:=PX B) hM (Jj hp1) hno ?_
 rintro⟨x,q2⟩ v w2 hM hk2 hq2 hs2 ⟨rfl,hp2⟩
 have hl2:=hp2.lt
 dsimp only at hM hp2
 repeat' first|refine .x ?_|refine .y ?_|refine .z ?_|fail
 refine Cl.bind (w0:=w) (X0:=PX B) hM (aW (hp2.ext (by exact kpA)) [[123]]) hno ?_
 rintro q3 v w3 hM hk3 hq3 hs3 ⟨rfl,hp3⟩
 have hl3:=hp3.lt
 simp only[size_alloc,ag]at hs3
 have he3:w3.heap[w2.heap.size]?=some (cl [.string (bs x.s),i64 x.at_,.slice none 0 0] bV):=by exact lookA
 have Y3:Kp (PX B) w w3:=hq3.out
 repeat' first|refine .x ?_|refine .y ?_|refine .z ?_|fail
 refine Lp.nat (n:=12) (fun n vals w'=>∃(p':PS) (ds:List Decl) (ns:List By) (l:List Value) (v1:Value) (o1:Option Nat) (H':Hp),vals=[]∧ds.length+n=12∧PR B H' w' p'∧Gr H H' w.heap.size∧iC H' ds l∧H' w2.heap.size=none ∧
  w'.heap[w2.heap.size]?=some (cl [.string (bs x.s),i64 x.at_,v1] bV)∧Gw w' fJ 2 v1 ds.length l o1∧aF w' w3.heap.size ns ∧
  (∀b,o1=some b→w3.heap.size<b∧H' b=none)∧Kp (PX B) w w'∧w3.heap.size<w'.heap.size ∧
  M=(jV n p' ds ns).andThen fun x_1=>(want x_1.2 [[59]]).andThen fun p=>.ok (⟨x.s,x.at_,.struct x_1.1⟩,p)) ?_ ?_
 ·refine⟨q3,[],[],[],.slice none 0 0,none,H,rfl,rfl,hp3.ext (by exact kpA),Gr.refl _ _,trivial,hfr _ (by omega),by exact lookA,Gw.nil _ _ _,⟨#[],0,aK ..,MK.empty⟩,by simp,by exact kpA,by simp only[size_alloc];omega,hM⟩
 rintro n _ wL jk C ⟨p',ds,ns,l,v1,o1,H',rfl,hn,hpL,hgL,hdL,hHe,heL,hg1,hsL,ho1,hkL,WJ,hML⟩ hC
 obtain⟨a1,cp1,rfl⟩:=hg1.len
 have hlL:=hpL.lt
 repeat' first|refine .x ?_|refine .y ?_|refine .z ?_|fail
 cases n with
 |zero=>
  refine Cl.eX (w0:=w) (X0:=PX B) (m:=count p' ds.length 12) (k:=fun _=>M) ?_ (iO hpL ds.length 12) hno ?_
  ·rw[count,if_pos (by omega)];rw[hML,jV];rfl
  ·rintro _ v w4 e4
   have:=gJ e4
   omega
 |succ n=>
 refine Cl.eX (w0:=w) (X0:=PX B) (m:=count p' ds.length 12) (k:=fun _=>M) (by rw[count,if_neg (by omega)];rfl) (iO hpL ds.length 12) hno ?_
 rintro _ v w4 e4 _ hk4 hq4 hs4 rfl
 rw[jV]at hML
 simp only[Res.assoc]at hML
 have c1:=gJ e4
 repeat' first|refine .x ?_|refine .y ?_|refine .z ?_|fail
 refine Cl.bind (w0:=w) (X0:=PX B) hML (LG (hpL.ext (w':=w4.drew) (by exact kpA)) (by omega) (aF.kp (X:=[]) hsL (by exact kpA) trivial)) hno ?_
 rintro⟨d,ns',q6⟩ v w6 hM6 hk6 hq6 hs6 ⟨H6,tv,rfl,hg6,ht6,Uy,hp6⟩
 have hl6:=hp6.lt
 dsimp only at hM6 hp6 ht6 Uy
 rw[size_drew]at hs6 hg6
 obtain⟨ti,tu,rfl⟩:=ht6.form
 have he6:w6.heap[w2.heap.size]?=some (cl [.string (bs x.s),i64 x.at_,.slice a1 ds.length cp1] bV):=by exact lookA
 have PI:=hg1.kp (w':=w4.drew) (X:=[]) (by exact kpA) (fun _ _=>trivial)
 have PI:=PI.kp hk6 (fun b hb=>⟨by have:=ho1 b hb;omega,by have:=ho1 b hb;omega,trivial⟩)
 have PK:=hg6.lacks hHe (by omega)
 have ho6:∀b,o1=some b→H6 b=none:=fun b hb=>hg6.lacks (ho1 b hb).2 (hg1.lt b hb)
 have UF:Gr H H6 w.heap.size:=hgL.trans hg6 (by have:=hkL.size;omega)
 repeat' first|refine .x ?_|refine .y ?_|refine .z ?_|fail
 refine Ap.w (fun w9=>Kp [] w6 w9∧w9.heap[w6.heap.size]?=some (cl [.string (bs d.name),.iface ti tu] fJ)) ⟨by exact kpA,by exact lookA⟩ ?_
 rintro w9 ⟨k9,n9⟩
 have z9:=k9.size
 refine Ap.g (PI.kp k9 (fun _ _=>trivial)) n9 rfl rfl ?_ (by omega)
 intro v1 w10 o1' g1 Ir k10
 have z10:=k10.size
 have e10:w10.heap[w2.heap.size]?=some (cl [.string (bs x.s),i64 x.at_,.slice a1 ds.length cp1] bV):=
  (k10.same w2.heap.size (by omega) (aB fun hb=>by have:=ho1 _ hb;omega)).trans ((k9.same w2.heap.size (by omega) trivial).trans he6)
 have s10:=aF.kp (aF.kp Uy k9 trivial) k10 (aB fun hb=>by have:=ho1 _ hb;omega)
 have b10:=(hp6.ext k9).own k10 (fun b hb=>⟨by have:=ho1 b hb;omega,ho6 b hb⟩)
 obtain⟨a1',rJ,rfl⟩:=g1.len
 repeat' first|refine .x ?_|refine .y ?_|refine .z ?_|fail
 refine Cl.w (fun w9=>Kp [(w2.heap.size,w2.heap.size+1)] w10 w9 ∧
   w9.heap[w2.heap.size]?=some (cl [.string (bs x.s),i64 x.at_,.slice a1' (ds.length+1) rJ] bV)) ⟨by exact kpA,by exact lookA⟩ ?_
 rintro w13 ⟨k13,e13⟩
 have z13:=k13.size
 have b13:=b10.tmp k13 (by omega) PK
 have s13:=aF.kp s10 k13 ⟨by omega,trivial⟩
 have z69:=lt_of_heap n9
 have o1f:∀b,o1'=some b→w3.heap.size<b∧H6 b=none:=by
  intro b hb
  rcases Ir with r|r<;>rw[r]at hb
  ·exact⟨(ho1 b hb).1,ho6 b hb⟩
  ·cases hb;exact⟨by omega,hp6.sub.fresh (by omega)⟩
 have g13:=g1.kp k13 (fun b hb=>⟨by have:=o1f b hb;omega,trivial⟩)
 have kk:Kp (PX B) w w13:=by
  have c2:=(hq6.out.trans k9 (fun i _ ho=>⟨ho,trivial⟩):Kp (PX B) w w9).own k10 (fun b hb=>by have:=ho1 b hb;omega)
  exact c2.trans k13 (fun i hi ho=>⟨ho,by omega,trivial⟩)
 refine Cl.bind (w0:=w) (X0:=PX B) (hkp:=kk) hM6 (gu b13 [125]) hno ?_
 rintro⟨bb,q14⟩ v w14 CX Je Uz hs14 ⟨hv,E8⟩
 dsimp only at CX E8 hv
 subst hv
 have g14:=g13.kp Je (fun b hb=>⟨by have:=o1f b hb;omega,trivial⟩)
 have e14:w14.heap[w2.heap.size]?=some (cl [.string (bs x.s),i64 x.at_,.slice a1' (ds.length+1) rJ] bV):=by exact lookA
 have en:(ds++[d]).length=ds.length+1:=by simp
 have UH:iC H6 (ds++[d]) (l++[.string (bs d.name),.iface ti tu]):=(hdL.le hg6.1).snoc ht6
 cases bb with
 |false=>
  repeat' first|refine .x ?_|refine .y ?_|refine .z ?_|fail
  refine hC n [] w14 (by omega) ⟨q14,ds++[d],ns',_,_,o1',H6,rfl,by rw[en];omega,E8,UF,UH,PK,e14,by rw[en];exact g14,aF.kp s13 Je ⟨by omega,trivial⟩,o1f,Uz.out,by omega,CX⟩
 |true=>
  repeat' first|refine .x ?_|refine .y ?_|refine .z ?_|fail
  simp only[if_true,Res.dw]at CX
  refine Cl.bind (w0:=w) (X0:=PX B) CX (aW (E8.ext (by exact kpA)) [[59]]) hno ?_
  rintro q15 v w15 Sm Zf Y4 WL ⟨rfl,Jd⟩
  have hl15:=Jd.lt
  simp only[size_alloc]at WL
  have e15:w15.heap[w2.heap.size]?=some (cl [.string (bs x.s),i64 x.at_,.slice a1' (ds.length+1) rJ] bV):=by exact lookA
  have WI:Kp (PX B) w14 w15:=by exact kpA
  have g15:=g14.kp WI (fun b hb=>⟨by have:=o1f b hb;omega,trivial⟩)
  obtain⟨c1,Dx,cap1,rfl,hv1,hh1⟩:=Gw.some g15 (by omega)
  cases hv1
  have oc1:=o1f c1 rfl
  obtain⟨H0,G0,L0,A0,R0,N0⟩:=Jd.frz UF e15 (by omega) PK (by omega)
  obtain⟨H1,G1,L1,A1,R1,N1⟩:=A0.frz G0 hh1 (by omega) (by rw[N0 _ (by omega)];exact oc1.2) (by omega)
  have hD:fQ H1 ⟨x.s,x.at_,.struct (ds++[d])⟩ (.iface uH (pt w2.heap.size 0)):=by
   refine⟨w2.heap.size,_,_,rfl,L1 _ _ R0,UH.le (L0.trans L1),⟨c1,Dx,rJ,by rw[en],R1⟩⟩
  repeat' first|refine .x ?_|refine .y ?_|refine .z ?_|fail
  exact hok _ _ _ Sm Y4.out ⟨H1,G1,hD,A1⟩
end Go.W.T
namespace Go.W.T
open Go Go.W Go.M Go.Proofs
theorem LP{w:World}{b cap:Nat}{rest:List Value}(l:List Int)(x:Int)(hb:w.heap[b]?=some (cl (l.map i64++rest) fU))(hl:l.length<1000000):
  Calls P qo #[.slice (some ⟨b,0,none⟩) l.length cap,i64 x] w fun en w'=>en=.returned (.int .i64 (match l.findIdx? (·==x)with|some i=>(i:Int)|none => -1))∧w'=w:=by
 apply zX
 have hR:∀z w',z=(match l.findIdx? (·==x)with|some i=>(i:Int)|none => -1)→w'=w→(fun en w'=>en=.returned (.int .i64 (match l.findIdx? (·==x)with|some i=>(i:Int)|none => -1))∧w'=w:Ending→World→Prop) (.returned (.int .i64 z)) w':=fun z w' h1 h2=>⟨by rw[h1],h2⟩
 generalize (fun en w'=>en=.returned (.int .i64 (match l.findIdx? (·==x)with|some i=>(i:Int)|none => -1))∧w'=w:Ending→World→Prop)=R at *
 unfold pV
 repeat' first|refine .x ?_|refine .y ?_|refine .z ?_|fail
 refine Lp.nat (n:=l.length) (fun n vals w'=>∃i:Nat,vals=[i64 i]∧i+n=l.length∧w'=w∧∀j,j<i→l[j]?≠some x) ⟨0,rfl,by omega,rfl,fun j hj=>by omega⟩ ?_
 rintro n _ w1 jk C ⟨i,rfl,hi,hw,hno⟩ hC
 subst hw
 repeat' first|refine .x ?_|refine .y ?_|refine .z ?_|fail
 refine .split (fun hc=>?_) (fun hc=>?_)
 ·have hlt:i<l.length:=by have:=of_decide_eq_true hc;omega
  have hx:(l.map i64++rest)[0+i*1]?=some (i64 l[i]):=by rw[Nat.zero_add,Nat.mul_one,List.getElem?_append_left (by simpa using hlt),List.getElem?_map,List.getElem?_eq_getElem hlt];rfl
  refine .s ?_
  refine Ld.s ?_ hb hx
  repeat' first|refine .x ?_|refine .y ?_|refine .z ?_|fail
  refine .split (fun he=>?_) (fun he=>?_)
  ·have he':x=l[i]:=by simpa using he
   refine hR _ _ ?_ rfl
   have:l.findIdx? (·==x)=some i:=by
    rw[List.findIdx?_eq_some_iff_getElem]
    refine⟨hlt,by simp[he'],fun j hj=>?_⟩
    have:=hno j hj
    rw[List.getElem?_eq_getElem (by omega)]at this
    simpa using fun e=>this (by rw[e])
   rw[this]
  ·have he':¬ x=l[i]:=by simpa using he
   repeat' first|refine .x ?_|refine .y ?_|refine .z ?_|fail
   refine hC (n - 1) _ _ (by omega) ⟨i+1,rfl,by omega,rfl,fun j hj=>?_⟩
   by_cases e:j=i
   ·subst e;rw[List.getElem?_eq_getElem hlt];exact fun e=>he' (Option.some.inj e).symm
   ·exact hno j (by omega)
 ·have hge:i=l.length:=by have:=of_decide_eq_false hc;omega
  refine hR _ _ ?_ rfl
  have:l.findIdx? (·==x)=none:=by
   rw[List.findIdx?_eq_none_iff]
   intro y hy
   obtain⟨j,hj,rfl⟩:=List.getElem_of_mem hy
   have:=hno j (by omega)
   rw[List.getElem?_eq_getElem hj]at this
   simpa using fun e=>this (by rw[e])
  rw[this]
theorem G6{w:World}{b cap:Nat}{rest:List Value}(l:List Int)(x:Int)(hb:w.heap[b]?=some (cl (l.map i64++rest) fU))(hl:l.length<1000000):
  Calls P lq #[.slice (some ⟨b,0,none⟩) l.length cap,i64 x] w fun en w'=>en=.returned (.bool (l.contains x))∧w'=w:=by
 apply wF
 unfold kN
 refine Cl.same (LP l x hb hl) ?_
 cases hf:l.findIdx? (·==x)with
 |none=>
  have:l.contains x=false:=by
   rw[List.findIdx?_eq_none_iff]at hf
   rw[Bool.eq_false_iff]
   intro hc
   have:=hf x (by simpa using hc)
   simp at this
  repeat' first|refine .x ?_|refine .y ?_|refine .z ?_|fail
  exact⟨by rw[this];rfl,rfl⟩
 |some i=>
  have:l.contains x=true:=by
   rw[List.findIdx?_eq_some_iff_getElem]at hf
   obtain⟨h1,h2,_⟩:=hf
   have h3:l[i]=x:=by simpa using h2
   rw[List.contains_iff_mem,← h3]
   exact List.getElem_mem h1
  repeat' first|refine .x ?_|refine .y ?_|refine .z ?_|fail
  refine⟨?_,rfl⟩
  rw[this]
  congr 2
theorem S9{B:Nat}{H:Hp}{w:World}{p:PS}(h:PR B H w p):
  Calls P qg #[pt (B+5) 0] w (Post w (side p) (PX B) fun x v w'=>∃H',Gr H H' w.heap.size∧iM H' x.1 v∧PR B H' w' x.2):=by
 refine Post.R fun R M hM hok hno=>?_
 apply zN
 unfold pG
 rw[side]at hM
 refine Cl.bind (w0:=w) (X0:=PX B) hM (gu h [118,111,105,100]) hno ?_
 rintro⟨b1,q1⟩ v w1 hM hk1 hq1 hs1 ⟨rfl,hp1⟩
 cases b1 with
 |true=>
  refine .t ?_
  refine .s ?_
  exact hok _ _ _ hM hq1.out ⟨H,Gr.refl _ _,rfl,hp1⟩
 |false=>
  repeat' first|refine .x ?_|refine .y ?_|refine .z ?_|fail
  refine Cl.bind (w0:=w) (X0:=PX B) (m:=kindOf q1) (k:=fun x=>.ok x) (by rw[hM];simp only[Bool.false_eq_true,if_false];cases kindOf q1<;>rfl) (Ti hp1) hno ?_
  rintro⟨t,q2⟩ v w2 hM hk2 hq2 hs2 ⟨H2,hg2,ht2,hp2⟩
  exact hok _ _ _ hM hq2.out ⟨H2,hg2.mono hs1,ht2,hp2⟩
theorem XA{B s:Nat}{H:Hp}{w:World}{p:PS}{l:List By}(h:PR B H w p)(hs:B+6≤s)(hset:aF w s l):
  Calls P qX #[pt (B+5) 0,.map (some s)] w (Post w (arm p l) [(B,B+6),(s,s+1)] fun x v w'=>∃H' tv,v=.agg #[.string (bs x.1.name),tv]∧Gr H H' w.heap.size∧iM H' x.1.ty tv∧aF w' s x.2.1∧PR B H' w' x.2.2):=by
 refine Post.R fun R M hM hok hno=>?_
 apply Bz
 unfold qK
 have hl:=h.lt
 have hsl:s<w.heap.size:=by obtain⟨_,_,a,_⟩:=hset;exact lt_of_heap a
 rw[arm]at hM
 repeat' first|refine .x ?_|refine .y ?_|refine .z ?_|fail
 have h0:=h.ext (w':=w.alloc (cl [.string ⟨#[]⟩,.nilIface] 223)) (by exact kpA)
 refine Cl.bind (w0:=w) (X0:=[(B,B+6),(s,s+1)]) hM (gu h0 [118,111,105,100]) hno ?_
 rintro⟨b1,q1⟩ v w1 hM hk1 hq1 hs1 ⟨hv,hp1⟩
 dsimp only at hM hp1 hv
 subst hv
 rw[size_alloc]at hs1
 have hl1:=hp1.lt
 have Iq:aF w1 s l:=aF.kp (aF.kp (X:=[]) hset (by exact kpA) trivial) hk1 ⟨by omega,trivial⟩
 cases b1 with
 |true=>
  repeat' first|refine .x ?_|refine .y ?_|refine .z ?_|fail
  refine Cl.bind (w0:=w) (X0:=[(B,B+6),(s,s+1)]) hM (aW (hp1.ext (by exact kpA)) [[59]]) hno ?_
  rintro q2 v w2 hM hk2 hq2 hs2 ⟨rfl,hp2⟩
  have hl2:=hp2.lt
  rw[size_alloc]at hs2
  repeat' first|refine .x ?_|refine .y ?_|refine .z ?_|fail
  refine hok _ _ _ hM (by exact kpA) ⟨H,_,rfl,Gr.refl _ _,rfl,?_,?_⟩
  ·exact aF.kp (X:=[(w.heap.size,w.heap.size+1)]) (aF.kp (aF.kp (X:=[]) Iq (by exact kpA) trivial) hk2 ⟨by omega,trivial⟩) (by exact kpA) ⟨by omega,trivial⟩
  ·exact hp2.tmps h (m:=w.heap.size+1) (Gr.refl _ _) (by exact kpA)
 |false=>
  repeat' first|refine .x ?_|refine .y ?_|refine .z ?_|fail
  refine Cl.bind (w0:=w) (X0:=[(B,B+6),(s,s+1)]) (m:=member q1 l) (k:=fun x=>.ok x) (by rw[hM];simp only[Bool.false_eq_true,if_false];cases member q1 l<;>rfl) (LG hp1 hs Iq) hno ?_
  rintro⟨d,l',q2⟩ v w2 hM hk2 hq2 hs2 ⟨H2,tv,rfl,hg2,ht2,NJ,hp2⟩
  have hl2:=hp2.lt
  dsimp only at hM ht2 NJ hp2
  have PH:Gr H H2 (w.heap.size+1):=hg2.mono (by omega)
  obtain⟨ti,tu,rfl⟩:=ht2.form
  repeat' first|refine .x ?_|refine .y ?_|refine .z ?_|fail
  refine hok _ _ _ hM (by exact kpA) ⟨H2,_,rfl,PH.mono (by omega),ht2,?_,?_⟩
  ·exact aF.kp (X:=[(w.heap.size,w.heap.size+1)]) NJ (by exact kpA) ⟨by omega,trivial⟩
  ·exact hp2.tmps h (m:=w.heap.size+1) PH (by exact kpA)
def AV(H:Hp):Option (List Int)→Value→Prop
 |none,v=>v=.slice none 0 0
 |some l,v=>∃sb rest cap,v=.slice (some ⟨sb,0,none⟩) l.length cap∧H sb=some (l.map i64++rest,fU)∧l.length≤12
theorem AV.le{H H':Hp}{o:Option (List Int)}{v:Value}(h:AV H o v)(k:Hle H H'):AV H' o v:=by
 cases o with
 |none=>exact h
 |some l=>obtain⟨a,b,c,h1,h2,h3⟩:=h;exact⟨a,b,c,h1,k _ _ h2,h3⟩
theorem AV.len{H:Hp}{o:Option (List Int)}{v:Value}(h:AV H o v):∀l,o=some l→l.length<1000000:=by
 rintro l rfl
 obtain⟨a,b,c,h1,h2,h3⟩:=h;omega
theorem fZ.lookup{H:Hp}(a:By):∀{m:List (By×Value)} {l:List (By×List Int)},fZ H m l →
  (m.lookup a=none∧l.lookup a=none)∨∃v ns,m.lookup a=some v∧l.lookup a=some ns∧Dc H v ns
 |[],[],_=>Or.inl ⟨rfl,rfl⟩
 |x::m,y::l,h=>by
  obtain⟨h1,h2,h3⟩:=h
  rw[List.lookup_cons,List.lookup_cons,h1]
  cases a==y.1 with
  |true=>exact Or.inr ⟨_,_,rfl,rfl,h2⟩
  |false=>exact fZ.lookup a h3
 |[],_::_,h=>h.elim
 |_::_,[],h=>h.elim
theorem GY{B:Nat}{H:Hp}{w:World}{p:PS}(h:PR B H w p):
  Calls P iH #[pt (B+5) 0] w (Post w (mZ p) (PX B) fun x v w'=>∃H' tv nv,v=.tuple #[tv,i64 x.1.2.1,i64 x.1.2.2.1,nv]∧Gr H H' w.heap.size∧iM H' x.1.1 tv∧AV H' x.1.2.2.2 nv∧PR B H' w' x.2):=by
 refine Post.R fun R M hM hok hno=>?_
 apply qF
 unfold iE
 have hp:=h.hp
 have hl:=h.lt
 rw[aO]at hp
 rw[mZ]at hM
 repeat' first|refine .x ?_|refine .y ?_|refine .z ?_|fail
 have hA:Kp [] w (ah (w.alloc (cl [.int .i64 0,.string ⟨#[]⟩,.int .i64 0,.int .i64 0] 104)) w.heap.size (cl [i64 p.w.kind,.string (bs p.w.s),i64 p.w.at_,i64 p.w.n] 104)):=by exact kpA
 have hAb:(ah (w.alloc (cl [.int .i64 0,.string ⟨#[]⟩,.int .i64 0,.int .i64 0] 104)) w.heap.size (cl [i64 p.w.kind,.string (bs p.w.s),i64 p.w.at_,i64 p.w.n] 104)).heap[w.heap.size]?=some (cl [i64 p.w.kind,.string (bs p.w.s),i64 p.w.at_,i64 p.w.n] 104):=aj rfl (by simp only[size_alloc];omega)
 generalize ah (w.alloc (cl [.int .i64 0,.string ⟨#[]⟩,.int .i64 0,.int .i64 0] 104)) w.heap.size (cl [i64 p.w.kind,.string (bs p.w.s),i64 p.w.at_,i64 p.w.n] 104)=wA at *
 have hAs:=lt_of_heap hAb
 have h0:=h.ext hA
 cases h1:p.w.kind==1 with
 |true=>
  rw[h1,if_pos rfl]at hM
  have h1':((p.w.kind:Int)==1)=true:=by have:=beq_iff_eq.mp h1;rw[this];rfl
  have hpA:=h0.hp
  rw[aO]at hpA
  repeat' first|refine .x ?_|refine .y ?_|refine .z ?_|fail
  obtain⟨es,ck,m,hm1,hm2,hm3⟩:=h0.he
  refine Lk.str hm2 (by exact lookA) ?_
  rcases hm3.lookup p.w.s with⟨e1,e2⟩|⟨v,ns,e1,e2,hE⟩
  ·rw[e1]
   rw[e2]at hM
   repeat' first|refine .x ?_|refine .y ?_|refine .z ?_|fail
   refine Jn.by (fun _ _=>False) (fun J2 hJ2=>?_) (fun _ _ _ hf=>hf.elim)
   refine .s ?_
   refine If.t ?_ rfl
   repeat' first|refine .x ?_|refine .y ?_|refine .z ?_|fail
   exact Cl.fail hM hno (by exact kpA)
  ·rw[e1]
   rw[e2]at hM
   repeat' first|refine .x ?_|refine .y ?_|refine .z ?_|fail
   refine Jn.direct ?_
   refine .s ?_
   refine If.f ?_ rfl
   intro jk
   refine Cl.bind (w0:=w) (X0:=PX B) hM (qB (h0.ext (w':=wA.drew) (by exact kpA))) hno ?_
   rintro q v2 w1 hM hk1 hq1 hs1 ⟨rfl,hp1⟩
   rw[size_drew]at hs1
   have hl1:=hp1.lt
   obtain⟨b,nm,at_,nsv,sb,rest,cap,rfl,hb1,hb2,hb3⟩:=hE
   have hb1':=hp1.sub _ _ _ hb1
   have hbl:=lt_of_heap hb1'
   have hAb1:w1.heap[w.heap.size]?=some (cl [i64 p.w.kind,.string (bs p.w.s),i64 p.w.at_,i64 p.w.n] 104):=by exact lookA
   repeat' first|refine .x ?_|refine .y ?_|refine .z ?_|fail
   have hnew:H w1.heap.size=none:=hp1.sub.fresh (Nat.le_refl _)
   obtain⟨H2,G2,L2,A2,R2,N2⟩:=(hp1.ext (w':=w1.drew.alloc (cl [.string (bs p.w.s),i64 p.w.at_] zi)) (by exact kpA)).frz (Gr.refl H w.heap.size) (b:=w1.heap.size) (by exact lookA) (by omega) hnew (by omega)
   exact hok _ _ _ hM (by exact kpA) ⟨H2,_,_,rfl,G2,⟨_,rfl,R2⟩,⟨sb,rest,cap,rfl,L2 _ _ hb2,hb3⟩,A2⟩
 |false=>
  rw[h1,if_neg (by decide)]at hM
  have h1':((p.w.kind:Int)==1)=false:=by have:=beq_eq_false_iff_ne.mp h1;rw[beq_eq_false_iff_ne];omega
  repeat' first|refine .x ?_|refine .y ?_|refine .z ?_|fail
  refine Cl.bind (w0:=w) (X0:=PX B) hM (gu h0 [105,110,116]) hno ?_
  rintro⟨b1,q1⟩ v w1 hM hk1 hq1 hs1 ⟨rfl,hp1⟩
  cases b1 with
  |true=>
   repeat' first|refine .x ?_|refine .y ?_|refine .z ?_|fail
   exact hok _ _ _ hM hq1.out ⟨H,_,_,rfl,Gr.refl _ _,rfl,rfl,hp1⟩
  |false=>
  repeat' first|refine .x ?_|refine .y ?_|refine .z ?_|fail
  refine Cl.bind (w0:=w) (X0:=PX B) hM (gu hp1 [98,111,111,108]) hno ?_
  rintro⟨b3,q3⟩ v w3 hM hk3 hq3 hs3 ⟨rfl,hp3⟩
  cases b3 with
  |true=>
   repeat' first|refine .x ?_|refine .y ?_|refine .z ?_|fail
   exact hok _ _ _ hM hq3.out ⟨H,_,_,rfl,Gr.refl _ _,rfl,rfl,hp3⟩
  |false=>
  repeat' first|refine .x ?_|refine .y ?_|refine .z ?_|fail
  refine Cl.bind (w0:=w) (X0:=PX B) hM (gu hp3 [117,110,115,105,103,110,101,100]) hno ?_
  rintro⟨b4,q4⟩ v w4 hM hk4 hq4 hs4 ⟨rfl,hp4⟩
  cases b4 with
  |true=>
   repeat' first|refine .x ?_|refine .y ?_|refine .z ?_|fail
   refine Cl.bind (w0:=w) (X0:=PX B) hM (gu hp4 [105,110,116]) hno ?_
   rintro⟨b6,q6⟩ v w6 hM hk6 hq6 hs6 ⟨rfl,hp6⟩
   exact hok _ _ _ hM hq6.out ⟨H,_,_,rfl,Gr.refl _ _,rfl,rfl,hp6⟩
  |false=>
   repeat' first|refine .x ?_|refine .y ?_|refine .z ?_|fail
   refine Cl.bind (w0:=w) (X0:=PX B) (m:=(bad q4:Res ((Ty×Int×Int×Option (List Int))×PS))) (k:=fun x=>.ok x) (by rw[hM];rfl) (GZ hp4) hno ?_
   rintro _ _ _ _ _ _ _ hf
   exact hf.elim
theorem AX.of{σ:Type}{f:FuncId}{first captured:Array Value}{kf:Int→Nat→Res σ}{I:World→Prop}{I':σ→World→Prop}{X:List (Nat×Nat)}(hp:oW P f=true)
  (h:∀(w:World) (n:Int) (a:Nat),I w→Calls P f (first++#[.int .i64 n,i64 a]++captured) w (Post w (kf n a) X fun s _ w'=>I' s w')):AX (.func (.func f) first captured) kf I I' X:=by
 refine Or.inr ⟨rfl,fun w n a E K hI hok hno=>?_⟩
 refine eY.f hp ?_
 refine Cl.by (h w n a hI) ?_ ?_ ?_
 ·rintro v w' ⟨hk,hp⟩
  cases hm:kf n a with
  |ok l=>
   rw[hm]at hp
   obtain⟨v',hv,hl⟩:=hp
   cases hv
   exact hok l v w' hm hk hk.size hl
  |no e c=>rw[hm]at hp;obtain⟨_,hv,_⟩:=hp;cases hv
 ·rintro ch w' ⟨hk,hp⟩
  cases hm:kf n a with
  |ok l=>rw[hm]at hp;obtain⟨_,hv,_⟩:=hp;cases hv
  |no e c=>rw[hm]at hp;obtain⟨_,hv,hf⟩:=hp;cases hv;exact hno e c ch w' hm hk hf
 ·rintro w' ⟨hk,hp⟩
  cases hm:kf n a with
  |ok l=>rw[hm]at hp;obtain⟨_,hv,_⟩:=hp;cases hv
  |no e c=>rw[hm]at hp;obtain⟨_,hv,_⟩:=hp;cases hv
theorem Q4{w:World}{t nb tb:Nat}{there:List Int}{nums:Option (List Int)}{nv:Value}{H:Hp}(n:Int)(a:Nat)(hsub:Sub H w)(hn:AV H nums nv)(h1:H nb=some ([nv],A7))(h2:H tb=some ([.map (some t)],gZ))
  (hl:∀l,nums=some l→l.length<1000000) (hset:ak .i64 w t there):
  Calls P kZ #[.int .i64 n,i64 a,pt nb 0,pt tb 0] w (Post w (if nums.any fun l=>!l.contains n then .no 8 a else once there n a) [(t,t+1)] fun l _ w'=>ak .i64 w' t l):=by
 refine Post.R fun R M hM hok hno=>?_
 apply wz
 unfold kH
 have g1:=hsub _ _ _ h1
 have g2:=hsub _ _ _ h2
 refine Jn.by (fun vals w'=>vals=[]∧(nums.any fun l=>!l.contains n)=false∧w'=w) (fun J hJ=>?_) ?_
 ·cases nums with
  |none=>
   cases hn
   repeat' first|refine .x ?_|refine .y ?_|refine .z ?_|fail
   exact hJ _ _ ⟨rfl,rfl,rfl⟩
  |some l=>
   obtain⟨sb,rest,cap,rfl,hsb,_⟩:=hn
   have g3:=hsub _ _ _ hsb
   refine .s ?_
   refine En.s (b:=false) ?_ rfl
   repeat' first|refine .x ?_|refine .y ?_|refine .z ?_|fail
   refine Cl.same (G6 l n g3 (hl l rfl)) ?_
   simp only[Option.any_some]at hM hJ
   cases hc:l.contains n with
   |true=>
    rw[hc]at hJ
    repeat' first|refine .x ?_|refine .y ?_|refine .z ?_|fail
    exact hJ _ _ ⟨rfl,rfl,rfl⟩
   |false=>
    simp only[hc,Bool.not_false,if_true]at hM
    repeat' first|refine .x ?_|refine .y ?_|refine .z ?_|fail
    exact Cl.fail hM hno
 ·rintro _ w' jk ⟨rfl,hc,rfl⟩
  rw[hc,if_neg (by decide)]at hM
  repeat' first|refine .x ?_|refine .y ?_|refine .z ?_|fail
  refine Cl.bind (w0:=w') (X0:=[(t,t+1)]) (m:=once there n a) (k:=fun x=>.ok x) (by rw[hM];cases once there n a<;>rfl) (Jl w' t there n a hset) hno ?_
  rintro l v w1 hM hk hq hs hl
  exact hok _ _ _ hM hk hl
theorem RZ{B t nb tb:Nat}{H:Hp}{p:PS}{there:List Int}{nums:Option (List Int)}{nv:Value}(hs:B+6≤t)(hH:H t=none)(hn:AV H nums nv)(h1:H nb=some ([nv],A7))(h2:H tb=some ([.map (some t)],gZ))
  (hl:∀l,nums=some l→l.length<1000000):
  AX (.func (.func 125) #[] #[pt nb 0,pt tb 0]) (fun n a=>if nums.any fun l=>!l.contains n then .no 8 a else once there n a) (fun w=>PR B H w p∧ak .i64 w t there) (fun l w=>PR B H w p∧ak .i64 w t l) [(t,t+1)]:=by
 refine AX.of (by kernel_rfl) fun w n a ⟨hp,hset⟩=>?_
 refine(Q4 n a hp.sub hn h1 h2 hl hset).mono fun en w' hq=>hq.mono (fun _ _ h=>h) fun l v w' _ hk hg=>⟨hp.tmp hk hs hH,hg⟩
theorem Dh{w:World}{t sb:Nat}{there:List Int}{H:Hp}(n:Int)(a:Nat)(hsub:Sub H w)(h2:H sb=some ([.map (some t)],jC))(hset:ak .u32 w t there):
  Calls P iZ #[.int .i64 n,i64 a,pt sb 0] w (Post w (once there (IntKind.u32.wrap n) a) [(t,t+1)] fun l _ w'=>ak .u32 w' t l):=by
 refine Post.R fun R M hM hok hno=>?_
 apply sW
 unfold iV
 have g2:=hsub _ _ _ h2
 repeat' first|refine .x ?_|refine .y ?_|refine .z ?_|fail
 refine Cl.bind (w0:=w) (X0:=[(t,t+1)]) (m:=once there (IntKind.u32.wrap n) a) (k:=fun x=>.ok x) (by rw[hM];cases once there (IntKind.u32.wrap n) a<;>rfl) (Rh w t there _ a hset) hno ?_
 rintro l v w1 hM hk hq hs hl
 exact hok _ _ _ hM hk hl
theorem BL(p:PS)(l:List Int):value p 0 top (fun n a=>once l n a)=value p 0 top (fun n a=>once l (IntKind.u32.wrap n) a):=
 Mc fun n a h1 h2=>by rw[show IntKind.u32.wrap n=n by rw[IntKind.wrap_u32];unfold top at h2;omega]
theorem GX{B t:Nat}{H:Hp}{w:World}{p:PS}{l:List Int}(h:PR B H w p)(ht:B+6≤t)(hset:ak .u32 w t l):
  Calls P fO #[pt (B+5) 0,.map (some t)] w (Post w (numbered p l) [(B,B+6),(t,t+1)] fun x v w'=>v=.int .u32 x.1∧∃H',Gr H H' w.heap.size∧ak .u32 w' t x.2.1∧PR B H' w' x.2.2):=by
 refine Post.R fun R M hM hok hno=>?_
 apply jJ
 unfold fK
 have hl:=h.lt
 have htl:t<w.heap.size:=by obtain⟨_,_,a,_⟩:=hset;exact lt_of_heap a
 have hHt:H t=none:=by
  obtain⟨es,ck,a,_⟩:=hset
  cases hx:H t with
  |none=>rfl
  |some x=>have:=h.sub t x.1 x.2 hx;rw[a]at this;cases this
 rw[numbered]at hM
 repeat' first|refine .x ?_|refine .y ?_|refine .z ?_|fail
 obtain⟨H1,G1,L1,A1,R1,N1⟩:=(h.ext (w':=w.alloc (cl [.map (some t)] jC)) (by exact kpA)).frz (Gr.refl H w.heap.size) (b:=w.heap.size) (by exact lookA) (by omega) (h.sub.fresh (Nat.le_refl _)) (by omega)
 refine Cl.bind (w0:=w) (X0:=[(B,B+6),(t,t+1)]) hM (aW (A1.ext (by exact kpA)) [[61]]) hno ?_
 rintro q1 v w1 hM hk1 hq1 hs1 ⟨rfl,hp1⟩
 have hl1:=hp1.lt
 simp only[size_alloc]at hs1
 have s1:ak .u32 w1 t l:=ak.kp (ak.kp (X:=[]) hset (by exact kpA) trivial) hk1 ⟨by omega,trivial⟩
 have hH1t:H1 t=none:=by rw[N1 _ (by omega)];exact hHt
 rw[BL]at hM
 refine Cl.eX (w0:=w) (X0:=[(B,B+6),(t,t+1)]) hM (zf hp1 0 top _ _ (fun w=>PR B H1 w q1∧ak .u32 w t l) (fun l w=>PR B H1 w q1∧ak .u32 w t l) [(t,t+1)] (fun _ q=>q)
  ⟨hp1,s1⟩ (fun _ _ a k=>⟨a.1.ext k,ak.kp a.2 k trivial⟩) (AX.of (by kernel_rfl) fun w n a ⟨hp,hs⟩=>(Dh n a hp.sub R1 hs).mono fun en w' hq=>hq.mono (fun _ _ h=>h) fun l v w' _ hk hg=>⟨hp.tmp hk ht hH1t,hg⟩) (fun _ _ a=>a.1) (PV q1)) hno ?_
 rintro⟨n8,l8,q8⟩ v w8 e8 hM8 hk8 hq8 hs8 ⟨rfl,hp8,wI,⟨_,hsI⟩,hkI⟩
 have hl8:=hp8.lt
 dsimp only at hM8 hp8 e8 hsI
 have s8:=ak.kp hsI hkI ⟨by omega,trivial⟩
 clear hkI
 have hr:=FB e8
 dsimp only at hr
 repeat' first|refine .x ?_|refine .y ?_|refine .z ?_|fail
 refine Cl.bind (w0:=w) (X0:=[(B,B+6),(t,t+1)]) hM8 (aW (hp8.ext (by exact kpA)) [[59]]) hno ?_
 rintro q9 v w9 hM9 hk9 hq9 hs9 ⟨rfl,hp9⟩
 repeat' first|refine .x ?_|refine .y ?_|refine .z ?_|fail
 rw[show IntKind.u32.wrap n8=n8 by rw[IntKind.wrap_u32];unfold top at hr;omega]
 exact hok _ _ _ hM9 hq9.out ⟨rfl,H1,G1,ak.kp (ak.kp (X:=[]) s8 (by exact kpA) trivial) hk9 ⟨by omega,trivial⟩,hp9⟩
theorem LD{B:Nat}{H:Hp}{w:World}{p:PS}(h:PR B H w p):
  Calls P fO #[pt (B+5) 0,.map (some (B+4))] w (Post w (numbered p p.iQ) (PX B) fun x v w'=>v=.int .u32 x.1∧∃H',Gr H H' w.heap.size∧PR B H' w' { x.2.2 with iQ:=x.2.1 }):=by
 refine Post.R fun R M hM hok hno=>?_
 apply jJ
 unfold fK
 have hl:=h.lt
 rw[numbered]at hM
 repeat' first|refine .x ?_|refine .y ?_|refine .z ?_|fail
 obtain⟨H1,G1,L1,A1,R1,N1⟩:=(h.ext (w':=w.alloc (cl [.map (some (B+4))] jC)) (by exact kpA)).frz (Gr.refl H w.heap.size) (b:=w.heap.size) (by exact lookA) (by omega) (h.sub.fresh (Nat.le_refl _)) (by omega)
 refine Cl.eX (w0:=w) (X0:=PX B) hM (aW (A1.ext (by exact kpA)) [[61]]) hno ?_
 rintro q1 v w1 e1 hM hk1 hq1 hs1 ⟨rfl,hp1⟩
 have hl1:=hp1.lt
 simp only[size_alloc]at hs1
 have ep:=O9 e1
 rw[← ep,BL]at hM
 refine Cl.eX (w0:=w) (X0:=PX B) hM (zf hp1 0 top _ _ (fun w=>PR B H1 w q1) (fun l w=>PR B H1 w { q1 with iQ:=l }) [(B+4,B+5)] (fun l q=>{ q with iQ:=l })
  hp1 (fun _ _ a k=>a.ext k) (AX.of (by kernel_rfl) fun w n a hp=>(Dh n a hp.sub R1 hp.hg).mono fun en w' hq=>hq.mono (fun _ _ h=>h) fun l v w' _ hk hg=>hp.iQ hk hg) (fun _ _ a=>a) (JD q1)) hno ?_
 rintro⟨n8,l8,q8⟩ v w8 e8 hM8 hk8 hq8 hs8 ⟨rfl,hp8,wI,_,hkI⟩
 have hl8:=hp8.lt
 dsimp only at hM8 hp8 e8
 clear hkI
 have hr:=FB e8
 dsimp only at hr
 repeat' first|refine .x ?_|refine .y ?_|refine .z ?_|fail
 refine Cl.eX (w0:=w) (X0:=PX B) (m:=want { q8 with iQ:=l8 } [[59]]) (k:=fun _=>M) ?_ (aW (hp8.ext (by exact kpA)) [[59]]) hno ?_
 ·rw[xC,hM8]
  cases want q8 [[59]]<;>rfl
 rintro q9 v w9 e9 hM9 hk9 hq9 hs9 ⟨rfl,hp9⟩
 rw[xC]at e9
 obtain⟨r,er,e9⟩:=Res.then_ok e9
 cases e9
 rw[er]at hM8
 repeat' first|refine .x ?_|refine .y ?_|refine .z ?_|fail
 rw[show IntKind.u32.wrap n8=n8 by rw[IntKind.wrap_u32];unfold top at hr;omega]
 exact hok _ _ _ hM8 hq9.out ⟨rfl,H1,G1,hp9⟩
end Go.W.T

/- Texts of mine, one behind the other; nothing is assumed. -/
import Derived.Test.YtaaepbggooiblaaGreatDoorB18
import Derived.Test.YtaaepbggooiblaaGreatDoorB09
import Derived.Test.YtaaepbggooiblaaGreatDoorB06
set_option linter.unusedSimpArgs false
set_option linter.unusedVariables false
set_option maxRecDepth 4000
namespace Go.W.T
open Go Go.W Go.M Go.Proofs
theorem IG{B:Nat}{H:Hp}{w:World}{p:PS}(h:PR B H w p):
  Calls P qf #[pt (B+5) 0] w (Post w (bound p) (PX B) fun x v w'=>v=.tuple #[.bool x.1,i64 x.2.1]∧PR B H w' x.2.2):=by
 refine Post.R fun R M hM hok hno=>?_
 apply zy
 unfold pz
 have hl:=h.lt
 rw[bound]at hM
 refine Cl.bind (w0:=w) (X0:=PX B) hM (iY h [91]) hno ?_
 rintro⟨b1,q1⟩ v w1 hM hk1 hq1 hs1 ⟨rfl,hp1⟩
 cases b1 with
 |true=>
  repeat' first|refine .x ?_|refine .y ?_|refine .z ?_|fail
  refine Cl.bind (w0:=w) (X0:=PX B) hM (IZ hp1 1 1000) hno ?_
  rintro⟨n,u,q2⟩ v w2 hM hk2 hq2 hs2 ⟨rfl,hp2⟩
  repeat' first|refine .x ?_|refine .y ?_|refine .z ?_|fail
  have hl2:=hp2.lt
  refine Cl.bind (w0:=w) (X0:=PX B) hM (Nh (hp2.ext (by exact kpA)) [[93]] (bG ..) (by omega) (by decide)) hno ?_
  rintro q3 v w3 hM hk3 hq3 hs3 ⟨rfl,hp3⟩
  exact hok _ _ _ hM hq3.out ⟨rfl,hp3⟩
 |false=>
  repeat' first|refine .x ?_|refine .y ?_|refine .z ?_|fail
  have hl1:=hp1.lt
  refine Cl.bind (w0:=w) (X0:=PX B) hM (Nh (hp1.ext (by exact kpA)) [[60]] (bG ..) (by omega) (by decide)) hno ?_
  rintro q2 v w2 hM hk2 hq2 hs2 ⟨rfl,hp2⟩
  refine Cl.bind (w0:=w) (X0:=PX B) hM (iY hp2 [62]) hno ?_
  rintro⟨b3,q3⟩ v w3 hM hk3 hq3 hs3 ⟨rfl,hp3⟩
  cases b3 with
  |true=>repeat' (first|refine .x ?_|refine .y ?_|refine .z ?_|fail);exact hok _ _ _ hM hq3.out ⟨rfl,hp3⟩
  |false=>
   repeat' first|refine .x ?_|refine .y ?_|refine .z ?_|fail
   refine Cl.bind (w0:=w) (X0:=PX B) hM (IZ hp3 0 4294967295) hno ?_
   rintro⟨n,u,q4⟩ v w4 hM hk4 hq4 hs4 ⟨rfl,hp4⟩
   repeat' first|refine .x ?_|refine .y ?_|refine .z ?_|fail
   have hl4:=hp4.lt
   refine Cl.bind (w0:=w) (X0:=PX B) hM (Nh (hp4.ext (by exact kpA)) [[62]] (bG ..) (by omega) (by decide)) hno ?_
   rintro q5 v w5 hM hk5 hq5 hs5 ⟨rfl,hp5⟩
   exact hok _ _ _ hM hq5.out ⟨rfl,hp5⟩
theorem OT{B:Nat}{H:Hp}{w:World}{p:PS}(h:PR B H w p):
  Calls P gu #[pt (B+5) 0,.map (some (B+1))] w (Post w (zi p) (PX B) fun x v w'=>v=wdv x.1∧PR B H w' x.2.2):=by
 refine Post.R fun R M hM hok hno=>?_
 apply oz
 unfold jy
 have hl:=h.lt
 rw[zi,M.own]at hM
 have hM0:M=(name p).andThen fun w=>(once p.names w.s w.at_).andThen fun l=>(advance { p with names:=l }).andThen fun p=>.ok (w,(),p):=by
  rw[hM]
  cases name p with
  |no=>rfl
  |ok x=>
   simp only[Res.ak]
   cases once p.names x.s x.at_ with
   |no=>rfl
   |ok l=>
    simp only[Res.ak]
    cases advance { p with names:=l }<;>rfl
 clear hM
 have hM:=hM0
 clear hM0
 repeat' first|refine .x ?_|refine .y ?_|refine .z ?_|fail
 have h0:=h.ext (w':=w.alloc (cl [.int .i64 0,.string ⟨#[]⟩,.int .i64 0,.int .i64 0] 104)) (by exact kpA)
 refine Cl.bind (w0:=w) (X0:=PX B) hM (Q9 h0) hno ?_
 rintro x v w1 hM hk1 hq1 hs1 ⟨rfl,rfl,h1⟩
 rw[size_alloc]at hs1
 unfold wdv
 have hp:=h1.hp
 rw[bD]at hp
 have hl1:=h1.lt
 repeat' first|refine .x ?_|refine .y ?_|refine .z ?_|fail
 obtain⟨es,ck,hm1,hm2⟩:=h1.hn
 have hm3:(aj (w1.alloc (cl [.int .i64 0,.string ⟨#[]⟩,.int .i64 0,.int .i64 0] 104)) w1.heap.size (cl [i64 p.w.kind,.string (bs p.w.s),i64 p.w.at_,i64 p.w.n] 104)).heap[B+1]?=some (.map es ck):=
  (bJ (by omega)).trans ((dA (by omega)).trans hm1)
 refine Cl.bind (w0:=w) (X0:=PX B) hM (Vt _ (B+1) p.names p.w.s p.w.at_ ⟨es,ck,hm3,hm2⟩) hno ?_
 rintro l' v w2 hM hk2 hq2 hs2 hn2
 rw[ah,size_alloc]at hs2
 have h2:PR B H w2 { p with names:=l' }:=by
  refine PR.names (w:=(aj (w1.alloc (cl [.int .i64 0,.string ⟨#[]⟩,.int .i64 0,.int .i64 0] 104)) w1.heap.size (cl [i64 p.w.kind,.string (bs p.w.s),i64 p.w.at_,i64 p.w.n] 104))) ?_ hk2 hn2
  exact h1.ext (by exact kpA)
 refine Cl.bind (w0:=w) (X0:=PX B) hM (sK h2) hno ?_
 rintro p3 v w3 hM hk3 hq3 hs3 ⟨rfl,h3⟩
 repeat' first|refine .x ?_|refine .y ?_|refine .z ?_|fail
 exact hok _ _ _ hM (by exact kpA) ⟨rfl,h3.tmp (a:=w.heap.size) (by exact kpA) (by omega) (h.sub.fresh (Nat.le_refl _))⟩
structure Nmr {σ:Type} (B s:Nat) (nm:PS→Res (Wd×σ×PS)) (J0:World→Prop) (J:σ→World→Prop):Prop where
 hs:B+1≤s∧s<B+2∨B+6≤s
 call:∀{H:Hp} {w:World} {p:PS},PR B H w p→J0 w→Calls P gu #[pt (B+5) 0,.map (some s)] w (Post w (nm p) [(B,B+6),(s,s+1)] fun x v w'=>v=wdv x.1∧J x.2.1 w'∧PR B H w' x.2.2)
 lt:∀{w:World},J0 w→B+6≤w.heap.size→s<w.heap.size
 k0:∀{w w'},J0 w→Kp (PX B) w w'→J0 w'
 k:∀{x w w'},J x w→Kp (PX B) w w'→J x w'
 t:∀{x w w' a b},J x w→Kp [(a,b)] w w'→B+6≤a→s<a→J x w'
theorem aJ.kp{w w':World}{s:Nat}{l:List By}{X:List (Nat×Nat)}(h:aJ w s l)(k:Kp X w w')(ho:Out X s):aJ w' s l:=by
 obtain⟨es,ck,a,b⟩:=h
 exact⟨es,ck,(k.same s (lt_of_heap a) ho).trans a,b⟩
theorem ay.kp{k:IntKind}{w w':World}{s:Nat}{l:List Int}{X:List (Nat×Nat)}(h:ay k w s l)(kk:Kp X w w')(ho:Out X s):ay k w' s l:=by
 obtain⟨es,ck,a,b⟩:=h
 exact⟨es,ck,(kk.same s (lt_of_heap a) ho).trans a,b⟩
theorem Yt{B s:Nat}(hs:B+6≤s)(l:List By):Nmr B s (V7 l) (fun w=>aJ w s l) (fun l' w=>aJ w s l') where
 hs:=Or.inr hs
 call h hj:=OU h hs hj
 lt h _:=by obtain⟨_,_,a,_⟩:=h;exact lt_of_heap a
 k0 h k:=aJ.kp h k ⟨by omega,trivial⟩
 k h k:=aJ.kp h k ⟨by omega,trivial⟩
 t h k _ ha:=aJ.kp h k ⟨by omega,trivial⟩
theorem Post.mono{β:Type}{w:World}{m:Res β}{X Y:List (Nat×Nat)}{good good':β→Value→World→Prop}{en:Ending}{w':World}(h:Post w m X good en w')
  (hX:∀i,i<w.heap.size→Out Y i→Out X i) (hg:∀b v w',m=.ok b→Kp X w w'→good b v w'→good' b v w'):Post w m Y good' en w':=by
 obtain⟨h1,h2⟩:=h
 refine⟨h1.mono hX,?_⟩
 cases hm:m with
 |ok b=>rw[hm]at h2;obtain⟨v,hv,hb⟩:=h2;exact⟨v,hv,hg b v w' hm h1 hb⟩
 |no e a=>rw[hm]at h2;exact h2
theorem Yu{B:Nat}:Nmr B (B+1) zi (fun _=>True) (fun _ _=>True) where
 hs:=Or.inl ⟨by omega,by omega⟩
 call h _:=(OT h).mono fun _ _ hp=>hp.mono (fun i _ ho=>⟨ho.1,trivial⟩) fun _ _ _ _ _ hb=>⟨hb.1,trivial,hb.2⟩
 lt _ h:=by omega
 k0 _ _:=trivial
 k _ _:=trivial
 t _ _ _ _:=trivial
theorem Gr.mono{H H':Hp}{n m:Nat}(h:Gr H H' m)(hn:n≤m):Gr H H' n:=⟨h.1,fun i x hx=>(h.2 i x hx).imp id fun a=>by omega⟩
theorem PR.tmps{B:Nat}{H H':Hp}{w0 w w':World}{p0 p:PS}{m:Nat}(h:PR B H' w p)(h0:PR B H w0 p0)(g:Gr H H' m)(k:Kp [(w0.heap.size,m)] w w'):PR B H' w' p:=by
 have hl:=h0.lt
 refine h.kp k (fun i h1=>⟨by omega,trivial⟩) (fun i h1 h2=>⟨by omega,trivial⟩) (fun b x hx=>⟨?_,trivial⟩)
 rcases g.2 b x hx with h1|h1
 ·have:=lt_of_heap (h0.sub b x.1 x.2 h1);omega
 ·omega
set_option maxHeartbeats 1000000 in
theorem Vr{σ:Type}{B s:Nat}{nm:PS→Res (Wd×σ×PS)}{J0:World→Prop}{J:σ→World→Prop}(N:Nmr B s nm J0 J){H:Hp}{w:World}{p:PS}(h:PR B H w p)(hj:J0 w):
  Calls P rU #[pt (B+5) 0,.map (some s)] w (Post w (decl nm p) [(B,B+6),(s,s+1)] fun x v w'=>∃H' tv,v=.tuple #[.agg #[.string (bs x.1.name),tv],wdv x.2.1]∧Gr H H' w.heap.size∧gK H' x.1.ty tv∧J x.2.2.1 w'∧PR B H' w' x.2.2.2):=by
 refine Post.R fun R M hM hok hno=>?_
 apply AO
 unfold qU
 have hl:=h.lt
 have hs:=N.lt hj hl
 have hp:=h.hp
 rw[bD]at hp
 rw[decl]at hM
 repeat' first|refine .x ?_|refine .y ?_|refine .z ?_|fail
 have hA:Kp [] w ((w.alloc (cl [.string ⟨#[]⟩,.nilIface] 223)).alloc (cl [.int .i64 0,.string ⟨#[]⟩,.int .i64 0,.int .i64 0] 104)):=by exact kpA
 have hA1:((w.alloc (cl [.string ⟨#[]⟩,.nilIface] 223)).alloc (cl [.int .i64 0,.string ⟨#[]⟩,.int .i64 0,.int .i64 0] 104)).heap[w.heap.size]?=some (cl [.string ⟨#[]⟩,.nilIface] 223):=(dA (by rw[size_alloc];omega)).trans (bG ..)
 have hA2:((w.alloc (cl [.string ⟨#[]⟩,.nilIface] 223)).alloc (cl [.int .i64 0,.string ⟨#[]⟩,.int .i64 0,.int .i64 0] 104)).heap[w.heap.size+1]?=some (cl [.int .i64 0,.string ⟨#[]⟩,.int .i64 0,.int .i64 0] 104):=iR (by rw[size_alloc])
 have hAs:((w.alloc (cl [.string ⟨#[]⟩,.nilIface] 223)).alloc (cl [.int .i64 0,.string ⟨#[]⟩,.int .i64 0,.int .i64 0] 104)).heap.size=w.heap.size+2:=by simp only[size_alloc]
 generalize (w.alloc (cl [.string ⟨#[]⟩,.nilIface] 223)).alloc (cl [.int .i64 0,.string ⟨#[]⟩,.int .i64 0,.int .i64 0] 104)=wA at *
 have hpA:=h.ext hA
 have hjA:=N.k0 hj hA.any
 refine Cl.plain (w0:=w) (X0:=[(B,B+6),(s,s+1)]) (zq wA p.w [115,116,114,105,110,103]) (fun w1 hk1 hq1 hs1=>?_) (by exact kpA)
 have hp1:=hpA.ext hk1
 have hj1:=N.k0 hjA hk1.any
 have hc1:=hp1.hp
 rw[bD]at hc1
 cases hT:p.w.is [115,116,114,105,110,103]with
 |true=>
  rw[hT]at hM
  simp only[Bool.true_or,if_true,Bool.true_and]at hM
  repeat' first|refine .x ?_|refine .y ?_|refine .z ?_|fail
  refine Cl.bind (w0:=w) (X0:=[(B,B+6),(s,s+1)]) hM (sK hp1) hno ?_
  rintro q2 v w2 hM hk2 hq2 hs2 ⟨rfl,hp2⟩
  refine Cl.bind (w0:=w) (X0:=[(B,B+6),(s,s+1)]) hM (N.call hp2 (N.k0 hj1 hk2)) hno ?_
  rintro⟨x3,l3,q3⟩ v w3 hM hk3 hq3 hs3 ⟨rfl,hj3,hp3⟩
  have hc3:=hp3.hp
  rw[bD]at hc3
  have hl3:=hp3.lt
  dsimp only at hM hc3
  unfold wdv
  repeat' first|refine .x ?_|refine .y ?_|refine .z ?_|fail
  have hB:Kp [] w3 (aj (w3.alloc (cl [.int .i64 0,.string ⟨#[]⟩,.int .i64 0,.int .i64 0] 104)) w3.heap.size (cl [i64 x3.kind,.string (bs x3.s),i64 x3.at_,i64 x3.n] 104)):=by exact kpA
  have hB1:(aj (w3.alloc (cl [.int .i64 0,.string ⟨#[]⟩,.int .i64 0,.int .i64 0] 104)) w3.heap.size (cl [i64 x3.kind,.string (bs x3.s),i64 x3.at_,i64 x3.n] 104)).heap[w3.heap.size]?=some (cl [i64 x3.kind,.string (bs x3.s),i64 x3.at_,i64 x3.n] 104):=aA rfl (by simp only[size_alloc];omega)
  generalize aj (w3.alloc (cl [.int .i64 0,.string ⟨#[]⟩,.int .i64 0,.int .i64 0] 104)) w3.heap.size (cl [i64 x3.kind,.string (bs x3.s),i64 x3.at_,i64 x3.n] 104)=wB at *
  have hBs:=lt_of_heap hB1
  refine Jn.by (fun _ w4=>q3.w.is [60]=true∧Kp [] wB w4∧PR B H w4 q3) (fun J hJ=>?_) ?_
  ·repeat' first|refine .x ?_|refine .y ?_|refine .z ?_|fail
   refine Cl.plain (w0:=w) (X0:=[(B,B+6),(s,s+1)]) (zq wB q3.w [60]) (fun w4 hk4 hq4 hs4=>?_) (by exact kpA)
   cases hL:q3.w.is [60]with
   |true=>
    repeat' first|refine .x ?_|refine .y ?_|refine .z ?_|fail
    exact hJ _ _ ⟨hL,hk4,(hp3.ext hB).ext hk4⟩
   |false=>
    rw[hL]at hM
    repeat' first|refine .x ?_|refine .y ?_|refine .z ?_|fail
    refine Cl.bind (w0:=w) (X0:=[(B,B+6),(s,s+1)]) (m:=(bad q3:Res (Bool×Int×PS))) (k:=fun y=>.ok (⟨x3.s,.bytes true y.1 y.2.1⟩,x3,l3,y.2.2)) (by rw[hM];rfl) (I8 ((hp3.ext hB).ext hk4)) hno ?_
    rintro _ _ _ _ _ _ _ hf
    exact hf.elim
  ·rintro _ w4 jk ⟨hL,hk4,hp4⟩
   have hs4:=hk4.size
   rw[hL]at hM
   simp only[Bool.not_true,Bool.false_eq_true,if_false]at hM
   refine Cl.bind (w0:=w) (X0:=[(B,B+6),(s,s+1)]) hM (IG hp4) hno ?_
   rintro⟨f5,n5,q5⟩ v w5 hM hk5 hq5 hs5 ⟨rfl,hp5⟩
   repeat' first|refine .x ?_|refine .y ?_|refine .z ?_|fail
   refine hok _ _ _ hM (by exact kpA) ⟨H,_,rfl,Gr.refl _ _,rfl,?_,?_⟩
   ·exact N.t (a:=w.heap.size) (b:=w.heap.size+2) (N.k (N.k (N.k hj3 hB.any) hk4.any) hk5) (by exact kpA) (by omega) (by omega)
   ·exact hp5.tmps h (m:=w.heap.size+2) (Gr.refl _ _) (by exact kpA)
 |false=>
  rw[hT]at hM
  simp only[Bool.false_or,Bool.false_and,Bool.false_eq_true,if_false]at hM
  repeat' first|refine .x ?_|refine .y ?_|refine .z ?_|fail
  refine Cl.plain (w0:=w) (X0:=[(B,B+6),(s,s+1)]) (zq w1 p.w [111,112,97,113,117,101]) (fun w1b WT hq1b hs1b=>?_) (by exact kpA)
  have hp1b:=hp1.ext WT
  have hj1b:=N.k0 hj1 WT.any
  cases hO:p.w.is [111,112,97,113,117,101]with
  |true=>
   rw[hO,if_pos rfl]at hM
   repeat' first|refine .x ?_|refine .y ?_|refine .z ?_|fail
   refine Cl.bind (w0:=w) (X0:=[(B,B+6),(s,s+1)]) hM (sK hp1b) hno ?_
   rintro q2 v w2 hM hk2 hq2 hs2 ⟨rfl,hp2⟩
   refine Cl.bind (w0:=w) (X0:=[(B,B+6),(s,s+1)]) hM (N.call hp2 (N.k0 hj1b hk2)) hno ?_
   rintro⟨x3,l3,q3⟩ v w3 hM hk3 hq3 hs3 ⟨rfl,hj3,hp3⟩
   have hl3:=hp3.lt
   dsimp only at hM
   unfold wdv
   repeat' first|refine .x ?_|refine .y ?_|refine .z ?_|fail
   have hB:Kp [] w3 (aj (w3.alloc (cl [.int .i64 0,.string ⟨#[]⟩,.int .i64 0,.int .i64 0] 104)) w3.heap.size (cl [i64 x3.kind,.string (bs x3.s),i64 x3.at_,i64 x3.n] 104)):=by exact kpA
   have hB1:(aj (w3.alloc (cl [.int .i64 0,.string ⟨#[]⟩,.int .i64 0,.int .i64 0] 104)) w3.heap.size (cl [i64 x3.kind,.string (bs x3.s),i64 x3.at_,i64 x3.n] 104)).heap[w3.heap.size]?=some (cl [i64 x3.kind,.string (bs x3.s),i64 x3.at_,i64 x3.n] 104):=aA rfl (by simp only[size_alloc];omega)
   generalize aj (w3.alloc (cl [.int .i64 0,.string ⟨#[]⟩,.int .i64 0,.int .i64 0] 104)) w3.heap.size (cl [i64 x3.kind,.string (bs x3.s),i64 x3.at_,i64 x3.n] 104)=wB at *
   have hBs:=lt_of_heap hB1
   refine Jn.direct ?_
   repeat' first|refine .x ?_|refine .y ?_|refine .z ?_|fail
   intro jk
   refine Cl.bind (w0:=w) (X0:=[(B,B+6),(s,s+1)]) hM (IG (hp3.ext hB)) hno ?_
   rintro⟨f5,n5,q5⟩ v w5 hM hk5 hq5 hs5 ⟨rfl,hp5⟩
   repeat' first|refine .x ?_|refine .y ?_|refine .z ?_|fail
   refine hok _ _ _ hM (by exact kpA) ⟨H,_,rfl,Gr.refl _ _,rfl,?_,?_⟩
   ·exact N.t (a:=w.heap.size) (b:=w.heap.size+2) (N.k (N.k hj3 hB.any) hk5) (by exact kpA) (by omega) (by omega)
   ·exact hp5.tmps h (m:=w.heap.size+2) (Gr.refl _ _) (by exact kpA)
  |false=>
   rw[hO]at hM
   simp only[Bool.false_eq_true,if_false]at hM
   repeat' first|refine .x ?_|refine .y ?_|refine .z ?_|fail
   refine Cl.bind (w0:=w) (X0:=[(B,B+6),(s,s+1)]) hM (Vp hp1b) hno ?_
   rintro⟨t2,q2⟩ tv w2 hM hk2 hq2 hs2 ⟨H2,hg2,ht2,hp2⟩
   dsimp only at hM ht2
   obtain⟨ti,tu,rfl⟩:=ht2.form
   have Sj:Gr H H2 (w.heap.size+2):=hg2.mono (by omega)
   refine Cl.bind (w0:=w) (X0:=[(B,B+6),(s,s+1)]) hM (iY hp2 [42]) hno ?_
   rintro⟨b3,q3⟩ v w3 hM hk3 hq3 hs3 ⟨rfl,hp3⟩
   cases b3 with
   |true=>
    repeat' first|refine .x ?_|refine .y ?_|refine .z ?_|fail
    simp only[if_true]at hM
    refine Cl.bind (w0:=w) (X0:=[(B,B+6),(s,s+1)]) hM (N.call hp3 (N.k0 (N.k0 hj1b hk2) hk3)) hno ?_
    rintro⟨x4,l4,q4⟩ v w4 hM hk4 hq4 hs4 ⟨rfl,hj4,hp4⟩
    have hl4:=hp4.lt
    dsimp only at hM
    have t1:w4.heap[w.heap.size]?=some (cl [.string ⟨#[]⟩,.nilIface] 223):=
     oK hk4 (by omega) ⟨by omega,by omega,trivial⟩ (oK hk3 (by omega) ⟨by omega,trivial⟩ (oK hk2 (by omega) ⟨by omega,trivial⟩ (oK WT (by omega) trivial (oK hk1 (by omega) trivial hA1))))
    have t2:w4.heap[w.heap.size+1]?=some (cl [.int .i64 0,.string ⟨#[]⟩,.int .i64 0,.int .i64 0] 104):=
     oK hk4 (by omega) ⟨by omega,by omega,trivial⟩ (oK hk3 (by omega) ⟨by omega,trivial⟩ (oK hk2 (by omega) ⟨by omega,trivial⟩ (oK WT (by omega) trivial (oK hk1 (by omega) trivial hA2))))
    clear hk1 hk2 hk3 hA1 hA2 WT hA hpA hp1 hp1b hp2
    unfold wdv
    repeat' first|refine .x ?_|refine .y ?_|refine .z ?_|fail
    refine hok _ _ _ hM (by exact kpA) ⟨H2,_,rfl,Sj.mono (by omega),⟨_,rfl,ht2⟩,?_,?_⟩
    ·exact N.t (a:=w.heap.size) (b:=w.heap.size+2) hj4 (by exact kpA) (by omega) (by omega)
    ·exact hp4.tmps h (m:=w.heap.size+2) Sj (by exact kpA)
   |false=>
    repeat' first|refine .x ?_|refine .y ?_|refine .z ?_|fail
    simp only[Bool.false_eq_true,if_false]at hM
    refine Cl.bind (w0:=w) (X0:=[(B,B+6),(s,s+1)]) hM (N.call hp3 (N.k0 (N.k0 hj1b hk2) hk3)) hno ?_
    rintro⟨x4,l4,q4⟩ v w4 hM hk4 hq4 hs4 ⟨rfl,hj4,hp4⟩
    have hl4:=hp4.lt
    have hc4:=hp4.hp
    rw[bD]at hc4
    dsimp only at hM hc4
    unfold wdv
    repeat' first|refine .x ?_|refine .y ?_|refine .z ?_|fail
    have hB:Kp [] w4 (aj (w4.alloc (cl [.int .i64 0,.string ⟨#[]⟩,.int .i64 0,.int .i64 0] 104)) w4.heap.size (cl [i64 x4.kind,.string (bs x4.s),i64 x4.at_,i64 x4.n] 104)):=by exact kpA
    have hB1:(aj (w4.alloc (cl [.int .i64 0,.string ⟨#[]⟩,.int .i64 0,.int .i64 0] 104)) w4.heap.size (cl [i64 x4.kind,.string (bs x4.s),i64 x4.at_,i64 x4.n] 104)).heap[w4.heap.size]?=some (cl [i64 x4.kind,.string (bs x4.s),i64 x4.at_,i64 x4.n] 104):=aA rfl (by simp only[size_alloc];omega)
    generalize aj (w4.alloc (cl [.int .i64 0,.string ⟨#[]⟩,.int .i64 0,.int .i64 0] 104)) w4.heap.size (cl [i64 x4.kind,.string (bs x4.s),i64 x4.at_,i64 x4.n] 104)=wB at *
    have hBs:=lt_of_heap hB1
    refine Jn.by (fun vals w5=>∃d u q,M=.ok (⟨x4.s,d⟩,x4,l4,q)∧vals=[u]∧gK H2 d u∧Kp (PX B) wB w5∧PR B H2 w5 q) (fun J hJ=>?_) ?_
    ·repeat' first|refine .x ?_|refine .y ?_|refine .z ?_|fail
     refine Cl.plain (w0:=w) (X0:=[(B,B+6),(s,s+1)]) (zq wB q4.w [91]) (fun w5 hk5 hq5 hs5=>?_) (by exact kpA)
     have hp5:=(hp4.ext hB).ext hk5
     have hc5:=hp5.hp
     rw[bD]at hc5
     cases hL:q4.w.is [91]with
     |true=>
      rw[hL]at hM
      simp only[Bool.true_or,if_true]at hM
      repeat' first|refine .x ?_|refine .y ?_|refine .z ?_|fail
      refine Cl.bind (w0:=w) (X0:=[(B,B+6),(s,s+1)]) hM (IG hp5) hno ?_
      rintro⟨f6,n6,q6⟩ v w6 hM hk6 hq6 hs6 ⟨rfl,hp6⟩
      repeat' first|refine .x ?_|refine .y ?_|refine .z ?_|fail
      exact hJ _ _ ⟨_,_,_,hM,rfl,⟨_,rfl,ht2⟩,by exact kpA,hp6⟩
     |false=>
      rw[hL]at hM
      simp only[Bool.false_or]at hM
      repeat' first|refine .x ?_|refine .y ?_|refine .z ?_|fail
      refine Cl.plain (w0:=w) (X0:=[(B,B+6),(s,s+1)]) (zq w5 q4.w [60]) (fun w6 hk6 hq6 hs6=>?_) (by exact kpA)
      have hp6:=hp5.ext hk6
      cases hK:q4.w.is [60]with
      |true=>
       rw[hK,if_pos rfl]at hM
       repeat' first|refine .x ?_|refine .y ?_|refine .z ?_|fail
       refine Cl.bind (w0:=w) (X0:=[(B,B+6),(s,s+1)]) hM (IG hp6) hno ?_
       rintro⟨f7,n7,q7⟩ v w7 hM hk7 hq7 hs7 ⟨rfl,hp7⟩
       repeat' first|refine .x ?_|refine .y ?_|refine .z ?_|fail
       exact hJ _ _ ⟨_,_,_,hM,rfl,⟨_,rfl,ht2⟩,by exact kpA,hp7⟩
      |false=>
       rw[hK]at hM
       simp only[Bool.false_eq_true,if_false]at hM
       repeat' first|refine .x ?_|refine .y ?_|refine .z ?_|fail
       exact hJ _ _ ⟨_,_,_,hM,rfl,ht2,by exact kpA,hp6⟩
    ·rintro _ w5 jk ⟨d,u,q,hM,rfl,hu,hk5,hp5⟩
     have hs5:=hk5.size
     obtain⟨ui,uu,rfl⟩:=hu.form
     repeat' first|refine .x ?_|refine .y ?_|refine .z ?_|fail
     refine hok _ _ _ hM ?_ ⟨H2,_,rfl,Sj.mono (by omega),hu,?_,?_⟩
     ·have:Kp [(B,B+6),(s,s+1)] w w5:=(hq4.out.trans hB fun i _ ho=>⟨ho,trivial⟩).trans hk5 fun i _ ho=>⟨ho,ho.1,trivial⟩
      exact kpA
     ·exact N.t (a:=w.heap.size) (b:=w.heap.size+2) (N.k (N.k hj4 hB.any) hk5) (by exact kpA) (by omega) (by omega)
     ·exact hp5.tmps h (m:=w.heap.size+2) Sj (by exact kpA)
end Go.W.T
namespace Go.W.T
open Go Go.W Go.M Go.Proofs
def SlF(H:Hp)(e:TypeId)(n:Nat)(l:List Value)(v:Value):Prop:=∃b rest cap,v=.slice (some ⟨b,0,none⟩) n cap∧H b=some (l++rest,e)
theorem SlF.le{H H':Hp}{e:TypeId}{n:Nat}{l:List Value}{v:Value}(h:SlF H e n l v)(k:Hle H H'):SlF H' e n l v:=by
 obtain⟨b,r,c,h1,h2⟩:=h;exact⟨b,r,c,h1,k _ _ h2⟩
def iJ(H:Hp):List Decl→List Value→Prop
 |[],[]=>True
 |d::ds,s::t::r=>s=.string (bs d.name)∧gK H d.ty t∧iJ H ds r
 |_,_=>False
def jD(H:Hp):List Arm→List Value→Prop
 |[],[]=>True
 |a::ar,ns::s::t::r=>SlF H gX a.nums.length (a.nums.map i64) ns∧s=.string (bs a.decl.name)∧gK H a.decl.ty t∧jD H ar r
 |_,_=>False
def fQ(H:Hp):List gq→List Value→Prop
 |[],[]=>True
 |q::qs,s::n::a::t::r=>s=.string (bs q.name)∧n=.int .u32 q.n∧gK H q.arg a∧gK H q.res t∧fQ H qs r
 |_,_=>False
def jC(H:Hp):List gI→List Value→Prop
 |[],[]=>True
 |v::vs,s::n::q::r=>s=.string (bs v.name)∧n=.int .u32 v.n∧(∃l,fQ H v.procs l∧SlF H bC v.procs.length l q)∧jC H vs r
 |_,_=>False
def iw(H:Hp)(d:Def)(v:Value):Prop:=
 match d.k with
 |.const n=>∃b,v=.iface xu (pt b 0)∧H b=some ([.string (bs d.name),i64 d.at_,i64 n],uJ)
 |.alias t=>∃b u,v=.iface xw (pt b 0)∧H b=some ([.string (bs d.name),i64 d.at_,u],nR)∧gK H t u
 |.enum ns is=>∃b u x,v=.iface sO (pt b 0)∧H b=some ([.string (bs d.name),i64 d.at_,u,x],dI)∧SlF H kY ns.length (ns.map κs) u∧SlF H gX is.length (is.map i64) x
 |.struct ds=>∃b u l,v=.iface nS (pt b 0)∧H b=some ([.string (bs d.name),i64 d.at_,u],dQ)∧iJ H ds l∧SlF H fO ds.length l u
 |.union of nm ar els=>∃b o u l e,v=.iface qw (pt b 0)∧H b=some ([.string (bs d.name),i64 d.at_,o,.string (bs nm),u,e],aH)∧gK H of o∧jD H ar l∧SlF H cu ar.length l u ∧
   (match els with
    |none=>e=.pointer none
    |some x=>∃c t,e=pt c 0∧H c=some ([.string (bs x.name),t],fO)∧gK H x.ty t)
 |.prog n vs=>∃b u l,v=.iface lQ (pt b 0)∧H b=some ([.string (bs d.name),i64 d.at_,.int .u32 n,u],bM)∧jC H vs l∧SlF H az vs.length l u
theorem iJ.le{H H':Hp}(k:Hle H H'):∀{ds:List Decl} {l:List Value},iJ H ds l→iJ H' ds l
 |[],[],_=>trivial
 |_::_,_::_::_,h=>⟨h.1,h.2.1.le k,iJ.le k h.2.2⟩
 |[],_::_,h=>h.elim
 |_::_,[],h=>h.elim
 |_::_,[_],h=>h.elim
theorem iJ.snoc{H:Hp}{d:Decl}{t:Value}(ht:gK H d.ty t):∀{ds:List Decl} {l:List Value},iJ H ds l→iJ H (ds++[d]) (l++[.string (bs d.name),t])
 |[],[],_=>⟨rfl,ht,trivial⟩
 |_::_,_::_::_,h=>⟨h.1,h.2.1,iJ.snoc ht h.2.2⟩
 |[],_::_,h=>h.elim
 |_::_,[],h=>h.elim
 |_::_,[_],h=>h.elim
theorem jD.le{H H':Hp}(k:Hle H H'):∀{ds:List Arm} {l:List Value},jD H ds l→jD H' ds l
 |[],[],_=>trivial
 |_::_,_::_::_::_,h=>⟨h.1.le k,h.2.1,h.2.2.1.le k,jD.le k h.2.2.2⟩
 |[],_::_,h=>h.elim
 |_::_,[],h=>h.elim
 |_::_,[_],h=>h.elim
 |_::_,[_,_],h=>h.elim
theorem jD.snoc{H:Hp}{d:Arm}{ns t:Value}(hn:SlF H gX d.nums.length (d.nums.map i64) ns)(ht:gK H d.decl.ty t):∀{ds:List Arm} {l:List Value},jD H ds l→jD H (ds++[d]) (l++[ns,.string (bs d.decl.name),t])
 |[],[],_=>⟨hn,rfl,ht,trivial⟩
 |_::_,_::_::_::_,h=>⟨h.1,h.2.1,h.2.2.1,jD.snoc hn ht h.2.2.2⟩
 |[],_::_,h=>h.elim
 |_::_,[],h=>h.elim
 |_::_,[_],h=>h.elim
 |_::_,[_,_],h=>h.elim
theorem fQ.le{H H':Hp}(k:Hle H H'):∀{ds:List gq} {l:List Value},fQ H ds l→fQ H' ds l
 |[],[],_=>trivial
 |_::_,_::_::_::_::_,h=>⟨h.1,h.2.1,h.2.2.1.le k,h.2.2.2.1.le k,fQ.le k h.2.2.2.2⟩
 |[],_::_,h=>h.elim
 |_::_,[],h=>h.elim
 |_::_,[_],h=>h.elim
 |_::_,[_,_],h=>h.elim
 |_::_,[_,_,_],h=>h.elim
theorem fQ.snoc{H:Hp}{q:gq}{a t:Value}(ha:gK H q.arg a)(ht:gK H q.res t):∀{ds:List gq} {l:List Value},fQ H ds l→fQ H (ds++[q]) (l++[.string (bs q.name),.int .u32 q.n,a,t])
 |[],[],_=>⟨rfl,rfl,ha,ht,trivial⟩
 |_::_,_::_::_::_::_,h=>⟨h.1,h.2.1,h.2.2.1,h.2.2.2.1,fQ.snoc ha ht h.2.2.2.2⟩
 |[],_::_,h=>h.elim
 |_::_,[],h=>h.elim
 |_::_,[_],h=>h.elim
 |_::_,[_,_],h=>h.elim
 |_::_,[_,_,_],h=>h.elim
theorem jC.le{H H':Hp}(k:Hle H H'):∀{ds:List gI} {l:List Value},jC H ds l→jC H' ds l
 |[],[],_=>trivial
 |_::_,_::_::_::_,h=>⟨h.1,h.2.1,by obtain⟨l,h1,h2⟩:=h.2.2.1;exact⟨l,h1.le k,h2.le k⟩,jC.le k h.2.2.2⟩
 |[],_::_,h=>h.elim
 |_::_,[],h=>h.elim
 |_::_,[_],h=>h.elim
 |_::_,[_,_],h=>h.elim
theorem jC.snoc{H:Hp}{v:gI}{q:Value}{pl:List Value}(hp:fQ H v.procs pl)(hq:SlF H bC v.procs.length pl q):∀{ds:List gI} {l:List Value},jC H ds l→jC H (ds++[v]) (l++[.string (bs v.name),.int .u32 v.n,q])
 |[],[],_=>⟨rfl,rfl,⟨pl,hp,hq⟩,trivial⟩
 |_::_,_::_::_::_,h=>⟨h.1,h.2.1,h.2.2.1,jC.snoc hp hq h.2.2.2⟩
 |[],_::_,h=>h.elim
 |_::_,[],h=>h.elim
 |_::_,[_],h=>h.elim
 |_::_,[_,_],h=>h.elim
theorem iw.le{H H':Hp}{d:Def}{v:Value}(h:iw H d v)(k:Hle H H'):iw H' d v:=by
 obtain⟨nm,at_,dk⟩:=d
 cases dk with
 |const n=>obtain⟨b,h1,h2⟩:=h;exact⟨b,h1,k _ _ h2⟩
 |alias t=>obtain⟨b,u,h1,h2,h3⟩:=h;exact⟨b,u,h1,k _ _ h2,h3.le k⟩
 |enum ns is=>obtain⟨b,u,x,h1,h2,h3,h4⟩:=h;exact⟨b,u,x,h1,k _ _ h2,h3.le k,h4.le k⟩
 |struct ds=>obtain⟨b,u,l,h1,h2,h3,h4⟩:=h;exact⟨b,u,l,h1,k _ _ h2,h3.le k,h4.le k⟩
 |union of n ar els=>
  obtain⟨b,o,u,l,e,h1,h2,h3,h4,h5,h6⟩:=h
  refine⟨b,o,u,l,e,h1,k _ _ h2,h3.le k,h4.le k,h5.le k,?_⟩
  cases els with
  |none=>exact h6
  |some x=>obtain⟨c,t,h7,h8,h9⟩:=h6;exact⟨c,t,h7,k _ _ h8,h9.le k⟩
 |prog n vs=>obtain⟨b,u,l,h1,h2,h3,h4⟩:=h;exact⟨b,u,l,h1,k _ _ h2,h3.le k,h4.le k⟩
theorem BF{α β:Type}[BEq α](f:β→Value)(m:List (α×β))(a:α)(v:β):sV (m.map fun x=>(x.1,f x.2)) a (f v)=(bg m a v).map fun x=>(x.1,f x.2):=by
 induction m with
 |nil=>rfl
 |cons x r ih=>
  simp only[List.map_cons,sV,bg]
  cases a==x.1 with
  |true=>rfl
  |false=>simp only[Bool.false_eq_true,if_false,ih,List.map_cons]
theorem PR.consts{B:Nat}{H:Hp}{w w':World}{p:PS}{l:List (By×Int)}(h:PR B H w p)(k:Kp [(B+2,B+3)] w w')(hc:∃es clock,w'.heap[B+2]?=some (.map es clock)∧MK κs es clock (l.map fun x=>(x.1,i64 x.2))):PR B H w' { p with consts:=l }:=by
 have hl:=h.lt
 have hB:=h.hB
 have hs:∀i,B≤i→i<B+6→i≠B+2→w'.heap[i]?=w.heap[i]?:=fun i a b c=>k.same i (by omega) ⟨by omega,trivial⟩
 obtain⟨b1,b2,b3,b4⟩:=h.hn
 obtain⟨d1,d2,m,d3,d4,d5⟩:=h.he
 obtain⟨f1,f2,f3,f4⟩:=h.hg
 exact { gl := h.gl.kp k (fun i hi => ⟨by omega, trivial⟩), hB := h.hB, sub := h.sub.kp k (fun b x hx => by have := h.dom b x hx; exact ⟨by omega, trivial⟩), dom := h.dom,
         lt := by have := k.size; omega, hp := (hs _ (by omega) (by omega) (by omega)).trans h.hp, ht := (hs _ (by omega) (by omega) (by omega)).trans h.ht,
         hn := ⟨b1, b2, (hs _ (by omega) (by omega) (by omega)).trans b3, b4⟩, hc := hc,
         he := ⟨d1, d2, m, (hs _ (by omega) (by omega) (by omega)).trans d3, d4, d5⟩, hg := ⟨f1, f2, (hs _ (by omega) (by omega) (by omega)).trans f3, f4⟩,
         len := h.len, pos := h.pos, c0 := h.c0, c1 := h.c1, c2 := h.c2 }
theorem PR.enums{B:Nat}{H:Hp}{w w':World}{p:PS}{l:List (By×List Int)}(h:PR B H w p)(k:Kp [(B+3,B+4)] w w')(hc:∃es clock m,w'.heap[B+3]?=some (.map es clock)∧MK κs es clock m∧iW H m l):PR B H w' { p with enums:=l }:=by
 have hl:=h.lt
 have hB:=h.hB
 have hs:∀i,B≤i→i<B+6→i≠B+3→w'.heap[i]?=w.heap[i]?:=fun i a b c=>k.same i (by omega) ⟨by omega,trivial⟩
 obtain⟨b1,b2,b3,b4⟩:=h.hn
 obtain⟨d1,d2,d3,d4⟩:=h.hc
 obtain⟨f1,f2,f3,f4⟩:=h.hg
 exact { gl := h.gl.kp k (fun i hi => ⟨by omega, trivial⟩), hB := h.hB, sub := h.sub.kp k (fun b x hx => by have := h.dom b x hx; exact ⟨by omega, trivial⟩), dom := h.dom,
         lt := by have := k.size; omega, hp := (hs _ (by omega) (by omega) (by omega)).trans h.hp, ht := (hs _ (by omega) (by omega) (by omega)).trans h.ht,
         hn := ⟨b1, b2, (hs _ (by omega) (by omega) (by omega)).trans b3, b4⟩, he := hc,
         hc := ⟨d1, d2, (hs _ (by omega) (by omega) (by omega)).trans d3, d4⟩, hg := ⟨f1, f2, (hs _ (by omega) (by omega) (by omega)).trans f3, f4⟩,
         len := h.len, pos := h.pos, c0 := h.c0, c1 := h.c1, c2 := h.c2 }
theorem PR.ik{B:Nat}{H:Hp}{w w':World}{p:PS}{l:List Int}(h:PR B H w p)(k:Kp [(B+4,B+5)] w w')(hc:ay .u32 w' (B+4) l):PR B H w' { p with ik:=l }:=by
 have hl:=h.lt
 have hB:=h.hB
 have hs:∀i,B≤i→i<B+6→i≠B+4→w'.heap[i]?=w.heap[i]?:=fun i a b c=>k.same i (by omega) ⟨by omega,trivial⟩
 obtain⟨b1,b2,b3,b4⟩:=h.hn
 obtain⟨d1,d2,d3,d4⟩:=h.hc
 obtain⟨f1,f2,m,f3,f4,f5⟩:=h.he
 exact { gl := h.gl.kp k (fun i hi => ⟨by omega, trivial⟩), hB := h.hB, sub := h.sub.kp k (fun b x hx => by have := h.dom b x hx; exact ⟨by omega, trivial⟩), dom := h.dom,
         lt := by have := k.size; omega, hp := (hs _ (by omega) (by omega) (by omega)).trans h.hp, ht := (hs _ (by omega) (by omega) (by omega)).trans h.ht,
         hn := ⟨b1, b2, (hs _ (by omega) (by omega) (by omega)).trans b3, b4⟩, hg := hc,
         hc := ⟨d1, d2, (hs _ (by omega) (by omega) (by omega)).trans d3, d4⟩, he := ⟨f1, f2, m, (hs _ (by omega) (by omega) (by omega)).trans f3, f4, f5⟩,
         len := h.len, pos := h.pos, c0 := h.c0, c1 := h.c1, c2 := h.c2 }
theorem PR.counts{B:Nat}{H:Hp}{w w':World}{p p':PS}(h:PR B H w p)(k:Kp [(B+5,B+6)] w w')(hp:w'.heap[B+5]?=some (cl (bD B p') aT))
  (e:p'={ p with n0:=p'.n0,n1:=p'.n1,n2:=p'.n2 }) (c0:p'.n0≤24) (c1:p'.n1≤40) (c2:p'.n2≤4):PR B H w' p':=by
 have hl:=h.lt
 have ht:w'.heap[B]?=w.heap[B]?:=k.same B (by omega) ⟨by omega,trivial⟩
 have e1:p'.txt=p.txt:=by rw[e]
 have e2:p'.pos=p.pos:=by rw[e]
 exact h.step (k.mono fun i hi ho=>⟨ho.2.1,trivial⟩) hp (by rw[ht,h.ht,e1,e2]) (by rw[e]) (by rw[e]) (by rw[e]) (by rw[e]) e1 (by rw[e1,e2];exact h.pos) c0 c1 c2
theorem PR.own{B:Nat}{H:Hp}{w w':World}{p:PS}{o:Option Nat}(h:PR B H w p)(k:Kp (own o) w w')(ho:∀b,o=some b→B+6≤b∧H b=none):PR B H w' p:=by
 cases o with
 |none=>exact h.ext k
 |some b=>obtain⟨h1,h2⟩:=ho b rfl;exact h.tmp k h1 h2
theorem bZ{B:Nat}{H:Hp}{w:World}{p:PS}(h:PR B H w p)(l:List By){b:Nat}{t:TypeId}{lv:List Value}(hb:w.heap[b]?=some (cl lv t):=by exact lookA)(hlv:l.map κs=lv:=by rfl)
  (hB:B+6≤b:=by omega) (hl:l.length<100:=by decide):
  Calls P ku #[pt (B+5) 0,.slice (some ⟨b,0,none⟩) l.length l.length] w (Post w (want p l) (PX B) fun p' v w'=>v=.tuple #[]∧PR B H w' p'):=by
 subst hlv
 exact Nh h l hb hB hl
theorem OQ{B s:Nat}{H:Hp}{w:World}{p:PS}{l:List By}(h:PR B H w p)(hs:B+6≤s)(hset:aJ w s l):
  Calls P oH #[pt (B+5) 0,.map (some s)] w (Post w (member p l) [(B,B+6),(s,s+1)] fun x v w'=>∃H' tv,v=.agg #[.string (bs x.1.name),tv]∧Gr H H' w.heap.size∧gK H' x.1.ty tv∧aJ w' s x.2.1∧PR B H' w' x.2.2):=by
 refine Post.R fun R M hM hok hno=>?_
 apply yN
 unfold nY
 have hl:=h.lt
 have hsl:s<w.heap.size:=by obtain⟨_,_,a,_⟩:=hset;exact lt_of_heap a
 rw[member]at hM
 repeat' first|refine .x ?_|refine .y ?_|refine .z ?_|fail
 have h0:=h.ext (w':=w.alloc (cl [.string ⟨#[]⟩,.nilIface] 223)) (by exact kpA)
 refine Cl.bind (w0:=w) (X0:=[(B,B+6),(s,s+1)]) hM (Vr (Yt hs l) h0 (aJ.kp (X:=[]) hset (by exact kpA) trivial)) hno ?_
 rintro⟨d,x,l',q⟩ v w1 hM hk1 hq1 hs1 ⟨H1,tv,rfl,hg1,ht1,KH,hp1⟩
 rw[size_alloc]at hs1
 dsimp only at hM ht1 KH hp1
 obtain⟨ti,tu,rfl⟩:=ht1.form
 unfold wdv
 have hl1:=hp1.lt
 repeat' first|refine .x ?_|refine .y ?_|refine .z ?_|fail
 have hg1':Gr H H1 (w.heap.size+1):=hg1.mono (by rw[size_alloc];omega)
 refine Cl.bind (w0:=w) (X0:=[(B,B+6),(s,s+1)]) hM (bZ (hp1.ext (by exact kpA)) [[59]]) hno ?_
 rintro q2 v w2 hM hk2 hq2 hs2 ⟨rfl,hp2⟩
 have hl2:=hp2.lt
 simp only[size_alloc,ah,size_drew]at hs2
 repeat' first|refine .x ?_|refine .y ?_|refine .z ?_|fail
 refine hok _ _ _ hM (by exact kpA) ⟨H1,_,rfl,hg1'.mono (by omega),ht1,?_,?_⟩
 ·exact aJ.kp (X:=[(w.heap.size,w.heap.size+1)]) (aJ.kp (aJ.kp (X:=[]) KH (by exact kpA) trivial) hk2 ⟨by omega,trivial⟩) (by exact kpA) ⟨by omega,trivial⟩
 ·exact hp2.tmps h (m:=w.heap.size+1) hg1' (by exact kpA)
theorem Rf{B:Nat}{H:Hp}{w:World}{p:PS}(h:PR B H w p):
  Calls P lD #[pt (B+5) 0] w (Post w (constant p) (PX B) fun x v w'=>∃H',Gr H H' w.heap.size∧iw H' x.1 v∧PR B H' w' x.2):=by
 refine Post.R fun R M hM hok hno=>?_
 apply wW
 unfold kZ
 have hp:=h.hp
 have hl:=h.lt
 rw[bD]at hp
 rw[constant]at hM
 repeat' first|refine .x ?_|refine .y ?_|refine .z ?_|fail
 refine Cl.iq (w0:=w) (X0:=PX B) hM (jO h p.n1 40) hno ?_
 rintro _ v w1 e1 hM hk1 hq1 hs1 rfl
 have c1:=gV e1
 repeat' first|refine .x ?_|refine .y ?_|refine .z ?_|fail
 refine Cl.iq (w0:=w1) (X0:=PX B) hM (bZ (h.ext (by exact kpA)) [[99,111,110,115,116]]) hno ?_
 rintro q2 v w2 e2 hM hk2 hq2 hs2 ⟨rfl,hp2⟩
 have hl2:=hp2.lt
 rw[size_alloc]at hs2
 refine Cl.iq (w0:=w1) (X0:=PX B) hM (LW hp2) hno ?_
 rintro⟨x3,q3⟩ v w3 e3 hM hk3 hq3 hs3 ⟨rfl,hp3⟩
 have hl3:=hp3.lt
 dsimp only at hM e3
 repeat' first|refine .x ?_|refine .y ?_|refine .z ?_|fail
 refine Cl.iq (w0:=w1) (X0:=PX B) hM (bZ (hp3.ext (by exact kpA)) [[61]]) hno ?_
 rintro q4 v w4 e4 hM hk4 hq4 hs4 ⟨rfl,hp4⟩
 have hl4:=hp4.lt
 simp only[size_alloc,ah]at hs4
 have hb4:w4.heap[w3.heap.size]?=some (cl [.string (bs x3.s),i64 x3.at_] 194):=by exact lookA
 refine Cl.iq (w0:=w1) (X0:=PX B) hM (IZ hp4 least top) hno ?_
 rintro⟨n5,u5,q5⟩ v w5 e5 hM hk5 hq5 hs5 ⟨rfl,hp5⟩
 have hl5:=hp5.lt
 dsimp only at hM e5 hp5
 have hb5:w5.heap[w3.heap.size]?=some (cl [.string (bs x3.s),i64 x3.at_] 194):=by exact lookA
 repeat' first|refine .x ?_|refine .y ?_|refine .z ?_|fail
 refine Cl.iq (w0:=w1) (X0:=PX B) hM (bZ (hp5.ext (by exact kpA)) [[59]]) hno ?_
 rintro q6 v w6 e6 hM hk6 hq6 hs6 ⟨rfl,hp6⟩
 have hl6:=hp6.lt
 simp only[size_alloc,ah]at hs6
 have hb6:w6.heap[w3.heap.size]?=some (cl [.string (bs x3.s),i64 x3.at_] 194):=by exact lookA
 have hc6:=hp6.hp
 rw[bD]at hc6
 obtain⟨es,ck,hm1,hm2⟩:=hp6.hc
 have hn:q6.n1=p.n1:=by
  have a1:=dZ e2
  have a2:=vg e3
  have a3:=dZ e4
  have a4:=uZ e5
  have a5:=dZ e6
  simp only[nn,Prod.mk.injEq]at a1 a2 a3 a4 a5
  omega
 repeat' first|refine .x ?_|refine .y ?_|refine .z ?_|fail
 refine Mu.str hm2 (by exact lookA) fun es' ck' hm'=>?_
 rw[BF (f:=i64)]at hm'
 repeat' first|refine .x ?_|refine .y ?_|refine .z ?_|fail
 have a1:PR B H (aj w6.drew (B+5) (cl (bD B { q6 with n1:=q6.n1+1 }) aT)) { q6 with n1:=q6.n1+1 }:=
  hp6.counts (by exact kpA) (aA rfl (by simp only[size_drew];omega)) rfl hp6.c0 (by show q6.n1+1≤40;omega) hp6.c2
 have a2:=(a1.ext (w':=(aj w6.drew (B+5) (cl (bD B { q6 with n1:=q6.n1+1 }) aT)).drew) (by exact kpA)).consts (l:=bg q6.consts x3.s n5) (w':=aj (aj w6.drew (B+5) (cl (bD B { q6 with n1:=q6.n1+1 }) aT)).drew (B+2) (.map es' ck')) (by exact kpA) ⟨es',ck',aA rfl (by simp only[size_drew,ah];omega),hm'⟩
 have a3:=a2.ext (w':=(aj (aj w6.drew (B+5) (cl (bD B { q6 with n1:=q6.n1+1 }) aT)).drew (B+2) (.map es' ck')).alloc (cl [.string (bs x3.s),i64 x3.at_,i64 n5] uJ)) (by exact kpA)
 have hnew:H w6.heap.size=none:=hp6.sub.fresh (Nat.le_refl _)
 exact hok _ _ _ hM (by exact kpA) ⟨_,Gr.add (b:=w6.heap.size) hnew (by omega),⟨_,rfl,CU ..⟩,a3.add (by exact lookA) (by omega) hnew⟩
theorem XP{B:Nat}{H:Hp}{w:World}{p:PS}(h:PR B H w p):
  Calls P qh #[pt (B+5) 0] w (Post w (alias p) (PX B) fun x v w'=>∃H',Gr H H' w.heap.size∧iw H' x.1 v∧PR B H' w' x.2):=by
 refine Post.R fun R M hM hok hno=>?_
 apply zC
 unfold pG
 have hl:=h.lt
 rw[alias]at hM
 repeat' first|refine .x ?_|refine .y ?_|refine .z ?_|fail
 refine Cl.bind (w0:=w) (X0:=PX B) hM (bZ (h.ext (by exact kpA)) [[116,121,112,101,100,101,102]]) hno ?_
 rintro q1 v w1 hM hk1 hq1 hs1 ⟨rfl,hp1⟩
 have hl1:=hp1.lt
 rw[size_alloc]at hs1
 have hc1:=hp1.hp
 rw[bD]at hc1
 repeat' first|refine .x ?_|refine .y ?_|refine .z ?_|fail
 refine Cl.bind (w0:=w) (X0:=PX B) hM (Vr Yu hp1 trivial) hno ?_
 rintro⟨d,x,l',q2⟩ v w2 hM hk2 hq2 hs2 ⟨H2,tv,rfl,hg2,ht2,_,hp2⟩
 have hl2:=hp2.lt
 dsimp only at hM ht2 hp2
 obtain⟨ti,tu,rfl⟩:=ht2.form
 unfold wdv
 repeat' first|refine .x ?_|refine .y ?_|refine .z ?_|fail
 refine Cl.bind (w0:=w) (X0:=PX B) hM (bZ (hp2.ext (by exact kpA)) [[59]]) hno ?_
 rintro q3 v w3 hM hk3 hq3 hs3 ⟨rfl,hp3⟩
 have hl3:=hp3.lt
 simp only[size_alloc,ah]at hs3
 have hb3:w3.heap[w2.heap.size]?=some (cl [.string (bs d.name),.iface ti tu] fO):=by exact lookA
 have hb4:w3.heap[w2.heap.size+1]?=some (cl [i64 x.kind,.string (bs x.s),i64 x.at_,i64 x.n] EL):=by exact lookA
 repeat' first|refine .x ?_|refine .y ?_|refine .z ?_|fail
 have a3:=hp3.ext (w':=w3.alloc (cl [.string (bs x.s),i64 x.at_,.iface ti tu] nR)) (by exact kpA)
 have hnew:H2 w3.heap.size=none:=hp3.sub.fresh (Nat.le_refl _)
 have hg3:Gr H2 _ w3.heap.size:=Gr.add (b:=w3.heap.size) (l:=[.string (bs x.s),i64 x.at_,.iface ti tu]) (t:=nR) hnew (Nat.le_refl _)
 exact hok _ _ _ hM (by exact kpA) ⟨_,(hg2.trans hg3 (by omega)).mono (by omega),⟨_,_,rfl,CU ..,ht2.le hg3.1⟩,a3.add (by exact lookA) (by omega) hnew⟩
end Go.W.T
namespace Go.W.T
open Go Go.W Go.M Go.Proofs
theorem Gw.some{w:World}{e:TypeId}{m:Nat}{v:Value}{n:Nat}{l:List Value}{o:Option Nat}(h:Gw w e m v n l o)(hn:0<n):∃b rest cap,o=some b∧v=.slice (some ⟨b,0,none⟩) n cap∧w.heap[b]?=some (cl (l++rest) e):=by
 obtain⟨h1,h2⟩:=h
 cases o with
 |none=>omega
 |some b=>obtain⟨r,c,h3,h4,_⟩:=h2;exact⟨b,r,c,rfl,h3,h4⟩
theorem PR.frz{B:Nat}{H H':Hp}{w:World}{p:PS}{n b:Nat}{l:List Value}{t:TypeId}(h:PR B H' w p)(g:Gr H H' n)(hb:w.heap[b]?=some (cl l t))(hB:B+6≤b)(hH:H' b=none)(hn:n≤b):
  ∃H2,Gr H H2 n∧Hle H' H2∧PR B H2 w p∧H2 b=some (l,t)∧∀c,c≠b→H2 c=H' c:=by
 have h1:Gr H' (hadd H' b l t) n:=Gr.add hH hn
 exact⟨hadd H' b l t,g.trans h1 (Nat.le_refl _),h1.1,h.add hb hB hH,CU ..,fun c hc=>by rw[hadd,if_neg hc]⟩
theorem iW.bg{H:Hp}{a:By}{v:Value}{ns:List Int}(h:Ey H v ns):∀{m:List (By×Value)} {l:List (By×List Int)},iW H m l→iW H (sV m a v) (bg l a ns)
 |[],[],_=>⟨rfl,h,trivial⟩
 |x::m,y::l,h1=>by
  obtain⟨h2,h3,h4⟩:=h1
  unfold sV M.bg
  rw[h2]
  cases a==y.1 with
  |true=>exact⟨rfl,h,h4⟩
  |false=>exact⟨h2,h3,iW.bg h h4⟩
 |[],_::_,h1=>h1.elim
 |_::_,[],h1=>h1.elim
theorem WC{B s:Nat}{H:Hp}{p:PS}{is:List Int}(hs:B+6≤s)(hH:H s=none):
  Cb (.func (.func 121) #[.map (some s)] #[]) (fun n a=>once is n a) (fun w=>PR B H w p∧ay .i64 w s is) (fun l w=>PR B H w p∧ay .i64 w s l) [(s,s+1)]:=by
 refine Or.inr ⟨rfl,fun w n a E K ⟨h1,h2⟩ hok hno=>?_⟩
 refine iy.f (by kernel_rfl) ?_
 refine Cl.by (LY w s is n a h2) ?_ ?_ ?_
 ·rintro v w' ⟨hk,hp⟩
  cases hm:once is n a with
  |ok l=>
   rw[hm]at hp
   obtain⟨v',hv,hl⟩:=hp
   cases hv
   exact hok l v w' hm hk hk.size ⟨h1.tmp hk hs hH,hl⟩
  |no e c=>rw[hm]at hp;obtain⟨_,hv,_⟩:=hp;cases hv
 ·rintro ch w' ⟨hk,hp⟩
  cases hm:once is n a with
  |ok l=>rw[hm]at hp;obtain⟨_,hv,_⟩:=hp;cases hv
  |no e c=>rw[hm]at hp;obtain⟨_,hv,hf⟩:=hp;cases hv;exact hno e c ch w' hm hk hf
 ·rintro w' ⟨hk,hp⟩
  cases hm:once is n a with
  |ok l=>rw[hm]at hp;obtain⟨_,hv,_⟩:=hp;cases hv
  |no e c=>rw[hm]at hp;obtain⟨_,hv,_⟩:=hp;cases hv
theorem SH(p:PS):∀s:List Int,advance p=(advance p).andThen fun q=>.ok q:=fun _=>by cases advance p<;>rfl
theorem Z4{B:Nat}{H:Hp}{w:World}{p:PS}(h:PR B H w p):
  Calls P rQ #[pt (B+5) 0] w (Post w (enum p) (PX B) fun x v w'=>∃H',Gr H H' w.heap.size∧iw H' x.1 v∧PR B H' w' x.2):=by
 refine Post.R fun R M hM hok hno=>?_
 apply AL
 unfold qR
 have hl:=h.lt
 have hfr:∀b,w.heap.size≤b→H b=none:=fun b hb=>h.sub.fresh hb
 rw[enum]at hM
 repeat' first|refine .x ?_|refine .y ?_|refine .z ?_|fail
 refine Cl.bind (w0:=w) (X0:=PX B) hM (bZ (h.ext (by exact kpA)) [[101,110,117,109]]) hno ?_
 rintro q1 v w1 hM hk1 hq1 hs1 ⟨rfl,hp1⟩
 have hl1:=hp1.lt
 rw[size_alloc]at hs1
 refine Cl.bind (w0:=w) (X0:=PX B) hM (LW hp1) hno ?_
 rintro⟨x,q2⟩ v w2 hM hk2 hq2 hs2 ⟨rfl,hp2⟩
 have hl2:=hp2.lt
 dsimp only at hM hp2
 repeat' first|refine .x ?_|refine .y ?_|refine .z ?_|fail
 refine Cl.bind (w0:=w) (X0:=PX B) hM (bZ (hp2.ext (by exact kpA)) [[123]]) hno ?_
 rintro q3 v w3 hM hk3 hq3 hs3 ⟨rfl,hp3⟩
 have hl3:=hp3.lt
 simp only[size_alloc,ah]at hs3
 have he3:w3.heap[w2.heap.size]?=some (cl [.string (bs x.s),i64 x.at_,.slice none 0 0,.slice none 0 0] dI):=by exact lookA
 have hq3':Kp (PX B) w w3:=hq3.out
 repeat' first|refine .x ?_|refine .y ?_|refine .z ?_|fail
 refine Lp.nat (n:=12) (fun n vals w'=>∃(p':PS) (ns:List By) (is:List Int) (v1 v2:Value) (o1 o2:Option Nat),vals=[]∧ns.length+n=12∧is.length=ns.length∧PR B H w' p' ∧
  w'.heap[w2.heap.size]?=some (cl [.string (bs x.s),i64 x.at_,v1,v2] dI)∧Gw w' kY 1 v1 ns.length (ns.map κs) o1∧Gw w' gX 1 v2 ns.length (is.map i64) o2∧ay .i64 w' w3.heap.size is ∧
  (∀b,o1=some b→w3.heap.size<b∧o2≠some b)∧(∀b,o2=some b→w3.heap.size<b)∧Kp (PX B) w w'∧w3.heap.size<w'.heap.size ∧
  M=(fG n p' ns is).andThen fun x_1=>(want x_1.2.2 [[125],[59]]).andThen fun p=>.ok (⟨x.s,x.at_,.enum x_1.1 x_1.2.1⟩,{ p with enums:=bg p.enums x.s x_1.2.1 })) ?_ ?_
 ·refine⟨q3,[],[],.slice none 0 0,.slice none 0 0,none,none,rfl,rfl,rfl,hp3.ext (by exact kpA),by exact lookA,Gw.nil _ _ _,Gw.nil _ _ _,⟨#[],0,bG ..,MK.empty⟩,by simp,by simp,by exact kpA,by simp only[size_alloc];omega,hM⟩
 rintro n _ wL jk C ⟨p',ns,is,v1,v2,o1,o2,rfl,hn,hlen,hpL,heL,hg1,hg2,hsL,ho1,ho2,hkL,YQ,hML⟩ hC
 obtain⟨a1,cp1,rfl⟩:=hg1.len
 obtain⟨a2,cp2,rfl⟩:=hg2.len
 have hcL:=hpL.hp
 have hlL:=hpL.lt
 rw[bD]at hcL
 repeat' first|refine .x ?_|refine .y ?_|refine .z ?_|fail
 cases n with
 |zero=>
  refine Cl.iq (w0:=w) (X0:=PX B) (m:=count p' ns.length 12) (k:=fun _=>M) ?_ (jO hpL ns.length 12) hno ?_
  ·rw[count,if_pos (by omega)];rw[hML,fG];rfl
  ·rintro _ v w4 e4
   have:=gV e4
   omega
 |succ n=>
 refine Cl.iq (w0:=w) (X0:=PX B) (m:=count p' ns.length 12) (k:=fun _=>M) (by rw[count,if_neg (by omega)];rfl) (jO hpL ns.length 12) hno ?_
 rintro _ v w4 e4 _ hk4 hq4 hs4 rfl
 rw[fG]at hML
 simp only[Res.assoc]at hML
 have c1:=gV e4
 repeat' first|refine .x ?_|refine .y ?_|refine .z ?_|fail
 refine Cl.iq (w0:=w) (X0:=PX B) hML (jO hpL p'.n1 40) hno ?_
 rintro _ v w5 e5 hM5 hk5 hq5 hs5 rfl
 have c2:=gV e5
 refine Cl.iq (w0:=w) (X0:=PX B) hM5 (LW hpL) hno ?_
 rintro⟨x6,q6⟩ v w6 e6 hM6 hk6 hq6 hs6 ⟨rfl,hp6⟩
 have hl6:=hp6.lt
 dsimp only at hM6 hp6 e6
 repeat' first|refine .x ?_|refine .y ?_|refine .z ?_|fail
 refine Cl.iq (w0:=w) (X0:=PX B) hM6 (bZ (hp6.ext (by exact kpA)) [[61]]) hno ?_
 rintro q7 v w7 e7 hM7 hk7 hq7 hs7 ⟨rfl,hp7⟩
 have hl7:=hp7.lt
 simp only[size_alloc,ah]at hs7
 have hb7:w7.heap[w6.heap.size]?=some (cl [.string (bs x6.s),i64 x6.at_] zY):=by exact lookA
 have hkA:Kp (PX B) w5 w7:=by exact kpA
 have he7:w7.heap[w2.heap.size]?=some (cl [.string (bs x.s),i64 x.at_,.slice a1 ns.length cp1,.slice a2 ns.length cp2] dI):=(hkA.same w2.heap.size (by omega) ⟨by omega,trivial⟩).trans heL
 have hs7':=ay.kp hsL hkA ⟨by omega,trivial⟩
 refine Cl.iq (w0:=w) (X0:=PX B) hM7 (zX hp7 least J6 _ _ (fun w=>PR B H w q7∧ay .i64 w w3.heap.size is) (fun l w=>PR B H w q7∧ay .i64 w w3.heap.size l) [(w3.heap.size,w3.heap.size+1)] (fun _ q=>q)
  ⟨hp7,hs7'⟩ (fun _ _ a k=>⟨a.1.ext k,ay.kp a.2 k trivial⟩) (WC (by omega) (hfr _ (by omega))) (fun _ _ a=>a.1) (SH q7)) hno ?_
 rintro⟨n8,l8,q8⟩ v w8 e8 hM8 hk8 hq8 hs8 ⟨rfl,hp8,wI,⟨_,hsI⟩,hkI⟩
 have hl8:=hp8.lt
 dsimp only at hM8 hp8 e8 hsI
 have hs8':=ay.kp hsI hkI ⟨by omega,trivial⟩
 clear hkI
 have hb8:w8.heap[w6.heap.size]?=some (cl [.string (bs x6.s),i64 x6.at_] zY):=by exact lookA
 have he8:w8.heap[w2.heap.size]?=some (cl [.string (bs x.s),i64 x.at_,.slice a1 ns.length cp1,.slice a2 ns.length cp2] dI):=by exact lookA
 have hkB:Kp [(B,B+6),(w3.heap.size,w3.heap.size+1)] w5 w8:=by exact kpA
 have hc8:=hp8.hp
 rw[bD]at hc8
 have hn8:q8.n1=p'.n1:=by
  have a1:=vg e6
  have a2:=dZ e7
  have a3:=uZ e8
  simp only[nn,Prod.mk.injEq]at a1 a2 a3
  omega
 obtain⟨es,ck,hm1,hm2⟩:=hp8.hc
 repeat' first|refine .x ?_|refine .y ?_|refine .z ?_|fail
 refine Mu.str hm2 (by exact lookA) fun es' ck' hm'=>?_
 rw[BF (f:=i64)]at hm'
 have b1:PR B H (aj w8.drew (B+5) (cl (bD B { q8 with n1:=q8.n1+1 }) aT)) { q8 with n1:=q8.n1+1 }:=
  hp8.counts (by exact kpA) (aA rfl (by simp only[size_drew];omega)) rfl hp8.c0 (by show q8.n1+1≤40;omega) hp8.c2
 have b2:PR B H (aj (aj w8.drew (B+5) (cl (bD B { q8 with n1:=q8.n1+1 }) aT)).drew (B+2) (.map es' ck')) { q8 with n1:=q8.n1+1,consts:=bg q8.consts x6.s n8 }:=
  (b1.ext (w':=(aj w8.drew (B+5) (cl (bD B { q8 with n1:=q8.n1+1 }) aT)).drew) (by exact kpA)).consts (l:=bg q8.consts x6.s n8) (by exact kpA) ⟨es',ck',aA rfl (by simp only[size_drew,ah];omega),hm'⟩
 repeat' first|refine .x ?_|refine .y ?_|refine .z ?_|fail
 refine Ap.w (fun w9=>Kp [(B,B+6),(w3.heap.size,w3.heap.size+1)] w5 w9∧PR B H w9 { q8 with n1:=q8.n1+1,consts:=bg q8.consts x6.s n8 } ∧
   w9.heap[w2.heap.size]?=some (cl [.string (bs x.s),i64 x.at_,.slice a1 ns.length cp1,.slice a2 ns.length cp2] dI)∧w9.heap[w8.heap.size]?=some (cl [κs x6.s] kY) ∧
   ay .i64 w9 w3.heap.size l8∧w8.heap.size<w9.heap.size) ⟨by exact kpA,b2.ext (by exact kpA),by exact lookA,by exact lookA,ay.kp (X:=[(B,B+6)]) hs8' (by exact kpA) ⟨by omega,trivial⟩,by simp only[size_alloc,size_drew,ah];omega⟩ ?_
 rintro w9 ⟨k9,b9,e9,n9,s9,z9⟩
 have g19:=hg1.kp k9 (fun b hb=>⟨by have:=ho1 b hb;omega,by have:=ho1 b hb;omega,trivial⟩)
 have g29:=hg2.kp k9 (fun b hb=>⟨by have:=ho2 b hb;omega,by have:=ho2 b hb;omega,trivial⟩)
 refine Ap.g g19 n9 rfl rfl ?_ (by omega)
 intro v1 w10 o1' g1 KI k10
 have z10:=k10.size
 have e10:=(k10.same w2.heap.size (by omega) (aU fun hb=>by have:=ho1 _ hb;omega)).trans e9
 have s10:=ay.kp s9 k10 (aU fun hb=>by have:=ho1 _ hb;omega)
 have b10:=b9.own k10 (fun b hb=>by have:=ho1 b hb;exact⟨by omega,hfr b (by omega)⟩)
 have g2:=g29.kp k10 (fun b hb=>aU fun hb2=>(ho1 b hb2).2 hb)
 obtain⟨a1',uF,rfl⟩:=g1.len
 repeat' first|refine .x ?_|refine .y ?_|refine .z ?_|fail
 refine Ap.w (fun w9=>Kp [(w2.heap.size,w2.heap.size+1)] w10 w9 ∧
   w9.heap[w2.heap.size]?=some (cl [.string (bs x.s),i64 x.at_,.slice a1' (ns.length+1) uF,.slice a2 ns.length cp2] dI)∧w9.heap[w10.heap.size]?=some (cl [.int .i64 n8] gX)) ⟨by exact kpA,by exact lookA,by exact lookA⟩ ?_
 rintro w11 ⟨k11,e11,n11⟩
 have z11:=k11.size
 have b11:=b10.tmp k11 (by omega) (hfr _ (by omega))
 have s11:=ay.kp s10 k11 ⟨by omega,trivial⟩
 have g11 := g1.kp k11 (fun b hb => ⟨by rcases KI with r | r <;> rw [r] at hb; · have := ho1 b hb; omega
                                        · cases hb; omega, trivial⟩)
 have g21:=g2.kp k11 (fun b hb=>⟨by have:=ho2 b hb;omega,trivial⟩)
 refine Ap.g g21 n11 rfl rfl ?_ (by omega)
 intro v2 w12 o2' g22 ho2' k12
 have z12:=k12.size
 have e12:=(k12.same w2.heap.size (by omega) (aU fun hb=>by have:=ho2 _ hb;omega)).trans e11
 have s12:=ay.kp s11 k12 (aU fun hb=>by have:=ho2 _ hb;omega)
 have b12:=b11.own k12 (fun b hb=>by have:=ho2 b hb;exact⟨by omega,hfr b (by omega)⟩)
 have g12:=g11.kp k12 (fun b hb=>aU fun hb2=>by
  rcases KI with r|r<;>rw[r]at hb
  ·exact(ho1 b hb).2 hb2
  ·cases hb;have:=hg2.lt _ hb2;have:=k9.size;omega)
 obtain⟨a2',Xj,rfl⟩:=g22.len
 repeat' first|refine .x ?_|refine .y ?_|refine .z ?_|fail
 have hl8e:l8=is++[n8]:=Rk e8
 refine Cl.w (fun w9=>Kp [(w2.heap.size,w2.heap.size+1)] w12 w9 ∧
   w9.heap[w2.heap.size]?=some (cl [.string (bs x.s),i64 x.at_,.slice a1' (ns.length+1) uF,.slice a2' (ns.length+1) Xj] dI)) ⟨by exact kpA,by exact lookA⟩ ?_
 rintro w13 ⟨k13,e13⟩
 have z13:=k13.size
 have b13:=b12.tmp k13 (by omega) (hfr _ (by omega))
 have s13:=ay.kp s12 k13 ⟨by omega,trivial⟩
 have o1f:∀b,o1'=some b→w3.heap.size<b∧o2'≠some b:=by
  intro b hb
  rcases KI with r|r<;>rw[r]at hb
  ·have h1:=ho1 b hb
   refine⟨h1.1,fun h2=>?_⟩
   rcases ho2' with r2|r2<;>rw[r2]at h2
   ·exact h1.2 h2
   ·cases h2;have:=hg1.lt _ hb;have:=k9.size;omega
  ·cases hb
   refine⟨by omega,fun h2=>?_⟩
   rcases ho2' with r2|r2<;>rw[r2]at h2
   ·have:=hg2.lt _ h2;have:=k9.size;omega
   ·have h3:=Option.some.inj h2;have h4:=lt_of_heap n11;have h5:=g11.lt _ r;have:=lt_of_heap n9;omega
 have o2f:∀b,o2'=some b→w3.heap.size<b:=by
  intro b hb
  rcases ho2' with r|r<;>rw[r]at hb
  ·exact ho2 b hb
  ·cases hb;omega
 have g13:=g12.kp k13 (fun b hb=>⟨by have:=o1f b hb;omega,trivial⟩)
 have g23:=g22.kp k13 (fun b hb=>⟨by have:=o2f b hb;omega,trivial⟩)
 have kk:Kp (PX B) w w13:=by
  have c1:Kp (PX B) w w9:=hkL.trans k9 (fun i hi ho=>⟨ho,ho.1,by omega,trivial⟩)
  have c2:=c1.own k10 (fun b hb=>by have:=ho1 b hb;omega)
  have c3:Kp (PX B) w w11:=c2.trans k11 (fun i hi ho=>⟨ho,by omega,trivial⟩)
  have c4:=c3.own k12 (fun b hb=>by have:=ho2 b hb;omega)
  exact c4.trans k13 (fun i hi ho=>⟨ho,by omega,trivial⟩)
 refine Cl.bind (w0:=w) (X0:=PX B) (hkp:=kk) hM8 (iY b13 [44]) hno ?_
 rintro⟨bb,q14⟩ v w14 Ep LK WQ hs14 ⟨hv,GM⟩
 dsimp only at Ep GM hv
 subst hv
 have g14:=g13.kp LK (fun b hb=>⟨by have:=o1f b hb;omega,trivial⟩)
 have g24:=g23.kp LK (fun b hb=>⟨by have:=o2f b hb;omega,trivial⟩)
 have e14:w14.heap[w2.heap.size]?=some (cl [.string (bs x.s),i64 x.at_,.slice a1' (ns.length+1) uF,.slice a2' (ns.length+1) Xj] dI):=by exact lookA
 rw[hl8e]at s13
 have en:(ns++[x6.s]).length=ns.length+1:=by simp
 have em1:(ns++[x6.s]).map κs=ns.map κs++[κs x6.s]:=by simp
 have em2:(is++[n8]).map i64=is.map i64++[.int .i64 n8]:=by simp
 cases bb with
 |true=>
  repeat' first|refine .x ?_|refine .y ?_|refine .z ?_|fail
  refine hC n [] w14 (by omega) ⟨q14,ns++[x6.s],is++[n8],_,_,o1',o2',rfl,by rw[en];omega,by simp;omega,GM,e14,by rw[en,em1];exact g14,by rw[en,em2];exact g24,ay.kp s13 LK ⟨by omega,trivial⟩,o1f,o2f,WQ.out,by omega,Ep⟩
 |false=>
  repeat' first|refine .x ?_|refine .y ?_|refine .z ?_|fail
  simp only[Bool.false_eq_true,if_false,Res.ak]at Ep
  refine Cl.bind (w0:=w) (X0:=PX B) Ep (bZ (GM.ext (by exact kpA)) [[125],[59]]) hno ?_
  rintro q15 v w15 U0 hk15 hq15 YR ⟨rfl,LJ⟩
  have hl15:=LJ.lt
  simp only[size_alloc]at YR
  have e15:w15.heap[w2.heap.size]?=some (cl [.string (bs x.s),i64 x.at_,.slice a1' (ns.length+1) uF,.slice a2' (ns.length+1) Xj] dI):=by exact lookA
  have YP:Kp (PX B) w14 w15:=by exact kpA
  have g15:=g14.kp YP (fun b hb=>⟨by have:=o1f b hb;omega,trivial⟩)
  have g25:=g24.kp YP (fun b hb=>⟨by have:=o2f b hb;omega,trivial⟩)
  obtain⟨c1,E9,cap1,rfl,hv1,hh1⟩:=Gw.some g15 (by omega)
  obtain⟨c2,Zw,cap2,rfl,hv2,hh2⟩:=Gw.some g25 (by omega)
  cases hv1
  cases hv2
  have oc1:=o1f c1 rfl
  have oc2:=o2f c2 rfl
  have hc15:=LJ.hp
  rw[bD]at hc15
  obtain⟨H0,G0,L0,A0,R0,N0⟩:=LJ.frz (Gr.refl H w.heap.size) e15 (by omega) (hfr _ (by omega)) (by omega)
  obtain⟨H1,G1,L1,A1,R1,N1⟩:=A0.frz G0 hh1 (by omega) (by rw[N0 _ (by omega)];exact hfr _ (by omega)) (by omega)
  obtain⟨H2,G2,L2,A2,R2,N2⟩:=A1.frz G1 hh2 (by omega) (by rw[N1 _ (fun e=>oc1.2 (by rw[e])),N0 _ (by omega)];exact hfr _ (by omega)) (by omega)
  have lenE:(is++[n8]).length=ns.length+1:=by simp;omega
  have hD:iw H2 ⟨x.s,x.at_,.enum (ns++[x6.s]) (is++[n8])⟩ (.iface sO (pt w2.heap.size 0)):=by
   refine⟨w2.heap.size,_,_,rfl,L2 _ _ (L1 _ _ R0),⟨c1,E9,uF,by rw[en],?_⟩,⟨c2,Zw,Xj,by rw[lenE],?_⟩⟩
   ·rw[em1];exact L2 _ _ R1
   ·rw[em2];exact R2
  have hE:Ey H2 (pt w2.heap.size 0) (is++[n8]):=by
   refine⟨w2.heap.size,x.s,x.at_,.slice (some ⟨c1,0,none⟩) (ns.length+1) uF,c2,Zw,Xj,rfl,?_,?_,by rw[lenE];omega⟩
   ·rw[lenE];exact L2 _ _ (L1 _ _ R0)
   ·rw[em2];exact R2
  obtain⟨es2,ck2,m2,hm3,hm4,hm5⟩:=A2.he
  repeat' first|refine .x ?_|refine .y ?_|refine .z ?_|fail
  refine Mu.str hm4 (by exact lookA) fun es3 ck3 hm6=>?_
  have A3:=(A2.ext (w':=w15.drew) (by exact kpA)).enums (l:=bg q15.enums x.s (is++[n8])) (w':=aj w15.drew (B+3) (.map es3 ck3)) (by exact kpA) ⟨es3,ck3,_,aA rfl (by simp only[size_drew];omega),hm6,iW.bg hE hm5⟩
  exact hok _ _ _ U0 (by exact kpA) ⟨H2,G2,hD,A3⟩
theorem OM{B:Nat}{H:Hp}{w:World}{p:PS}(h:PR B H w p):
  Calls P kS #[pt (B+5) 0] w (Post w (fJ p) (PX B) fun x v w'=>∃H',Gr H H' w.heap.size∧iw H' x.1 v∧PR B H' w' x.2):=by
 refine Post.R fun R M hM hok hno=>?_
 apply vP
 unfold kR
 have hl:=h.lt
 have hfr:∀b,w.heap.size≤b→H b=none:=fun b hb=>h.sub.fresh hb
 rw[fJ]at hM
 repeat' first|refine .x ?_|refine .y ?_|refine .z ?_|fail
 refine Cl.bind (w0:=w) (X0:=PX B) hM (bZ (h.ext (by exact kpA)) [[115,116,114,117,99,116]]) hno ?_
 rintro q1 v w1 hM hk1 hq1 hs1 ⟨rfl,hp1⟩
 have hl1:=hp1.lt
 rw[size_alloc]at hs1
 refine Cl.bind (w0:=w) (X0:=PX B) hM (LW hp1) hno ?_
 rintro⟨x,q2⟩ v w2 hM hk2 hq2 hs2 ⟨rfl,hp2⟩
 have hl2:=hp2.lt
 dsimp only at hM hp2
 repeat' first|refine .x ?_|refine .y ?_|refine .z ?_|fail
 refine Cl.bind (w0:=w) (X0:=PX B) hM (bZ (hp2.ext (by exact kpA)) [[123]]) hno ?_
 rintro q3 v w3 hM hk3 hq3 hs3 ⟨rfl,hp3⟩
 have hl3:=hp3.lt
 simp only[size_alloc,ah]at hs3
 have he3:w3.heap[w2.heap.size]?=some (cl [.string (bs x.s),i64 x.at_,.slice none 0 0] dQ):=by exact lookA
 have hq3':Kp (PX B) w w3:=hq3.out
 repeat' first|refine .x ?_|refine .y ?_|refine .z ?_|fail
 refine Lp.nat (n:=12) (fun n vals w'=>∃(p':PS) (ds:List Decl) (ns:List By) (l:List Value) (v1:Value) (o1:Option Nat) (H':Hp),vals=[]∧ds.length+n=12∧PR B H' w' p'∧Gr H H' w.heap.size∧iJ H' ds l∧H' w2.heap.size=none ∧
  w'.heap[w2.heap.size]?=some (cl [.string (bs x.s),i64 x.at_,v1] dQ)∧Gw w' fO 2 v1 ds.length l o1∧aJ w' w3.heap.size ns ∧
  (∀b,o1=some b→w3.heap.size<b∧H' b=none)∧Kp (PX B) w w'∧w3.heap.size<w'.heap.size ∧
  M=(dB n p' ds ns).andThen fun x_1=>(want x_1.2 [[59]]).andThen fun p=>.ok (⟨x.s,x.at_,.struct x_1.1⟩,p)) ?_ ?_
 ·refine⟨q3,[],[],[],.slice none 0 0,none,H,rfl,rfl,hp3.ext (by exact kpA),Gr.refl _ _,trivial,hfr _ (by omega),by exact lookA,Gw.nil _ _ _,⟨#[],0,bG ..,MK.empty⟩,by simp,by exact kpA,by simp only[size_alloc];omega,hM⟩
 rintro n _ wL jk C ⟨p',ds,ns,l,v1,o1,H',rfl,hn,hpL,hgL,hdL,hHe,heL,hg1,hsL,ho1,hkL,YQ,hML⟩ hC
 obtain⟨a1,cp1,rfl⟩:=hg1.len
 have hlL:=hpL.lt
 repeat' first|refine .x ?_|refine .y ?_|refine .z ?_|fail
 cases n with
 |zero=>
  refine Cl.iq (w0:=w) (X0:=PX B) (m:=count p' ds.length 12) (k:=fun _=>M) ?_ (jO hpL ds.length 12) hno ?_
  ·rw[count,if_pos (by omega)];rw[hML,dB];rfl
  ·rintro _ v w4 e4
   have:=gV e4
   omega
 |succ n=>
 refine Cl.iq (w0:=w) (X0:=PX B) (m:=count p' ds.length 12) (k:=fun _=>M) (by rw[count,if_neg (by omega)];rfl) (jO hpL ds.length 12) hno ?_
 rintro _ v w4 e4 _ hk4 hq4 hs4 rfl
 rw[dB]at hML
 simp only[Res.assoc]at hML
 have c1:=gV e4
 repeat' first|refine .x ?_|refine .y ?_|refine .z ?_|fail
 refine Cl.bind (w0:=w) (X0:=PX B) hML (OQ (hpL.ext (w':=w4.drew) (by exact kpA)) (by omega) (aJ.kp (X:=[]) hsL (by exact kpA) trivial)) hno ?_
 rintro⟨d,ns',q6⟩ v w6 hM6 hk6 hq6 hs6 ⟨H6,tv,rfl,hg6,ht6,WO,hp6⟩
 have hl6:=hp6.lt
 dsimp only at hM6 hp6 ht6 WO
 rw[size_drew]at hs6 hg6
 obtain⟨ti,tu,rfl⟩:=ht6.form
 have he6:w6.heap[w2.heap.size]?=some (cl [.string (bs x.s),i64 x.at_,.slice a1 ds.length cp1] dQ):=by exact lookA
 have Sl:=hg1.kp (w':=w4.drew) (X:=[]) (by exact kpA) (fun _ _=>trivial)
 have Sl:=Sl.kp hk6 (fun b hb=>⟨by have:=ho1 b hb;omega,by have:=ho1 b hb;omega,trivial⟩)
 have Sm:=hg6.lacks hHe (by omega)
 have ho6:∀b,o1=some b→H6 b=none:=fun b hb=>hg6.lacks (ho1 b hb).2 (hg1.lt b hb)
 have WU:Gr H H6 w.heap.size:=hgL.trans hg6 (by have:=hkL.size;omega)
 repeat' first|refine .x ?_|refine .y ?_|refine .z ?_|fail
 refine Ap.w (fun w9=>Kp [] w6 w9∧w9.heap[w6.heap.size]?=some (cl [.string (bs d.name),.iface ti tu] fO)) ⟨by exact kpA,by exact lookA⟩ ?_
 rintro w9 ⟨k9,n9⟩
 have z9:=k9.size
 refine Ap.g (Sl.kp k9 (fun _ _=>trivial)) n9 rfl rfl ?_ (by omega)
 intro v1 w10 o1' g1 KI k10
 have z10:=k10.size
 have e10:w10.heap[w2.heap.size]?=some (cl [.string (bs x.s),i64 x.at_,.slice a1 ds.length cp1] dQ):=
  (k10.same w2.heap.size (by omega) (aU fun hb=>by have:=ho1 _ hb;omega)).trans ((k9.same w2.heap.size (by omega) trivial).trans he6)
 have s10:=aJ.kp (aJ.kp WO k9 trivial) k10 (aU fun hb=>by have:=ho1 _ hb;omega)
 have b10:=(hp6.ext k9).own k10 (fun b hb=>⟨by have:=ho1 b hb;omega,ho6 b hb⟩)
 obtain⟨a1',uF,rfl⟩:=g1.len
 repeat' first|refine .x ?_|refine .y ?_|refine .z ?_|fail
 refine Cl.w (fun w9=>Kp [(w2.heap.size,w2.heap.size+1)] w10 w9 ∧
   w9.heap[w2.heap.size]?=some (cl [.string (bs x.s),i64 x.at_,.slice a1' (ds.length+1) uF] dQ)) ⟨by exact kpA,by exact lookA⟩ ?_
 rintro w13 ⟨k13,e13⟩
 have z13:=k13.size
 have b13:=b10.tmp k13 (by omega) Sm
 have s13:=aJ.kp s10 k13 ⟨by omega,trivial⟩
 have z69:=lt_of_heap n9
 have o1f:∀b,o1'=some b→w3.heap.size<b∧H6 b=none:=by
  intro b hb
  rcases KI with r|r<;>rw[r]at hb
  ·exact⟨(ho1 b hb).1,ho6 b hb⟩
  ·cases hb;exact⟨by omega,hp6.sub.fresh (by omega)⟩
 have g13:=g1.kp k13 (fun b hb=>⟨by have:=o1f b hb;omega,trivial⟩)
 have kk:Kp (PX B) w w13:=by
  have c2:=(hq6.out.trans k9 (fun i _ ho=>⟨ho,trivial⟩):Kp (PX B) w w9).own k10 (fun b hb=>by have:=ho1 b hb;omega)
  exact c2.trans k13 (fun i hi ho=>⟨ho,by omega,trivial⟩)
 refine Cl.bind (w0:=w) (X0:=PX B) (hkp:=kk) hM6 (iY b13 [125]) hno ?_
 rintro⟨bb,q14⟩ v w14 Ep LK WQ hs14 ⟨hv,GM⟩
 dsimp only at Ep GM hv
 subst hv
 have g14:=g13.kp LK (fun b hb=>⟨by have:=o1f b hb;omega,trivial⟩)
 have e14:w14.heap[w2.heap.size]?=some (cl [.string (bs x.s),i64 x.at_,.slice a1' (ds.length+1) uF] dQ):=by exact lookA
 have en:(ds++[d]).length=ds.length+1:=by simp
 have WX:iJ H6 (ds++[d]) (l++[.string (bs d.name),.iface ti tu]):=(hdL.le hg6.1).snoc ht6
 cases bb with
 |false=>
  repeat' first|refine .x ?_|refine .y ?_|refine .z ?_|fail
  refine hC n [] w14 (by omega) ⟨q14,ds++[d],ns',_,_,o1',H6,rfl,by rw[en];omega,GM,WU,WX,Sm,e14,by rw[en];exact g14,aJ.kp s13 LK ⟨by omega,trivial⟩,o1f,WQ.out,by omega,Ep⟩
 |true=>
  repeat' first|refine .x ?_|refine .y ?_|refine .z ?_|fail
  simp only[if_true,Res.ak]at Ep
  refine Cl.bind (w0:=w) (X0:=PX B) Ep (bZ (GM.ext (by exact kpA)) [[59]]) hno ?_
  rintro q15 v w15 U0 hk15 hq15 YR ⟨rfl,LJ⟩
  have hl15:=LJ.lt
  simp only[size_alloc]at YR
  have e15:w15.heap[w2.heap.size]?=some (cl [.string (bs x.s),i64 x.at_,.slice a1' (ds.length+1) uF] dQ):=by exact lookA
  have YP:Kp (PX B) w14 w15:=by exact kpA
  have g15:=g14.kp YP (fun b hb=>⟨by have:=o1f b hb;omega,trivial⟩)
  obtain⟨c1,E9,cap1,rfl,hv1,hh1⟩:=Gw.some g15 (by omega)
  cases hv1
  have oc1:=o1f c1 rfl
  obtain⟨H0,G0,L0,A0,R0,N0⟩:=LJ.frz WU e15 (by omega) Sm (by omega)
  obtain⟨H1,G1,L1,A1,R1,N1⟩:=A0.frz G0 hh1 (by omega) (by rw[N0 _ (by omega)];exact oc1.2) (by omega)
  have hD:iw H1 ⟨x.s,x.at_,.struct (ds++[d])⟩ (.iface nS (pt w2.heap.size 0)):=by
   refine⟨w2.heap.size,_,_,rfl,L1 _ _ R0,WX.le (L0.trans L1),⟨c1,E9,uF,by rw[en],R1⟩⟩
  repeat' first|refine .x ?_|refine .y ?_|refine .z ?_|fail
  exact hok _ _ _ U0 hq15.out ⟨H1,G1,hD,A1⟩
end Go.W.T
namespace Go.W.T
open Go Go.W Go.M Go.Proofs
theorem OX{w:World}{b cap:Nat}{rest:List Value}(l:List Int)(x:Int)(hb:w.heap[b]?=some (cl (l.map i64++rest) gX))(hl:l.length<1000000):
  Calls P rY #[.slice (some ⟨b,0,none⟩) l.length cap,i64 x] w fun en w'=>en=.returned (.int .i64 (match l.findIdx? (·==x)with|some i=>(i:Int)|none => -1))∧w'=w:=by
 apply Ba
 have hR:∀z w',z=(match l.findIdx? (·==x)with|some i=>(i:Int)|none => -1)→w'=w→(fun en w'=>en=.returned (.int .i64 (match l.findIdx? (·==x)with|some i=>(i:Int)|none => -1))∧w'=w:Ending→World→Prop) (.returned (.int .i64 z)) w':=fun z w' h1 h2=>⟨by rw[h1],h2⟩
 generalize (fun en w'=>en=.returned (.int .i64 (match l.findIdx? (·==x)with|some i=>(i:Int)|none => -1))∧w'=w:Ending→World→Prop)=R at *
 unfold rC
 repeat' first|refine .x ?_|refine .y ?_|refine .z ?_|fail
 refine Lp.nat (n:=l.length) (fun n vals w'=>∃i:Nat,vals=[i64 i]∧i+n=l.length∧w'=w∧∀j,j<i→l[j]?≠some x) ⟨0,rfl,by omega,rfl,fun j hj=>by omega⟩ ?_
 rintro n _ w1 jk C ⟨i,rfl,hi,hw,hno⟩ hC
 subst hw
 repeat' first|refine .x ?_|refine .y ?_|refine .z ?_|fail
 refine .split (fun hc=>?_) (fun hc=>?_)
 ·have hlt:i<l.length:=by have:=of_decide_eq_true hc;omega
  have hx:(l.map i64++rest)[0+i*1]?=some (i64 l[i]):=by rw[Nat.zero_add,Nat.mul_one,List.getElem?_append_left (by simpa using hlt),List.getElem?_map,List.getElem?_eq_getElem hlt];rfl
  refine .s ?_
  refine Ld.s ?_ hb hx
  repeat' first|refine .x ?_|refine .y ?_|refine .z ?_|fail
  refine .split (fun he=>?_) (fun he=>?_)
  ·have he':x=l[i]:=by simpa using he
   refine hR _ _ ?_ rfl
   have:l.findIdx? (·==x)=some i:=by
    rw[List.findIdx?_eq_some_iff_getElem]
    refine⟨hlt,by simp[he'],fun j hj=>?_⟩
    have:=hno j hj
    rw[List.getElem?_eq_getElem (by omega)]at this
    simpa using fun e=>this (by rw[e])
   rw[this]
  ·have he':¬ x=l[i]:=by simpa using he
   repeat' first|refine .x ?_|refine .y ?_|refine .z ?_|fail
   refine hC (n - 1) _ _ (by omega) ⟨i+1,rfl,by omega,rfl,fun j hj=>?_⟩
   by_cases e:j=i
   ·subst e;rw[List.getElem?_eq_getElem hlt];exact fun e=>he' (Option.some.inj e).symm
   ·exact hno j (by omega)
 ·have hge:i=l.length:=by have:=of_decide_eq_false hc;omega
  refine hR _ _ ?_ rfl
  have:l.findIdx? (·==x)=none:=by
   rw[List.findIdx?_eq_none_iff]
   intro y hy
   obtain⟨j,hj,rfl⟩:=List.getElem_of_mem hy
   have:=hno j (by omega)
   rw[List.getElem?_eq_getElem hj]at this
   simpa using fun e=>this (by rw[e])
  rw[this]
theorem Ja{w:World}{b cap:Nat}{rest:List Value}(l:List Int)(x:Int)(hb:w.heap[b]?=some (cl (l.map i64++rest) gX))(hl:l.length<1000000):
  Calls P mZ #[.slice (some ⟨b,0,none⟩) l.length cap,i64 x] w fun en w'=>en=.returned (.bool (l.contains x))∧w'=w:=by
 apply xN
 unfold mF
 refine Cl.same (OX l x hb hl) ?_
 cases hf:l.findIdx? (·==x)with
 |none=>
  have:l.contains x=false:=by
   rw[List.findIdx?_eq_none_iff]at hf
   rw[Bool.eq_false_iff]
   intro hc
   have:=hf x (by simpa using hc)
   simp at this
  repeat' first|refine .x ?_|refine .y ?_|refine .z ?_|fail
  exact⟨by rw[this];rfl,rfl⟩
 |some i=>
  have:l.contains x=true:=by
   rw[List.findIdx?_eq_some_iff_getElem]at hf
   obtain⟨h1,h2,_⟩:=hf
   have h3:l[i]=x:=by simpa using h2
   rw[List.contains_iff_mem,← h3]
   exact List.getElem_mem h1
  repeat' first|refine .x ?_|refine .y ?_|refine .z ?_|fail
  refine⟨?_,rfl⟩
  rw[this]
  congr 2
theorem Vo{B:Nat}{H:Hp}{w:World}{p:PS}(h:PR B H w p):
  Calls P rJ #[pt (B+5) 0] w (Post w (side p) (PX B) fun x v w'=>∃H',Gr H H' w.heap.size∧gK H' x.1 v∧PR B H' w' x.2):=by
 refine Post.R fun R M hM hok hno=>?_
 apply Aw
 unfold qN
 rw[side]at hM
 refine Cl.bind (w0:=w) (X0:=PX B) hM (iY h [118,111,105,100]) hno ?_
 rintro⟨b1,q1⟩ v w1 hM hk1 hq1 hs1 ⟨rfl,hp1⟩
 cases b1 with
 |true=>
  refine .t ?_
  refine .s ?_
  exact hok _ _ _ hM hq1.out ⟨H,Gr.refl _ _,rfl,hp1⟩
 |false=>
  repeat' first|refine .x ?_|refine .y ?_|refine .z ?_|fail
  refine Cl.bind (w0:=w) (X0:=PX B) (m:=kindOf q1) (k:=fun x=>.ok x) (by rw[hM];simp only[Bool.false_eq_true,if_false];cases kindOf q1<;>rfl) (Vp hp1) hno ?_
  rintro⟨t,q2⟩ v w2 hM hk2 hq2 hs2 ⟨H2,hg2,ht2,hp2⟩
  exact hok _ _ _ hM hq2.out ⟨H2,hg2.mono hs1,ht2,hp2⟩
theorem Zv{B s:Nat}{H:Hp}{w:World}{p:PS}{l:List By}(h:PR B H w p)(hs:B+6≤s)(hset:aJ w s l):
  Calls P uj #[pt (B+5) 0,.map (some s)] w (Post w (arm p l) [(B,B+6),(s,s+1)] fun x v w'=>∃H' tv,v=.agg #[.string (bs x.1.name),tv]∧Gr H H' w.heap.size∧gK H' x.1.ty tv∧aJ w' s x.2.1∧PR B H' w' x.2.2):=by
 refine Post.R fun R M hM hok hno=>?_
 apply Dc
 unfold tC
 have hl:=h.lt
 have hsl:s<w.heap.size:=by obtain⟨_,_,a,_⟩:=hset;exact lt_of_heap a
 rw[arm]at hM
 repeat' first|refine .x ?_|refine .y ?_|refine .z ?_|fail
 have h0:=h.ext (w':=w.alloc (cl [.string ⟨#[]⟩,.nilIface] 223)) (by exact kpA)
 refine Cl.bind (w0:=w) (X0:=[(B,B+6),(s,s+1)]) hM (iY h0 [118,111,105,100]) hno ?_
 rintro⟨b1,q1⟩ v w1 hM hk1 hq1 hs1 ⟨hv,hp1⟩
 dsimp only at hM hp1 hv
 subst hv
 rw[size_alloc]at hs1
 have hl1:=hp1.lt
 have KH:aJ w1 s l:=aJ.kp (aJ.kp (X:=[]) hset (by exact kpA) trivial) hk1 ⟨by omega,trivial⟩
 cases b1 with
 |true=>
  repeat' first|refine .x ?_|refine .y ?_|refine .z ?_|fail
  refine Cl.bind (w0:=w) (X0:=[(B,B+6),(s,s+1)]) hM (bZ (hp1.ext (by exact kpA)) [[59]]) hno ?_
  rintro q2 v w2 hM hk2 hq2 hs2 ⟨rfl,hp2⟩
  have hl2:=hp2.lt
  rw[size_alloc]at hs2
  repeat' first|refine .x ?_|refine .y ?_|refine .z ?_|fail
  refine hok _ _ _ hM (by exact kpA) ⟨H,_,rfl,Gr.refl _ _,rfl,?_,?_⟩
  ·exact aJ.kp (X:=[(w.heap.size,w.heap.size+1)]) (aJ.kp (aJ.kp (X:=[]) KH (by exact kpA) trivial) hk2 ⟨by omega,trivial⟩) (by exact kpA) ⟨by omega,trivial⟩
  ·exact hp2.tmps h (m:=w.heap.size+1) (Gr.refl _ _) (by exact kpA)
 |false=>
  repeat' first|refine .x ?_|refine .y ?_|refine .z ?_|fail
  refine Cl.bind (w0:=w) (X0:=[(B,B+6),(s,s+1)]) (m:=member q1 l) (k:=fun x=>.ok x) (by rw[hM];simp only[Bool.false_eq_true,if_false];cases member q1 l<;>rfl) (OQ hp1 hs KH) hno ?_
  rintro⟨d,l',q2⟩ v w2 hM hk2 hq2 hs2 ⟨H2,tv,rfl,hg2,ht2,Qp,hp2⟩
  have hl2:=hp2.lt
  dsimp only at hM ht2 Qp hp2
  have Sj:Gr H H2 (w.heap.size+1):=hg2.mono (by omega)
  obtain⟨ti,tu,rfl⟩:=ht2.form
  repeat' first|refine .x ?_|refine .y ?_|refine .z ?_|fail
  refine hok _ _ _ hM (by exact kpA) ⟨H2,_,rfl,Sj.mono (by omega),ht2,?_,?_⟩
  ·exact aJ.kp (X:=[(w.heap.size,w.heap.size+1)]) Qp (by exact kpA) ⟨by omega,trivial⟩
  ·exact hp2.tmps h (m:=w.heap.size+1) Sj (by exact kpA)
def BZ(H:Hp):Option (List Int)→Value→Prop
 |none,v=>v=.slice none 0 0
 |some l,v=>∃sb rest cap,v=.slice (some ⟨sb,0,none⟩) l.length cap∧H sb=some (l.map i64++rest,gX)∧l.length≤12
theorem BZ.le{H H':Hp}{o:Option (List Int)}{v:Value}(h:BZ H o v)(k:Hle H H'):BZ H' o v:=by
 cases o with
 |none=>exact h
 |some l=>obtain⟨a,b,c,h1,h2,h3⟩:=h;exact⟨a,b,c,h1,k _ _ h2,h3⟩
theorem BZ.len{H:Hp}{o:Option (List Int)}{v:Value}(h:BZ H o v):∀l,o=some l→l.length<1000000:=by
 rintro l rfl
 obtain⟨a,b,c,h1,h2,h3⟩:=h;omega
theorem iW.lookup{H:Hp}(a:By):∀{m:List (By×Value)} {l:List (By×List Int)},iW H m l →
  (m.lookup a=none∧l.lookup a=none)∨∃v ns,m.lookup a=some v∧l.lookup a=some ns∧Ey H v ns
 |[],[],_=>Or.inl ⟨rfl,rfl⟩
 |x::m,y::l,h=>by
  obtain⟨h1,h2,h3⟩:=h
  rw[List.lookup_cons,List.lookup_cons,h1]
  cases a==y.1 with
  |true=>exact Or.inr ⟨_,_,rfl,rfl,h2⟩
  |false=>exact iW.lookup a h3
 |[],_::_,h=>h.elim
 |_::_,[],h=>h.elim
theorem I5{B:Nat}{H:Hp}{w:World}{p:PS}(h:PR B H w p):
  Calls P jI #[pt (B+5) 0] w (Post w (aS p) (PX B) fun x v w'=>∃H' tv nv,v=.tuple #[tv,i64 x.1.2.1,i64 x.1.2.2.1,nv]∧Gr H H' w.heap.size∧gK H' x.1.1 tv∧BZ H' x.1.2.2.2 nv∧PR B H' w' x.2):=by
 refine Post.R fun R M hM hok hno=>?_
 apply sS
 unfold jF
 have hp:=h.hp
 have hl:=h.lt
 rw[bD]at hp
 rw[aS]at hM
 repeat' first|refine .x ?_|refine .y ?_|refine .z ?_|fail
 have hA:Kp [] w (aj (w.alloc (cl [.int .i64 0,.string ⟨#[]⟩,.int .i64 0,.int .i64 0] 104)) w.heap.size (cl [i64 p.w.kind,.string (bs p.w.s),i64 p.w.at_,i64 p.w.n] 104)):=by exact kpA
 have hAb:(aj (w.alloc (cl [.int .i64 0,.string ⟨#[]⟩,.int .i64 0,.int .i64 0] 104)) w.heap.size (cl [i64 p.w.kind,.string (bs p.w.s),i64 p.w.at_,i64 p.w.n] 104)).heap[w.heap.size]?=some (cl [i64 p.w.kind,.string (bs p.w.s),i64 p.w.at_,i64 p.w.n] 104):=aA rfl (by simp only[size_alloc];omega)
 generalize aj (w.alloc (cl [.int .i64 0,.string ⟨#[]⟩,.int .i64 0,.int .i64 0] 104)) w.heap.size (cl [i64 p.w.kind,.string (bs p.w.s),i64 p.w.at_,i64 p.w.n] 104)=wA at *
 have hAs:=lt_of_heap hAb
 have h0:=h.ext hA
 cases h1:p.w.kind==1 with
 |true=>
  rw[h1,if_pos rfl]at hM
  have h1':((p.w.kind:Int)==1)=true:=by have:=beq_iff_eq.mp h1;rw[this];rfl
  have hpA:=h0.hp
  rw[bD]at hpA
  repeat' first|refine .x ?_|refine .y ?_|refine .z ?_|fail
  obtain⟨es,ck,m,hm1,hm2,hm3⟩:=h0.he
  refine Lk.str hm2 (by exact lookA) ?_
  rcases hm3.lookup p.w.s with⟨e1,e2⟩|⟨v,ns,e1,e2,hE⟩
  ·rw[e1]
   rw[e2]at hM
   repeat' first|refine .x ?_|refine .y ?_|refine .z ?_|fail
   refine Jn.by (fun _ _=>False) (fun J2 hJ2=>?_) (fun _ _ _ hf=>hf.elim)
   refine .s ?_
   refine If.t ?_ rfl
   repeat' first|refine .x ?_|refine .y ?_|refine .z ?_|fail
   exact Cl.fail hM hno (by exact kpA)
  ·rw[e1]
   rw[e2]at hM
   repeat' first|refine .x ?_|refine .y ?_|refine .z ?_|fail
   refine Jn.direct ?_
   refine .s ?_
   refine If.f ?_ rfl
   intro jk
   refine Cl.bind (w0:=w) (X0:=PX B) hM (sK (h0.ext (w':=wA.drew) (by exact kpA))) hno ?_
   rintro q v2 w1 hM hk1 hq1 hs1 ⟨rfl,hp1⟩
   rw[size_drew]at hs1
   have hl1:=hp1.lt
   obtain⟨b,nm,at_,nsv,sb,rest,cap,rfl,hb1,hb2,hb3⟩:=hE
   have hb1':=hp1.sub _ _ _ hb1
   have hbl:=lt_of_heap hb1'
   have hAb1:w1.heap[w.heap.size]?=some (cl [i64 p.w.kind,.string (bs p.w.s),i64 p.w.at_,i64 p.w.n] 104):=by exact lookA
   repeat' first|refine .x ?_|refine .y ?_|refine .z ?_|fail
   have hnew:H w1.heap.size=none:=hp1.sub.fresh (Nat.le_refl _)
   obtain⟨H2,G2,L2,A2,R2,N2⟩:=(hp1.ext (w':=w1.drew.alloc (cl [.string (bs p.w.s),i64 p.w.at_] zZ)) (by exact kpA)).frz (Gr.refl H w.heap.size) (b:=w1.heap.size) (by exact lookA) (by omega) hnew (by omega)
   exact hok _ _ _ hM (by exact kpA) ⟨H2,_,_,rfl,G2,⟨_,rfl,R2⟩,⟨sb,rest,cap,rfl,L2 _ _ hb2,hb3⟩,A2⟩
 |false=>
  rw[h1,if_neg (by decide)]at hM
  have h1':((p.w.kind:Int)==1)=false:=by have:=beq_eq_false_iff_ne.mp h1;rw[beq_eq_false_iff_ne];omega
  repeat' first|refine .x ?_|refine .y ?_|refine .z ?_|fail
  refine Cl.bind (w0:=w) (X0:=PX B) hM (iY h0 [105,110,116]) hno ?_
  rintro⟨b1,q1⟩ v w1 hM hk1 hq1 hs1 ⟨rfl,hp1⟩
  cases b1 with
  |true=>
   repeat' first|refine .x ?_|refine .y ?_|refine .z ?_|fail
   exact hok _ _ _ hM hq1.out ⟨H,_,_,rfl,Gr.refl _ _,rfl,rfl,hp1⟩
  |false=>
  repeat' first|refine .x ?_|refine .y ?_|refine .z ?_|fail
  refine Cl.bind (w0:=w) (X0:=PX B) hM (iY hp1 [98,111,111,108]) hno ?_
  rintro⟨b3,q3⟩ v w3 hM hk3 hq3 hs3 ⟨rfl,hp3⟩
  cases b3 with
  |true=>
   repeat' first|refine .x ?_|refine .y ?_|refine .z ?_|fail
   exact hok _ _ _ hM hq3.out ⟨H,_,_,rfl,Gr.refl _ _,rfl,rfl,hp3⟩
  |false=>
  repeat' first|refine .x ?_|refine .y ?_|refine .z ?_|fail
  refine Cl.bind (w0:=w) (X0:=PX B) hM (iY hp3 [117,110,115,105,103,110,101,100]) hno ?_
  rintro⟨b4,q4⟩ v w4 hM hk4 hq4 hs4 ⟨rfl,hp4⟩
  cases b4 with
  |true=>
   repeat' first|refine .x ?_|refine .y ?_|refine .z ?_|fail
   refine Cl.bind (w0:=w) (X0:=PX B) hM (iY hp4 [105,110,116]) hno ?_
   rintro⟨b6,q6⟩ v w6 hM hk6 hq6 hs6 ⟨rfl,hp6⟩
   exact hok _ _ _ hM hq6.out ⟨H,_,_,rfl,Gr.refl _ _,rfl,rfl,hp6⟩
  |false=>
   repeat' first|refine .x ?_|refine .y ?_|refine .z ?_|fail
   refine Cl.bind (w0:=w) (X0:=PX B) (m:=(bad q4:Res ((Ty×Int×Int×Option (List Int))×PS))) (k:=fun x=>.ok x) (by rw[hM];rfl) (I8 hp4) hno ?_
   rintro _ _ _ _ _ _ _ hf
   exact hf.elim
theorem Cb.of{σ:Type}{f:FuncId}{first captured:Array Value}{kf:Int→Nat→Res σ}{I:World→Prop}{I':σ→World→Prop}{X:List (Nat×Nat)}(hp:qH P f=true)
  (h:∀(w:World) (n:Int) (a:Nat),I w→Calls P f (first++#[.int .i64 n,i64 a]++captured) w (Post w (kf n a) X fun s _ w'=>I' s w')):Cb (.func (.func f) first captured) kf I I' X:=by
 refine Or.inr ⟨rfl,fun w n a E K hI hok hno=>?_⟩
 refine iy.f hp ?_
 refine Cl.by (h w n a hI) ?_ ?_ ?_
 ·rintro v w' ⟨hk,hp⟩
  cases hm:kf n a with
  |ok l=>
   rw[hm]at hp
   obtain⟨v',hv,hl⟩:=hp
   cases hv
   exact hok l v w' hm hk hk.size hl
  |no e c=>rw[hm]at hp;obtain⟨_,hv,_⟩:=hp;cases hv
 ·rintro ch w' ⟨hk,hp⟩
  cases hm:kf n a with
  |ok l=>rw[hm]at hp;obtain⟨_,hv,_⟩:=hp;cases hv
  |no e c=>rw[hm]at hp;obtain⟨_,hv,hf⟩:=hp;cases hv;exact hno e c ch w' hm hk hf
 ·rintro w' ⟨hk,hp⟩
  cases hm:kf n a with
  |ok l=>rw[hm]at hp;obtain⟨_,hv,_⟩:=hp;cases hv
  |no e c=>rw[hm]at hp;obtain⟨_,hv,_⟩:=hp;cases hv
theorem Um{w:World}{t nb tb:Nat}{there:List Int}{nums:Option (List Int)}{nv:Value}{H:Hp}(n:Int)(a:Nat)(hsub:Sub H w)(hn:BZ H nums nv)(h1:H nb=some ([nv],Cf))(h2:H tb=some ([.map (some t)],jv))
  (hl:∀l,nums=some l→l.length<1000000) (hset:ay .i64 w t there):
  Calls P mV #[.int .i64 n,i64 a,pt nb 0,pt tb 0] w (Post w (if nums.any fun l=>!l.contains n then .no 8 a else once there n a) [(t,t+1)] fun l _ w'=>ay .i64 w' t l):=by
 refine Post.R fun R M hM hok hno=>?_
 apply xH
 unfold mg
 have g1:=hsub _ _ _ h1
 have g2:=hsub _ _ _ h2
 refine Jn.by (fun vals w'=>vals=[]∧(nums.any fun l=>!l.contains n)=false∧w'=w) (fun J hJ=>?_) ?_
 ·cases nums with
  |none=>
   cases hn
   repeat' first|refine .x ?_|refine .y ?_|refine .z ?_|fail
   exact hJ _ _ ⟨rfl,rfl,rfl⟩
  |some l=>
   obtain⟨sb,rest,cap,rfl,hsb,_⟩:=hn
   have g3:=hsub _ _ _ hsb
   refine .s ?_
   refine En.s (b:=false) ?_ rfl
   repeat' first|refine .x ?_|refine .y ?_|refine .z ?_|fail
   refine Cl.same (Ja l n g3 (hl l rfl)) ?_
   simp only[Option.any_some]at hM hJ
   cases hc:l.contains n with
   |true=>
    rw[hc]at hJ
    repeat' first|refine .x ?_|refine .y ?_|refine .z ?_|fail
    exact hJ _ _ ⟨rfl,rfl,rfl⟩
   |false=>
    simp only[hc,Bool.not_false,if_true]at hM
    repeat' first|refine .x ?_|refine .y ?_|refine .z ?_|fail
    exact Cl.fail hM hno
 ·rintro _ w' jk ⟨rfl,hc,rfl⟩
  rw[hc,if_neg (by decide)]at hM
  repeat' first|refine .x ?_|refine .y ?_|refine .z ?_|fail
  refine Cl.bind (w0:=w') (X0:=[(t,t+1)]) (m:=once there n a) (k:=fun x=>.ok x) (by rw[hM];cases once there n a<;>rfl) (LY w' t there n a hset) hno ?_
  rintro l v w1 hM hk hq hs hl
  exact hok _ _ _ hM hk hl
theorem UT{B t nb tb:Nat}{H:Hp}{p:PS}{there:List Int}{nums:Option (List Int)}{nv:Value}(hs:B+6≤t)(hH:H t=none)(hn:BZ H nums nv)(h1:H nb=some ([nv],Cf))(h2:H tb=some ([.map (some t)],jv))
  (hl:∀l,nums=some l→l.length<1000000):
  Cb (.func (.func 125) #[] #[pt nb 0,pt tb 0]) (fun n a=>if nums.any fun l=>!l.contains n then .no 8 a else once there n a) (fun w=>PR B H w p∧ay .i64 w t there) (fun l w=>PR B H w p∧ay .i64 w t l) [(t,t+1)]:=by
 refine Cb.of (by kernel_rfl) fun w n a ⟨hp,hset⟩=>?_
 refine(Um n a hp.sub hn h1 h2 hl hset).mono fun en w' hq=>hq.mono (fun _ _ h=>h) fun l v w' _ hk hg=>⟨hp.tmp hk hs hH,hg⟩
theorem EG{w:World}{t sb:Nat}{there:List Int}{H:Hp}(n:Int)(a:Nat)(hsub:Sub H w)(h2:H sb=some ([.map (some t)],kV))(hset:ay .u32 w t there):
  Calls P kz #[.int .i64 n,i64 a,pt sb 0] w (Post w (once there (IntKind.u32.wrap n) a) [(t,t+1)] fun l _ w'=>ay .u32 w' t l):=by
 refine Post.R fun R M hM hok hno=>?_
 apply uV
 unfold jX
 have g2:=hsub _ _ _ h2
 repeat' first|refine .x ?_|refine .y ?_|refine .z ?_|fail
 refine Cl.bind (w0:=w) (X0:=[(t,t+1)]) (m:=once there (IntKind.u32.wrap n) a) (k:=fun x=>.ok x) (by rw[hM];cases once there (IntKind.u32.wrap n) a<;>rfl) (Ut w t there _ a hset) hno ?_
 rintro l v w1 hM hk hq hs hl
 exact hok _ _ _ hM hk hl
theorem Dy(p:PS)(l:List Int):value p 0 top (fun n a=>once l n a)=value p 0 top (fun n a=>once l (IntKind.u32.wrap n) a):=
 O4 fun n a h1 h2=>by rw[show IntKind.u32.wrap n=n by rw[IntKind.wrap_u32];unfold top at h2;omega]
theorem I4{B t:Nat}{H:Hp}{w:World}{p:PS}{l:List Int}(h:PR B H w p)(ht:B+6≤t)(hset:ay .u32 w t l):
  Calls P iP #[pt (B+5) 0,.map (some t)] w (Post w (numbered p l) [(B,B+6),(t,t+1)] fun x v w'=>v=.int .u32 x.1∧∃H',Gr H H' w.heap.size∧ay .u32 w' t x.2.1∧PR B H' w' x.2.2):=by
 refine Post.R fun R M hM hok hno=>?_
 apply lC
 unfold iK
 have hl:=h.lt
 have htl:t<w.heap.size:=by obtain⟨_,_,a,_⟩:=hset;exact lt_of_heap a
 have hHt:H t=none:=by
  obtain⟨es,ck,a,_⟩:=hset
  cases hx:H t with
  |none=>rfl
  |some x=>have:=h.sub t x.1 x.2 hx;rw[a]at this;cases this
 rw[numbered]at hM
 repeat' first|refine .x ?_|refine .y ?_|refine .z ?_|fail
 obtain⟨H1,G1,L1,A1,R1,N1⟩:=(h.ext (w':=w.alloc (cl [.map (some t)] kV)) (by exact kpA)).frz (Gr.refl H w.heap.size) (b:=w.heap.size) (by exact lookA) (by omega) (h.sub.fresh (Nat.le_refl _)) (by omega)
 refine Cl.bind (w0:=w) (X0:=[(B,B+6),(t,t+1)]) hM (bZ (A1.ext (by exact kpA)) [[61]]) hno ?_
 rintro q1 v w1 hM hk1 hq1 hs1 ⟨rfl,hp1⟩
 have hl1:=hp1.lt
 simp only[size_alloc]at hs1
 have s1:ay .u32 w1 t l:=ay.kp (ay.kp (X:=[]) hset (by exact kpA) trivial) hk1 ⟨by omega,trivial⟩
 have hH1t:H1 t=none:=by rw[N1 _ (by omega)];exact hHt
 rw[Dy]at hM
 refine Cl.iq (w0:=w) (X0:=[(B,B+6),(t,t+1)]) hM (zX hp1 0 top _ _ (fun w=>PR B H1 w q1∧ay .u32 w t l) (fun l w=>PR B H1 w q1∧ay .u32 w t l) [(t,t+1)] (fun _ q=>q)
  ⟨hp1,s1⟩ (fun _ _ a k=>⟨a.1.ext k,ay.kp a.2 k trivial⟩) (Cb.of (by kernel_rfl) fun w n a ⟨hp,hs⟩=>(EG n a hp.sub R1 hs).mono fun en w' hq=>hq.mono (fun _ _ h=>h) fun l v w' _ hk hg=>⟨hp.tmp hk ht hH1t,hg⟩) (fun _ _ a=>a.1) (SH q1)) hno ?_
 rintro⟨n8,l8,q8⟩ v w8 e8 hM8 hk8 hq8 hs8 ⟨rfl,hp8,wI,⟨_,hsI⟩,hkI⟩
 have hl8:=hp8.lt
 dsimp only at hM8 hp8 e8 hsI
 have s8:=ay.kp hsI hkI ⟨by omega,trivial⟩
 clear hkI
 have hr:=vT e8
 dsimp only at hr
 repeat' first|refine .x ?_|refine .y ?_|refine .z ?_|fail
 refine Cl.bind (w0:=w) (X0:=[(B,B+6),(t,t+1)]) hM8 (bZ (hp8.ext (by exact kpA)) [[59]]) hno ?_
 rintro q9 v w9 hM9 hk9 hq9 hs9 ⟨rfl,hp9⟩
 repeat' first|refine .x ?_|refine .y ?_|refine .z ?_|fail
 rw[show IntKind.u32.wrap n8=n8 by rw[IntKind.wrap_u32];unfold top at hr;omega]
 exact hok _ _ _ hM9 hq9.out ⟨rfl,H1,G1,ay.kp (ay.kp (X:=[]) s8 (by exact kpA) trivial) hk9 ⟨by omega,trivial⟩,hp9⟩
theorem OO{B:Nat}{H:Hp}{w:World}{p:PS}(h:PR B H w p):
  Calls P iP #[pt (B+5) 0,.map (some (B+4))] w (Post w (numbered p p.ik) (PX B) fun x v w'=>v=.int .u32 x.1∧∃H',Gr H H' w.heap.size∧PR B H' w' { x.2.2 with ik:=x.2.1 }):=by
 refine Post.R fun R M hM hok hno=>?_
 apply lC
 unfold iK
 have hl:=h.lt
 rw[numbered]at hM
 repeat' first|refine .x ?_|refine .y ?_|refine .z ?_|fail
 obtain⟨H1,G1,L1,A1,R1,N1⟩:=(h.ext (w':=w.alloc (cl [.map (some (B+4))] kV)) (by exact kpA)).frz (Gr.refl H w.heap.size) (b:=w.heap.size) (by exact lookA) (by omega) (h.sub.fresh (Nat.le_refl _)) (by omega)
 refine Cl.iq (w0:=w) (X0:=PX B) hM (bZ (A1.ext (by exact kpA)) [[61]]) hno ?_
 rintro q1 v w1 e1 hM hk1 hq1 hs1 ⟨rfl,hp1⟩
 have hl1:=hp1.lt
 simp only[size_alloc]at hs1
 have ep:=Ry e1
 rw[← ep,Dy]at hM
 refine Cl.iq (w0:=w) (X0:=PX B) hM (zX hp1 0 top _ _ (fun w=>PR B H1 w q1) (fun l w=>PR B H1 w { q1 with ik:=l }) [(B+4,B+5)] (fun l q=>{ q with ik:=l })
  hp1 (fun _ _ a k=>a.ext k) (Cb.of (by kernel_rfl) fun w n a hp=>(EG n a hp.sub R1 hp.hg).mono fun en w' hq=>hq.mono (fun _ _ h=>h) fun l v w' _ hk hg=>hp.ik hk hg) (fun _ _ a=>a) (Na q1)) hno ?_
 rintro⟨n8,l8,q8⟩ v w8 e8 hM8 hk8 hq8 hs8 ⟨rfl,hp8,wI,_,hkI⟩
 have hl8:=hp8.lt
 dsimp only at hM8 hp8 e8
 clear hkI
 have hr:=vT e8
 dsimp only at hr
 repeat' first|refine .x ?_|refine .y ?_|refine .z ?_|fail
 refine Cl.iq (w0:=w) (X0:=PX B) (m:=want { q8 with ik:=l8 } [[59]]) (k:=fun _=>M) ?_ (bZ (hp8.ext (by exact kpA)) [[59]]) hno ?_
 ·rw[yu,hM8]
  cases want q8 [[59]]<;>rfl
 rintro q9 v w9 e9 hM9 hk9 hq9 hs9 ⟨rfl,hp9⟩
 rw[yu]at e9
 obtain⟨r,er,e9⟩:=Res.then_ok e9
 cases e9
 rw[er]at hM8
 repeat' first|refine .x ?_|refine .y ?_|refine .z ?_|fail
 rw[show IntKind.u32.wrap n8=n8 by rw[IntKind.wrap_u32];unfold top at hr;omega]
 exact hok _ _ _ hM8 hq9.out ⟨rfl,H1,G1,hp9⟩
end Go.W.T

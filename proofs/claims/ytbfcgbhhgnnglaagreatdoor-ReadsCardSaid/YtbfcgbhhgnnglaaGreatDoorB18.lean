/- Texts of mine, one behind the other; nothing is assumed. -/
import Derived.Test.YtbfcgbhhgnnglaaGreatDoorB17
import Derived.Test.YtbfcgbhhgnnglaaGreatDoorB10
import Derived.Test.YtbfcgbhhgnnglaaGreatDoorB00
set_option autoImplicit true
set_option relaxedAutoImplicit true
set_option linter.unusedSimpArgs false
set_option linter.unusedVariables false
set_option maxRecDepth 100000
namespace Go.W.T
open Go Go.W Go.M Go.Proofs
theorem GN(h:PR B H w p):
  Calls P 213 #[pt (B+5) 0] w (Post w (bound p) (PX B) λx v w'=>v=.tuple #[.bool x.1,i64 x.2.1]/\PR B H w' x.2.2):=by
 refine Post.R λR M hM hok hno=>?_;refine cf [] Tryz.func213 ?_;have hl:=h.lt;rw[bound]at hM;refine Cl.bind (w0:=w) (X0:=PX B) hM (jQ h [91]) hno ?_;rintro⟨b1,q1⟩ v w1 hM hk1 hq1 hs1 ⟨rfl,hp1⟩;cases b1 with
 |true=>
  refine gg ?_;refine Cl.bind (w0:=w) (X0:=PX B) hM (Hz hp1 1 1000) hno ?_;rintro⟨n,u,q2⟩ v w2 hM hk2 hq2 hs2 ⟨rfl,hp2⟩;refine gg ?_;have hl2:=hp2.lt;refine Cl.bind (w0:=w) (X0:=PX B) hM (MN (hp2.ext kpA) [[93]] (bH ..) omg dcd) hno ?_;rintro q3 v w3 hM hk3 hq3 hs3 ⟨rfl,hp3⟩;exact hok _ _ _ hM hq3.out ⟨rfl,hp3⟩
 |false=>
  refine gg ?_;have hl1:=hp1.lt;refine Cl.bind (w0:=w) (X0:=PX B) hM (MN (hp1.ext kpA) [[60]] (bH ..) omg dcd) hno ?_;rintro q2 v w2 hM hk2 hq2 hs2 ⟨rfl,hp2⟩;refine Cl.bind (w0:=w) (X0:=PX B) hM (jQ hp2 [62]) hno ?_;rintro⟨b3,q3⟩ v w3 hM hk3 hq3 hs3 ⟨rfl,hp3⟩;cases b3 with
  |true=>repeat' (first|refine .q ?_|refine .r ?_|refine .g ?_|fail);exact hok _ _ _ hM hq3.out ⟨rfl,hp3⟩
  |false=>
   refine gg ?_;refine Cl.bind (w0:=w) (X0:=PX B) hM (Hz hp3 0 4294967295) hno ?_;rintro⟨n,u,q4⟩ v w4 hM hk4 hq4 hs4 ⟨rfl,hp4⟩;refine gg ?_;have hl4:=hp4.lt;refine Cl.bind (w0:=w) (X0:=PX B) hM (MN (hp4.ext kpA) [[62]] (bH ..) omg dcd) hno ?_;rintro q5 v w5 hM hk5 hq5 hs5 ⟨rfl,hp5⟩;exact hok _ _ _ hM hq5.out ⟨rfl,hp5⟩
theorem O7(h:PR B H w p):
  Calls P 212 #[pt (B+5) 0,.map (some (B+1))] w (Post w (Dn p) (PX B) λx v w'=>v=wdv x.1/\PR B H w' x.2.2):=by
 refine Post.R λR M hM hok hno=>?_;refine cf [] Tryz.func212 ?_;have hl:=h.lt;rw[Dn,M.own]at hM;have hM0:M=(name p).andThen λw=>(once p.names w.s w.at_).andThen λl=>(advance { p with names:=l }).andThen λp=>.ok (w,(),p):=by
  rw[hM];cases name p with
  |no=>rfl
  |ok x=>
   simp only[Res.aS];cases once p.names x.s x.at_ with
   |no=>rfl
   |ok l=>
    simp only[Res.aS];cases advance { p with names:=l }<;>rfl
 clear hM;have hM:=hM0;clear hM0;refine gg ?_;have h0:=h.ext (w':=w.alloc (cl [.int .i64 0,.string ⟨#[]⟩,.int .i64 0,.int .i64 0] 151)) kpA;refine Cl.bind (w0:=w) (X0:=PX B) hM (SY h0) hno ?_;rintro x v w1 hM hk1 hq1 hs1 ⟨rfl,rfl,h1⟩;rw[size_alloc]at hs1;unfold wdv;have hp:=h1.hp;rw[bF]at hp;have hl1:=h1.lt;refine gg ?_;obtain⟨es,ck,hm1,hm2⟩:=h1.hn;have hm3:(ag (w1.alloc (cl [.int .i64 0,.string ⟨#[]⟩,.int .i64 0,.int .i64 0] 151)) w1.heap.size (cl [i64 p.w.kind,.string (bs p.w.s),i64 p.w.at_,i64 p.w.n] 151)).heap[B+1]?=some (.map es ck):=
  (bW omg).trans ((cZ omg).trans hm1)
 refine Cl.bind (w0:=w) (X0:=PX B) hM (Yh _ (B+1) p.names p.w.s p.w.at_ ⟨es,ck,hm3,hm2⟩) hno ?_;rintro l' v w2 hM hk2 hq2 hs2 hn2;rw[ah,size_alloc]at hs2;have h2:PR B H w2 { p with names:=l' }:=by
  refine PR.names (w:=(ag (w1.alloc (cl [.int .i64 0,.string ⟨#[]⟩,.int .i64 0,.int .i64 0] 151)) w1.heap.size (cl [i64 p.w.kind,.string (bs p.w.s),i64 p.w.at_,i64 p.w.n] 151))) ?_ hk2 hn2;exact h1.ext kpA
 refine Cl.bind (w0:=w) (X0:=PX B) hM (qR h2) hno ?_;rintro p3 v w3 hM hk3 hq3 hs3 ⟨rfl,h3⟩;refine gg ?_;exact hok _ _ _ hM kpA ⟨rfl,h3.tmp (a:=w.heap.size) kpA omg (h.sub.fresh (Nat.le_refl _))⟩
structure Nmr {σ:Type} (B s:Nat) (nm:PS->Res (Wd×σ×PS)) (J0:World->Prop) (J:σ->World->Prop):Prop where
 hs:B+1<=s/\s<B+2\/B+6<=s
 call:∀{H:Hp} {w:World} {p:PS},PR B H w p->J0 w->Calls P 212 #[pt (B+5) 0,.map (some s)] w (Post w (nm p) [(B,B+6),(s,s+1)] λx v w'=>v=wdv x.1/\J x.2.1 w'/\PR B H w' x.2.2)
 lt:∀{w:World},J0 w->B+6<=w.heap.size->s<w.heap.size
 k0:∀{w w'},J0 w->Kp (PX B) w w'->J0 w'
 k:∀{x w w'},J x w->Kp (PX B) w w'->J x w'
 t:∀{x w w' a b},J x w->Kp [(a,b)] w w'->B+6<=a->s<a->J x w'
theorem aW.kp(h:aW w s l)(k:Kp X w w')(ho:Out X s):aW w' s l:=by
 obtain⟨es,ck,a,b⟩:=h;exact⟨es,ck,(k.same s (lt_of_heap a) ho).trans a,b⟩
theorem aH.kp(h:aH k w s l)(kk:Kp X w w')(ho:Out X s):aH k w' s l:=by
 obtain⟨es,ck,a,b⟩:=h;exact⟨es,ck,(kk.same s (lt_of_heap a) ho).trans a,b⟩
theorem abN(hs:B+6<=s)(l:List By):Nmr B s (Zp l) (λw=>aW w s l) (λl' w=>aW w s l') where
 hs:=Or.inr hs
 call h hj:=O8 h hs hj
 lt h _:=by obtain⟨_,_,a,_⟩:=h;exact lt_of_heap a
 k0 h k:=aW.kp h k ⟨omg,trivial⟩
 k h k:=aW.kp h k ⟨omg,trivial⟩
 t h k _ ha:=aW.kp h k ⟨omg,trivial⟩
theorem Post.mono(h:Post w m X good en w')
  (hX:∀i,i<w.heap.size->Out Y i->Out X i) (hg:∀b v w',m=.ok b->Kp X w w'->good b v w'->good' b v w'):Post w m Y good' en w':=by
 obtain⟨h1,h2⟩:=h;refine⟨h1.mono hX,?_⟩;cases hm:m with
 |ok b=>rw[hm]at h2;obtain⟨v,hv,hb⟩:=h2;exact⟨v,hv,hg b v w' hm h1 hb⟩
 |no e a=>rw[hm]at h2;exact h2
theorem abO:Nmr B (B+1) Dn (λ_=>True) (λ_ _=>True) where
 hs:=Or.inl ⟨omg,omg⟩
 call h _:=(O7 h).mono λ_ _ hp=>hp.mono (λi _ ho=>⟨ho.1,trivial⟩) λ_ _ _ _ _ hb=>⟨hb.1,trivial,hb.2⟩
 lt _ h:=omg
 k0 _ _:=trivial
 k _ _:=trivial
 t _ _ _ _:=trivial
theorem Gr.mono(h:Gr H H' m)(hn:n<=m):Gr H H' n:=⟨h.1,λi x hx=>(h.2 i x hx).imp id λa=>omg⟩
theorem PR.tmps(h:PR B H' w p)(h0:PR B H w0 p0)(g:Gr H H' m)(k:Kp [(w0.heap.size,m)] w w'):PR B H' w' p:=by
 have hl:=h0.lt;refine h.kp k (λi h1=>⟨omg,trivial⟩) (λi h1 h2=>⟨omg,trivial⟩) (λb x hx=>⟨?_,trivial⟩);rcases g.2 b x hx with h1|h1
 .have:=lt_of_heap (h0.sub b x.1 x.2 h1);omega
 .omega
set_option maxHeartbeats 1000000 in
theorem Yf(N:Nmr B s nm J0 J)(h:PR B H w p)(hj:J0 w):
  Calls P 171 #[pt (B+5) 0,.map (some s)] w (Post w (decl nm p) [(B,B+6),(s,s+1)] λx v w'=>∃H' tv,v=.tuple #[.agg #[.string (bs x.1.name),tv],wdv x.2.1]/\Gr H H' w.heap.size/\lq H' x.1.ty tv/\J x.2.2.1 w'/\PR B H' w' x.2.2.2):=by
 refine Post.R λR M hM hok hno=>?_;refine cf [10] Tryz.func171 ?_;have hl:=h.lt;have hs:=N.lt hj hl;have hp:=h.hp;rw[bF]at hp;rw[decl]at hM;refine gg ?_;have hA:Kp [] w ((w.alloc (cl [.string ⟨#[]⟩,.nilIface] 259)).alloc (cl [.int .i64 0,.string ⟨#[]⟩,.int .i64 0,.int .i64 0] 151)):=by exact kpA
 have hA1:((w.alloc (cl [.string ⟨#[]⟩,.nilIface] 259)).alloc (cl [.int .i64 0,.string ⟨#[]⟩,.int .i64 0,.int .i64 0] 151)).heap[w.heap.size]?=some (cl [.string ⟨#[]⟩,.nilIface] 259):=(cZ (by rw[size_alloc];omega)).trans (bH ..);have hA2:((w.alloc (cl [.string ⟨#[]⟩,.nilIface] 259)).alloc (cl [.int .i64 0,.string ⟨#[]⟩,.int .i64 0,.int .i64 0] 151)).heap[w.heap.size+1]?=some (cl [.int .i64 0,.string ⟨#[]⟩,.int .i64 0,.int .i64 0] 151):=iw (by rw[size_alloc]);have hAs:((w.alloc (cl [.string ⟨#[]⟩,.nilIface] 259)).alloc (cl [.int .i64 0,.string ⟨#[]⟩,.int .i64 0,.int .i64 0] 151)).heap.size=w.heap.size+2:=by simp only[size_alloc]
 generalize (w.alloc (cl [.string ⟨#[]⟩,.nilIface] 259)).alloc (cl [.int .i64 0,.string ⟨#[]⟩,.int .i64 0,.int .i64 0] 151)=wA at *;have hpA:=h.ext hA;have hjA:=N.k0 hj hA.any;refine Cl.plain (w0:=w) (X0:=[(B,B+6),(s,s+1)]) (yc wA p.w [115,116,114,105,110,103]) (λw1 hk1 hq1 hs1=>?_) kpA;have hp1:=hpA.ext hk1;have hj1:=N.k0 hjA hk1.any;have hc1:=hp1.hp;rw[bF]at hc1;cases hT:p.w.is [115,116,114,105,110,103]with
 |true=>
  rw[hT]at hM;simp only[Bool.true_or,if_true,Bool.true_and]at hM;refine gg ?_;refine Cl.bind (w0:=w) (X0:=[(B,B+6),(s,s+1)]) hM (qR hp1) hno ?_;rintro q2 v w2 hM hk2 hq2 hs2 ⟨rfl,hp2⟩;refine Cl.bind (w0:=w) (X0:=[(B,B+6),(s,s+1)]) hM (N.call hp2 (N.k0 hj1 hk2)) hno ?_;rintro⟨x3,l3,q3⟩ v w3 hM hk3 hq3 hs3 ⟨rfl,hj3,hp3⟩;have hc3:=hp3.hp;rw[bF]at hc3;have hl3:=hp3.lt;dsimp only at hM hc3;unfold wdv;refine gg ?_;have hB:Kp [] w3 (ag (w3.alloc (cl [.int .i64 0,.string ⟨#[]⟩,.int .i64 0,.int .i64 0] 151)) w3.heap.size (cl [i64 x3.kind,.string (bs x3.s),i64 x3.at_,i64 x3.n] 151)):=by exact kpA
  have hB1:(ag (w3.alloc (cl [.int .i64 0,.string ⟨#[]⟩,.int .i64 0,.int .i64 0] 151)) w3.heap.size (cl [i64 x3.kind,.string (bs x3.s),i64 x3.at_,i64 x3.n] 151)).heap[w3.heap.size]?=some (cl [i64 x3.kind,.string (bs x3.s),i64 x3.at_,i64 x3.n] 151):=aC rfl (by simp only[size_alloc];omega);generalize ag (w3.alloc (cl [.int .i64 0,.string ⟨#[]⟩,.int .i64 0,.int .i64 0] 151)) w3.heap.size (cl [i64 x3.kind,.string (bs x3.s),i64 x3.at_,i64 x3.n] 151)=wB at *;have hBs:=lt_of_heap hB1;refine Jn.by (λ_ w4=>q3.w.is [60]=true/\Kp [] wB w4/\PR B H w4 q3) (λJ hJ=>?_) ?_
  .refine gg ?_;refine Cl.plain (w0:=w) (X0:=[(B,B+6),(s,s+1)]) (yc wB q3.w [60]) (λw4 hk4 hq4 hs4=>?_) kpA;cases hL:q3.w.is [60]with
   |true=>
    refine gg ?_;exact hJ _ _ ⟨hL,hk4,(hp3.ext hB).ext hk4⟩
   |false=>
    rw[hL]at hM;refine gg ?_;refine Cl.bind (w0:=w) (X0:=[(B,B+6),(s,s+1)]) (m:=(bad q3:Res (Bool×Int×PS))) (k:=λy=>.ok (⟨x3.s,.bytes true y.1 y.2.1⟩,x3,l3,y.2.2)) (by rw[hM];rfl) (H8 ((hp3.ext hB).ext hk4)) hno ?_;rintro _ _ _ _ _ _ _ hf;exact hf.elim
  .rintro _ w4 jk ⟨hL,hk4,hp4⟩;have hs4:=hk4.size;rw[hL]at hM;simp only[Bool.not_true,Bool.false_eq_true,if_false]at hM;refine Cl.bind (w0:=w) (X0:=[(B,B+6),(s,s+1)]) hM (GN hp4) hno ?_;rintro⟨f5,n5,q5⟩ v w5 hM hk5 hq5 hs5 ⟨rfl,hp5⟩;refine gg ?_;refine hok _ _ _ hM kpA ⟨H,_,rfl,Gr.refl _ _,rfl,?_,?_⟩
   .exact N.t (a:=w.heap.size) (b:=w.heap.size+2) (N.k (N.k (N.k hj3 hB.any) hk4.any) hk5) kpA omg omg
   .exact hp5.tmps h (m:=w.heap.size+2) (Gr.refl _ _) kpA
 |false=>
  rw[hT]at hM;simp only[Bool.false_or,Bool.false_and,Bool.false_eq_true,if_false]at hM;refine gg ?_;refine Cl.plain (w0:=w) (X0:=[(B,B+6),(s,s+1)]) (yc w1 p.w [111,112,97,113,117,101]) (λw1b Z7 hq1b hs1b=>?_) kpA;have hp1b:=hp1.ext Z7;have hj1b:=N.k0 hj1 Z7.any;cases hO:p.w.is [111,112,97,113,117,101]with
  |true=>
   rw[hO,if_pos rfl]at hM;refine gg ?_;refine Cl.bind (w0:=w) (X0:=[(B,B+6),(s,s+1)]) hM (qR hp1b) hno ?_;rintro q2 v w2 hM hk2 hq2 hs2 ⟨rfl,hp2⟩;refine Cl.bind (w0:=w) (X0:=[(B,B+6),(s,s+1)]) hM (N.call hp2 (N.k0 hj1b hk2)) hno ?_;rintro⟨x3,l3,q3⟩ v w3 hM hk3 hq3 hs3 ⟨rfl,hj3,hp3⟩;have hl3:=hp3.lt;dsimp only at hM;unfold wdv;refine gg ?_;have hB:Kp [] w3 (ag (w3.alloc (cl [.int .i64 0,.string ⟨#[]⟩,.int .i64 0,.int .i64 0] 151)) w3.heap.size (cl [i64 x3.kind,.string (bs x3.s),i64 x3.at_,i64 x3.n] 151)):=by exact kpA
   have hB1:(ag (w3.alloc (cl [.int .i64 0,.string ⟨#[]⟩,.int .i64 0,.int .i64 0] 151)) w3.heap.size (cl [i64 x3.kind,.string (bs x3.s),i64 x3.at_,i64 x3.n] 151)).heap[w3.heap.size]?=some (cl [i64 x3.kind,.string (bs x3.s),i64 x3.at_,i64 x3.n] 151):=aC rfl (by simp only[size_alloc];omega);generalize ag (w3.alloc (cl [.int .i64 0,.string ⟨#[]⟩,.int .i64 0,.int .i64 0] 151)) w3.heap.size (cl [i64 x3.kind,.string (bs x3.s),i64 x3.at_,i64 x3.n] 151)=wB at *;have hBs:=lt_of_heap hB1;refine Jn.direct ?_;refine gg ?_;intro jk;refine Cl.bind (w0:=w) (X0:=[(B,B+6),(s,s+1)]) hM (GN (hp3.ext hB)) hno ?_;rintro⟨f5,n5,q5⟩ v w5 hM hk5 hq5 hs5 ⟨rfl,hp5⟩;refine gg ?_;refine hok _ _ _ hM kpA ⟨H,_,rfl,Gr.refl _ _,rfl,?_,?_⟩
   .exact N.t (a:=w.heap.size) (b:=w.heap.size+2) (N.k (N.k hj3 hB.any) hk5) kpA omg omg
   .exact hp5.tmps h (m:=w.heap.size+2) (Gr.refl _ _) kpA
  |false=>
   rw[hO]at hM;simp only[Bool.false_eq_true,if_false]at hM;refine gg ?_;refine Cl.bind (w0:=w) (X0:=[(B,B+6),(s,s+1)]) hM (Yd hp1b) hno ?_;rintro⟨t2,q2⟩ tv w2 hM hk2 hq2 hs2 ⟨H2,hg2,ht2,hp2⟩;dsimp only at hM ht2;obtain⟨ti,tu,rfl⟩:=ht2.form;have Ud:Gr H H2 (w.heap.size+2):=hg2.mono omg;refine Cl.bind (w0:=w) (X0:=[(B,B+6),(s,s+1)]) hM (jQ hp2 [42]) hno ?_;rintro⟨b3,q3⟩ v w3 hM hk3 hq3 hs3 ⟨rfl,hp3⟩;cases b3 with
   |true=>
    refine gg ?_;simp only[if_true]at hM;refine Cl.bind (w0:=w) (X0:=[(B,B+6),(s,s+1)]) hM (N.call hp3 (N.k0 (N.k0 hj1b hk2) hk3)) hno ?_;rintro⟨x4,l4,q4⟩ v w4 hM hk4 hq4 hs4 ⟨rfl,hj4,hp4⟩;have hl4:=hp4.lt;dsimp only at hM;have t1:w4.heap[w.heap.size]?=some (cl [.string ⟨#[]⟩,.nilIface] 259):=
     oQ hk4 omg ⟨omg,omg,trivial⟩ (oQ hk3 omg ⟨omg,trivial⟩ (oQ hk2 omg ⟨omg,trivial⟩ (oQ Z7 omg trivial (oQ hk1 omg trivial hA1))))
    have t2:w4.heap[w.heap.size+1]?=some (cl [.int .i64 0,.string ⟨#[]⟩,.int .i64 0,.int .i64 0] 151):=
     oQ hk4 omg ⟨omg,omg,trivial⟩ (oQ hk3 omg ⟨omg,trivial⟩ (oQ hk2 omg ⟨omg,trivial⟩ (oQ Z7 omg trivial (oQ hk1 omg trivial hA2))))
    clear hk1 hk2 hk3 hA1 hA2 Z7 hA hpA hp1 hp1b hp2;unfold wdv;refine gg ?_;refine hok _ _ _ hM kpA ⟨H2,_,rfl,Ud.mono omg,⟨_,rfl,ht2⟩,?_,?_⟩
    .exact N.t (a:=w.heap.size) (b:=w.heap.size+2) hj4 kpA omg omg
    .exact hp4.tmps h (m:=w.heap.size+2) Ud kpA
   |false=>
    refine gg ?_;simp only[Bool.false_eq_true,if_false]at hM;refine Cl.bind (w0:=w) (X0:=[(B,B+6),(s,s+1)]) hM (N.call hp3 (N.k0 (N.k0 hj1b hk2) hk3)) hno ?_;rintro⟨x4,l4,q4⟩ v w4 hM hk4 hq4 hs4 ⟨rfl,hj4,hp4⟩;have hl4:=hp4.lt;have hc4:=hp4.hp;rw[bF]at hc4;dsimp only at hM hc4;unfold wdv;refine gg ?_;have hB:Kp [] w4 (ag (w4.alloc (cl [.int .i64 0,.string ⟨#[]⟩,.int .i64 0,.int .i64 0] 151)) w4.heap.size (cl [i64 x4.kind,.string (bs x4.s),i64 x4.at_,i64 x4.n] 151)):=by exact kpA
    have hB1:(ag (w4.alloc (cl [.int .i64 0,.string ⟨#[]⟩,.int .i64 0,.int .i64 0] 151)) w4.heap.size (cl [i64 x4.kind,.string (bs x4.s),i64 x4.at_,i64 x4.n] 151)).heap[w4.heap.size]?=some (cl [i64 x4.kind,.string (bs x4.s),i64 x4.at_,i64 x4.n] 151):=aC rfl (by simp only[size_alloc];omega);generalize ag (w4.alloc (cl [.int .i64 0,.string ⟨#[]⟩,.int .i64 0,.int .i64 0] 151)) w4.heap.size (cl [i64 x4.kind,.string (bs x4.s),i64 x4.at_,i64 x4.n] 151)=wB at *;have hBs:=lt_of_heap hB1;refine Jn.by (λvals w5=>∃d u q,M=.ok (⟨x4.s,d⟩,x4,l4,q)/\vals=[u]/\lq H2 d u/\Kp (PX B) wB w5/\PR B H2 w5 q) (λJ hJ=>?_) ?_
    .refine gg ?_;refine Cl.plain (w0:=w) (X0:=[(B,B+6),(s,s+1)]) (yc wB q4.w [91]) (λw5 hk5 hq5 hs5=>?_) kpA;have hp5:=(hp4.ext hB).ext hk5;have hc5:=hp5.hp;rw[bF]at hc5;cases hL:q4.w.is [91]with
     |true=>
      rw[hL]at hM;simp only[Bool.true_or,if_true]at hM;refine gg ?_;refine Cl.bind (w0:=w) (X0:=[(B,B+6),(s,s+1)]) hM (GN hp5) hno ?_;rintro⟨f6,n6,q6⟩ v w6 hM hk6 hq6 hs6 ⟨rfl,hp6⟩;refine gg ?_;exact hJ _ _ ⟨_,_,_,hM,rfl,⟨_,rfl,ht2⟩,kpA,hp6⟩
     |false=>
      rw[hL]at hM;simp only[Bool.false_or]at hM;refine gg ?_;refine Cl.plain (w0:=w) (X0:=[(B,B+6),(s,s+1)]) (yc w5 q4.w [60]) (λw6 hk6 hq6 hs6=>?_) kpA;have hp6:=hp5.ext hk6;cases hK:q4.w.is [60]with
      |true=>
       rw[hK,if_pos rfl]at hM;refine gg ?_;refine Cl.bind (w0:=w) (X0:=[(B,B+6),(s,s+1)]) hM (GN hp6) hno ?_;rintro⟨f7,n7,q7⟩ v w7 hM hk7 hq7 hs7 ⟨rfl,hp7⟩;refine gg ?_;exact hJ _ _ ⟨_,_,_,hM,rfl,⟨_,rfl,ht2⟩,kpA,hp7⟩
      |false=>
       rw[hK]at hM;simp only[Bool.false_eq_true,if_false]at hM;refine gg ?_;exact hJ _ _ ⟨_,_,_,hM,rfl,ht2,kpA,hp6⟩
    .rintro _ w5 jk ⟨d,u,q,hM,rfl,hu,hk5,hp5⟩;have hs5:=hk5.size;obtain⟨ui,uu,rfl⟩:=hu.form;refine gg ?_;refine hok _ _ _ hM ?_ ⟨H2,_,rfl,Ud.mono omg,hu,?_,?_⟩
     .have:Kp [(B,B+6),(s,s+1)] w w5:=(hq4.out.trans hB λi _ ho=>⟨ho,trivial⟩).trans hk5 λi _ ho=>⟨ho,ho.1,trivial⟩;exact kpA
     .exact N.t (a:=w.heap.size) (b:=w.heap.size+2) (N.k (N.k hj4 hB.any) hk5) kpA omg omg
     .exact hp5.tmps h (m:=w.heap.size+2) Ud kpA
end Go.W.T
namespace Go.W.T
open Go Go.W Go.M Go.Proofs
def SlF(H:Hp)(e:TypeId)(n:Nat)(l:List Value)(v:Value):Prop:=∃b rest cap,v=.slice (some ⟨b,0,none⟩) n cap/\H b=some (l++rest,e)
theorem SlF.le(h:SlF H e n l v)(k:Hle H H'):SlF H' e n l v:=by
 obtain⟨b,r,c,h1,h2⟩:=h;exact⟨b,r,c,h1,k _ _ h2⟩
def kU(H:Hp):List Decl->List Value->Prop
 |[],[]=>True
 |d::ds,s::t::r=>s=.string (bs d.name)/\lq H d.ty t/\kU H ds r
 |_,_=>False
def lX(H:Hp):List Arm->List Value->Prop
 |[],[]=>True
 |a::ar,ns::s::t::r=>SlF H jI a.nums.length (a.nums.map i64) ns/\s=.string (bs a.decl.name)/\lq H a.decl.ty t/\lX H ar r
 |_,_=>False
def iT(H:Hp):List pG->List Value->Prop
 |[],[]=>True
 |q::qs,s::n::a::t::r=>s=.string (bs q.name)/\n=.int .u32 q.n/\lq H q.arg a/\lq H q.res t/\iT H qs r
 |_,_=>False
def lV(H:Hp):List qw->List Value->Prop
 |[],[]=>True
 |v::vs,s::n::q::r=>s=.string (bs v.name)/\n=.int .u32 v.n/\(∃l,iT H v.procs l/\SlF H bJ v.procs.length l q)/\lV H vs r
 |_,_=>False
def jH(H:Hp)(d:Def)(v:Value):Prop:=
 match d.k with
 |.const n=>∃b,v=.iface Ey (pt b 0)/\H b=some ([.string (bs d.name),i64 d.at_,i64 n],yz)
 |.alias t=>∃b u,v=.iface Ez (pt b 0)/\H b=some ([.string (bs d.name),i64 d.at_,u],rX)/\lq H t u
 |.enum ns is=>∃b u x,v=.iface xQ (pt b 0)/\H b=some ([.string (bs d.name),i64 d.at_,u,x],fG)/\SlF H oH ns.length (ns.map κs) u/\SlF H jI is.length (is.map i64) x
 |.struct ds=>∃b u l,v=.iface uo (pt b 0)/\H b=some ([.string (bs d.name),i64 d.at_,u],gK)/\kU H ds l/\SlF H jD ds.length l u
 |.union of nm ar els=>∃b o u l e,v=.iface vH (pt b 0)/\H b=some ([.string (bs d.name),i64 d.at_,o,.string (bs nm),u,e],aX)/\lq H of o/\lX H ar l/\SlF H dY ar.length l u /\
   (match els with
    |none=>e=.pointer none
    |some x=>∃c t,e=pt c 0/\H c=some ([.string (bs x.name),t],jD)/\lq H x.ty t)
 |.prog n vs=>∃b u l,v=.iface rY (pt b 0)/\H b=some ([.string (bs d.name),i64 d.at_,.int .u32 n,u],dL)/\lV H vs l/\SlF H aJ vs.length l u
theorem kU.le(k:Hle H H'):∀{ds:List Decl} {l:List Value},kU H ds l->kU H' ds l
 |[],[],_=>trivial
 |_::_,_::_::_,h=>⟨h.1,h.2.1.le k,kU.le k h.2.2⟩
 |[],_::_,h=>h.elim
 |_::_,[],h=>h.elim
 |_::_,[_],h=>h.elim
theorem kU.snoc(ht:lq H d.ty t):∀{ds:List Decl} {l:List Value},kU H ds l->kU H (ds++[d]) (l++[.string (bs d.name),t])
 |[],[],_=>⟨rfl,ht,trivial⟩
 |_::_,_::_::_,h=>⟨h.1,h.2.1,kU.snoc ht h.2.2⟩
 |[],_::_,h=>h.elim
 |_::_,[],h=>h.elim
 |_::_,[_],h=>h.elim
theorem lX.le(k:Hle H H'):∀{ds:List Arm} {l:List Value},lX H ds l->lX H' ds l
 |[],[],_=>trivial
 |_::_,_::_::_::_,h=>⟨h.1.le k,h.2.1,h.2.2.1.le k,lX.le k h.2.2.2⟩
 |[],_::_,h=>h.elim
 |_::_,[],h=>h.elim
 |_::_,[_],h=>h.elim
 |_::_,[_,_],h=>h.elim
theorem lX.snoc(hn:SlF H jI d.nums.length (d.nums.map i64) ns)(ht:lq H d.decl.ty t):∀{ds:List Arm} {l:List Value},lX H ds l->lX H (ds++[d]) (l++[ns,.string (bs d.decl.name),t])
 |[],[],_=>⟨hn,rfl,ht,trivial⟩
 |_::_,_::_::_::_,h=>⟨h.1,h.2.1,h.2.2.1,lX.snoc hn ht h.2.2.2⟩
 |[],_::_,h=>h.elim
 |_::_,[],h=>h.elim
 |_::_,[_],h=>h.elim
 |_::_,[_,_],h=>h.elim
theorem iT.le(k:Hle H H'):∀{ds:List pG} {l:List Value},iT H ds l->iT H' ds l
 |[],[],_=>trivial
 |_::_,_::_::_::_::_,h=>⟨h.1,h.2.1,h.2.2.1.le k,h.2.2.2.1.le k,iT.le k h.2.2.2.2⟩
 |[],_::_,h=>h.elim
 |_::_,[],h=>h.elim
 |_::_,[_],h=>h.elim
 |_::_,[_,_],h=>h.elim
 |_::_,[_,_,_],h=>h.elim
theorem iT.snoc(ha:lq H q.arg a)(ht:lq H q.res t):∀{ds:List pG} {l:List Value},iT H ds l->iT H (ds++[q]) (l++[.string (bs q.name),.int .u32 q.n,a,t])
 |[],[],_=>⟨rfl,rfl,ha,ht,trivial⟩
 |_::_,_::_::_::_::_,h=>⟨h.1,h.2.1,h.2.2.1,h.2.2.2.1,iT.snoc ha ht h.2.2.2.2⟩
 |[],_::_,h=>h.elim
 |_::_,[],h=>h.elim
 |_::_,[_],h=>h.elim
 |_::_,[_,_],h=>h.elim
 |_::_,[_,_,_],h=>h.elim
theorem lV.le(k:Hle H H'):∀{ds:List qw} {l:List Value},lV H ds l->lV H' ds l
 |[],[],_=>trivial
 |_::_,_::_::_::_,h=>⟨h.1,h.2.1,by obtain⟨l,h1,h2⟩:=h.2.2.1;exact⟨l,h1.le k,h2.le k⟩,lV.le k h.2.2.2⟩
 |[],_::_,h=>h.elim
 |_::_,[],h=>h.elim
 |_::_,[_],h=>h.elim
 |_::_,[_,_],h=>h.elim
theorem lV.snoc(hp:iT H v.procs pl)(hq:SlF H bJ v.procs.length pl q):∀{ds:List qw} {l:List Value},lV H ds l->lV H (ds++[v]) (l++[.string (bs v.name),.int .u32 v.n,q])
 |[],[],_=>⟨rfl,rfl,⟨pl,hp,hq⟩,trivial⟩
 |_::_,_::_::_::_,h=>⟨h.1,h.2.1,h.2.2.1,lV.snoc hp hq h.2.2.2⟩
 |[],_::_,h=>h.elim
 |_::_,[],h=>h.elim
 |_::_,[_],h=>h.elim
 |_::_,[_,_],h=>h.elim
theorem jH.le(h:jH H d v)(k:Hle H H'):jH H' d v:=by
 obtain⟨nm,at_,dk⟩:=d;cases dk with
 |const n=>obtain⟨b,h1,h2⟩:=h;exact⟨b,h1,k _ _ h2⟩
 |alias t=>obtain⟨b,u,h1,h2,h3⟩:=h;exact⟨b,u,h1,k _ _ h2,h3.le k⟩
 |enum ns is=>obtain⟨b,u,x,h1,h2,h3,h4⟩:=h;exact⟨b,u,x,h1,k _ _ h2,h3.le k,h4.le k⟩
 |struct ds=>obtain⟨b,u,l,h1,h2,h3,h4⟩:=h;exact⟨b,u,l,h1,k _ _ h2,h3.le k,h4.le k⟩
 |union of n ar els=>
  obtain⟨b,o,u,l,e,h1,h2,h3,h4,h5,h6⟩:=h;refine⟨b,o,u,l,e,h1,k _ _ h2,h3.le k,h4.le k,h5.le k,?_⟩;cases els with
  |none=>exact h6
  |some x=>obtain⟨c,t,h7,h8,h9⟩:=h6;exact⟨c,t,h7,k _ _ h8,h9.le k⟩
 |prog n vs=>obtain⟨b,u,l,h1,h2,h3,h4⟩:=h;exact⟨b,u,l,h1,k _ _ h2,h3.le k,h4.le k⟩
theorem yY[BEq α](f:β->Value)(m:List (α×β))(a:α)(v:β):qW (m.map λx=>(x.1,f x.2)) a (f v)=(bK m a v).map λx=>(x.1,f x.2):=by
 induction m with
 |nil=>rfl
 |cons x r ih=>
  simp only[List.map_cons,qW,bK];cases a==x.1 with
  |true=>rfl
  |false=>simp only[Bool.false_eq_true,if_false,ih,List.map_cons]
theorem PR.consts(h:PR B H w p)(k:Kp [(B+2,B+3)] w w')(hc:∃es clock,w'.heap[B+2]?=some (.map es clock)/\MK κs es clock (l.map λx=>(x.1,i64 x.2))):PR B H w' { p with consts:=l }:=by
 have hl:=h.lt;have hB:=h.hB;have hs:∀i,B<=i->i<B+6->i≠B+2->w'.heap[i]?=w.heap[i]?:=λi a b c=>k.same i omg ⟨omg,trivial⟩;obtain⟨b1,b2,b3,b4⟩:=h.hn;obtain⟨d1,d2,m,d3,d4,d5⟩:=h.he;obtain⟨f1,f2,f3,f4⟩:=h.hg
 exact { gl:=h.gl.kp k (λi hi=>⟨omg,trivial⟩),hB:=h.hB,sub:=h.sub.kp k (λb x hx=>by have:=h.dom b x hx;exact⟨omg,trivial⟩),dom:=h.dom,
         lt := by have := k.size; omega, hp := (hs _ omg omg omg).trans h.hp, ht := (hs _ omg omg omg).trans h.ht,
         hn := ⟨b1, b2, (hs _ omg omg omg).trans b3, b4⟩, hc := hc,
         he := ⟨d1, d2, m, (hs _ omg omg omg).trans d3, d4, d5⟩, hg := ⟨f1, f2, (hs _ omg omg omg).trans f3, f4⟩,
         len := h.len, pos := h.pos, c0 := h.c0, c1 := h.c1, c2 := h.c2 }
theorem PR.enums(h:PR B H w p)(k:Kp [(B+3,B+4)] w w')(hc:∃es clock m,w'.heap[B+3]?=some (.map es clock)/\MK κs es clock m/\jP H m l):PR B H w' { p with enums:=l }:=by
 have hl:=h.lt;have hB:=h.hB;have hs:∀i,B<=i->i<B+6->i≠B+3->w'.heap[i]?=w.heap[i]?:=λi a b c=>k.same i omg ⟨omg,trivial⟩;obtain⟨b1,b2,b3,b4⟩:=h.hn;obtain⟨d1,d2,d3,d4⟩:=h.hc;obtain⟨f1,f2,f3,f4⟩:=h.hg
 exact { gl:=h.gl.kp k (λi hi=>⟨omg,trivial⟩),hB:=h.hB,sub:=h.sub.kp k (λb x hx=>by have:=h.dom b x hx;exact⟨omg,trivial⟩),dom:=h.dom,
         lt := by have := k.size; omega, hp := (hs _ omg omg omg).trans h.hp, ht := (hs _ omg omg omg).trans h.ht,
         hn := ⟨b1, b2, (hs _ omg omg omg).trans b3, b4⟩, he := hc,
         hc := ⟨d1, d2, (hs _ omg omg omg).trans d3, d4⟩, hg := ⟨f1, f2, (hs _ omg omg omg).trans f3, f4⟩,
         len := h.len, pos := h.pos, c0 := h.c0, c1 := h.c1, c2 := h.c2 }
theorem PR.aj(h:PR B H w p)(k:Kp [(B+4,B+5)] w w')(hc:aH .u32 w' (B+4) l):PR B H w' { p with aj:=l }:=by
 have hl:=h.lt;have hB:=h.hB;have hs:∀i,B<=i->i<B+6->i≠B+4->w'.heap[i]?=w.heap[i]?:=λi a b c=>k.same i omg ⟨omg,trivial⟩;obtain⟨b1,b2,b3,b4⟩:=h.hn;obtain⟨d1,d2,d3,d4⟩:=h.hc;obtain⟨f1,f2,m,f3,f4,f5⟩:=h.he
 exact { gl:=h.gl.kp k (λi hi=>⟨omg,trivial⟩),hB:=h.hB,sub:=h.sub.kp k (λb x hx=>by have:=h.dom b x hx;exact⟨omg,trivial⟩),dom:=h.dom,
         lt := by have := k.size; omega, hp := (hs _ omg omg omg).trans h.hp, ht := (hs _ omg omg omg).trans h.ht,
         hn := ⟨b1, b2, (hs _ omg omg omg).trans b3, b4⟩, hg := hc,
         hc := ⟨d1, d2, (hs _ omg omg omg).trans d3, d4⟩, he := ⟨f1, f2, m, (hs _ omg omg omg).trans f3, f4, f5⟩,
         len := h.len, pos := h.pos, c0 := h.c0, c1 := h.c1, c2 := h.c2 }
theorem PR.counts(h:PR B H w p)(k:Kp [(B+5,B+6)] w w')(hp:w'.heap[B+5]?=some (cl (bF B p') bg))
  (e:p'={ p with n0:=p'.n0,n1:=p'.n1,n2:=p'.n2 }) (c0:p'.n0<=24) (c1:p'.n1<=40) (c2:p'.n2<=4):PR B H w' p':=by
 have hl:=h.lt;have ht:w'.heap[B]?=w.heap[B]?:=k.same B omg ⟨omg,trivial⟩;have e1:p'.txt=p.txt:=by rw[e]
 have e2:p'.pos=p.pos:=by rw[e]
 exact h.step (k.mono λi hi ho=>⟨ho.2.1,trivial⟩) hp (by rw[ht,h.ht,e1,e2]) (by rw[e]) (by rw[e]) (by rw[e]) (by rw[e]) e1 (by rw[e1,e2];exact h.pos) c0 c1 c2
theorem PR.own(h:PR B H w p)(k:Kp (own o) w w')(ho:∀b,o=some b->B+6<=b/\H b=none):PR B H w' p:=by
 cases o with
 |none=>exact h.ext k
 |some b=>obtain⟨h1,h2⟩:=ho b rfl;exact h.tmp k h1 h2
theorem dR(h:PR B H w p)(l:List By)(hb:w.heap[b]?=some (cl lv t):=by exact lookA)(hlv:l.map κs=lv:=by rfl)
  (hB:B+6<=b:=by omega) (hl:l.length<100:=by decide):
  Calls P 165 #[pt (B+5) 0,.slice (some ⟨b,0,none⟩) l.length l.length] w (Post w (want p l) (PX B) λp' v w'=>v=.tuple #[]/\PR B H w' p'):=by
 subst hlv;exact MN h l hb hB hl
theorem O6(h:PR B H w p)(hs:B+6<=s)(hset:aW w s l):
  Calls P 173 #[pt (B+5) 0,.map (some s)] w (Post w (member p l) [(B,B+6),(s,s+1)] λx v w'=>∃H' tv,v=.agg #[.string (bs x.1.name),tv]/\Gr H H' w.heap.size/\lq H' x.1.ty tv/\aW w' s x.2.1/\PR B H' w' x.2.2):=by
 refine Post.R λR M hM hok hno=>?_;refine cf [] Tryz.func173 ?_;have hl:=h.lt;have hsl:s<w.heap.size:=by obtain⟨_,_,a,_⟩:=hset;exact lt_of_heap a
 rw[member]at hM;refine gg ?_;have h0:=h.ext (w':=w.alloc (cl [.string ⟨#[]⟩,.nilIface] 259)) kpA;refine Cl.bind (w0:=w) (X0:=[(B,B+6),(s,s+1)]) hM (Yf (abN hs l) h0 (aW.kp (X:=[]) hset kpA trivial)) hno ?_;rintro⟨d,x,l',q⟩ v w1 hM hk1 hq1 hs1 ⟨H1,tv,rfl,hg1,ht1,Jt,hp1⟩;rw[size_alloc]at hs1;dsimp only at hM ht1 Jt hp1;obtain⟨ti,tu,rfl⟩:=ht1.form;unfold wdv;have hl1:=hp1.lt;refine gg ?_;have hg1':Gr H H1 (w.heap.size+1):=hg1.mono (by rw[size_alloc];omega);refine Cl.bind (w0:=w) (X0:=[(B,B+6),(s,s+1)]) hM (dR (hp1.ext kpA) [[59]]) hno ?_;rintro q2 v w2 hM hk2 hq2 hs2 ⟨rfl,hp2⟩;have hl2:=hp2.lt;simp only[size_alloc,ah,size_drew]at hs2;refine gg ?_;refine hok _ _ _ hM kpA ⟨H1,_,rfl,hg1'.mono omg,ht1,?_,?_⟩
 .exact aW.kp (X:=[(w.heap.size,w.heap.size+1)]) (aW.kp (aW.kp (X:=[]) Jt kpA trivial) hk2 ⟨omg,trivial⟩) kpA ⟨omg,trivial⟩
 .exact hp2.tmps h (m:=w.heap.size+1) hg1' kpA
theorem S9(h:PR B H w p):
  Calls P 101 #[pt (B+5) 0] w (Post w (constant p) (PX B) λx v w'=>∃H',Gr H H' w.heap.size/\jH H' x.1 v/\PR B H' w' x.2):=by
 refine Post.R λR M hM hok hno=>?_;refine cf [] Tryz.func101 ?_;have hp:=h.hp;have hl:=h.lt;rw[bF]at hp;rw[constant]at hM;refine gg ?_;refine Cl.jg (w0:=w) (X0:=PX B) hM (lu h p.n1 40) hno ?_;rintro _ v w1 e1 hM hk1 hq1 hs1 rfl;have c1:=jy e1;refine gg ?_;refine Cl.jg (w0:=w1) (X0:=PX B) hM (dR (h.ext kpA) [[99,111,110,115,116]]) hno ?_;rintro q2 v w2 e2 hM hk2 hq2 hs2 ⟨rfl,hp2⟩;have hl2:=hp2.lt;rw[size_alloc]at hs2;refine Cl.jg (w0:=w1) (X0:=PX B) hM (KG hp2) hno ?_;rintro⟨x3,q3⟩ v w3 e3 hM hk3 hq3 hs3 ⟨rfl,hp3⟩;have hl3:=hp3.lt;dsimp only at hM e3;refine gg ?_;refine Cl.jg (w0:=w1) (X0:=PX B) hM (dR (hp3.ext kpA) [[61]]) hno ?_;rintro q4 v w4 e4 hM hk4 hq4 hs4 ⟨rfl,hp4⟩;have hl4:=hp4.lt;simp only[size_alloc,ah]at hs4;have hb4:w4.heap[w3.heap.size]?=some (cl [.string (bs x3.s),i64 x3.at_] 230):=by exact lookA
 refine Cl.jg (w0:=w1) (X0:=PX B) hM (Hz hp4 least top) hno ?_;rintro⟨n5,u5,q5⟩ v w5 e5 hM hk5 hq5 hs5 ⟨rfl,hp5⟩;have hl5:=hp5.lt;dsimp only at hM e5 hp5;have hb5:w5.heap[w3.heap.size]?=some (cl [.string (bs x3.s),i64 x3.at_] 230):=by exact lookA
 refine gg ?_;refine Cl.jg (w0:=w1) (X0:=PX B) hM (dR (hp5.ext kpA) [[59]]) hno ?_;rintro q6 v w6 e6 hM hk6 hq6 hs6 ⟨rfl,hp6⟩;have hl6:=hp6.lt;simp only[size_alloc,ah]at hs6;have hb6:w6.heap[w3.heap.size]?=some (cl [.string (bs x3.s),i64 x3.at_] 230):=by exact lookA
 have hc6:=hp6.hp;rw[bF]at hc6;obtain⟨es,ck,hm1,hm2⟩:=hp6.hc;have hn:q6.n1=p.n1:=by
  have a1:=gq e2;have a2:=sO e3;have a3:=gq e4;have a4:=sN e5;have a5:=gq e6;simp only[nn,Prod.mk.injEq]at a1 a2 a3 a4 a5;omega
 refine gg ?_;refine Mu.str hm2 lookA λes' ck' hm'=>?_;rw[yY (f:=i64)]at hm';refine gg ?_;have a1:PR B H (ag w6.drew (B+5) (cl (bF B { q6 with n1:=q6.n1+1 }) bg)) { q6 with n1:=q6.n1+1 }:=
  hp6.counts kpA (aC rfl (by simp only[size_drew];omega)) rfl hp6.c0 (by show q6.n1+1<=40;omega) hp6.c2
 have a2:=(a1.ext (w':=(ag w6.drew (B+5) (cl (bF B { q6 with n1:=q6.n1+1 }) bg)).drew) kpA).consts (l:=bK q6.consts x3.s n5) (w':=ag (ag w6.drew (B+5) (cl (bF B { q6 with n1:=q6.n1+1 }) bg)).drew (B+2) (.map es' ck')) kpA ⟨es',ck',aC rfl (by simp only[size_drew,ah];omega),hm'⟩;have a3:=a2.ext (w':=(ag (ag w6.drew (B+5) (cl (bF B { q6 with n1:=q6.n1+1 }) bg)).drew (B+2) (.map es' ck')).alloc (cl [.string (bs x3.s),i64 x3.at_,i64 n5] yz)) kpA;have hnew:H w6.heap.size=none:=hp6.sub.fresh (Nat.le_refl _);exact hok _ _ _ hM kpA ⟨_,Gr.add (b:=w6.heap.size) hnew omg,⟨_,rfl,Aa ..⟩,a3.add lookA omg hnew⟩
theorem aaZ(h:PR B H w p):
  Calls P 103 #[pt (B+5) 0] w (Post w (alias p) (PX B) λx v w'=>∃H',Gr H H' w.heap.size/\jH H' x.1 v/\PR B H' w' x.2):=by
 refine Post.R λR M hM hok hno=>?_;refine cf [] Tryz.func103 ?_;have hl:=h.lt;rw[alias]at hM;refine gg ?_;refine Cl.bind (w0:=w) (X0:=PX B) hM (dR (h.ext kpA) [[116,121,112,101,100,101,102]]) hno ?_;rintro q1 v w1 hM hk1 hq1 hs1 ⟨rfl,hp1⟩;have hl1:=hp1.lt;rw[size_alloc]at hs1;have hc1:=hp1.hp;rw[bF]at hc1;refine gg ?_;refine Cl.bind (w0:=w) (X0:=PX B) hM (Yf abO hp1 trivial) hno ?_;rintro⟨d,x,l',q2⟩ v w2 hM hk2 hq2 hs2 ⟨H2,tv,rfl,hg2,ht2,_,hp2⟩;have hl2:=hp2.lt;dsimp only at hM ht2 hp2;obtain⟨ti,tu,rfl⟩:=ht2.form;unfold wdv;refine gg ?_;refine Cl.bind (w0:=w) (X0:=PX B) hM (dR (hp2.ext kpA) [[59]]) hno ?_;rintro q3 v w3 hM hk3 hq3 hs3 ⟨rfl,hp3⟩;have hl3:=hp3.lt;simp only[size_alloc,ah]at hs3;have hb3:w3.heap[w2.heap.size]?=some (cl [.string (bs d.name),.iface ti tu] jD):=by exact lookA
 have hb4:w3.heap[w2.heap.size+1]?=some (cl [i64 x.kind,.string (bs x.s),i64 x.at_,i64 x.n] BZ):=by exact lookA
 refine gg ?_;have a3:=hp3.ext (w':=w3.alloc (cl [.string (bs x.s),i64 x.at_,.iface ti tu] rX)) kpA;have hnew:H2 w3.heap.size=none:=hp3.sub.fresh (Nat.le_refl _);have hg3:Gr H2 _ w3.heap.size:=Gr.add (b:=w3.heap.size) (l:=[.string (bs x.s),i64 x.at_,.iface ti tu]) (t:=rX) hnew (Nat.le_refl _);exact hok _ _ _ hM kpA ⟨_,(hg2.trans hg3 omg).mono omg,⟨_,_,rfl,Aa ..,ht2.le hg3.1⟩,a3.add lookA omg hnew⟩
end Go.W.T
namespace Go.W.T
open Go Go.W Go.M Go.Proofs
theorem Gw.some(h:Gw w e m v n l o)(hn:0<n):∃b rest cap,o=some b/\v=.slice (some ⟨b,0,none⟩) n cap/\w.heap[b]?=some (cl (l++rest) e):=by
 obtain⟨h1,h2⟩:=h;cases o with
 |none=>omega
 |some b=>obtain⟨r,c,h3,h4,_⟩:=h2;exact⟨b,r,c,rfl,h3,h4⟩
theorem PR.frz(h:PR B H' w p)(g:Gr H H' n)(hb:w.heap[b]?=some (cl l t))(hB:B+6<=b)(hH:H' b=none)(hn:n<=b):
  ∃H2,Gr H H2 n/\Hle H' H2/\PR B H2 w p/\H2 b=some (l,t)/\∀c,c≠b->H2 c=H' c:=by
 have h1:Gr H' (hadd H' b l t) n:=Gr.add hH hn;exact⟨hadd H' b l t,g.trans h1 (Nat.le_refl _),h1.1,h.add hb hB hH,Aa ..,λc hc=>by rw[hadd,if_neg hc]⟩
theorem jP.bK(h:BL H v ns):∀{m:List (By×Value)} {l:List (By×List Int)},jP H m l->jP H (qW m a v) (bK l a ns)
 |[],[],_=>⟨rfl,h,trivial⟩
 |x::m,y::l,h1=>by
  obtain⟨h2,h3,h4⟩:=h1;unfold qW M.bK;rw[h2];cases a==y.1 with
  |true=>exact⟨rfl,h,h4⟩
  |false=>exact⟨h2,h3,jP.bK h h4⟩
 |[],_::_,h1=>h1.elim
 |_::_,[],h1=>h1.elim
theorem ZC(hs:B+6<=s)(hH:H s=none):
  zD (.func (.func 172) #[.map (some s)] #[]) (λn a=>once is n a) (λw=>PR B H w p/\aH .i64 w s is) (λl w=>PR B H w p/\aH .i64 w s l) [(s,s+1)]:=by
 refine Or.inr ⟨rfl,λw n a E K ⟨h1,h2⟩ hok hno=>?_⟩;refine oC.f (by kernel_rfl) ?_;refine Cl.by (KI w s is n a h2) ?_ ?_ ?_
 .rintro v w' ⟨hk,hp⟩;cases hm:once is n a with
  |ok l=>
   rw[hm]at hp;obtain⟨v',hv,hl⟩:=hp;cases hv;exact hok l v w' hm hk hk.size ⟨h1.tmp hk hs hH,hl⟩
  |no e c=>rw[hm]at hp;obtain⟨_,hv,_⟩:=hp;cases hv
 .rintro ch w' ⟨hk,hp⟩;cases hm:once is n a with
  |ok l=>rw[hm]at hp;obtain⟨_,hv,_⟩:=hp;cases hv
  |no e c=>rw[hm]at hp;obtain⟨_,hv,hf⟩:=hp;cases hv;exact hno e c ch w' hm hk hf
 .rintro w' ⟨hk,hp⟩;cases hm:once is n a with
  |ok l=>rw[hm]at hp;obtain⟨_,hv,_⟩:=hp;cases hv
  |no e c=>rw[hm]at hp;obtain⟨_,hv,_⟩:=hp;cases hv
theorem UB(p:PS):∀s:List Int,advance p=(advance p).andThen λq=>.ok q:=λ_=>by cases advance p<;>rfl
theorem w_enum(h:PR B H w p):
  Calls P 104 #[pt (B+5) 0] w (Post w (enum p) (PX B) λx v w'=>∃H',Gr H H' w.heap.size/\jH H' x.1 v/\PR B H' w' x.2):=by
 refine Post.R λR M hM hok hno=>?_;refine cf [] Tryz.func104 ?_;have hl:=h.lt;have hfr:∀b,w.heap.size<=b->H b=none:=λb hb=>h.sub.fresh hb;rw[enum]at hM;refine gg ?_;refine Cl.bind (w0:=w) (X0:=PX B) hM (dR (h.ext kpA) [[101,110,117,109]]) hno ?_;rintro q1 v w1 hM hk1 hq1 hs1 ⟨rfl,hp1⟩;have hl1:=hp1.lt;rw[size_alloc]at hs1;refine Cl.bind (w0:=w) (X0:=PX B) hM (KG hp1) hno ?_;rintro⟨x,q2⟩ v w2 hM hk2 hq2 hs2 ⟨rfl,hp2⟩;have hl2:=hp2.lt;dsimp only at hM hp2;refine gg ?_;refine Cl.bind (w0:=w) (X0:=PX B) hM (dR (hp2.ext kpA) [[123]]) hno ?_;rintro q3 v w3 hM hk3 hq3 hs3 ⟨rfl,hp3⟩;have hl3:=hp3.lt;simp only[size_alloc,ah]at hs3;have he3:w3.heap[w2.heap.size]?=some (cl [.string (bs x.s),i64 x.at_,.slice none 0 0,.slice none 0 0] fG):=by exact lookA
 have hq3':Kp (PX B) w w3:=hq3.out;refine gg ?_
 refine Lp.nat (n:=12) (λn vals w'=>∃(p':PS) (ns:List By) (is:List Int) (v1 v2:Value) (o1 o2:Option Nat),vals=[]/\ns.length+n=12/\is.length=ns.length/\PR B H w' p' /\
  w'.heap[w2.heap.size]?=some (cl [.string (bs x.s),i64 x.at_,v1,v2] fG)/\Gw w' oH 1 v1 ns.length (ns.map κs) o1/\Gw w' jI 1 v2 ns.length (is.map i64) o2/\aH .i64 w' w3.heap.size is /\
  (∀b,o1=some b->w3.heap.size<b/\o2≠some b)/\(∀b,o2=some b->w3.heap.size<b)/\Kp (PX B) w w'/\w3.heap.size<w'.heap.size /\
  M=(jY n p' ns is).andThen λx_1=>(want x_1.2.2 [[125],[59]]).andThen λp=>.ok (⟨x.s,x.at_,.enum x_1.1 x_1.2.1⟩,{ p with enums:=bK p.enums x.s x_1.2.1 })) ?_ ?_
 .refine⟨q3,[],[],.slice none 0 0,.slice none 0 0,none,none,rfl,rfl,rfl,hp3.ext kpA,lookA,Gw.nil _ _ _,Gw.nil _ _ _,⟨#[],0,bH ..,MK.empty⟩,smp,smp,kpA,by simp only[size_alloc];omega,hM⟩
 rintro n _ wL jk C ⟨p',ns,is,v1,v2,o1,o2,rfl,hn,hlen,hpL,heL,hg1,hg2,hsL,ho1,ho2,hkL,hszL,hML⟩ hC;obtain⟨a1,cp1,rfl⟩:=hg1.len;obtain⟨a2,cp2,rfl⟩:=hg2.len;have hcL:=hpL.hp;have hlL:=hpL.lt;rw[bF]at hcL;refine gg ?_;cases n with
 |zero=>
  refine Cl.jg (w0:=w) (X0:=PX B) (m:=count p' ns.length 12) (k:=λ_=>M) ?_ (lu hpL ns.length 12) hno ?_
  .rw[count,if_pos omg];rw[hML,jY];rfl
  .rintro _ v w4 e4;have:=jy e4;omega
 |succ n=>
 refine Cl.jg (w0:=w) (X0:=PX B) (m:=count p' ns.length 12) (k:=λ_=>M) (by rw[count,if_neg omg];rfl) (lu hpL ns.length 12) hno ?_;rintro _ v w4 e4 _ hk4 hq4 hs4 rfl;rw[jY]at hML;simp only[Res.assoc]at hML;have c1:=jy e4;refine gg ?_;refine Cl.jg (w0:=w) (X0:=PX B) hML (lu hpL p'.n1 40) hno ?_;rintro _ v w5 e5 hM5 hk5 hq5 hs5 rfl;have c2:=jy e5;refine Cl.jg (w0:=w) (X0:=PX B) hM5 (KG hpL) hno ?_;rintro⟨x6,q6⟩ v w6 e6 hM6 hk6 hq6 hs6 ⟨rfl,hp6⟩;have hl6:=hp6.lt;dsimp only at hM6 hp6 e6;refine gg ?_;refine Cl.jg (w0:=w) (X0:=PX B) hM6 (dR (hp6.ext kpA) [[61]]) hno ?_;rintro q7 v w7 e7 hM7 hk7 hq7 hs7 ⟨rfl,hp7⟩;have hl7:=hp7.lt;simp only[size_alloc,ah]at hs7;have hb7:w7.heap[w6.heap.size]?=some (cl [.string (bs x6.s),i64 x6.at_] yw):=by exact lookA
 have hkA:Kp (PX B) w5 w7:=by exact kpA
 have he7:w7.heap[w2.heap.size]?=some (cl [.string (bs x.s),i64 x.at_,.slice a1 ns.length cp1,.slice a2 ns.length cp2] fG):=(hkA.same w2.heap.size omg ⟨omg,trivial⟩).trans heL;have hs7':=aH.kp hsL hkA ⟨omg,trivial⟩
 refine Cl.jg (w0:=w) (X0:=PX B) hM7 (yg hp7 least LM _ _ (λw=>PR B H w q7/\aH .i64 w w3.heap.size is) (λl w=>PR B H w q7/\aH .i64 w w3.heap.size l) [(w3.heap.size,w3.heap.size+1)] (λ_ q=>q)
  ⟨hp7,hs7'⟩ (λ_ _ a k=>⟨a.1.ext k,aH.kp a.2 k trivial⟩) (ZC omg (hfr _ omg)) (λ_ _ a=>a.1) (UB q7)) hno ?_
 rintro⟨n8,l8,q8⟩ v w8 e8 hM8 hk8 hq8 hs8 ⟨rfl,hp8,wI,⟨_,hsI⟩,hkI⟩;have hl8:=hp8.lt;dsimp only at hM8 hp8 e8 hsI;have hs8':=aH.kp hsI hkI ⟨omg,trivial⟩;clear hkI;have hb8:w8.heap[w6.heap.size]?=some (cl [.string (bs x6.s),i64 x6.at_] yw):=by exact lookA
 have he8:w8.heap[w2.heap.size]?=some (cl [.string (bs x.s),i64 x.at_,.slice a1 ns.length cp1,.slice a2 ns.length cp2] fG):=by exact lookA
 have hkB:Kp [(B,B+6),(w3.heap.size,w3.heap.size+1)] w5 w8:=by exact kpA
 have hc8:=hp8.hp;rw[bF]at hc8;have hn8:q8.n1=p'.n1:=by
  have a1:=sO e6;have a2:=gq e7;have a3:=sN e8;simp only[nn,Prod.mk.injEq]at a1 a2 a3;omega
 obtain⟨es,ck,hm1,hm2⟩:=hp8.hc;refine gg ?_;refine Mu.str hm2 lookA λes' ck' hm'=>?_;rw[yY (f:=i64)]at hm';have b1:PR B H (ag w8.drew (B+5) (cl (bF B { q8 with n1:=q8.n1+1 }) bg)) { q8 with n1:=q8.n1+1 }:=
  hp8.counts kpA (aC rfl (by simp only[size_drew];omega)) rfl hp8.c0 (by show q8.n1+1<=40;omega) hp8.c2
 have b2:PR B H (ag (ag w8.drew (B+5) (cl (bF B { q8 with n1:=q8.n1+1 }) bg)).drew (B+2) (.map es' ck')) { q8 with n1:=q8.n1+1,consts:=bK q8.consts x6.s n8 }:=
  (b1.ext (w':=(ag w8.drew (B+5) (cl (bF B { q8 with n1:=q8.n1+1 }) bg)).drew) kpA).consts (l:=bK q8.consts x6.s n8) kpA ⟨es',ck',aC rfl (by simp only[size_drew,ah];omega),hm'⟩
 refine gg ?_
 refine Ap.w (λw9=>Kp [(B,B+6),(w3.heap.size,w3.heap.size+1)] w5 w9/\PR B H w9 { q8 with n1:=q8.n1+1,consts:=bK q8.consts x6.s n8 } /\
   w9.heap[w2.heap.size]?=some (cl [.string (bs x.s),i64 x.at_,.slice a1 ns.length cp1,.slice a2 ns.length cp2] fG)/\w9.heap[w8.heap.size]?=some (cl [κs x6.s] oH) /\
   aH .i64 w9 w3.heap.size l8/\w8.heap.size<w9.heap.size) ⟨kpA,b2.ext kpA,lookA,lookA,aH.kp (X:=[(B,B+6)]) hs8' kpA ⟨omg,trivial⟩,by simp only[size_alloc,size_drew,ah];omega⟩ ?_
 rintro w9 ⟨k9,b9,e9,n9,s9,z9⟩;have g19:=hg1.kp k9 (λb hb=>⟨by have:=ho1 b hb;omega,by have:=ho1 b hb;omega,trivial⟩);have g29:=hg2.kp k9 (λb hb=>⟨by have:=ho2 b hb;omega,by have:=ho2 b hb;omega,trivial⟩);refine Ap.g g19 n9 rfl rfl ?_ omg;intro v1 w10 o1' g1 Ju k10;have z10:=k10.size;have e10:=(k10.same w2.heap.size omg (aF λhb=>by have:=ho1 _ hb;omega)).trans e9;have s10:=aH.kp s9 k10 (aF λhb=>by have:=ho1 _ hb;omega);have b10:=b9.own k10 (λb hb=>by have:=ho1 b hb;exact⟨omg,hfr b omg⟩);have g2:=g29.kp k10 (λb hb=>aF λhb2=>(ho1 b hb2).2 hb);obtain⟨a1',rJ,rfl⟩:=g1.len;refine gg ?_
 refine Ap.w (λw9=>Kp [(w2.heap.size,w2.heap.size+1)] w10 w9 /\
   w9.heap[w2.heap.size]?=some (cl [.string (bs x.s),i64 x.at_,.slice a1' (ns.length+1) rJ,.slice a2 ns.length cp2] fG)/\w9.heap[w10.heap.size]?=some (cl [.int .i64 n8] jI)) ⟨kpA,lookA,lookA⟩ ?_
 rintro w11 ⟨k11,e11,n11⟩;have z11:=k11.size;have b11:=b10.tmp k11 omg (hfr _ omg);have s11:=aH.kp s10 k11 ⟨omg,trivial⟩
 have g11:=g1.kp k11 (λb hb=>⟨by rcases Ju with r|r<;>rw[r]at hb;· have:=ho1 b hb;omega
                                 · cases hb; omega, trivial⟩)
 have g21:=g2.kp k11 (λb hb=>⟨by have:=ho2 b hb;omega,trivial⟩);refine Ap.g g21 n11 rfl rfl ?_ omg;intro v2 w12 o2' g22 ho2' k12;have z12:=k12.size;have e12:=(k12.same w2.heap.size omg (aF λhb=>by have:=ho2 _ hb;omega)).trans e11;have s12:=aH.kp s11 k12 (aF λhb=>by have:=ho2 _ hb;omega);have b12:=b11.own k12 (λb hb=>by have:=ho2 b hb;exact⟨omg,hfr b omg⟩)
 have g12:=g11.kp k12 (λb hb=>aF λhb2=>by
  rcases Ju with r|r<;>rw[r]at hb
  .exact(ho1 b hb).2 hb2
  .cases hb;have:=hg2.lt _ hb2;have:=k9.size;omega)
 obtain⟨a2',cp2',rfl⟩:=g22.len;refine gg ?_;have hl8e:l8=is++[n8]:=Tj e8
 refine Cl.w (λw9=>Kp [(w2.heap.size,w2.heap.size+1)] w12 w9 /\
   w9.heap[w2.heap.size]?=some (cl [.string (bs x.s),i64 x.at_,.slice a1' (ns.length+1) rJ,.slice a2' (ns.length+1) cp2'] fG)) ⟨kpA,lookA⟩ ?_
 rintro w13 ⟨k13,e13⟩;have z13:=k13.size;have b13:=b12.tmp k13 omg (hfr _ omg);have s13:=aH.kp s12 k13 ⟨omg,trivial⟩;have o1f:∀b,o1'=some b->w3.heap.size<b/\o2'≠some b:=by
  intro b hb;rcases Ju with r|r<;>rw[r]at hb
  .have h1:=ho1 b hb;refine⟨h1.1,λh2=>?_⟩;rcases ho2' with r2|r2<;>rw[r2]at h2
   .exact h1.2 h2
   .cases h2;have:=hg1.lt _ hb;have:=k9.size;omega
  .cases hb;refine⟨omg,λh2=>?_⟩;rcases ho2' with r2|r2<;>rw[r2]at h2
   .have:=hg2.lt _ h2;have:=k9.size;omega
   .have h3:=Option.some.inj h2;have h4:=lt_of_heap n11;have h5:=g11.lt _ r;have:=lt_of_heap n9;omega
 have o2f:∀b,o2'=some b->w3.heap.size<b:=by
  intro b hb;rcases ho2' with r|r<;>rw[r]at hb
  .exact ho2 b hb
  .cases hb;omega
 have g13:=g12.kp k13 (λb hb=>⟨by have:=o1f b hb;omega,trivial⟩);have g23:=g22.kp k13 (λb hb=>⟨by have:=o2f b hb;omega,trivial⟩);have kk:Kp (PX B) w w13:=by
  have c1:Kp (PX B) w w9:=hkL.trans k9 (λi hi ho=>⟨ho,ho.1,omg,trivial⟩);have c2:=c1.own k10 (λb hb=>by have:=ho1 b hb;omega);have c3:Kp (PX B) w w11:=c2.trans k11 (λi hi ho=>⟨ho,omg,trivial⟩);have c4:=c3.own k12 (λb hb=>by have:=ho2 b hb;omega);exact c4.trans k13 (λi hi ho=>⟨ho,omg,trivial⟩)
 refine Cl.bind (w0:=w) (X0:=PX B) (hkp:=kk) hM8 (jQ b13 [44]) hno ?_;rintro⟨bb,q14⟩ v w14 BC Kt ZU hs14 ⟨hv,vP⟩;dsimp only at BC vP hv;subst hv;have g14:=g13.kp Kt (λb hb=>⟨by have:=o1f b hb;omega,trivial⟩);have g24:=g23.kp Kt (λb hb=>⟨by have:=o2f b hb;omega,trivial⟩);have e14:w14.heap[w2.heap.size]?=some (cl [.string (bs x.s),i64 x.at_,.slice a1' (ns.length+1) rJ,.slice a2' (ns.length+1) cp2'] fG):=by exact lookA
 rw[hl8e]at s13;have en:(ns++[x6.s]).length=ns.length+1:=by simp
 have em1:(ns++[x6.s]).map κs=ns.map κs++[κs x6.s]:=by simp
 have em2:(is++[n8]).map i64=is.map i64++[.int .i64 n8]:=by simp
 cases bb with
 |true=>
  refine gg ?_;refine hC n [] w14 omg ⟨q14,ns++[x6.s],is++[n8],_,_,o1',o2',rfl,by rw[en];omega,by simp;omega,vP,e14,by rw[en,em1];exact g14,by rw[en,em2];exact g24,aH.kp s13 Kt ⟨omg,trivial⟩,o1f,o2f,ZU.out,omg,BC⟩
 |false=>
  refine gg ?_;simp only[Bool.false_eq_true,if_false,Res.aS]at BC;refine Cl.bind (w0:=w) (X0:=PX B) BC (dR (vP.ext kpA) [[125],[59]]) hno ?_;rintro q15 v w15 Xv hk15 hq15 hs15 ⟨rfl,Ko⟩;have hl15:=Ko.lt;simp only[size_alloc]at hs15;have e15:w15.heap[w2.heap.size]?=some (cl [.string (bs x.s),i64 x.at_,.slice a1' (ns.length+1) rJ,.slice a2' (ns.length+1) cp2'] fG):=by exact lookA
  have hw15:Kp (PX B) w14 w15:=by exact kpA
  have g15:=g14.kp hw15 (λb hb=>⟨by have:=o1f b hb;omega,trivial⟩);have g25:=g24.kp hw15 (λb hb=>⟨by have:=o2f b hb;omega,trivial⟩);obtain⟨c1,nZ,cap1,rfl,hv1,hh1⟩:=Gw.some g15 omg;obtain⟨c2,uz,cap2,rfl,hv2,hh2⟩:=Gw.some g25 omg;cases hv1;cases hv2;have oc1:=o1f c1 rfl;have oc2:=o2f c2 rfl;have hc15:=Ko.hp;rw[bF]at hc15;obtain⟨H0,G0,L0,A0,R0,N0⟩:=Ko.frz (Gr.refl H w.heap.size) e15 omg (hfr _ omg) omg;obtain⟨H1,G1,L1,A1,R1,N1⟩:=A0.frz G0 hh1 omg (by rw[N0 _ omg];exact hfr _ omg) omg;obtain⟨H2,G2,L2,A2,R2,N2⟩:=A1.frz G1 hh2 omg (by rw[N1 _ (λe=>oc1.2 (by rw[e])),N0 _ omg];exact hfr _ omg) omg;have lenE:(is++[n8]).length=ns.length+1:=by simp;omega
  have hD:jH H2 ⟨x.s,x.at_,.enum (ns++[x6.s]) (is++[n8])⟩ (.iface xQ (pt w2.heap.size 0)):=by
   refine⟨w2.heap.size,_,_,rfl,L2 _ _ (L1 _ _ R0),⟨c1,nZ,rJ,by rw[en],?_⟩,⟨c2,uz,cp2',by rw[lenE],?_⟩⟩
   .rw[em1];exact L2 _ _ R1
   .rw[em2];exact R2
  have hE:BL H2 (pt w2.heap.size 0) (is++[n8]):=by
   refine⟨w2.heap.size,x.s,x.at_,.slice (some ⟨c1,0,none⟩) (ns.length+1) rJ,c2,uz,cp2',rfl,?_,?_,by rw[lenE];omega⟩
   .rw[lenE];exact L2 _ _ (L1 _ _ R0)
   .rw[em2];exact R2
  obtain⟨es2,ck2,m2,hm3,hm4,hm5⟩:=A2.he;refine gg ?_;refine Mu.str hm4 lookA λes3 ck3 hm6=>?_;have A3:=(A2.ext (w':=w15.drew) kpA).enums (l:=bK q15.enums x.s (is++[n8])) (w':=ag w15.drew (B+3) (.map es3 ck3)) kpA ⟨es3,ck3,_,aC rfl (by simp only[size_drew];omega),hm6,jP.bK hE hm5⟩;exact hok _ _ _ Xv kpA ⟨H2,G2,hD,A3⟩
theorem O4(h:PR B H w p):
  Calls P 105 #[pt (B+5) 0] w (Post w (jE p) (PX B) λx v w'=>∃H',Gr H H' w.heap.size/\jH H' x.1 v/\PR B H' w' x.2):=by
 refine Post.R λR M hM hok hno=>?_;refine cf [] Tryz.func105 ?_;have hl:=h.lt;have hfr:∀b,w.heap.size<=b->H b=none:=λb hb=>h.sub.fresh hb;rw[jE]at hM;refine gg ?_;refine Cl.bind (w0:=w) (X0:=PX B) hM (dR (h.ext kpA) [[115,116,114,117,99,116]]) hno ?_;rintro q1 v w1 hM hk1 hq1 hs1 ⟨rfl,hp1⟩;have hl1:=hp1.lt;rw[size_alloc]at hs1;refine Cl.bind (w0:=w) (X0:=PX B) hM (KG hp1) hno ?_;rintro⟨x,q2⟩ v w2 hM hk2 hq2 hs2 ⟨rfl,hp2⟩;have hl2:=hp2.lt;dsimp only at hM hp2;refine gg ?_;refine Cl.bind (w0:=w) (X0:=PX B) hM (dR (hp2.ext kpA) [[123]]) hno ?_;rintro q3 v w3 hM hk3 hq3 hs3 ⟨rfl,hp3⟩;have hl3:=hp3.lt;simp only[size_alloc,ah]at hs3;have he3:w3.heap[w2.heap.size]?=some (cl [.string (bs x.s),i64 x.at_,.slice none 0 0] gK):=by exact lookA
 have hq3':Kp (PX B) w w3:=hq3.out;refine gg ?_
 refine Lp.nat (n:=12) (λn vals w'=>∃(p':PS) (ds:List Decl) (ns:List By) (l:List Value) (v1:Value) (o1:Option Nat) (H':Hp),vals=[]/\ds.length+n=12/\PR B H' w' p'/\Gr H H' w.heap.size/\kU H' ds l/\H' w2.heap.size=none /\
  w'.heap[w2.heap.size]?=some (cl [.string (bs x.s),i64 x.at_,v1] gK)/\Gw w' jD 2 v1 ds.length l o1/\aW w' w3.heap.size ns /\
  (∀b,o1=some b->w3.heap.size<b/\H' b=none)/\Kp (PX B) w w'/\w3.heap.size<w'.heap.size /\
  M=(gW n p' ds ns).andThen λx_1=>(want x_1.2 [[59]]).andThen λp=>.ok (⟨x.s,x.at_,.struct x_1.1⟩,p)) ?_ ?_
 .refine⟨q3,[],[],[],.slice none 0 0,none,H,rfl,rfl,hp3.ext kpA,Gr.refl _ _,trivial,hfr _ omg,lookA,Gw.nil _ _ _,⟨#[],0,bH ..,MK.empty⟩,smp,kpA,by simp only[size_alloc];omega,hM⟩
 rintro n _ wL jk C ⟨p',ds,ns,l,v1,o1,H',rfl,hn,hpL,hgL,hdL,hHe,heL,hg1,hsL,ho1,hkL,hszL,hML⟩ hC;obtain⟨a1,cp1,rfl⟩:=hg1.len;have hlL:=hpL.lt;refine gg ?_;cases n with
 |zero=>
  refine Cl.jg (w0:=w) (X0:=PX B) (m:=count p' ds.length 12) (k:=λ_=>M) ?_ (lu hpL ds.length 12) hno ?_
  .rw[count,if_pos omg];rw[hML,gW];rfl
  .rintro _ v w4 e4;have:=jy e4;omega
 |succ n=>
 refine Cl.jg (w0:=w) (X0:=PX B) (m:=count p' ds.length 12) (k:=λ_=>M) (by rw[count,if_neg omg];rfl) (lu hpL ds.length 12) hno ?_;rintro _ v w4 e4 _ hk4 hq4 hs4 rfl;rw[gW]at hML;simp only[Res.assoc]at hML;have c1:=jy e4;refine gg ?_;refine Cl.bind (w0:=w) (X0:=PX B) hML (O6 (hpL.ext (w':=w4.drew) kpA) omg (aW.kp (X:=[]) hsL kpA trivial)) hno ?_;rintro⟨d,ns',q6⟩ v w6 hM6 hk6 hq6 hs6 ⟨H6,tv,rfl,hg6,ht6,ZT,hp6⟩;have hl6:=hp6.lt;dsimp only at hM6 hp6 ht6 ZT;rw[size_drew]at hs6 hg6;obtain⟨ti,tu,rfl⟩:=ht6.form;have he6:w6.heap[w2.heap.size]?=some (cl [.string (bs x.s),i64 x.at_,.slice a1 ds.length cp1] gK):=by exact lookA
 have Ue:=hg1.kp (w':=w4.drew) (X:=[]) kpA (λ_ _=>trivial);have Ue:=Ue.kp hk6 (λb hb=>⟨by have:=ho1 b hb;omega,by have:=ho1 b hb;omega,trivial⟩);have Uf:=hg6.lacks hHe omg;have ho6:∀b,o1=some b->H6 b=none:=λb hb=>hg6.lacks (ho1 b hb).2 (hg1.lt b hb);have Z8:Gr H H6 w.heap.size:=hgL.trans hg6 (by have:=hkL.size;omega);refine gg ?_;refine Ap.w (λw9=>Kp [] w6 w9/\w9.heap[w6.heap.size]?=some (cl [.string (bs d.name),.iface ti tu] jD)) ⟨kpA,lookA⟩ ?_;rintro w9 ⟨k9,n9⟩;have z9:=k9.size;refine Ap.g (Ue.kp k9 (λ_ _=>trivial)) n9 rfl rfl ?_ omg;intro v1 w10 o1' g1 Ju k10;have z10:=k10.size;have e10:w10.heap[w2.heap.size]?=some (cl [.string (bs x.s),i64 x.at_,.slice a1 ds.length cp1] gK):=
  (k10.same w2.heap.size omg (aF λhb=>by have:=ho1 _ hb;omega)).trans ((k9.same w2.heap.size omg trivial).trans he6)
 have s10:=aW.kp (aW.kp ZT k9 trivial) k10 (aF λhb=>by have:=ho1 _ hb;omega);have b10:=(hp6.ext k9).own k10 (λb hb=>⟨by have:=ho1 b hb;omega,ho6 b hb⟩);obtain⟨a1',rJ,rfl⟩:=g1.len;refine gg ?_
 refine Cl.w (λw9=>Kp [(w2.heap.size,w2.heap.size+1)] w10 w9 /\
   w9.heap[w2.heap.size]?=some (cl [.string (bs x.s),i64 x.at_,.slice a1' (ds.length+1) rJ] gK)) ⟨kpA,lookA⟩ ?_
 rintro w13 ⟨k13,e13⟩;have z13:=k13.size;have b13:=b10.tmp k13 omg Uf;have s13:=aW.kp s10 k13 ⟨omg,trivial⟩;have z69:=lt_of_heap n9;have o1f:∀b,o1'=some b->w3.heap.size<b/\H6 b=none:=by
  intro b hb;rcases Ju with r|r<;>rw[r]at hb
  .exact⟨(ho1 b hb).1,ho6 b hb⟩
  .cases hb;exact⟨omg,hp6.sub.fresh omg⟩
 have g13:=g1.kp k13 (λb hb=>⟨by have:=o1f b hb;omega,trivial⟩);have kk:Kp (PX B) w w13:=by
  have c2:=(hq6.out.trans k9 (λi _ ho=>⟨ho,trivial⟩):Kp (PX B) w w9).own k10 (λb hb=>by have:=ho1 b hb;omega);exact c2.trans k13 (λi hi ho=>⟨ho,omg,trivial⟩)
 refine Cl.bind (w0:=w) (X0:=PX B) (hkp:=kk) hM6 (jQ b13 [125]) hno ?_;rintro⟨bb,q14⟩ v w14 BC Kt ZU hs14 ⟨hv,vP⟩;dsimp only at BC vP hv;subst hv;have g14:=g13.kp Kt (λb hb=>⟨by have:=o1f b hb;omega,trivial⟩);have e14:w14.heap[w2.heap.size]?=some (cl [.string (bs x.s),i64 x.at_,.slice a1' (ds.length+1) rJ] gK):=by exact lookA
 have en:(ds++[d]).length=ds.length+1:=by simp
 have hd14:kU H6 (ds++[d]) (l++[.string (bs d.name),.iface ti tu]):=(hdL.le hg6.1).snoc ht6;cases bb with
 |false=>
  refine gg ?_;refine hC n [] w14 omg ⟨q14,ds++[d],ns',_,_,o1',H6,rfl,by rw[en];omega,vP,Z8,hd14,Uf,e14,by rw[en];exact g14,aW.kp s13 Kt ⟨omg,trivial⟩,o1f,ZU.out,omg,BC⟩
 |true=>
  refine gg ?_;simp only[if_true,Res.aS]at BC;refine Cl.bind (w0:=w) (X0:=PX B) BC (dR (vP.ext kpA) [[59]]) hno ?_;rintro q15 v w15 Xv hk15 hq15 hs15 ⟨rfl,Ko⟩;have hl15:=Ko.lt;simp only[size_alloc]at hs15;have e15:w15.heap[w2.heap.size]?=some (cl [.string (bs x.s),i64 x.at_,.slice a1' (ds.length+1) rJ] gK):=by exact lookA
  have hw15:Kp (PX B) w14 w15:=by exact kpA
  have g15:=g14.kp hw15 (λb hb=>⟨by have:=o1f b hb;omega,trivial⟩);obtain⟨c1,nZ,cap1,rfl,hv1,hh1⟩:=Gw.some g15 omg;cases hv1;have oc1:=o1f c1 rfl;obtain⟨H0,G0,L0,A0,R0,N0⟩:=Ko.frz Z8 e15 omg Uf omg;obtain⟨H1,G1,L1,A1,R1,N1⟩:=A0.frz G0 hh1 omg (by rw[N0 _ omg];exact oc1.2) omg;have hD:jH H1 ⟨x.s,x.at_,.struct (ds++[d])⟩ (.iface uo (pt w2.heap.size 0)):=by
   refine⟨w2.heap.size,_,_,rfl,L1 _ _ R0,hd14.le (L0.trans L1),⟨c1,nZ,rJ,by rw[en],R1⟩⟩
  refine gg ?_;exact hok _ _ _ Xv hq15.out ⟨H1,G1,hD,A1⟩
end Go.W.T
namespace Go.W.T
open Go Go.W Go.M Go.Proofs
theorem Pg(l:List Int)(x:Int)(hb:w.heap[b]?=some (cl (l.map i64++rest) jI))(hl:l.length<1000000):
  Calls P 215 #[.slice (some ⟨b,0,none⟩) l.length cap,i64 x] w λen w'=>en=.returned (.int .i64 (match l.findIdx? (·==x)with|some i=>(i:Int)|none => -1))/\w'=w:=by
 have hR:∀z w',z=(match l.findIdx? (·==x)with|some i=>(i:Int)|none => -1)->w'=w->(λen w'=>en=.returned (.int .i64 (match l.findIdx? (·==x)with|some i=>(i:Int)|none => -1))/\w'=w:Ending->World->Prop) (.returned (.int .i64 z)) w':=λz w' h1 h2=>⟨by rw[h1],h2⟩;generalize (λen w'=>en=.returned (.int .i64 (match l.findIdx? (·==x)with|some i=>(i:Int)|none => -1))/\w'=w:Ending->World->Prop)=R at *;refine cf [8] Tryz.func215 ?_;refine gg ?_;refine Lp.nat (n:=l.length) (λn vals w'=>∃i:Nat,vals=[i64 i]/\i+n=l.length/\w'=w/\∀j,j<i->l[j]?≠some x) ⟨0,rfl,omg,rfl,λj hj=>omg⟩ ?_;rintro n _ w1 jk C ⟨i,rfl,hi,hw,hno⟩ hC;subst hw;refine gg ?_;refine .split (λhc=>?_) (λhc=>?_)
 .have hlt:i<l.length:=by have:=of_decide_eq_true hc;omega
  have hx:(l.map i64++rest)[0+i*1]?=some (i64 l[i]):=by rw[Nat.zero_add,Nat.mul_one,List.getElem?_append_left (by simpa using hlt),List.getElem?_map,List.getElem?_eq_getElem hlt];rfl
  refine .s ?_;refine Ld.s ?_ hb hx;refine gg ?_;refine .split (λhe=>?_) (λhe=>?_)
  .have he':x=l[i]:=by simpa using he
   refine hR _ _ ?_ rfl;have:l.findIdx? (·==x)=some i:=by
    rw[List.findIdx?_eq_some_iff_getElem];refine⟨hlt,by simp[he'],λj hj=>?_⟩;have:=hno j hj;rw[List.getElem?_eq_getElem omg]at this;simpa using λe=>this (by rw[e])
   rw[this]
  .have he':¬ x=l[i]:=by simpa using he
   refine gg ?_;refine hC (n - 1) _ _ omg ⟨i+1,rfl,omg,rfl,λj hj=>?_⟩
   by_cases e:j=i
   .subst e;rw[List.getElem?_eq_getElem hlt];exact λe=>he' (Option.some.inj e).symm
   .exact hno j omg
 .have hge:i=l.length:=by have:=of_decide_eq_false hc;omega
  refine hR _ _ ?_ rfl;have:l.findIdx? (·==x)=none:=by
   rw[List.findIdx?_eq_none_iff];intro y hy;obtain⟨j,hj,rfl⟩:=List.getElem_of_mem hy;have:=hno j omg;rw[List.getElem?_eq_getElem hj]at this;simpa using λe=>this (by rw[e])
  rw[this]
theorem Ia(l:List Int)(x:Int)(hb:w.heap[b]?=some (cl (l.map i64++rest) jI))(hl:l.length<1000000):
  Calls P 177 #[.slice (some ⟨b,0,none⟩) l.length cap,i64 x] w λen w'=>en=.returned (.bool (l.contains x))/\w'=w:=by
 refine cf [] Tryz.func177 ?_;refine Cl.same (Pg l x hb hl) ?_;cases hf:l.findIdx? (·==x)with
 |none=>
  have:l.contains x=false:=by
   rw[List.findIdx?_eq_none_iff]at hf;rw[Bool.eq_false_iff];intro hc;have:=hf x (by simpa using hc);simp at this
  refine gg ?_;exact⟨by rw[this];rfl,rfl⟩
 |some i=>
  have:l.contains x=true:=by
   rw[List.findIdx?_eq_some_iff_getElem]at hf;obtain⟨h1,h2,_⟩:=hf;have h3:l[i]=x:=by simpa using h2
   rw[List.contains_iff_mem,<- h3];exact List.getElem_mem h1
  refine gg ?_;refine⟨?_,rfl⟩;rw[this];congr 2
theorem Yc(h:PR B H w p):
  Calls P 209 #[pt (B+5) 0] w (Post w (side p) (PX B) λx v w'=>∃H',Gr H H' w.heap.size/\lq H' x.1 v/\PR B H' w' x.2):=by
 refine Post.R λR M hM hok hno=>?_;refine cf [] Tryz.func209 ?_;rw[side]at hM;refine Cl.bind (w0:=w) (X0:=PX B) hM (jQ h [118,111,105,100]) hno ?_;rintro⟨b1,q1⟩ v w1 hM hk1 hq1 hs1 ⟨rfl,hp1⟩;cases b1 with
 |true=>
  refine gg ?_;exact hok _ _ _ hM hq1.out ⟨H,Gr.refl _ _,rfl,hp1⟩
 |false=>
  refine gg ?_;refine Cl.bind (w0:=w) (X0:=PX B) (m:=kindOf q1) (k:=λx=>.ok x) (by rw[hM];simp only[Bool.false_eq_true,if_false];cases kindOf q1<;>rfl) (Yd hp1) hno ?_;rintro⟨t,q2⟩ v w2 hM hk2 hq2 hs2 ⟨H2,hg2,ht2,hp2⟩;exact hok _ _ _ hM hq2.out ⟨H2,hg2.mono hs1,ht2,hp2⟩
theorem w_arm(h:PR B H w p)(hs:B+6<=s)(hset:aW w s l):
  Calls P 178 #[pt (B+5) 0,.map (some s)] w (Post w (arm p l) [(B,B+6),(s,s+1)] λx v w'=>∃H' tv,v=.agg #[.string (bs x.1.name),tv]/\Gr H H' w.heap.size/\lq H' x.1.ty tv/\aW w' s x.2.1/\PR B H' w' x.2.2):=by
 refine Post.R λR M hM hok hno=>?_;refine cf [] Tryz.func178 ?_;have hl:=h.lt;have hsl:s<w.heap.size:=by obtain⟨_,_,a,_⟩:=hset;exact lt_of_heap a
 rw[arm]at hM;refine gg ?_;have h0:=h.ext (w':=w.alloc (cl [.string ⟨#[]⟩,.nilIface] 259)) kpA;refine Cl.bind (w0:=w) (X0:=[(B,B+6),(s,s+1)]) hM (jQ h0 [118,111,105,100]) hno ?_;rintro⟨b1,q1⟩ v w1 hM hk1 hq1 hs1 ⟨hv,hp1⟩;dsimp only at hM hp1 hv;subst hv;rw[size_alloc]at hs1;have hl1:=hp1.lt;have Jt:aW w1 s l:=aW.kp (aW.kp (X:=[]) hset kpA trivial) hk1 ⟨omg,trivial⟩;cases b1 with
 |true=>
  refine gg ?_;refine Cl.bind (w0:=w) (X0:=[(B,B+6),(s,s+1)]) hM (dR (hp1.ext kpA) [[59]]) hno ?_;rintro q2 v w2 hM hk2 hq2 hs2 ⟨rfl,hp2⟩;have hl2:=hp2.lt;rw[size_alloc]at hs2;refine gg ?_;refine hok _ _ _ hM kpA ⟨H,_,rfl,Gr.refl _ _,rfl,?_,?_⟩
  .exact aW.kp (X:=[(w.heap.size,w.heap.size+1)]) (aW.kp (aW.kp (X:=[]) Jt kpA trivial) hk2 ⟨omg,trivial⟩) kpA ⟨omg,trivial⟩
  .exact hp2.tmps h (m:=w.heap.size+1) (Gr.refl _ _) kpA
 |false=>
  refine gg ?_;refine Cl.bind (w0:=w) (X0:=[(B,B+6),(s,s+1)]) (m:=member q1 l) (k:=λx=>.ok x) (by rw[hM];simp only[Bool.false_eq_true,if_false];cases member q1 l<;>rfl) (O6 hp1 hs Jt) hno ?_;rintro⟨d,l',q2⟩ v w2 hM hk2 hq2 hs2 ⟨H2,tv,rfl,hg2,ht2,Dy,hp2⟩;have hl2:=hp2.lt;dsimp only at hM ht2 Dy hp2;have Ud:Gr H H2 (w.heap.size+1):=hg2.mono omg;obtain⟨ti,tu,rfl⟩:=ht2.form;refine gg ?_;refine hok _ _ _ hM kpA ⟨H2,_,rfl,Ud.mono omg,ht2,?_,?_⟩
  .exact aW.kp (X:=[(w.heap.size,w.heap.size+1)]) Dy kpA ⟨omg,trivial⟩
  .exact hp2.tmps h (m:=w.heap.size+1) Ud kpA
def zC(H:Hp):Option (List Int)->Value->Prop
 |none,v=>v=.slice none 0 0
 |some l,v=>∃sb rest cap,v=.slice (some ⟨sb,0,none⟩) l.length cap/\H sb=some (l.map i64++rest,jI)/\l.length<=12
theorem zC.le(h:zC H o v)(k:Hle H H'):zC H' o v:=by
 cases o with
 |none=>exact h
 |some l=>obtain⟨a,b,c,h1,h2,h3⟩:=h;exact⟨a,b,c,h1,k _ _ h2,h3⟩
theorem zC.len(h:zC H o v):∀l,o=some l->l.length<1000000:=by
 rintro l rfl;obtain⟨a,b,c,h1,h2,h3⟩:=h;omega
theorem jP.lookup(a:By):∀{m:List (By×Value)} {l:List (By×List Int)},jP H m l ->
  (m.lookup a=none/\l.lookup a=none)\/∃v ns,m.lookup a=some v/\l.lookup a=some ns/\BL H v ns
 |[],[],_=>Or.inl ⟨rfl,rfl⟩
 |x::m,y::l,h=>by
  obtain⟨h1,h2,h3⟩:=h;rw[List.lookup_cons,List.lookup_cons,h1];cases a==y.1 with
  |true=>exact Or.inr ⟨_,_,rfl,rfl,h2⟩
  |false=>exact jP.lookup a h3
 |[],_::_,h=>h.elim
 |_::_,[],h=>h.elim
theorem H7(h:PR B H w p):
  Calls P 174 #[pt (B+5) 0] w (Post w (fK p) (PX B) λx v w'=>∃H' tv nv,v=.tuple #[tv,i64 x.1.2.1,i64 x.1.2.2.1,nv]/\Gr H H' w.heap.size/\lq H' x.1.1 tv/\zC H' x.1.2.2.2 nv/\PR B H' w' x.2):=by
 refine Post.R λR M hM hok hno=>?_;refine cf [] Tryz.func174 ?_;have hp:=h.hp;have hl:=h.lt;rw[bF]at hp;rw[fK]at hM;refine gg ?_;have hA:Kp [] w (ag (w.alloc (cl [.int .i64 0,.string ⟨#[]⟩,.int .i64 0,.int .i64 0] 151)) w.heap.size (cl [i64 p.w.kind,.string (bs p.w.s),i64 p.w.at_,i64 p.w.n] 151)):=by exact kpA
 have hAb:(ag (w.alloc (cl [.int .i64 0,.string ⟨#[]⟩,.int .i64 0,.int .i64 0] 151)) w.heap.size (cl [i64 p.w.kind,.string (bs p.w.s),i64 p.w.at_,i64 p.w.n] 151)).heap[w.heap.size]?=some (cl [i64 p.w.kind,.string (bs p.w.s),i64 p.w.at_,i64 p.w.n] 151):=aC rfl (by simp only[size_alloc];omega);generalize ag (w.alloc (cl [.int .i64 0,.string ⟨#[]⟩,.int .i64 0,.int .i64 0] 151)) w.heap.size (cl [i64 p.w.kind,.string (bs p.w.s),i64 p.w.at_,i64 p.w.n] 151)=wA at *;have hAs:=lt_of_heap hAb;have h0:=h.ext hA;cases h1:p.w.kind==1 with
 |true=>
  rw[h1,if_pos rfl]at hM;have h1':((p.w.kind:Int)==1)=true:=by have:=beq_iff_eq.mp h1;rw[this];rfl
  have hpA:=h0.hp;rw[bF]at hpA;refine gg ?_;obtain⟨es,ck,m,hm1,hm2,hm3⟩:=h0.he;refine Lk.str hm2 lookA ?_;rcases hm3.lookup p.w.s with⟨e1,e2⟩|⟨v,ns,e1,e2,hE⟩
  .rw[e1];rw[e2]at hM;refine gg ?_;refine Jn.by (λ_ _=>False) (λJ2 hJ2=>?_) (λ_ _ _ hf=>hf.elim);refine .s ?_;refine If.t ?_ rfl;refine gg ?_;exact Cl.fail hM hno kpA
  .rw[e1];rw[e2]at hM;refine gg ?_;refine Jn.direct ?_;refine .s ?_;refine If.f ?_ rfl;intro jk;refine Cl.bind (w0:=w) (X0:=PX B) hM (qR (h0.ext (w':=wA.drew) kpA)) hno ?_;rintro q v2 w1 hM hk1 hq1 hs1 ⟨rfl,hp1⟩;rw[size_drew]at hs1;have hl1:=hp1.lt;obtain⟨b,nm,at_,nsv,sb,rest,cap,rfl,hb1,hb2,hb3⟩:=hE;have hb1':=hp1.sub _ _ _ hb1;have hbl:=lt_of_heap hb1';have hAb1:w1.heap[w.heap.size]?=some (cl [i64 p.w.kind,.string (bs p.w.s),i64 p.w.at_,i64 p.w.n] 151):=by exact lookA
   refine gg ?_;have hnew:H w1.heap.size=none:=hp1.sub.fresh (Nat.le_refl _);obtain⟨H2,G2,L2,A2,R2,N2⟩:=(hp1.ext (w':=w1.drew.alloc (cl [.string (bs p.w.s),i64 p.w.at_] yx)) kpA).frz (Gr.refl H w.heap.size) (b:=w1.heap.size) lookA omg hnew omg;exact hok _ _ _ hM kpA ⟨H2,_,_,rfl,G2,⟨_,rfl,R2⟩,⟨sb,rest,cap,rfl,L2 _ _ hb2,hb3⟩,A2⟩
 |false=>
  rw[h1,if_neg dcd]at hM;have h1':((p.w.kind:Int)==1)=false:=by have:=beq_eq_false_iff_ne.mp h1;rw[beq_eq_false_iff_ne];omega
  refine gg ?_;refine Cl.bind (w0:=w) (X0:=PX B) hM (jQ h0 [105,110,116]) hno ?_;rintro⟨b1,q1⟩ v w1 hM hk1 hq1 hs1 ⟨rfl,hp1⟩;cases b1 with
  |true=>
   refine gg ?_;exact hok _ _ _ hM hq1.out ⟨H,_,_,rfl,Gr.refl _ _,rfl,rfl,hp1⟩
  |false=>
  refine gg ?_;refine Cl.bind (w0:=w) (X0:=PX B) hM (jQ hp1 [98,111,111,108]) hno ?_;rintro⟨b3,q3⟩ v w3 hM hk3 hq3 hs3 ⟨rfl,hp3⟩;cases b3 with
  |true=>
   refine gg ?_;exact hok _ _ _ hM hq3.out ⟨H,_,_,rfl,Gr.refl _ _,rfl,rfl,hp3⟩
  |false=>
  refine gg ?_;refine Cl.bind (w0:=w) (X0:=PX B) hM (jQ hp3 [117,110,115,105,103,110,101,100]) hno ?_;rintro⟨b4,q4⟩ v w4 hM hk4 hq4 hs4 ⟨rfl,hp4⟩;cases b4 with
  |true=>
   refine gg ?_;refine Cl.bind (w0:=w) (X0:=PX B) hM (jQ hp4 [105,110,116]) hno ?_;rintro⟨b6,q6⟩ v w6 hM hk6 hq6 hs6 ⟨rfl,hp6⟩;exact hok _ _ _ hM hq6.out ⟨H,_,_,rfl,Gr.refl _ _,rfl,rfl,hp6⟩
  |false=>
   refine gg ?_;refine Cl.bind (w0:=w) (X0:=PX B) (m:=(bad q4:Res ((Ty×Int×Int×Option (List Int))×PS))) (k:=λx=>.ok x) (by rw[hM];rfl) (H8 hp4) hno ?_;rintro _ _ _ _ _ _ _ hf;exact hf.elim
theorem zD.of(hp:nK P f=true)
  (h:∀(w:World) (n:Int) (a:Nat),I w->Calls P f (first++#[.int .i64 n,i64 a]++captured) w (Post w (kf n a) X λs _ w'=>I' s w')):zD (.func (.func f) first captured) kf I I' X:=by
 refine Or.inr ⟨rfl,λw n a E K hI hok hno=>?_⟩;refine oC.f hp ?_;refine Cl.by (h w n a hI) ?_ ?_ ?_
 .rintro v w' ⟨hk,hp⟩;cases hm:kf n a with
  |ok l=>
   rw[hm]at hp;obtain⟨v',hv,hl⟩:=hp;cases hv;exact hok l v w' hm hk hk.size hl
  |no e c=>rw[hm]at hp;obtain⟨_,hv,_⟩:=hp;cases hv
 .rintro ch w' ⟨hk,hp⟩;cases hm:kf n a with
  |ok l=>rw[hm]at hp;obtain⟨_,hv,_⟩:=hp;cases hv
  |no e c=>rw[hm]at hp;obtain⟨_,hv,hf⟩:=hp;cases hv;exact hno e c ch w' hm hk hf
 .rintro w' ⟨hk,hp⟩;cases hm:kf n a with
  |ok l=>rw[hm]at hp;obtain⟨_,hv,_⟩:=hp;cases hv
  |no e c=>rw[hm]at hp;obtain⟨_,hv,_⟩:=hp;cases hv
theorem Wj(n:Int)(a:Nat)(hsub:Sub H w)(hn:zC H nums nv)(h1:H nb=some ([nv],zJ))(h2:H tb=some ([.map (some t)],kN))
  (hl:∀l,nums=some l->l.length<1000000) (hset:aH .i64 w t there):
  Calls P 176 #[.int .i64 n,i64 a,pt nb 0,pt tb 0] w (Post w (if nums.any λl=>!l.contains n then .no 8 a else once there n a) [(t,t+1)] λl _ w'=>aH .i64 w' t l):=by
 refine Post.R λR M hM hok hno=>?_;refine cf [] Tryz.func176 ?_;have g1:=hsub _ _ _ h1;have g2:=hsub _ _ _ h2;refine Jn.by (λvals w'=>vals=[]/\(nums.any λl=>!l.contains n)=false/\w'=w) (λJ hJ=>?_) ?_
 .cases nums with
  |none=>
   cases hn;refine gg ?_;exact hJ _ _ ⟨rfl,rfl,rfl⟩
  |some l=>
   obtain⟨sb,rest,cap,rfl,hsb,_⟩:=hn;have g3:=hsub _ _ _ hsb;refine .s ?_;refine En.s (b:=false) ?_ rfl;refine gg ?_;refine Cl.same (Ia l n g3 (hl l rfl)) ?_;simp only[Option.any_some]at hM hJ;cases hc:l.contains n with
   |true=>
    rw[hc]at hJ;refine gg ?_;exact hJ _ _ ⟨rfl,rfl,rfl⟩
   |false=>
    simp only[hc,Bool.not_false,if_true]at hM;refine gg ?_;exact Cl.fail hM hno
 .rintro _ w' jk ⟨rfl,hc,rfl⟩;rw[hc,if_neg dcd]at hM;refine gg ?_;refine Cl.bind (w0:=w') (X0:=[(t,t+1)]) (m:=once there n a) (k:=λx=>.ok x) (by rw[hM];cases once there n a<;>rfl) (KI w' t there n a hset) hno ?_;rintro l v w1 hM hk hq hs hl;exact hok _ _ _ hM hk hl
theorem Xk(hs:B+6<=t)(hH:H t=none)(hn:zC H nums nv)(h1:H nb=some ([nv],zJ))(h2:H tb=some ([.map (some t)],kN))
  (hl:∀l,nums=some l->l.length<1000000):
  zD (.func (.func 176) #[] #[pt nb 0,pt tb 0]) (λn a=>if nums.any λl=>!l.contains n then .no 8 a else once there n a) (λw=>PR B H w p/\aH .i64 w t there) (λl w=>PR B H w p/\aH .i64 w t l) [(t,t+1)]:=by
 refine zD.of (by kernel_rfl) λw n a ⟨hp,hset⟩=>?_;refine(Wj n a hp.sub hn h1 h2 hl hset).mono λen w' hq=>hq.mono (λ_ _ h=>h) λl v w' _ hk hg=>⟨hp.tmp hk hs hH,hg⟩
theorem BQ(n:Int)(a:Nat)(hsub:Sub H w)(h2:H sb=some ([.map (some t)],mV))(hset:aH .u32 w t there):
  Calls P 210 #[.int .i64 n,i64 a,pt sb 0] w (Post w (once there (IntKind.u32.wrap n) a) [(t,t+1)] λl _ w'=>aH .u32 w' t l):=by
 refine Post.R λR M hM hok hno=>?_;refine cf [] Tryz.func210 ?_;have g2:=hsub _ _ _ h2;refine gg ?_;refine Cl.bind (w0:=w) (X0:=[(t,t+1)]) (m:=once there (IntKind.u32.wrap n) a) (k:=λx=>.ok x) (by rw[hM];cases once there (IntKind.u32.wrap n) a<;>rfl) (Ws w t there _ a hset) hno ?_;rintro l v w1 hM hk hq hs hl;exact hok _ _ _ hM hk hl
theorem Az(p:PS)(l:List Int):value p 0 top (λn a=>once l n a)=value p 0 top (λn a=>once l (IntKind.u32.wrap n) a):=
 Pq λn a h1 h2=>by rw[show IntKind.u32.wrap n=n by rw[IntKind.wrap_u32];unfold top at h2;omega]
theorem HY(h:PR B H w p)(ht:B+6<=t)(hset:aH .u32 w t l):
  Calls P 170 #[pt (B+5) 0,.map (some t)] w (Post w (numbered p l) [(B,B+6),(t,t+1)] λx v w'=>v=.int .u32 x.1/\∃H',Gr H H' w.heap.size/\aH .u32 w' t x.2.1/\PR B H' w' x.2.2):=by
 refine Post.R λR M hM hok hno=>?_;refine cf [] Tryz.func170 ?_;have hl:=h.lt;have htl:t<w.heap.size:=by obtain⟨_,_,a,_⟩:=hset;exact lt_of_heap a
 have hHt:H t=none:=by
  obtain⟨es,ck,a,_⟩:=hset;cases hx:H t with
  |none=>rfl
  |some x=>have:=h.sub t x.1 x.2 hx;rw[a]at this;cases this
 rw[numbered]at hM;refine gg ?_;obtain⟨H1,G1,L1,A1,R1,N1⟩:=(h.ext (w':=w.alloc (cl [.map (some t)] mV)) kpA).frz (Gr.refl H w.heap.size) (b:=w.heap.size) lookA omg (h.sub.fresh (Nat.le_refl _)) omg;refine Cl.bind (w0:=w) (X0:=[(B,B+6),(t,t+1)]) hM (dR (A1.ext kpA) [[61]]) hno ?_;rintro q1 v w1 hM hk1 hq1 hs1 ⟨rfl,hp1⟩;have hl1:=hp1.lt;simp only[size_alloc]at hs1;have s1:aH .u32 w1 t l:=aH.kp (aH.kp (X:=[]) hset kpA trivial) hk1 ⟨omg,trivial⟩;have hH1t:H1 t=none:=by rw[N1 _ omg];exact hHt
 rw[Az]at hM
 refine Cl.jg (w0:=w) (X0:=[(B,B+6),(t,t+1)]) hM (yg hp1 0 top _ _ (λw=>PR B H1 w q1/\aH .u32 w t l) (λl w=>PR B H1 w q1/\aH .u32 w t l) [(t,t+1)] (λ_ q=>q)
  ⟨hp1,s1⟩ (λ_ _ a k=>⟨a.1.ext k,aH.kp a.2 k trivial⟩) (zD.of (by kernel_rfl) λw n a ⟨hp,hs⟩=>(BQ n a hp.sub R1 hs).mono λen w' hq=>hq.mono (λ_ _ h=>h) λl v w' _ hk hg=>⟨hp.tmp hk ht hH1t,hg⟩) (λ_ _ a=>a.1) (UB q1)) hno ?_
 rintro⟨n8,l8,q8⟩ v w8 e8 hM8 hk8 hq8 hs8 ⟨rfl,hp8,wI,⟨_,hsI⟩,hkI⟩;have hl8:=hp8.lt;dsimp only at hM8 hp8 e8 hsI;have s8:=aH.kp hsI hkI ⟨omg,trivial⟩;clear hkI;have hr:=yl e8;dsimp only at hr;refine gg ?_;refine Cl.bind (w0:=w) (X0:=[(B,B+6),(t,t+1)]) hM8 (dR (hp8.ext kpA) [[59]]) hno ?_;rintro q9 v w9 hM9 hk9 hq9 hs9 ⟨rfl,hp9⟩;refine gg ?_;rw[show IntKind.u32.wrap n8=n8 by rw[IntKind.wrap_u32];unfold top at hr;omega];exact hok _ _ _ hM9 hq9.out ⟨rfl,H1,G1,aH.kp (aH.kp (X:=[]) s8 kpA trivial) hk9 ⟨omg,trivial⟩,hp9⟩
theorem O5(h:PR B H w p):
  Calls P 170 #[pt (B+5) 0,.map (some (B+4))] w (Post w (numbered p p.aj) (PX B) λx v w'=>v=.int .u32 x.1/\∃H',Gr H H' w.heap.size/\PR B H' w' { x.2.2 with aj:=x.2.1 }):=by
 refine Post.R λR M hM hok hno=>?_;refine cf [] Tryz.func170 ?_;have hl:=h.lt;rw[numbered]at hM;refine gg ?_;obtain⟨H1,G1,L1,A1,R1,N1⟩:=(h.ext (w':=w.alloc (cl [.map (some (B+4))] mV)) kpA).frz (Gr.refl H w.heap.size) (b:=w.heap.size) lookA omg (h.sub.fresh (Nat.le_refl _)) omg;refine Cl.jg (w0:=w) (X0:=PX B) hM (dR (A1.ext kpA) [[61]]) hno ?_;rintro q1 v w1 e1 hM hk1 hq1 hs1 ⟨rfl,hp1⟩;have hl1:=hp1.lt;simp only[size_alloc]at hs1;have ep:=TN e1;rw[<- ep,Az]at hM
 refine Cl.jg (w0:=w) (X0:=PX B) hM (yg hp1 0 top _ _ (λw=>PR B H1 w q1) (λl w=>PR B H1 w { q1 with aj:=l }) [(B+4,B+5)] (λl q=>{ q with aj:=l })
  hp1 (λ_ _ a k=>a.ext k) (zD.of (by kernel_rfl) λw n a hp=>(BQ n a hp.sub R1 hp.hg).mono λen w' hq=>hq.mono (λ_ _ h=>h) λl v w' _ hk hg=>hp.aj hk hg) (λ_ _ a=>a) (MI q1)) hno ?_
 rintro⟨n8,l8,q8⟩ v w8 e8 hM8 hk8 hq8 hs8 ⟨rfl,hp8,wI,_,hkI⟩;have hl8:=hp8.lt;dsimp only at hM8 hp8 e8;clear hkI;have hr:=yl e8;dsimp only at hr;refine gg ?_;refine Cl.jg (w0:=w) (X0:=PX B) (m:=want { q8 with aj:=l8 } [[59]]) (k:=λ_=>M) ?_ (dR (hp8.ext kpA) [[59]]) hno ?_
 .rw[wE,hM8];cases want q8 [[59]]<;>rfl
 rintro q9 v w9 e9 hM9 hk9 hq9 hs9 ⟨rfl,hp9⟩;rw[wE]at e9;obtain⟨r,er,e9⟩:=Res.then_ok e9;cases e9;rw[er]at hM8;refine gg ?_;rw[show IntKind.u32.wrap n8=n8 by rw[IntKind.wrap_u32];unfold top at hr;omega];exact hok _ _ _ hM8 hq9.out ⟨rfl,H1,G1,hp9⟩
end Go.W.T
namespace Go.W.T
open Go Go.W Go.M Go.Proofs
theorem PR.tmp2(h:PR B H w p)(k:Kp [(a,a+1),(b,b+1)] w w')(hB:B+6<=a)(ha:H a=none)(hB2:B+6<=b)(hb:H b=none):PR B H w' p:=by
 refine h.kp k (λi h1=>⟨omg,omg,trivial⟩) (λi h1 h2=>⟨omg,omg,trivial⟩) (λc x hx=>⟨?_,?_,trivial⟩)
 .by_cases e:c=a
  .subst e;rw[ha]at hx;cases hx
  .omega
 .by_cases e:c=b
  .subst e;rw[hb]at hx;cases hx
  .omega
set_option maxHeartbeats 1000000 in
theorem Wi(h:PR B H w p)(hs0:B+6<=s0)(ht0:B+6<=t0)(hst:s0≠t0)(hset:aW w s0 l)(hnum:aH .u32 w t0 nums):
  Calls P 168 #[pt (B+5) 0,.map (some s0),.map (some t0)] w (Post w (version p l nums) [(B,B+6),(s0,s0+1),(t0,t0+1)] λx v w'=>
   ∃H' q,v=.agg #[.string (bs x.1.name),.int .u32 x.1.n,q]/\Gr H H' w.heap.size/\(∃pl,iT H' x.1.procs pl/\SlF H' bJ x.1.procs.length pl q)/\aW w' s0 x.2.1/\aH .u32 w' t0 x.2.2.1/\PR B H' w' x.2.2.2):=by
 refine Post.R λR M hM hok hno=>?_;refine cf [] Tryz.func168 ?_;have hl:=h.lt;have hs0l:s0<w.heap.size:=by obtain⟨_,_,a,_⟩:=hset;exact lt_of_heap a
 have ht0l:t0<w.heap.size:=by obtain⟨_,_,a,_⟩:=hnum;exact lt_of_heap a
 have hfr:∀b,w.heap.size<=b->H b=none:=λb hb=>h.sub.fresh hb;rw[version]at hM;refine gg ?_;refine Cl.bind (w0:=w) (X0:=[(B,B+6),(s0,s0+1),(t0,t0+1)]) hM (dR (h.ext kpA) [[118,101,114,115,105,111,110]]) hno ?_;rintro q1 v w1 hM hk1 hq1 hs1 ⟨rfl,hp1⟩;have hl1:=hp1.lt;simp only[size_alloc]at hs1;have Jt:aW w1 s0 l:=aW.kp (aW.kp (X:=[]) hset kpA trivial) hk1 ⟨omg,trivial⟩;have hnum1:aH .u32 w1 t0 nums:=aH.kp (aH.kp (X:=[]) hnum kpA trivial) hk1 ⟨omg,trivial⟩;refine Cl.bind (w0:=w) (X0:=[(B,B+6),(s0,s0+1),(t0,t0+1)]) hM (MR hp1 hs0 Jt) hno ?_;rintro⟨x,l2,q2⟩ v w2 hM hk2 hq2 hs2 ⟨rfl,Dy,hp2⟩;have hl2:=hp2.lt;dsimp only at hM hp2 Dy;have hnum2:aH .u32 w2 t0 nums:=aH.kp hnum1 hk2 ⟨omg,omg,trivial⟩;refine gg ?_;refine Cl.bind (w0:=w) (X0:=[(B,B+6),(s0,s0+1),(t0,t0+1)]) hM (dR (hp2.ext kpA) [[123]]) hno ?_;rintro q3 v w3 hM hk3 hq3 hs3 ⟨rfl,hp3⟩;have hl3:=hp3.lt;simp only[size_alloc,ah]at hs3;have he3:w3.heap[w2.heap.size]?=some (cl [.string (bs x.s),.int .u32 0,.slice none 0 0] aJ):=by exact lookA
 have hr3:w3.heap[w.heap.size]?=some (cl [.string ⟨#[]⟩,.int .u32 0,.slice none 0 0] aJ):=by exact lookA
 have hset3:aW w3 s0 l2:=aW.kp (aW.kp (X:=[]) Dy kpA trivial) hk3 ⟨omg,trivial⟩;have hnum3:aH .u32 w3 t0 nums:=aH.kp (aH.kp (X:=[]) hnum2 kpA trivial) hk3 ⟨omg,trivial⟩;have hq3':Kp [(B,B+6),(s0,s0+1),(t0,t0+1)] w w3:=hq3.out;refine gg ?_
 refine Lp.nat (n:=8) (λn vals w'=>∃(p':PS) (qs:List pG) (ws:List By) (ns:List Int) (cs:List Value) (v1:Value) (o1:Option Nat) (H':Hp),vals=[]/\qs.length+n=8/\PR B H' w' p'/\Gr H H' w.heap.size/\iT H' qs cs/\H' w2.heap.size=none/\H' w.heap.size=none /\
  w'.heap[w2.heap.size]?=some (cl [.string (bs x.s),.int .u32 0,v1] aJ)/\w'.heap[w.heap.size]?=some (cl [.string ⟨#[]⟩,.int .u32 0,.slice none 0 0] aJ) /\
  Gw w' bJ 4 v1 qs.length cs o1/\aW w' w3.heap.size ws/\aH .u32 w' (w3.heap.size+1) ns/\aW w' s0 l2/\aH .u32 w' t0 nums /\
  (∀b,o1=some b->w3.heap.size+1<b/\H' b=none)/\Kp [(B,B+6),(s0,s0+1),(t0,t0+1)] w w'/\w3.heap.size+1<w'.heap.size /\
  M=(jW n p' qs ws ns).andThen λx_1=>(numbered x_1.2 nums).andThen λn=>.ok (⟨x.s,n.1,x_1.1⟩,l2,n.2.1,n.2.2)) ?_ ?_
 .refine⟨q3,[],[],[],[],.slice none 0 0,none,H,rfl,rfl,hp3.ext kpA,Gr.refl _ _,trivial,hfr _ omg,hfr _ omg,lookA,lookA,Gw.nil _ _ _,⟨#[],0,lookA,MK.empty⟩,⟨#[],0,lookA,MK.empty⟩,
   aW.kp (X:=[]) hset3 kpA trivial,aH.kp (X:=[]) hnum3 kpA trivial,smp,kpA,by simp only[size_alloc];omega,hM⟩
 rintro n _ wL jk C ⟨p',qs,ws,ns,cs,v1,o1,H',rfl,hn,hpL,hgL,hdL,hHe,hHr,heL,hrL,hg1,hsL,huL,hset4,hnum4,ho1,hkL,hszL,hML⟩ hC;obtain⟨a1,cp1,rfl⟩:=hg1.len;have hlL:=hpL.lt;refine gg ?_;cases n with
 |zero=>
  refine Cl.jg (w0:=w) (X0:=[(B,B+6),(s0,s0+1),(t0,t0+1)]) (m:=count p' qs.length 8) (k:=λ_=>M) ?_ (lu hpL qs.length 8) hno ?_
  .rw[count,if_pos omg];rw[hML,jW];rfl
  .rintro _ v w4 e4;have:=jy e4;omega
 |succ n=>
 refine Cl.jg (w0:=w) (X0:=[(B,B+6),(s0,s0+1),(t0,t0+1)]) (m:=count p' qs.length 8) (k:=λ_=>M) (by rw[count,if_neg omg];rfl) (lu hpL qs.length 8) hno ?_;rintro _ v w4 e4 _ hk4 hq4 hs4 rfl;rw[jW]at hML;simp only[Res.assoc]at hML;have c1:=jy e4;refine Cl.bind (w0:=w) (X0:=[(B,B+6),(s0,s0+1),(t0,t0+1)]) hML (Yc hpL) hno ?_;rintro⟨rt,q5⟩ rv w5 hM5 hk5 hq5 hs5 ⟨H5,hg5,hr5,hp5⟩;have hl5:=hp5.lt;dsimp only at hM5 hp5 hr5;obtain⟨ri,ru,rfl⟩:=hr5.form;refine gg ?_;have hsw5:aW w5 w3.heap.size ws:=aW.kp hsL hk5 ⟨omg,trivial⟩;refine Cl.w (λw9=>Kp [] w5 w9/\w9.heap[w5.heap.size]?=some (cl [.string ⟨#[]⟩,.int .u32 0,.nilIface,.iface ri ru] bJ)) ⟨kpA,lookA⟩ ?_;rintro w6 ⟨k6,n6⟩;have z6:=lt_of_heap n6;refine Cl.bind (w0:=w) (X0:=[(B,B+6),(s0,s0+1),(t0,t0+1)]) hM5 (MR (hp5.ext k6) omg (aW.kp hsw5 k6 trivial)) hno ?_;rintro⟨x7,ws7,q7⟩ v w7 hM7 hk7 hq7 hs7 ⟨rfl,hset7,hp7⟩;have hl7:=hp7.lt;dsimp only at hM7 hp7 hset7;have n7:w7.heap[w5.heap.size]?=some (cl [.string ⟨#[]⟩,.int .u32 0,.nilIface,.iface ri ru] bJ):=by exact lookA
 have f7:H5 w5.heap.size=none:=hp5.sub.fresh (Nat.le_refl _);refine gg ?_;refine Cl.w (λw9=>Kp [(w5.heap.size,w5.heap.size+1)] w7 w9/\w9.heap[w5.heap.size]?=some (cl [.string (bs x7.s),.int .u32 0,.nilIface,.iface ri ru] bJ)/\w9.heap[w7.heap.size]?=some (cl [κs [40]] oH)) ⟨kpA,lookA,lookA⟩ ?_;rintro w8 ⟨k8,n8,m8⟩;have z8:=k8.size;refine Cl.bind (w0:=w) (X0:=[(B,B+6),(s0,s0+1),(t0,t0+1)]) hM7 (dR (hp7.tmp k8 omg f7) [[40]]) hno ?_;rintro q9 v w9 hM9 hk9 hq9 hs9 ⟨rfl,hp9⟩;have hl9:=hp9.lt;have n9:w9.heap[w5.heap.size]?=some (cl [.string (bs x7.s),.int .u32 0,.nilIface,.iface ri ru] bJ):=by exact lookA
 refine Cl.bind (w0:=w) (X0:=[(B,B+6),(s0,s0+1),(t0,t0+1)]) hM9 (Yc hp9) hno ?_;rintro⟨at10,q10⟩ av w10 hM10 hk10 hq10 hs10 ⟨H10,hg10,ha10,Xr⟩;have hl10:=Xr.lt;dsimp only at hM10 Xr ha10;obtain⟨ai,au,rfl⟩:=ha10.form;have n10:w10.heap[w5.heap.size]?=some (cl [.string (bs x7.s),.int .u32 0,.nilIface,.iface ri ru] bJ):=by exact lookA
 have f10:H10 w5.heap.size=none:=hg10.lacks f7 omg;refine gg ?_;refine Cl.w (λw9=>Kp [(w5.heap.size,w5.heap.size+1)] w10 w9/\w9.heap[w5.heap.size]?=some (cl [.string (bs x7.s),.int .u32 0,.iface ai au,.iface ri ru] bJ)/\w9.heap[w10.heap.size]?=some (cl [κs [41]] oH)) ⟨kpA,lookA,lookA⟩ ?_;rintro w11 ⟨k11,n11,m11⟩;have z11:=k11.size;refine Cl.bind (w0:=w) (X0:=[(B,B+6),(s0,s0+1),(t0,t0+1)]) hM10 (dR (Xr.tmp k11 omg f10) [[41]]) hno ?_;rintro q12 v w12 hM12 hk12 hq12 hs12 ⟨rfl,Oe⟩;have hl12:=Oe.lt;have n12:w12.heap[w5.heap.size]?=some (cl [.string (bs x7.s),.int .u32 0,.iface ai au,.iface ri ru] bJ):=by exact lookA
 have kA:Kp [(B,B+6),(w3.heap.size,w3.heap.size+1)] w4 w12:=by exact kpA
 have hu12:aH .u32 w12 (w3.heap.size+1) ns:=aH.kp huL kA ⟨omg,omg,trivial⟩;clear kA;refine Cl.bind (w0:=w) (X0:=[(B,B+6),(s0,s0+1),(t0,t0+1)]) hM12 (HY Oe omg hu12) hno ?_;rintro⟨n13,ns13,q13⟩ v w13 hM13 hk13 hq13 hs13 ⟨rfl,H13,hg13,hu13,ZY⟩;have hl13:=ZY.lt;dsimp only at hM13 ZY hu13;have n13':w13.heap[w5.heap.size]?=some (cl [.string (bs x7.s),.int .u32 0,.iface ai au,.iface ri ru] bJ):=by exact lookA
 have f13:H13 w5.heap.size=none:=hg13.lacks f10 omg;have hws13:aW w13 w3.heap.size ws7:=by
  have:Kp [(B,B+6),(w5.heap.size,w5.heap.size+1),(w3.heap.size+1,w3.heap.size+2)] w7 w13:=by exact kpA
  exact aW.kp hset7 this ⟨omg,omg,omg,trivial⟩
 have kB:Kp [(B,B+6),(w3.heap.size,w3.heap.size+2)] w4 w13:=by exact kpA
 have he13:w13.heap[w2.heap.size]?=some (cl [.string (bs x.s),.int .u32 0,.slice a1 qs.length cp1] aJ):=(kB.same _ omg ⟨omg,omg,trivial⟩).trans heL;have hr13:w13.heap[w.heap.size]?=some (cl [.string ⟨#[]⟩,.int .u32 0,.slice none 0 0] aJ):=(kB.same _ omg ⟨omg,omg,trivial⟩).trans hrL;have hg113:=hg1.kp kB (λb hb=>⟨by have:=ho1 b hb;omega,by have:=ho1 b hb;omega,trivial⟩);have hset13:aW w13 s0 l2:=aW.kp hset4 kB ⟨omg,omg,trivial⟩;have hnum13:aH .u32 w13 t0 nums:=aH.kp hnum4 kB ⟨omg,omg,trivial⟩;have hgr:Gr H' H13 w4.heap.size:=(hg5.trans (hg10.trans hg13 omg) omg).mono omg;have aaf:=hgr.lacks hHe omg;have hHr13:=hgr.lacks hHr omg;have ho13:∀b,o1=some b->H13 b=none:=λb hb=>hgr.lacks (ho1 b hb).2 (hg1.lt b hb);refine gg ?_;refine Ap.w (λw9=>Kp [(w5.heap.size,w5.heap.size+1)] w13 w9/\w9.heap[w13.heap.size]?=some (cl [.string (bs x7.s),.int .u32 n13,.iface ai au,.iface ri ru] bJ)) ⟨kpA,lookA⟩ ?_;rintro w14 ⟨k14,m14⟩;have z14:=lt_of_heap m14;refine Ap.g (hg113.kp k14 (λb hb=>⟨by have:=hg1.lt b hb;omega,trivial⟩)) m14 rfl rfl ?_ omg;intro v1 w15 o1' g1 Ju k15;have z15:=k15.size;have nv:∀b,o1=some b->b<w4.heap.size:=hg1.lt;have e15:w15.heap[w2.heap.size]?=some (cl [.string (bs x.s),.int .u32 0,.slice a1 qs.length cp1] aJ):=
  (k15.same w2.heap.size omg (aF λhb=>by have:=ho1 _ hb;omega)).trans ((k14.same w2.heap.size omg ⟨omg,trivial⟩).trans he13)
 have r15:w15.heap[w.heap.size]?=some (cl [.string ⟨#[]⟩,.int .u32 0,.slice none 0 0] aJ):=
  (k15.same w.heap.size omg (aF λhb=>by have:=ho1 _ hb;omega)).trans ((k14.same w.heap.size omg ⟨omg,trivial⟩).trans hr13)
 have s15:=aW.kp (aW.kp hws13 k14 ⟨omg,trivial⟩) k15 (aF λhb=>by have:=ho1 _ hb;omega);have u15:=aH.kp (aH.kp hu13 k14 ⟨omg,trivial⟩) k15 (aF λhb=>by have:=ho1 _ hb;omega);have s015:=aW.kp (aW.kp hset13 k14 ⟨omg,trivial⟩) k15 (aF λhb=>by have:=ho1 _ hb;omega);have t015:=aH.kp (aH.kp hnum13 k14 ⟨omg,trivial⟩) k15 (aF λhb=>by have:=ho1 _ hb;omega);have b15:=(ZY.tmp k14 omg f13).own k15 (λb hb=>⟨by have:=ho1 b hb;omega,ho13 b hb⟩);obtain⟨a1',rJ,rfl⟩:=g1.len;refine gg ?_
 refine Cl.w (λw9=>Kp [(w2.heap.size,w2.heap.size+1)] w15 w9 /\
   w9.heap[w2.heap.size]?=some (cl [.string (bs x.s),.int .u32 0,.slice a1' (qs.length+1) rJ] aJ)) ⟨kpA,lookA⟩ ?_
 rintro w16 ⟨k16,e16⟩;have z16:=k16.size;have b16:=b15.tmp k16 omg aaf;have o1f:∀b,o1'=some b->w3.heap.size+1<b/\H13 b=none:=by
  intro b hb;rcases Ju with r|r<;>rw[r]at hb
  .exact⟨(ho1 b hb).1,ho13 b hb⟩
  .cases hb;exact⟨omg,ZY.sub.fresh omg⟩
 have g16:=g1.kp k16 (λb hb=>⟨by have:=o1f b hb;omega,trivial⟩);have r16:w16.heap[w.heap.size]?=some (cl [.string ⟨#[]⟩,.int .u32 0,.slice none 0 0] aJ):=(k16.same w.heap.size omg ⟨omg,trivial⟩).trans r15;have kk:Kp [(B,B+6),(s0,s0+1),(t0,t0+1)] w w16:=by
  have c2:=(hq13.out.trans k14 (λi hi ho=>⟨ho,omg,trivial⟩):Kp [(B,B+6),(s0,s0+1),(t0,t0+1)] w w14).own k15 (λb hb=>by have:=ho1 b hb;omega);exact c2.trans k16 (λi hi ho=>⟨ho,omg,trivial⟩)
 refine Cl.bind (w0:=w) (X0:=[(B,B+6),(s0,s0+1),(t0,t0+1)]) (hkp:=kk) hM13 (jQ b16 [125]) hno ?_;rintro⟨bb,q17⟩ v w17 hM17 Jv hq17 hs17 ⟨hv,hp17⟩;dsimp only at hM17 hp17 hv;subst hv;have hl17:=hp17.lt;have g17:=g16.kp Jv (λb hb=>⟨by have:=o1f b hb;omega,trivial⟩);have e17:w17.heap[w2.heap.size]?=some (cl [.string (bs x.s),.int .u32 0,.slice a1' (qs.length+1) rJ] aJ):=by exact lookA
 have r17:w17.heap[w.heap.size]?=some (cl [.string ⟨#[]⟩,.int .u32 0,.slice none 0 0] aJ):=by exact lookA
 have s17:=aW.kp (aW.kp s15 k16 ⟨omg,trivial⟩) Jv ⟨omg,trivial⟩;have u17:=aH.kp (aH.kp u15 k16 ⟨omg,trivial⟩) Jv ⟨omg,trivial⟩;have s017:=aW.kp (aW.kp s015 k16 ⟨omg,trivial⟩) Jv ⟨omg,trivial⟩;have t017:=aH.kp (aH.kp t015 k16 ⟨omg,trivial⟩) Jv ⟨omg,trivial⟩;have en:∀q:pG,(qs++[q]).length=qs.length+1:=λq=>by simp
 have hd17:iT H13 (qs++[⟨x7.s,n13,at10,rt⟩]) (cs++[.string (bs x7.s),.int .u32 n13,.iface ai au,.iface ri ru]):=
  iT.snoc (q:=⟨x7.s,n13,at10,rt⟩) (ha10.le hg13.1) (hr5.le (Hle.trans hg10.1 hg13.1)) (hdL.le hgr.1)
 have hgr':Gr H H13 w.heap.size:=hgL.trans hgr (by have:=hkL.size;omega);cases bb with
 |false=>
  refine gg ?_;simp only[Bool.false_eq_true,if_false]at hM17;refine hC n [] w17 omg ⟨q17,qs++[⟨x7.s,n13,at10,rt⟩],ws7,ns13,_,_,o1',H13,rfl,by rw[en];omega,hp17,hgr',hd17,aaf,hHr13,e17,r17,by rw[en];exact g17,s17,u17,s017,t017,o1f,hq17.out,omg,hM17⟩
 |true=>
  refine gg ?_;simp only[if_true,Res.aS]at hM17;refine Cl.bind (w0:=w) (X0:=[(B,B+6),(s0,s0+1),(t0,t0+1)]) hM17 (HY hp17 ht0 t017) hno ?_;rintro⟨n18,nu18,q18⟩ v w18 hM18 hk18 hq18 hs18 ⟨rfl,H18,Z9,ht18,hp18⟩;have hl18:=hp18.lt;dsimp only at hM18 hp18 ht18;have e18:w18.heap[w2.heap.size]?=some (cl [.string (bs x.s),.int .u32 0,.slice a1' (qs.length+1) rJ] aJ):=by exact lookA
  have r18:w18.heap[w.heap.size]?=some (cl [.string ⟨#[]⟩,.int .u32 0,.slice none 0 0] aJ):=by exact lookA
  have g18:=g17.kp hk18 (λb hb=>⟨by have:=o1f b hb;omega,by have:=o1f b hb;omega,trivial⟩);have s018:=aW.kp s017 hk18 ⟨omg,omg,trivial⟩;obtain⟨c1,nZ,cap1,rfl,hv1,hh1⟩:=Gw.some g18 omg;cases hv1;have oc1:=o1f c1 rfl;have zc1:=g17.lt c1 rfl;have hHe18:=Z9.lacks aaf omg;have hHr18:=Z9.lacks hHr13 omg;obtain⟨H1,G1,L1,A1,R1,N1⟩:=hp18.frz (hgr'.trans Z9 omg) hh1 omg (Z9.lacks oc1.2 zc1) omg;have hHe1:H1 w2.heap.size=none:=by rw[N1 _ omg];exact hHe18
  have hHr1:H1 w.heap.size=none:=by rw[N1 _ omg];exact hHr18
  refine gg ?_;refine hok _ _ _ hM18 kpA ⟨H1,_,rfl,G1,⟨_,hd17.le (Hle.trans Z9.1 L1),⟨c1,nZ,rJ,by rw[en],R1⟩⟩,?_,?_,?_⟩
  .exact aW.kp (X:=[(w2.heap.size,w2.heap.size+1),(w.heap.size,w.heap.size+1)]) s018 kpA ⟨omg,omg,trivial⟩
  .exact aH.kp (X:=[(w2.heap.size,w2.heap.size+1),(w.heap.size,w.heap.size+1)]) ht18 kpA ⟨omg,omg,trivial⟩
  .exact A1.tmp2 (a:=w2.heap.size) (b:=w.heap.size) kpA omg hHe1 omg hHr1
set_option maxHeartbeats 1000000 in
theorem Wp(h:PR B H w p):
  Calls P 102 #[pt (B+5) 0] w (Post w (Go.M.program p) (PX B) λx v w'=>∃H',Gr H H' w.heap.size/\jH H' x.1 v/\PR B H' w' x.2):=by
 refine Post.R λR M hM hok hno=>?_;refine cf [] Tryz.func102 ?_;have hl:=h.lt;have hfr:∀b,w.heap.size<=b->H b=none:=λb hb=>h.sub.fresh hb;have hp:=h.hp;rw[bF]at hp;rw[Go.M.program]at hM;refine gg ?_;refine Cl.jg (w0:=w) (X0:=PX B) hM (lu h p.n2 4) hno ?_;rintro _ v wZ e0 hM hk0 hq0 hs0 rfl;have c2:=jy e0;refine gg ?_;have h0:PR B H (ag wZ.drew (B+5) (cl (bF B { p with n2:=p.n2+1 }) bg)) { p with n2:=p.n2+1 }:=
  h.counts kpA (aC rfl (by simp only[size_drew];omega)) rfl h.c0 h.c1 (by show p.n2+1<=4;omega)
 refine Cl.bind (w0:=wZ) (X0:=PX B) hM (dR (h0.ext kpA) [[112,114,111,103,114,97,109]]) hno ?_;rintro q1 v w1 hM hk1 hq1 hs1 ⟨rfl,hp1⟩;have hl1:=hp1.lt;simp only[size_alloc,size_drew,ah]at hs1;refine Cl.bind (w0:=wZ) (X0:=PX B) hM (KG hp1) hno ?_;rintro⟨x,q2⟩ v w2 hM hk2 hq2 hs2 ⟨rfl,hp2⟩;have hl2:=hp2.lt;dsimp only at hM hp2;refine gg ?_;refine Cl.bind (w0:=wZ) (X0:=PX B) hM (dR (hp2.ext kpA) [[123]]) hno ?_;rintro q3 v w3 hM hk3 hq3 hs3 ⟨rfl,hp3⟩;have hl3:=hp3.lt;simp only[size_alloc,ah]at hs3;have he3:w3.heap[w2.heap.size]?=some (cl [.string (bs x.s),i64 x.at_,.int .u32 0,.slice none 0 0] dL):=by exact lookA
 have hq3':Kp (PX B) wZ w3:=hq3.out;refine gg ?_
 refine Lp.nat (n:=4) (λn vals w'=>∃(p':PS) (vs:List qw) (ns:List By) (us:List Int) (l:List Value) (v1:Value) (o1:Option Nat) (H':Hp),vals=[]/\vs.length+n=4/\PR B H' w' p'/\Gr H H' wZ.heap.size/\lV H' vs l/\H' w2.heap.size=none /\
  w'.heap[w2.heap.size]?=some (cl [.string (bs x.s),i64 x.at_,.int .u32 0,v1] dL)/\Gw w' aJ 3 v1 vs.length l o1/\aW w' w3.heap.size ns/\aH .u32 w' (w3.heap.size+1) us /\
  (∀b,o1=some b->w3.heap.size+1<b/\H' b=none)/\Kp (PX B) wZ w'/\w3.heap.size+1<w'.heap.size /\
  M=(jR n p' vs ns us).andThen λx_1=>(numbered x_1.2 x_1.2.aj).andThen λn=>.ok (⟨x.s,x.at_,.prog n.1 x_1.1⟩,{ n.2.2 with aj:=n.2.1 })) ?_ ?_
 .refine⟨q3,[],[],[],[],.slice none 0 0,none,H,rfl,rfl,hp3.ext kpA,Gr.refl _ _,trivial,hfr _ omg,lookA,Gw.nil _ _ _,⟨#[],0,lookA,MK.empty⟩,⟨#[],0,lookA,MK.empty⟩,smp,kpA,by simp only[size_alloc];omega,hM⟩
 rintro n _ wL jk C ⟨p',vs,ns,us,l,v1,o1,H',rfl,hn,hpL,hgL,hdL,hHe,heL,hg1,hsL,huL,ho1,hkL,hszL,hML⟩ hC;obtain⟨a1,cp1,rfl⟩:=hg1.len;have hlL:=hpL.lt;refine gg ?_;cases n with
 |zero=>
  refine Cl.jg (w0:=wZ) (X0:=PX B) (m:=count p' vs.length 4) (k:=λ_=>M) ?_ (lu hpL vs.length 4) hno ?_
  .rw[count,if_pos omg];rw[hML,jR];rfl
  .rintro _ v w4 e4;have:=jy e4;omega
 |succ n=>
 refine Cl.jg (w0:=wZ) (X0:=PX B) (m:=count p' vs.length 4) (k:=λ_=>M) (by rw[count,if_neg omg];rfl) (lu hpL vs.length 4) hno ?_;rintro _ v w4 e4 _ hk4 hq4 hs4 rfl;rw[jR]at hML;simp only[Res.assoc]at hML;have c1:=jy e4;refine gg ?_;refine Cl.bind (w0:=wZ) (X0:=PX B) hML (Wi (hpL.ext (w':=w4.drew) kpA) (s0:=w3.heap.size) (t0:=w3.heap.size+1) omg omg omg (aW.kp (X:=[]) hsL kpA trivial) (aH.kp (X:=[]) huL kpA trivial)) hno ?_;rintro⟨d,ns',us',q6⟩ v w6 hM6 hk6 hq6 hs6 ⟨H6,qv,rfl,hg6,⟨pl,ht6,hsl6⟩,ZT,hu6',hp6⟩;have hl6:=hp6.lt;dsimp only at hM6 hp6 ht6 hsl6 ZT hu6';rw[size_drew]at hs6 hg6;have he6:w6.heap[w2.heap.size]?=some (cl [.string (bs x.s),i64 x.at_,.int .u32 0,.slice a1 vs.length cp1] dL):=by exact lookA
 have Ue:=hg1.kp (w':=w4.drew) (X:=[]) kpA (λ_ _=>trivial);have Ue:=Ue.kp hk6 (λb hb=>⟨by have:=ho1 b hb;omega,by have:=ho1 b hb;omega,by have:=ho1 b hb;omega,trivial⟩);have Uf:=hg6.lacks hHe omg;have ho6:∀b,o1=some b->H6 b=none:=λb hb=>hg6.lacks (ho1 b hb).2 (hg1.lt b hb);have Z8:Gr H H6 wZ.heap.size:=hgL.trans hg6 (by have:=hkL.size;omega);obtain⟨qb,qr,qc,rfl,hqs⟩:=hsl6;refine gg ?_;refine Ap.w (λw9=>Kp [] w6 w9/\w9.heap[w6.heap.size]?=some (cl [.string (bs d.name),.int .u32 d.n,.slice (some ⟨qb,0,none⟩) d.procs.length qc] aJ)) ⟨kpA,lookA⟩ ?_;rintro w9 ⟨k9,n9⟩;have z9:=k9.size;refine Ap.g (Ue.kp k9 (λ_ _=>trivial)) n9 rfl rfl ?_ omg;intro v1 w10 o1' g1 Ju k10;have z10:=k10.size;have e10:w10.heap[w2.heap.size]?=some (cl [.string (bs x.s),i64 x.at_,.int .u32 0,.slice a1 vs.length cp1] dL):=
  (k10.same w2.heap.size omg (aF λhb=>by have:=ho1 _ hb;omega)).trans ((k9.same w2.heap.size omg trivial).trans he6)
 have s10:=aW.kp (aW.kp ZT k9 trivial) k10 (aF λhb=>by have:=ho1 _ hb;omega);have u10:=aH.kp (aH.kp hu6' k9 trivial) k10 (aF λhb=>by have:=ho1 _ hb;omega);have b10:=(hp6.ext k9).own k10 (λb hb=>⟨by have:=ho1 b hb;omega,ho6 b hb⟩);obtain⟨a1',rJ,rfl⟩:=g1.len;refine gg ?_
 refine Cl.w (λw9=>Kp [(w2.heap.size,w2.heap.size+1)] w10 w9 /\
   w9.heap[w2.heap.size]?=some (cl [.string (bs x.s),i64 x.at_,.int .u32 0,.slice a1' (vs.length+1) rJ] dL)) ⟨kpA,lookA⟩ ?_
 rintro w13 ⟨k13,e13⟩;have z13:=k13.size;have b13:=b10.tmp k13 omg Uf;have s13:=aW.kp s10 k13 ⟨omg,trivial⟩;have u13:=aH.kp u10 k13 ⟨omg,trivial⟩;have z69:=lt_of_heap n9;have o1f:∀b,o1'=some b->w3.heap.size+1<b/\H6 b=none:=by
  intro b hb;rcases Ju with r|r<;>rw[r]at hb
  .exact⟨(ho1 b hb).1,ho6 b hb⟩
  .cases hb;exact⟨omg,hp6.sub.fresh omg⟩
 have g13:=g1.kp k13 (λb hb=>⟨by have:=o1f b hb;omega,trivial⟩);have kk:Kp (PX B) wZ w13:=by
  have c2:=(hq6.out.trans k9 (λi _ ho=>⟨ho,trivial⟩):Kp (PX B) wZ w9).own k10 (λb hb=>by have:=ho1 b hb;omega);exact c2.trans k13 (λi hi ho=>⟨ho,omg,trivial⟩)
 refine Cl.bind (w0:=wZ) (X0:=PX B) (hkp:=kk) hM6 (jQ b13 [125]) hno ?_;rintro⟨bb,q14⟩ v w14 BC Kt ZU hs14 ⟨hv,vP⟩;dsimp only at BC vP hv;subst hv;have hl14:=vP.lt;have g14:=g13.kp Kt (λb hb=>⟨by have:=o1f b hb;omega,trivial⟩);have e14:w14.heap[w2.heap.size]?=some (cl [.string (bs x.s),i64 x.at_,.int .u32 0,.slice a1' (vs.length+1) rJ] dL):=by exact lookA
 have en:(vs++[d]).length=vs.length+1:=by simp
 have hd14:lV H6 (vs++[d]) (l++[.string (bs d.name),.int .u32 d.n,.slice (some ⟨qb,0,none⟩) d.procs.length qc]):=lV.snoc ht6 ⟨qb,qr,qc,rfl,hqs⟩ (hdL.le hg6.1);cases bb with
 |false=>
  refine gg ?_;simp only[Bool.false_eq_true,if_false]at BC;refine hC n [] w14 omg ⟨q14,vs++[d],ns',us',_,_,o1',H6,rfl,by rw[en];omega,vP,Z8,hd14,Uf,e14,by rw[en];exact g14,aW.kp s13 Kt ⟨omg,trivial⟩,aH.kp u13 Kt ⟨omg,trivial⟩,o1f,ZU.out,omg,BC⟩
 |true=>
  have hc14:=vP.hp;rw[bF]at hc14;refine gg ?_;simp only[if_true,Res.aS]at BC;refine Cl.bind (w0:=wZ) (X0:=PX B) BC (O5 vP) hno ?_;rintro⟨n15,nu15,q15⟩ v w15 Xv hk15 hq15 hs15 ⟨rfl,H15,hg15,Ko⟩;dsimp only at Xv Ko;have hl15:=Ko.lt;have e15:w15.heap[w2.heap.size]?=some (cl [.string (bs x.s),i64 x.at_,.int .u32 0,.slice a1' (vs.length+1) rJ] dL):=by exact lookA
  have g15:=g14.kp hk15 (λb hb=>⟨by have:=o1f b hb;omega,trivial⟩);have hHe15:=hg15.lacks Uf omg;refine gg ?_;refine(λ(Q:∀w9,Kp [(w2.heap.size,w2.heap.size+1)] w15 w9/\w9.heap[w2.heap.size]?=some (cl [.string (bs x.s),i64 x.at_,.int .u32 n15,.slice a1' (vs.length+1) rJ] dL)->R (.returned (.iface 171 (pt w2.heap.size 0))) w9)=>Q _ ⟨kpA,lookA⟩) ?_;rintro w16 ⟨k16,e16⟩;have b16:=Ko.tmp k16 omg hHe15;have g16:=g15.kp k16 (λb hb=>⟨by have:=o1f b hb;omega,trivial⟩);obtain⟨c1,nZ,cap1,rfl,hv1,hh1⟩:=Gw.some g16 omg;cases hv1;have oc1:=o1f c1 rfl;have zc1:=g14.lt c1 rfl;obtain⟨H0,G0,L0,A0,R0,N0⟩:=b16.frz (Z8.trans hg15 omg) e16 omg hHe15 omg;obtain⟨H1,G1,L1,A1,R1,N1⟩:=A0.frz G0 hh1 omg (by rw[N0 _ omg];exact hg15.lacks oc1.2 zc1) omg;have hD:jH H1 ⟨x.s,x.at_,.prog n15 (vs++[d])⟩ (.iface rY (pt w2.heap.size 0)):=by
   refine⟨w2.heap.size,_,_,rfl,L1 _ _ R0,hd14.le (hg15.1.trans (L0.trans L1)),⟨c1,nZ,rJ,by rw[en],R1⟩⟩
  exact hok _ _ _ Xv kpA ⟨H1,G1,hD,A1⟩
end Go.W.T

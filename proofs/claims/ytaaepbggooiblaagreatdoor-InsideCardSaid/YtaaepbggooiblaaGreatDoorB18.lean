/- Texts of mine, one behind the other; nothing is assumed. -/
import Derived.Test.YtaaepbggooiblaaGreatDoorB17
import Derived.Test.YtaaepbggooiblaaGreatDoorB06
set_option linter.unusedSimpArgs false
set_option linter.unusedVariables false
set_option maxRecDepth 4000
namespace Go.W.T
open Go Go.W Go.M Go.Proofs
theorem PR.tmp2{B:Nat}{H:Hp}{w w':World}{p:PS}{a b:Nat}(h:PR B H w p)(k:Kp [(a,a+1),(b,b+1)] w w')(hB:B+6≤a)(ha:H a=none)(hB2:B+6≤b)(hb:H b=none):PR B H w' p:=by
 refine h.kp k (fun i h1=>⟨by omega,by omega,trivial⟩) (fun i h1 h2=>⟨by omega,by omega,trivial⟩) (fun c x hx=>⟨?_,?_,trivial⟩)
 ·by_cases e:c=a
  ·subst e;rw[ha]at hx;cases hx
  ·omega
 ·by_cases e:c=b
  ·subst e;rw[hb]at hx;cases hx
  ·omega
set_option maxHeartbeats 1000000 in
theorem Q3{B s0 t0:Nat}{H:Hp}{w:World}{p:PS}{l:List By}{nums:List Int}(h:PR B H w p)(hs0:B+6≤s0)(ht0:B+6≤t0)(hst:s0≠t0)(hset:aF w s0 l)(hnum:ak .u32 w t0 nums):
  Calls P kY #[pt (B+5) 0,.map (some s0),.map (some t0)] w (Post w (version p l nums) [(B,B+6),(s0,s0+1),(t0,t0+1)] fun x v w'=>
   ∃H' q,v=.agg #[.string (bs x.1.name),.int .u32 x.1.n,q]∧Gr H H' w.heap.size∧(∃pl,dR H' x.1.procs pl∧SlF H' aP x.1.procs.length pl q)∧aF w' s0 x.2.1∧ak .u32 w' t0 x.2.2.1∧PR B H' w' x.2.2.2):=by
 refine Post.R fun R M hM hok hno=>?_
 apply wu
 unfold kG
 have hl:=h.lt
 have hs0l:s0<w.heap.size:=by obtain⟨_,_,a,_⟩:=hset;exact lt_of_heap a
 have ht0l:t0<w.heap.size:=by obtain⟨_,_,a,_⟩:=hnum;exact lt_of_heap a
 have hfr:∀b,w.heap.size≤b→H b=none:=fun b hb=>h.sub.fresh hb
 rw[version]at hM
 repeat' first|refine .x ?_|refine .y ?_|refine .z ?_|fail
 refine Cl.bind (w0:=w) (X0:=[(B,B+6),(s0,s0+1),(t0,t0+1)]) hM (aW (h.ext (by exact kpA)) [[118,101,114,115,105,111,110]]) hno ?_
 rintro q1 v w1 hM hk1 hq1 hs1 ⟨rfl,hp1⟩
 have hl1:=hp1.lt
 simp only[size_alloc]at hs1
 have Iq:aF w1 s0 l:=aF.kp (aF.kp (X:=[]) hset (by exact kpA) trivial) hk1 ⟨by omega,trivial⟩
 have hnum1:ak .u32 w1 t0 nums:=ak.kp (ak.kp (X:=[]) hnum (by exact kpA) trivial) hk1 ⟨by omega,trivial⟩
 refine Cl.bind (w0:=w) (X0:=[(B,B+6),(s0,s0+1),(t0,t0+1)]) hM (JW hp1 hs0 Iq) hno ?_
 rintro⟨x,l2,q2⟩ v w2 hM hk2 hq2 hs2 ⟨rfl,NJ,hp2⟩
 have hl2:=hp2.lt
 dsimp only at hM hp2 NJ
 have hnum2:ak .u32 w2 t0 nums:=ak.kp hnum1 hk2 ⟨by omega,by omega,trivial⟩
 repeat' first|refine .x ?_|refine .y ?_|refine .z ?_|fail
 refine Cl.bind (w0:=w) (X0:=[(B,B+6),(s0,s0+1),(t0,t0+1)]) hM (aW (hp2.ext (by exact kpA)) [[123]]) hno ?_
 rintro q3 v w3 hM hk3 hq3 hs3 ⟨rfl,hp3⟩
 have hl3:=hp3.lt
 simp only[size_alloc,ag]at hs3
 have he3:w3.heap[w2.heap.size]?=some (cl [.string (bs x.s),.int .u32 0,.slice none 0 0] ay):=by exact lookA
 have hr3:w3.heap[w.heap.size]?=some (cl [.string ⟨#[]⟩,.int .u32 0,.slice none 0 0] ay):=by exact lookA
 have hset3:aF w3 s0 l2:=aF.kp (aF.kp (X:=[]) NJ (by exact kpA) trivial) hk3 ⟨by omega,trivial⟩
 have hnum3:ak .u32 w3 t0 nums:=ak.kp (ak.kp (X:=[]) hnum2 (by exact kpA) trivial) hk3 ⟨by omega,trivial⟩
 have Y3:Kp [(B,B+6),(s0,s0+1),(t0,t0+1)] w w3:=hq3.out
 repeat' first|refine .x ?_|refine .y ?_|refine .z ?_|fail
 refine Lp.nat (n:=8) (fun n vals w'=>∃(p':PS) (qs:List rP) (ws:List By) (ns:List Int) (cs:List Value) (v1:Value) (o1:Option Nat) (H':Hp),vals=[]∧qs.length+n=8∧PR B H' w' p'∧Gr H H' w.heap.size∧dR H' qs cs∧H' w2.heap.size=none∧H' w.heap.size=none ∧
  w'.heap[w2.heap.size]?=some (cl [.string (bs x.s),.int .u32 0,v1] ay)∧w'.heap[w.heap.size]?=some (cl [.string ⟨#[]⟩,.int .u32 0,.slice none 0 0] ay) ∧
  Gw w' aP 4 v1 qs.length cs o1∧aF w' w3.heap.size ws∧ak .u32 w' (w3.heap.size+1) ns∧aF w' s0 l2∧ak .u32 w' t0 nums ∧
  (∀b,o1=some b→w3.heap.size+1<b∧H' b=none)∧Kp [(B,B+6),(s0,s0+1),(t0,t0+1)] w w'∧w3.heap.size+1<w'.heap.size ∧
  M=(sV n p' qs ws ns).andThen fun x_1=>(numbered x_1.2 nums).andThen fun n=>.ok (⟨x.s,n.1,x_1.1⟩,l2,n.2.1,n.2.2)) ?_ ?_
 ·refine⟨q3,[],[],[],[],.slice none 0 0,none,H,rfl,rfl,hp3.ext (by exact kpA),Gr.refl _ _,trivial,hfr _ (by omega),hfr _ (by omega),by exact lookA,by exact lookA,Gw.nil _ _ _,⟨#[],0,(by exact lookA),MK.empty⟩,⟨#[],0,(by exact lookA),MK.empty⟩,
   aF.kp (X:=[]) hset3 (by exact kpA) trivial,ak.kp (X:=[]) hnum3 (by exact kpA) trivial,by simp,by exact kpA,by simp only[size_alloc];omega,hM⟩
 rintro n _ wL jk C ⟨p',qs,ws,ns,cs,v1,o1,H',rfl,hn,hpL,hgL,hdL,hHe,hHr,heL,hrL,hg1,hsL,huL,hset4,hnum4,ho1,hkL,WJ,hML⟩ hC
 obtain⟨a1,cp1,rfl⟩:=hg1.len
 have hlL:=hpL.lt
 repeat' first|refine .x ?_|refine .y ?_|refine .z ?_|fail
 cases n with
 |zero=>
  refine Cl.eX (w0:=w) (X0:=[(B,B+6),(s0,s0+1),(t0,t0+1)]) (m:=count p' qs.length 8) (k:=fun _=>M) ?_ (iO hpL qs.length 8) hno ?_
  ·rw[count,if_pos (by omega)];rw[hML,sV];rfl
  ·rintro _ v w4 e4
   have:=gJ e4
   omega
 |succ n=>
 refine Cl.eX (w0:=w) (X0:=[(B,B+6),(s0,s0+1),(t0,t0+1)]) (m:=count p' qs.length 8) (k:=fun _=>M) (by rw[count,if_neg (by omega)];rfl) (iO hpL qs.length 8) hno ?_
 rintro _ v w4 e4 _ hk4 hq4 hs4 rfl
 rw[sV]at hML
 simp only[Res.assoc]at hML
 have c1:=gJ e4
 refine Cl.bind (w0:=w) (X0:=[(B,B+6),(s0,s0+1),(t0,t0+1)]) hML (S9 hpL) hno ?_
 rintro⟨rt,q5⟩ rv w5 hM5 hk5 hq5 hs5 ⟨H5,hg5,hr5,hp5⟩
 have hl5:=hp5.lt
 dsimp only at hM5 hp5 hr5
 obtain⟨ri,ru,rfl⟩:=hr5.form
 repeat' first|refine .x ?_|refine .y ?_|refine .z ?_|fail
 have hsw5:aF w5 w3.heap.size ws:=aF.kp hsL hk5 ⟨by omega,trivial⟩
 refine Cl.w (fun w9=>Kp [] w5 w9∧w9.heap[w5.heap.size]?=some (cl [.string ⟨#[]⟩,.int .u32 0,.nilIface,.iface ri ru] aP)) ⟨by exact kpA,by exact lookA⟩ ?_
 rintro w6 ⟨k6,n6⟩
 have z6:=lt_of_heap n6
 refine Cl.bind (w0:=w) (X0:=[(B,B+6),(s0,s0+1),(t0,t0+1)]) hM5 (JW (hp5.ext k6) (by omega) (aF.kp hsw5 k6 trivial)) hno ?_
 rintro⟨x7,ws7,q7⟩ v w7 hM7 hk7 hq7 hs7 ⟨rfl,XG,hp7⟩
 have hl7:=hp7.lt
 dsimp only at hM7 hp7 XG
 have n7:w7.heap[w5.heap.size]?=some (cl [.string ⟨#[]⟩,.int .u32 0,.nilIface,.iface ri ru] aP):=by exact lookA
 have f7:H5 w5.heap.size=none:=hp5.sub.fresh (Nat.le_refl _)
 repeat' first|refine .x ?_|refine .y ?_|refine .z ?_|fail
 refine Cl.w (fun w9=>Kp [(w5.heap.size,w5.heap.size+1)] w7 w9∧w9.heap[w5.heap.size]?=some (cl [.string (bs x7.s),.int .u32 0,.nilIface,.iface ri ru] aP)∧w9.heap[w7.heap.size]?=some (cl [κs [40]] lV)) ⟨by exact kpA,by exact lookA,by exact lookA⟩ ?_
 rintro w8 ⟨k8,n8,m8⟩
 have z8:=k8.size
 refine Cl.bind (w0:=w) (X0:=[(B,B+6),(s0,s0+1),(t0,t0+1)]) hM7 (aW (hp7.tmp k8 (by omega) f7) [[40]]) hno ?_
 rintro q9 v w9 hM9 hk9 hq9 hs9 ⟨rfl,hp9⟩
 have hl9:=hp9.lt
 have n9:w9.heap[w5.heap.size]?=some (cl [.string (bs x7.s),.int .u32 0,.nilIface,.iface ri ru] aP):=by exact lookA
 refine Cl.bind (w0:=w) (X0:=[(B,B+6),(s0,s0+1),(t0,t0+1)]) hM9 (S9 hp9) hno ?_
 rintro⟨ZF,q10⟩ av w10 hM10 hk10 hq10 hs10 ⟨H10,Zj,Zm,Y9⟩
 have hl10:=Y9.lt
 dsimp only at hM10 Y9 Zm
 obtain⟨ai,au,rfl⟩:=Zm.form
 have n10:w10.heap[w5.heap.size]?=some (cl [.string (bs x7.s),.int .u32 0,.nilIface,.iface ri ru] aP):=by exact lookA
 have f10:H10 w5.heap.size=none:=Zj.lacks f7 (by omega)
 repeat' first|refine .x ?_|refine .y ?_|refine .z ?_|fail
 refine Cl.w (fun w9=>Kp [(w5.heap.size,w5.heap.size+1)] w10 w9∧w9.heap[w5.heap.size]?=some (cl [.string (bs x7.s),.int .u32 0,.iface ai au,.iface ri ru] aP)∧w9.heap[w10.heap.size]?=some (cl [κs [41]] lV)) ⟨by exact kpA,by exact lookA,by exact lookA⟩ ?_
 rintro w11 ⟨k11,n11,m11⟩
 have z11:=k11.size
 refine Cl.bind (w0:=w) (X0:=[(B,B+6),(s0,s0+1),(t0,t0+1)]) hM10 (aW (Y9.tmp k11 (by omega) f10) [[41]]) hno ?_
 rintro q12 v w12 WY hk12 hq12 hs12 ⟨rfl,Sj⟩
 have hl12:=Sj.lt
 have n12:w12.heap[w5.heap.size]?=some (cl [.string (bs x7.s),.int .u32 0,.iface ai au,.iface ri ru] aP):=by exact lookA
 have kA:Kp [(B,B+6),(w3.heap.size,w3.heap.size+1)] w4 w12:=by exact kpA
 have hu12:ak .u32 w12 (w3.heap.size+1) ns:=ak.kp huL kA ⟨by omega,by omega,trivial⟩
 clear kA
 refine Cl.bind (w0:=w) (X0:=[(B,B+6),(s0,s0+1),(t0,t0+1)]) WY (GX Sj (by omega) hu12) hno ?_
 rintro⟨n13,ns13,q13⟩ v w13 hM13 hk13 hq13 hs13 ⟨rfl,H13,WW,hu13,WR⟩
 have hl13:=WR.lt
 dsimp only at hM13 WR hu13
 have n13':w13.heap[w5.heap.size]?=some (cl [.string (bs x7.s),.int .u32 0,.iface ai au,.iface ri ru] aP):=by exact lookA
 have f13:H13 w5.heap.size=none:=WW.lacks f10 (by omega)
 have hws13:aF w13 w3.heap.size ws7:=by
  have:Kp [(B,B+6),(w5.heap.size,w5.heap.size+1),(w3.heap.size+1,w3.heap.size+2)] w7 w13:=by exact kpA
  exact aF.kp XG this ⟨by omega,by omega,by omega,trivial⟩
 have kB:Kp [(B,B+6),(w3.heap.size,w3.heap.size+2)] w4 w13:=by exact kpA
 have he13:w13.heap[w2.heap.size]?=some (cl [.string (bs x.s),.int .u32 0,.slice a1 qs.length cp1] ay):=(kB.same _ (by omega) ⟨by omega,by omega,trivial⟩).trans heL
 have hr13:w13.heap[w.heap.size]?=some (cl [.string ⟨#[]⟩,.int .u32 0,.slice none 0 0] ay):=(kB.same _ (by omega) ⟨by omega,by omega,trivial⟩).trans hrL
 have hg113:=hg1.kp kB (fun b hb=>⟨by have:=ho1 b hb;omega,by have:=ho1 b hb;omega,trivial⟩)
 have Y2:aF w13 s0 l2:=aF.kp hset4 kB ⟨by omega,by omega,trivial⟩
 have Zb:ak .u32 w13 t0 nums:=ak.kp hnum4 kB ⟨by omega,by omega,trivial⟩
 have hgr:Gr H' H13 w4.heap.size:=(hg5.trans (Zj.trans WW (by omega)) (by omega)).mono (by omega)
 have UK:=hgr.lacks hHe (by omega)
 have XM:=hgr.lacks hHr (by omega)
 have ho13:∀b,o1=some b→H13 b=none:=fun b hb=>hgr.lacks (ho1 b hb).2 (hg1.lt b hb)
 repeat' first|refine .x ?_|refine .y ?_|refine .z ?_|fail
 refine Ap.w (fun w9=>Kp [(w5.heap.size,w5.heap.size+1)] w13 w9∧w9.heap[w13.heap.size]?=some (cl [.string (bs x7.s),.int .u32 n13,.iface ai au,.iface ri ru] aP)) ⟨by exact kpA,by exact lookA⟩ ?_
 rintro w14 ⟨k14,m14⟩
 have z14:=lt_of_heap m14
 refine Ap.g (hg113.kp k14 (fun b hb=>⟨by have:=hg1.lt b hb;omega,trivial⟩)) m14 rfl rfl ?_ (by omega)
 intro v1 w15 o1' g1 Ir k15
 have z15:=k15.size
 have nv:∀b,o1=some b→b<w4.heap.size:=hg1.lt
 have e15:w15.heap[w2.heap.size]?=some (cl [.string (bs x.s),.int .u32 0,.slice a1 qs.length cp1] ay):=
  (k15.same w2.heap.size (by omega) (aB fun hb=>by have:=ho1 _ hb;omega)).trans ((k14.same w2.heap.size (by omega) ⟨by omega,trivial⟩).trans he13)
 have r15:w15.heap[w.heap.size]?=some (cl [.string ⟨#[]⟩,.int .u32 0,.slice none 0 0] ay):=
  (k15.same w.heap.size (by omega) (aB fun hb=>by have:=ho1 _ hb;omega)).trans ((k14.same w.heap.size (by omega) ⟨by omega,trivial⟩).trans hr13)
 have s15:=aF.kp (aF.kp hws13 k14 ⟨by omega,trivial⟩) k15 (aB fun hb=>by have:=ho1 _ hb;omega)
 have u15:=ak.kp (ak.kp hu13 k14 ⟨by omega,trivial⟩) k15 (aB fun hb=>by have:=ho1 _ hb;omega)
 have s015:=aF.kp (aF.kp Y2 k14 ⟨by omega,trivial⟩) k15 (aB fun hb=>by have:=ho1 _ hb;omega)
 have t015:=ak.kp (ak.kp Zb k14 ⟨by omega,trivial⟩) k15 (aB fun hb=>by have:=ho1 _ hb;omega)
 have b15:=(WR.tmp k14 (by omega) f13).own k15 (fun b hb=>⟨by have:=ho1 b hb;omega,ho13 b hb⟩)
 obtain⟨a1',rJ,rfl⟩:=g1.len
 repeat' first|refine .x ?_|refine .y ?_|refine .z ?_|fail
 refine Cl.w (fun w9=>Kp [(w2.heap.size,w2.heap.size+1)] w15 w9 ∧
   w9.heap[w2.heap.size]?=some (cl [.string (bs x.s),.int .u32 0,.slice a1' (qs.length+1) rJ] ay)) ⟨by exact kpA,by exact lookA⟩ ?_
 rintro w16 ⟨k16,e16⟩
 have z16:=k16.size
 have b16:=b15.tmp k16 (by omega) UK
 have o1f:∀b,o1'=some b→w3.heap.size+1<b∧H13 b=none:=by
  intro b hb
  rcases Ir with r|r<;>rw[r]at hb
  ·exact⟨(ho1 b hb).1,ho13 b hb⟩
  ·cases hb;exact⟨by omega,WR.sub.fresh (by omega)⟩
 have g16:=g1.kp k16 (fun b hb=>⟨by have:=o1f b hb;omega,trivial⟩)
 have r16:w16.heap[w.heap.size]?=some (cl [.string ⟨#[]⟩,.int .u32 0,.slice none 0 0] ay):=(k16.same w.heap.size (by omega) ⟨by omega,trivial⟩).trans r15
 have kk:Kp [(B,B+6),(s0,s0+1),(t0,t0+1)] w w16:=by
  have c2:=(hq13.out.trans k14 (fun i hi ho=>⟨ho,by omega,trivial⟩):Kp [(B,B+6),(s0,s0+1),(t0,t0+1)] w w14).own k15 (fun b hb=>by have:=ho1 b hb;omega)
  exact c2.trans k16 (fun i hi ho=>⟨ho,by omega,trivial⟩)
 refine Cl.bind (w0:=w) (X0:=[(B,B+6),(s0,s0+1),(t0,t0+1)]) (hkp:=kk) hM13 (gu b16 [125]) hno ?_
 rintro⟨bb,q17⟩ v w17 UJ Iu hq17 hs17 ⟨hv,WQ⟩
 dsimp only at UJ WQ hv
 subst hv
 have hl17:=WQ.lt
 have g17:=g16.kp Iu (fun b hb=>⟨by have:=o1f b hb;omega,trivial⟩)
 have e17:w17.heap[w2.heap.size]?=some (cl [.string (bs x.s),.int .u32 0,.slice a1' (qs.length+1) rJ] ay):=by exact lookA
 have r17:w17.heap[w.heap.size]?=some (cl [.string ⟨#[]⟩,.int .u32 0,.slice none 0 0] ay):=by exact lookA
 have s17:=aF.kp (aF.kp s15 k16 ⟨by omega,trivial⟩) Iu ⟨by omega,trivial⟩
 have u17:=ak.kp (ak.kp u15 k16 ⟨by omega,trivial⟩) Iu ⟨by omega,trivial⟩
 have s017:=aF.kp (aF.kp s015 k16 ⟨by omega,trivial⟩) Iu ⟨by omega,trivial⟩
 have t017:=ak.kp (ak.kp t015 k16 ⟨by omega,trivial⟩) Iu ⟨by omega,trivial⟩
 have en:∀q:rP,(qs++[q]).length=qs.length+1:=fun q=>by simp
 have hd17:dR H13 (qs++[⟨x7.s,n13,ZF,rt⟩]) (cs++[.string (bs x7.s),.int .u32 n13,.iface ai au,.iface ri ru]):=
  dR.snoc (q:=⟨x7.s,n13,ZF,rt⟩) (Zm.le WW.1) (hr5.le (Hle.trans Zj.1 WW.1)) (hdL.le hgr.1)
 have hgr':Gr H H13 w.heap.size:=hgL.trans hgr (by have:=hkL.size;omega)
 cases bb with
 |false=>
  repeat' first|refine .x ?_|refine .y ?_|refine .z ?_|fail
  simp only[Bool.false_eq_true,if_false]at UJ
  refine hC n [] w17 (by omega) ⟨q17,qs++[⟨x7.s,n13,ZF,rt⟩],ws7,ns13,_,_,o1',H13,rfl,by rw[en];omega,WQ,hgr',hd17,UK,XM,e17,r17,by rw[en];exact g17,s17,u17,s017,t017,o1f,hq17.out,by omega,UJ⟩
 |true=>
  repeat' first|refine .x ?_|refine .y ?_|refine .z ?_|fail
  simp only[if_true,Res.dw]at UJ
  refine Cl.bind (w0:=w) (X0:=[(B,B+6),(s0,s0+1),(t0,t0+1)]) UJ (GX WQ ht0 t017) hno ?_
  rintro⟨n18,nu18,q18⟩ v w18 hM18 hk18 hq18 hs18 ⟨rfl,H18,UG,ht18,Y6⟩
  have hl18:=Y6.lt
  dsimp only at hM18 Y6 ht18
  have e18:w18.heap[w2.heap.size]?=some (cl [.string (bs x.s),.int .u32 0,.slice a1' (qs.length+1) rJ] ay):=by exact lookA
  have r18:w18.heap[w.heap.size]?=some (cl [.string ⟨#[]⟩,.int .u32 0,.slice none 0 0] ay):=by exact lookA
  have g18:=g17.kp hk18 (fun b hb=>⟨by have:=o1f b hb;omega,by have:=o1f b hb;omega,trivial⟩)
  have s018:=aF.kp s017 hk18 ⟨by omega,by omega,trivial⟩
  obtain⟨c1,Dx,cap1,rfl,hv1,hh1⟩:=Gw.some g18 (by omega)
  cases hv1
  have oc1:=o1f c1 rfl
  have zc1:=g17.lt c1 rfl
  have hHe18:=UG.lacks UK (by omega)
  have hHr18:=UG.lacks XM (by omega)
  obtain⟨H1,G1,L1,A1,R1,N1⟩:=Y6.frz (hgr'.trans UG (by omega)) hh1 (by omega) (UG.lacks oc1.2 zc1) (by omega)
  have hHe1:H1 w2.heap.size=none:=by rw[N1 _ (by omega)];exact hHe18
  have hHr1:H1 w.heap.size=none:=by rw[N1 _ (by omega)];exact hHr18
  repeat' first|refine .x ?_|refine .y ?_|refine .z ?_|fail
  refine hok _ _ _ hM18 (by exact kpA) ⟨H1,_,rfl,G1,⟨_,hd17.le (Hle.trans UG.1 L1),⟨c1,Dx,rJ,by rw[en],R1⟩⟩,?_,?_,?_⟩
  ·exact aF.kp (X:=[(w2.heap.size,w2.heap.size+1),(w.heap.size,w.heap.size+1)]) s018 (by exact kpA) ⟨by omega,by omega,trivial⟩
  ·exact ak.kp (X:=[(w2.heap.size,w2.heap.size+1),(w.heap.size,w.heap.size+1)]) ht18 (by exact kpA) ⟨by omega,by omega,trivial⟩
  ·exact A1.tmp2 (a:=w2.heap.size) (b:=w.heap.size) (by exact kpA) (by omega) hHe1 (by omega) hHr1
set_option maxHeartbeats 1000000 in
theorem Q8{B:Nat}{H:Hp}{w:World}{p:PS}(h:PR B H w p):
  Calls P lg #[pt (B+5) 0] w (Post w (Go.M.program p) (PX B) fun x v w'=>∃H',Gr H H' w.heap.size∧fQ H' x.1 v∧PR B H' w' x.2):=by
 refine Post.R fun R M hM hok hno=>?_
 apply wC
 unfold kJ
 have hl:=h.lt
 have hfr:∀b,w.heap.size≤b→H b=none:=fun b hb=>h.sub.fresh hb
 have hp:=h.hp
 rw[aO]at hp
 rw[Go.M.program]at hM
 repeat' first|refine .x ?_|refine .y ?_|refine .z ?_|fail
 refine Cl.eX (w0:=w) (X0:=PX B) hM (iO h p.n2 4) hno ?_
 rintro _ v wZ e0 hM hk0 hq0 hs0 rfl
 have c2:=gJ e0
 repeat' first|refine .x ?_|refine .y ?_|refine .z ?_|fail
 have h0:PR B H (ah wZ.drew (B+5) (cl (aO B { p with n2:=p.n2+1 }) aI)) { p with n2:=p.n2+1 }:=
  h.counts (by exact kpA) (aj rfl (by simp only[size_drew];omega)) rfl h.c0 h.c1 (by show p.n2+1≤4;omega)
 refine Cl.bind (w0:=wZ) (X0:=PX B) hM (aW (h0.ext (by exact kpA)) [[112,114,111,103,114,97,109]]) hno ?_
 rintro q1 v w1 hM hk1 hq1 hs1 ⟨rfl,hp1⟩
 have hl1:=hp1.lt
 simp only[size_alloc,size_drew,ag]at hs1
 refine Cl.bind (w0:=wZ) (X0:=PX B) hM (Jj hp1) hno ?_
 rintro⟨x,q2⟩ v w2 hM hk2 hq2 hs2 ⟨rfl,hp2⟩
 have hl2:=hp2.lt
 dsimp only at hM hp2
 repeat' first|refine .x ?_|refine .y ?_|refine .z ?_|fail
 refine Cl.bind (w0:=wZ) (X0:=PX B) hM (aW (hp2.ext (by exact kpA)) [[123]]) hno ?_
 rintro q3 v w3 hM hk3 hq3 hs3 ⟨rfl,hp3⟩
 have hl3:=hp3.lt
 simp only[size_alloc,ag]at hs3
 have he3:w3.heap[w2.heap.size]?=some (cl [.string (bs x.s),i64 x.at_,.int .u32 0,.slice none 0 0] aU):=by exact lookA
 have Y3:Kp (PX B) wZ w3:=hq3.out
 repeat' first|refine .x ?_|refine .y ?_|refine .z ?_|fail
 refine Lp.nat (n:=4) (fun n vals w'=>∃(p':PS) (vs:List uz) (ns:List By) (us:List Int) (l:List Value) (v1:Value) (o1:Option Nat) (H':Hp),vals=[]∧vs.length+n=4∧PR B H' w' p'∧Gr H H' wZ.heap.size∧jl H' vs l∧H' w2.heap.size=none ∧
  w'.heap[w2.heap.size]?=some (cl [.string (bs x.s),i64 x.at_,.int .u32 0,v1] aU)∧Gw w' ay 3 v1 vs.length l o1∧aF w' w3.heap.size ns∧ak .u32 w' (w3.heap.size+1) us ∧
  (∀b,o1=some b→w3.heap.size+1<b∧H' b=none)∧Kp (PX B) wZ w'∧w3.heap.size+1<w'.heap.size ∧
  M=(rV n p' vs ns us).andThen fun x_1=>(numbered x_1.2 x_1.2.iQ).andThen fun n=>.ok (⟨x.s,x.at_,.prog n.1 x_1.1⟩,{ n.2.2 with iQ:=n.2.1 })) ?_ ?_
 ·refine⟨q3,[],[],[],[],.slice none 0 0,none,H,rfl,rfl,hp3.ext (by exact kpA),Gr.refl _ _,trivial,hfr _ (by omega),by exact lookA,Gw.nil _ _ _,⟨#[],0,(by exact lookA),MK.empty⟩,⟨#[],0,(by exact lookA),MK.empty⟩,by simp,by exact kpA,by simp only[size_alloc];omega,hM⟩
 rintro n _ wL jk C ⟨p',vs,ns,us,l,v1,o1,H',rfl,hn,hpL,hgL,hdL,hHe,heL,hg1,hsL,huL,ho1,hkL,WJ,hML⟩ hC
 obtain⟨a1,cp1,rfl⟩:=hg1.len
 have hlL:=hpL.lt
 repeat' first|refine .x ?_|refine .y ?_|refine .z ?_|fail
 cases n with
 |zero=>
  refine Cl.eX (w0:=wZ) (X0:=PX B) (m:=count p' vs.length 4) (k:=fun _=>M) ?_ (iO hpL vs.length 4) hno ?_
  ·rw[count,if_pos (by omega)];rw[hML,rV];rfl
  ·rintro _ v w4 e4
   have:=gJ e4
   omega
 |succ n=>
 refine Cl.eX (w0:=wZ) (X0:=PX B) (m:=count p' vs.length 4) (k:=fun _=>M) (by rw[count,if_neg (by omega)];rfl) (iO hpL vs.length 4) hno ?_
 rintro _ v w4 e4 _ hk4 hq4 hs4 rfl
 rw[rV]at hML
 simp only[Res.assoc]at hML
 have c1:=gJ e4
 repeat' first|refine .x ?_|refine .y ?_|refine .z ?_|fail
 refine Cl.bind (w0:=wZ) (X0:=PX B) hML (Q3 (hpL.ext (w':=w4.drew) (by exact kpA)) (s0:=w3.heap.size) (t0:=w3.heap.size+1) (by omega) (by omega) (by omega) (aF.kp (X:=[]) hsL (by exact kpA) trivial) (ak.kp (X:=[]) huL (by exact kpA) trivial)) hno ?_
 rintro⟨d,ns',us',q6⟩ v w6 hM6 hk6 hq6 hs6 ⟨H6,qv,rfl,hg6,⟨pl,ht6,hsl6⟩,Uy,hu6',hp6⟩
 have hl6:=hp6.lt
 dsimp only at hM6 hp6 ht6 hsl6 Uy hu6'
 rw[size_drew]at hs6 hg6
 have he6:w6.heap[w2.heap.size]?=some (cl [.string (bs x.s),i64 x.at_,.int .u32 0,.slice a1 vs.length cp1] aU):=by exact lookA
 have PI:=hg1.kp (w':=w4.drew) (X:=[]) (by exact kpA) (fun _ _=>trivial)
 have PI:=PI.kp hk6 (fun b hb=>⟨by have:=ho1 b hb;omega,by have:=ho1 b hb;omega,by have:=ho1 b hb;omega,trivial⟩)
 have PK:=hg6.lacks hHe (by omega)
 have ho6:∀b,o1=some b→H6 b=none:=fun b hb=>hg6.lacks (ho1 b hb).2 (hg1.lt b hb)
 have UF:Gr H H6 wZ.heap.size:=hgL.trans hg6 (by have:=hkL.size;omega)
 obtain⟨qb,qr,qc,rfl,hqs⟩:=hsl6
 repeat' first|refine .x ?_|refine .y ?_|refine .z ?_|fail
 refine Ap.w (fun w9=>Kp [] w6 w9∧w9.heap[w6.heap.size]?=some (cl [.string (bs d.name),.int .u32 d.n,.slice (some ⟨qb,0,none⟩) d.procs.length qc] ay)) ⟨by exact kpA,by exact lookA⟩ ?_
 rintro w9 ⟨k9,n9⟩
 have z9:=k9.size
 refine Ap.g (PI.kp k9 (fun _ _=>trivial)) n9 rfl rfl ?_ (by omega)
 intro v1 w10 o1' g1 Ir k10
 have z10:=k10.size
 have e10:w10.heap[w2.heap.size]?=some (cl [.string (bs x.s),i64 x.at_,.int .u32 0,.slice a1 vs.length cp1] aU):=
  (k10.same w2.heap.size (by omega) (aB fun hb=>by have:=ho1 _ hb;omega)).trans ((k9.same w2.heap.size (by omega) trivial).trans he6)
 have s10:=aF.kp (aF.kp Uy k9 trivial) k10 (aB fun hb=>by have:=ho1 _ hb;omega)
 have u10:=ak.kp (ak.kp hu6' k9 trivial) k10 (aB fun hb=>by have:=ho1 _ hb;omega)
 have b10:=(hp6.ext k9).own k10 (fun b hb=>⟨by have:=ho1 b hb;omega,ho6 b hb⟩)
 obtain⟨a1',rJ,rfl⟩:=g1.len
 repeat' first|refine .x ?_|refine .y ?_|refine .z ?_|fail
 refine Cl.w (fun w9=>Kp [(w2.heap.size,w2.heap.size+1)] w10 w9 ∧
   w9.heap[w2.heap.size]?=some (cl [.string (bs x.s),i64 x.at_,.int .u32 0,.slice a1' (vs.length+1) rJ] aU)) ⟨by exact kpA,by exact lookA⟩ ?_
 rintro w13 ⟨k13,e13⟩
 have z13:=k13.size
 have b13:=b10.tmp k13 (by omega) PK
 have s13:=aF.kp s10 k13 ⟨by omega,trivial⟩
 have u13:=ak.kp u10 k13 ⟨by omega,trivial⟩
 have z69:=lt_of_heap n9
 have o1f:∀b,o1'=some b→w3.heap.size+1<b∧H6 b=none:=by
  intro b hb
  rcases Ir with r|r<;>rw[r]at hb
  ·exact⟨(ho1 b hb).1,ho6 b hb⟩
  ·cases hb;exact⟨by omega,hp6.sub.fresh (by omega)⟩
 have g13:=g1.kp k13 (fun b hb=>⟨by have:=o1f b hb;omega,trivial⟩)
 have kk:Kp (PX B) wZ w13:=by
  have c2:=(hq6.out.trans k9 (fun i _ ho=>⟨ho,trivial⟩):Kp (PX B) wZ w9).own k10 (fun b hb=>by have:=ho1 b hb;omega)
  exact c2.trans k13 (fun i hi ho=>⟨ho,by omega,trivial⟩)
 refine Cl.bind (w0:=wZ) (X0:=PX B) (hkp:=kk) hM6 (gu b13 [125]) hno ?_
 rintro⟨bb,q14⟩ v w14 CX Je Uz hs14 ⟨hv,E8⟩
 dsimp only at CX E8 hv
 subst hv
 have hl14:=E8.lt
 have g14:=g13.kp Je (fun b hb=>⟨by have:=o1f b hb;omega,trivial⟩)
 have e14:w14.heap[w2.heap.size]?=some (cl [.string (bs x.s),i64 x.at_,.int .u32 0,.slice a1' (vs.length+1) rJ] aU):=by exact lookA
 have en:(vs++[d]).length=vs.length+1:=by simp
 have UH:jl H6 (vs++[d]) (l++[.string (bs d.name),.int .u32 d.n,.slice (some ⟨qb,0,none⟩) d.procs.length qc]):=jl.snoc ht6 ⟨qb,qr,qc,rfl,hqs⟩ (hdL.le hg6.1)
 cases bb with
 |false=>
  repeat' first|refine .x ?_|refine .y ?_|refine .z ?_|fail
  simp only[Bool.false_eq_true,if_false]at CX
  refine hC n [] w14 (by omega) ⟨q14,vs++[d],ns',us',_,_,o1',H6,rfl,by rw[en];omega,E8,UF,UH,PK,e14,by rw[en];exact g14,aF.kp s13 Je ⟨by omega,trivial⟩,ak.kp u13 Je ⟨by omega,trivial⟩,o1f,Uz.out,by omega,CX⟩
 |true=>
  have hc14:=E8.hp
  rw[aO]at hc14
  repeat' first|refine .x ?_|refine .y ?_|refine .z ?_|fail
  simp only[if_true,Res.dw]at CX
  refine Cl.bind (w0:=wZ) (X0:=PX B) CX (LD E8) hno ?_
  rintro⟨n15,nu15,q15⟩ v w15 Sm Zf Y4 WL ⟨rfl,H15,WV,Jd⟩
  dsimp only at Sm Jd
  have hl15:=Jd.lt
  have e15:w15.heap[w2.heap.size]?=some (cl [.string (bs x.s),i64 x.at_,.int .u32 0,.slice a1' (vs.length+1) rJ] aU):=by exact lookA
  have g15:=g14.kp Zf (fun b hb=>⟨by have:=o1f b hb;omega,trivial⟩)
  have XP:=WV.lacks PK (by omega)
  repeat' first|refine .x ?_|refine .y ?_|refine .z ?_|fail
  refine(fun(Q:∀w9,Kp [(w2.heap.size,w2.heap.size+1)] w15 w9∧w9.heap[w2.heap.size]?=some (cl [.string (bs x.s),i64 x.at_,.int .u32 n15,.slice a1' (vs.length+1) rJ] aU)→R (.returned (.iface 124 (pt w2.heap.size 0))) w9)=>Q _ ⟨by exact kpA,by exact lookA⟩) ?_
  rintro w16 ⟨k16,e16⟩
  have b16:=Jd.tmp k16 (by omega) XP
  have g16:=g15.kp k16 (fun b hb=>⟨by have:=o1f b hb;omega,trivial⟩)
  obtain⟨c1,Dx,cap1,rfl,hv1,hh1⟩:=Gw.some g16 (by omega)
  cases hv1
  have oc1:=o1f c1 rfl
  have zc1:=g14.lt c1 rfl
  obtain⟨H0,G0,L0,A0,R0,N0⟩:=b16.frz (UF.trans WV (by omega)) e16 (by omega) XP (by omega)
  obtain⟨H1,G1,L1,A1,R1,N1⟩:=A0.frz G0 hh1 (by omega) (by rw[N0 _ (by omega)];exact WV.lacks oc1.2 zc1) (by omega)
  have hD:fQ H1 ⟨x.s,x.at_,.prog n15 (vs++[d])⟩ (.iface su (pt w2.heap.size 0)):=by
   refine⟨w2.heap.size,_,_,rfl,L1 _ _ R0,UH.le (WV.1.trans (L0.trans L1)),⟨c1,Dx,rJ,by rw[en],R1⟩⟩
  exact hok _ _ _ Sm (by exact kpA) ⟨H1,G1,hD,A1⟩
end Go.W.T
namespace Go.W.T
open Go Go.W Go.M Go.Proofs
def QT(H:Hp):Option Decl→Value→Prop
 |none,v=>v=.pointer none
 |some x,v=>∃c t,v=pt c 0∧H c=some ([.string (bs x.name),t],fJ)∧iM H x.ty t
theorem Xa{B:Nat}{H:Hp}{w:World}{p:PS}{first:Bool}{E:KE}{K2:Value→World→Prop}(h:PR B H w p)(hT:∀w5,Kp [] w w5→K2 (.bool (first||p.w.is [99,97,115,101])) w5):
  Gd (.bool first) false w (fun K47=>K47 (pt (B+5) 0) w) fun x48 w49=>
  Gd (.bool first) false w49 (fun K50=>Nk x48 fun x51=>K50 x51 w49) fun x52 w53=>
  Gd (.bool first) false w53 (fun K54=>Fa x52 1 fun x55=>K54 x55 w53) fun x56 w57=>
  Gd (.bool first) false w57 (fun K58=>LdN x56 4 w57 fun x59=>K58 x59 w57) fun x60 w61=>
  Gd (.bool first) false w61 (fun K62=>Cl P 73 #[x60,(.string ⟨#[99,97,115,101]⟩)] w61 E fun x63 w64=>K62 x63 w64) fun x65 w66=>
  Pk (.bool first) (.bool true) x65 fun x67=>K2 x67 w66:=by
 have hp:=h.hp
 rw[aO]at hp
 cases first with
 |true=>
  repeat' first|refine .x ?_|refine .y ?_|refine .z ?_|fail
  exact hT w (Kp.refl _ _)
 |false=>
  repeat' first|refine .x ?_|refine .y ?_|refine .z ?_|fail
  refine Cl.plain (w0:=w) (X0:=[]) (yK w p.w [99,97,115,101]) (fun w1 hk1 hq1 hs1=>?_) (by exact kpA)
  repeat' first|refine .x ?_|refine .y ?_|refine .z ?_|fail
  exact hT w1 hk1
theorem MK.len{α:Type}{κ:α→Value}{es:Array MapEntry}{clock:Nat}{m:List (α×Value)}(h:MK κ es clock m):es.size=m.length:=by
 have:=congrArg List.length h.1
 simpa using this
theorem g_len{w:World}{t:Nat}{k:IntKind}{l:List Int}{K:KV}(h:ak k w t l)(hK:K (i64 l.length) w):bY P (Builtin.len_ #[292] 3 #[.map (some t)]) w K:=by
 obtain⟨es,ck,h1,h2⟩:=h
 have h3:=MK.len h2
 rw[List.length_map]at h3
 refine bY.by (v:=i64 l.length) (w':=w) ?_ hK
 obtain⟨a,b,hu⟩:∃a b,P.underlying 292=some (.map a b):=by
  have hb:(match P.underlying 292 with|some (.map _ _)=>true|_=>false)=true:=by kernel_rfl
  split at hb
  ·rename_i h;exact⟨_,_,h⟩
  ·cases hb
 rw[← h3]
 have hg:(getObj t).run P w=.ok (.map es ck) w:=by simp[getObj,Sem.run,h1]
 simp[Builtin.len_,run_underlying hu,hg,goInt]
set_option maxHeartbeats 1000000 in
theorem Vr{B:Nat}{H:Hp}{w:World}{p:PS}(h:PR B H w p):
  Calls P nY #[pt (B+5) 0] w (Post w (Go.M.union p) (PX B) fun x v w'=>∃H',Gr H H' w.heap.size∧fQ H' x.1 v∧PR B H' w' x.2):=by
 refine Post.R fun R M hM hok hno=>?_
 apply yM
 unfold nG
 have hl:=h.lt
 have hfr:∀b,w.heap.size≤b→H b=none:=fun b hb=>h.sub.fresh hb
 rw[Go.M.union]at hM
 repeat' first|refine .x ?_|refine .y ?_|refine .z ?_|fail
 refine Cl.bind (w0:=w) (X0:=PX B) hM (aW (h.ext (by exact kpA)) [[117,110,105,111,110]]) hno ?_
 rintro q1 v w1 hM hk1 hq1 hs1 ⟨rfl,hp1⟩
 have hl1:=hp1.lt
 simp only[size_alloc]at hs1
 refine Cl.bind (w0:=w) (X0:=PX B) hM (Jj hp1) hno ?_
 rintro⟨x,q2⟩ v w2 hM hk2 hq2 hs2 ⟨rfl,hp2⟩
 have hl2:=hp2.lt
 dsimp only at hM hp2
 repeat' first|refine .x ?_|refine .y ?_|refine .z ?_|fail
 refine Cl.bind (w0:=w) (X0:=PX B) hM (aW (hp2.ext (by exact kpA)) [[115,119,105,116,99,104],[40]]) hno ?_
 rintro q3 v w3 hM hk3 hq3 hs3 ⟨rfl,hp3⟩
 have hl3:=hp3.lt
 simp only[size_alloc]at hs3
 have he3:w3.heap[w2.heap.size]?=some (cl [.string (bs x.s),i64 x.at_,.nilIface,.string ⟨#[]⟩,.slice none 0 0,.pointer none] aG):=by exact lookA
 refine Cl.bind (w0:=w) (X0:=PX B) hM (GY hp3) hno ?_
 rintro⟨⟨dt,lo,hi,nums⟩,q4⟩ v w4 hM hk4 hq4 hs4 ⟨H4,dv,nv,rfl,hg4,hd4,hn4,hp4⟩
 have hl4:=hp4.lt
 dsimp only at hM hp4 hd4 hn4
 obtain⟨di,du,rfl⟩:=hd4.form
 have he4:w4.heap[w2.heap.size]?=some (cl [.string (bs x.s),i64 x.at_,.nilIface,.string ⟨#[]⟩,.slice none 0 0,.pointer none] aG):=by exact lookA
 have hHe4:H4 w2.heap.size=none:=hg4.lacks (hfr _ (by omega)) (by omega)
 obtain⟨na,nl,nc,rfl⟩:∃a n c,nv=.slice a n c:=by
  cases nums with
  |none=>cases hn4;exact⟨_,_,_,rfl⟩
  |some l=>obtain⟨_,_,_,rfl,_,_⟩:=hn4;exact⟨_,_,_,rfl⟩
 repeat' first|refine .x ?_|refine .y ?_|refine .z ?_|fail
 refine Cl.w (fun w9=>Kp [(w2.heap.size,w2.heap.size+1)] w4 w9∧w4.heap.size+2≤w9.heap.size∧w9.heap[w4.heap.size]?=some (cl [.slice na nl nc] A7)∧w9.heap[w4.heap.size+1]?=some (.map #[] 0) ∧
  w9.heap[w2.heap.size]?=some (cl [.string (bs x.s),i64 x.at_,.iface di du,.string ⟨#[]⟩,.slice none 0 0,.pointer none] aG)) ⟨by exact kpA,by simp only[size_alloc,ag];omega,by exact lookA,by exact lookA,by exact lookA⟩ ?_
 rintro w5 ⟨k5,z5,nb5,m5,e5⟩
 have hp5:=hp4.tmp k5 (by omega) hHe4
 obtain⟨H5,G5,L5,A5,R5,N5⟩:=hp5.frz (hg4.mono (show w.heap.size≤_ by omega)) nb5 (by omega) (hp4.sub.fresh (Nat.le_refl _)) (by omega)
 have hHe5:H5 w2.heap.size=none:=by rw[N5 _ (by omega)];exact hHe4
 refine Cl.bind (w0:=w) (X0:=PX B) hM (JW (s:=w4.heap.size+1) (l:=[]) A5 (by omega) ⟨#[],0,m5,MK.empty⟩) hno ?_ (hkp:=hq4.out.trans k5 (fun i hi ho=>⟨ho,by omega,trivial⟩))
 rintro⟨x6,ns6,q6⟩ v w6 hM6 hk6 hq6 hs6 ⟨rfl,XH,hp6⟩
 have hl6:=hp6.lt
 dsimp only at hM6 hp6 XH
 have e6:w6.heap[w2.heap.size]?=some (cl [.string (bs x.s),i64 x.at_,.iface di du,.string ⟨#[]⟩,.slice none 0 0,.pointer none] aG):=by exact lookA
 repeat' first|refine .x ?_|refine .y ?_|refine .z ?_|fail
 refine Cl.w (fun w9=>Kp [(w2.heap.size,w2.heap.size+1)] w6 w9∧w9.heap[w6.heap.size]?=some (cl [κs [41],κs [123]] lV) ∧
  w9.heap[w2.heap.size]?=some (cl [.string (bs x.s),i64 x.at_,.iface di du,.string (bs x6.s),.slice none 0 0,.pointer none] aG)) ⟨by exact kpA,by exact lookA,by exact lookA⟩ ?_
 rintro w7 ⟨k7,n7,e7⟩
 have z7:=k7.size
 refine Cl.bind (w0:=w) (X0:=PX B) hM6 (aW (hp6.tmp k7 (by omega) hHe5) [[41],[123]]) hno ?_
 rintro q8 v w8 hM8 hk8 hq8 hs8 ⟨rfl,hp8⟩
 have hl8:=hp8.lt
 have e8:w8.heap[w2.heap.size]?=some (cl [.string (bs x.s),i64 x.at_,.iface di du,.string (bs x6.s),.slice none 0 0,.pointer none] aG):=by exact lookA
 have hset8:aF w8 (w4.heap.size+1) ns6:=aF.kp (aF.kp XH k7 ⟨by omega,trivial⟩) hk8 ⟨by omega,trivial⟩
 have hq8':Kp (PX B) w w8:=hq8.out
 obtain⟨F,hF,hM8⟩:=Res.named hM8
 have hnl:=hn4.len
 have hf8:H5 (w8.heap.size+1)=none:=hp8.sub.fresh (by omega)
 repeat' first|refine .x ?_|refine .y ?_|refine .z ?_|fail
 refine(fun(Q:∀w9,Kp [] w8 w9∧w9.heap[w8.heap.size+1]?=some (cl [.map (some w8.heap.size)] gZ)∧w9.heap[w8.heap.size]?=some (.map #[] 0)∧w8.heap.size+2≤w9.heap.size→Lp [.bool true,undef] w9 _)=>Q _ ⟨by exact kpA,by exact lookA,by exact lookA,by simp only[size_alloc,ag];omega⟩) ?_
 rintro w9 ⟨k9,tb9,m9,z9⟩
 obtain⟨H9,G9,L9,A9,R9,N9⟩:=(hp8.ext k9).frz G5 tb9 (by omega) hf8 (by omega)
 have hHe9:H9 w2.heap.size=none:=by rw[N9 _ (by omega)];exact hHe5
 have hHt9:H9 w8.heap.size=none:=by rw[N9 _ (by omega)];exact hp8.sub.fresh (Nat.le_refl _)
 refine Lp.nat (n:=13) (fun n vals w'=>∃(first:Bool) (vv:Value) (p':PS) (ar:List Arm) (l:List By) (there:List Int) (cs:List Value) (v1:Value) (o1:Option Nat) (H':Hp),vals=[.bool first,vv]∧ar.length+n=13∧there.length≤12∧ar.length≤there.length∧(first=true∨0<ar.length) ∧
  PR B H' w' p'∧Gr H H' w.heap.size∧Hle H9 H'∧jo H' ar cs∧H' w2.heap.size=none∧H' w8.heap.size=none ∧
  w'.heap[w2.heap.size]?=some (cl [.string (bs x.s),i64 x.at_,.iface di du,.string (bs x6.s),v1,.pointer none] aG)∧Gw w' bu 3 v1 ar.length cs o1∧aF w' (w4.heap.size+1) l∧ak .i64 w' w8.heap.size there ∧
  (∀b,o1=some b→w8.heap.size+1<b∧H' b=none)∧Kp (PX B) w w'∧w8.heap.size+1<w'.heap.size ∧
  M=(if first||p'.w.is [99,97,115,101]then Bj lo hi nums n p' ar l there else .ok (ar,l,p')).andThen F) ?_ ?_
 ·exact⟨true,undef,q8,[],ns6,[],[],.slice none 0 0,none,H9,rfl,rfl,by simp,by simp,Or.inl rfl,A9,G9,Hle.refl _,trivial,hHe9,hHt9,(k9.same _ (by omega) trivial).trans e8,Gw.nil _ _ _,aF.kp hset8 k9 trivial,⟨#[],0,m9,MK.empty⟩,by simp,hq8'.trans k9 (fun i _ ho=>⟨ho,trivial⟩),by omega,hM8⟩
 rintro n _ wL jk C ⟨first,vv,p',ar,l,there,cs,v1,o1,H',rfl,hn,hth,har,hfst,hpL,hgL,UD,hdL,hHe,hHt,heL,hg1,hsL,hiL,ho1,hkL,WJ,hML⟩ hC
 obtain⟨a1,cp1,rfl⟩:=hg1.len
 have hlL:=hpL.lt
 refine .s ?_
 refine Xa hpL fun w5' k5'=>?_
 refine .split (fun hcase=>?_) (fun hcase=>?_)
 ·rw[hcase,if_pos rfl]at hML
  cases n with
  |zero=>exact absurd har (by omega)
  |succ n=>
  rw[Bj]at hML
  simp only[Res.assoc]at hML
  obtain⟨G,hG,hML⟩:=Res.named hML
  have z5':=k5'.size
  repeat' first|refine .x ?_|refine .y ?_|refine .z ?_|fail
  refine(fun(Q:∀w10,Kp [] w5' w10∧w10.heap[w5'.heap.size]?=some (cl [.slice none 0 0,.string ⟨#[]⟩,.nilIface] bu)→Lp [.bool true] w10 _)=>Q _ ⟨by exact kpA,by exact lookA⟩) ?_
  rintro wA ⟨kA,nA⟩
  have zA:=lt_of_heap nA
  have kLA:Kp [] wL wA:=k5'.trans kA (fun _ _ _=>⟨trivial,trivial⟩)
  have kwA:Kp (PX B) w wA:=hkL.trans kLA (fun i _ ho=>⟨ho,trivial⟩)
  have hpA:=hpL.ext kLA
  have hfA:∀b,w5'.heap.size≤b→H' b=none:=fun b hb=>(hpL.ext k5').sub.fresh hb
  refine Lp.nat (n:=12 - there.length) (fun n vals w'=>∃(more:Bool) (p'':PS) (a th:List Int) (va:Value) (oa:Option Nat),vals=[.bool more]∧th.length+n=12∧a.length+there.length=th.length∧(more=true∨0<a.length) ∧
   PR B H' w' p''∧w'.heap[w5'.heap.size]?=some (cl [va,.string ⟨#[]⟩,.nilIface] bu)∧Gw w' fU 1 va a.length (a.map i64) oa∧ak .i64 w' w8.heap.size th∧(∀b,oa=some b→w5'.heap.size<b) ∧
   Kp [(B,B+6),(w8.heap.size,w8.heap.size+1)] w5' w'∧w5'.heap.size<w'.heap.size∧M=(if more then uw lo hi nums n p'' a th else .ok (a,th,p'')).andThen G) ?_ ?_
  ·exact⟨true,p',[],there,.slice none 0 0,none,rfl,by omega,by simp,Or.inl rfl,hpA,nA,Gw.nil _ _ _,ak.kp hiL kLA trivial,by simp,kA.any,zA,hML⟩
  rintro m _ wI jk2 C2 ⟨more,p'',a,th,va,oa,rfl,hm,hath,hmore,hpI,nI,hga,hiI,hoa,kI,zI,hMI⟩ hC2
  obtain⟨aa,ca,rfl⟩:=hga.len
  have hlI:=hpI.lt
  have kwI:Kp (PX B) w wI:=(hkL.trans k5' (fun i _ ho=>⟨ho,trivial⟩):Kp (PX B) w w5').trans kI (fun i hi ho=>⟨ho,ho.1,by omega,trivial⟩)
  have htb:H' (w8.heap.size+1)=some ([.map (some w8.heap.size)],gZ):=UD _ _ R9
  have hnb:H' w4.heap.size=some ([.slice na nl nc],A7):=UD _ _ (L9 _ _ R5)
  have gtb:=hpI.sub _ _ _ htb
  have gtbl:=lt_of_heap gtb
  cases more with
  |true=>
   rw[if_pos rfl]at hMI
   repeat' first|refine .x ?_|refine .y ?_|refine .z ?_|fail
   refine g_len hiI ?_
   cases m with
   |zero=>
    refine Cl.eX (w0:=w) (X0:=PX B) (m:=count p'' th.length 12) (k:=fun _=>M) ?_ (iO hpI th.length 12) hno ?_
    ·rw[count,if_pos (by omega)];rw[hMI,uw];rfl
    ·rintro _ v w4 e4
     have:=gJ e4
     omega
   |succ m=>
   refine Cl.eX (w0:=w) (X0:=PX B) (m:=count p'' th.length 12) (k:=fun _=>M) (by rw[count,if_neg (by omega)];rfl) (iO hpI th.length 12) hno ?_
   rintro _ v wI2 e10 _ hk10 hq10 hs10 rfl
   rw[uw]at hMI
   simp only[Res.assoc]at hMI
   repeat' first|refine .x ?_|refine .y ?_|refine .z ?_|fail
   refine Cl.bind (w0:=w) (X0:=PX B) hMI (aW (hpI.ext (by exact kpA)) [[99,97,115,101]]) hno ?_
   rintro q11 v w11 hM11 hk11 hq11 hs11 ⟨rfl,Y8⟩
   have hl11:=Y8.lt
   simp only[size_alloc]at hs11
   have i11:ak .i64 w11 w8.heap.size th:=ak.kp (ak.kp (X:=[]) hiI (by exact kpA) trivial) hk11 ⟨by omega,trivial⟩
   refine Cl.eX (w0:=w) (X0:=PX B) hM11 (zf Y8 lo hi _ _ (fun w=>PR B H' w q11∧ak .i64 w w8.heap.size th) (fun l w=>PR B H' w q11∧ak .i64 w w8.heap.size l) [(w8.heap.size,w8.heap.size+1)] (fun _ q=>q)
    ⟨Y8,i11⟩ (fun _ _ a k=>⟨a.1.ext k,ak.kp a.2 k trivial⟩) (RZ (by omega) hHt (hn4.le ((L5.trans L9).trans UD)) hnb htb hnl) (fun _ _ a=>a.1) (PV q11)) hno ?_
   rintro⟨n12,l12,q12⟩ v w12 e12 WY hk12 hq12 hs12 ⟨rfl,Sj,wX,⟨_,hsX⟩,hkX⟩
   have hl12:=Sj.lt
   dsimp only at WY Sj e12 hsX
   have i12:=ak.kp hsX hkX ⟨by omega,trivial⟩
   clear hkX
   have XK:l12=th++[n12]:=O1 e12
   have kB:Kp [(B,B+6),(w8.heap.size,w8.heap.size+1)] wI2 w12:=by exact kpA
   have n12':w12.heap[w5'.heap.size]?=some (cl [.slice aa a.length ca,.string ⟨#[]⟩,.nilIface] bu):=by exact lookA
   repeat' first|refine .x ?_|refine .y ?_|refine .z ?_|fail
   refine Ap.w (fun w9=>Kp [] w12 w9∧w9.heap[w12.heap.size]?=some (cl [.int .i64 n12] fU)) ⟨by exact kpA,by exact lookA⟩ ?_
   rintro w13 ⟨k13,n13⟩
   have z13:=lt_of_heap n13
   have ga12:=hga.kp kB (fun b hb=>⟨by have:=hoa b hb;omega,by have:=hoa b hb;omega,trivial⟩)
   refine Ap.g (ga12.kp k13 (fun _ _=>trivial)) n13 rfl rfl ?_ (by omega)
   intro va' w14 oa' ga hoa' k14
   have z14:=k14.size
   have n14:w14.heap[w5'.heap.size]?=some (cl [.slice aa a.length ca,.string ⟨#[]⟩,.nilIface] bu):=
    (k14.same _ (by omega) (aB fun hb=>by have:=hoa _ hb;omega)).trans ((k13.same _ (by omega) trivial).trans n12')
   have i14:=ak.kp (ak.kp i12 k13 trivial) k14 (aB fun hb=>by have:=hoa _ hb;omega)
   have b14:=(Sj.ext k13).own k14 (fun b hb=>⟨by have:=hoa b hb;omega,hfA b (by have:=hoa b hb;omega)⟩)
   obtain⟨aa',ca',rfl⟩:=ga.len
   repeat' first|refine .x ?_|refine .y ?_|refine .z ?_|fail
   refine Cl.w (fun w9=>Kp [(w5'.heap.size,w5'.heap.size+1)] w14 w9∧w9.heap[w5'.heap.size]?=some (cl [.slice aa' (a.length+1) ca',.string ⟨#[]⟩,.nilIface] bu)∧w9.heap[w14.heap.size]?=some (cl [κs [58]] lV)) ⟨by exact kpA,by exact lookA,by exact lookA⟩ ?_
   rintro w15 ⟨k15,n15,m15⟩
   have z15:=k15.size
   have oaf:∀b,oa'=some b→w5'.heap.size<b:=by
    intro b hb
    rcases hoa' with r|r<;>rw[r]at hb
    ·exact hoa b hb
    ·cases hb;omega
   have kC:Kp [(B,B+6),(w8.heap.size,w8.heap.size+1)] w5' w15:=by
    have c1:=((kI.trans kB (fun i _ ho=>⟨ho,ho⟩):Kp [(B,B+6),(w8.heap.size,w8.heap.size+1)] w5' w12).trans k13 (fun i _ ho=>⟨ho,trivial⟩):Kp [(B,B+6),(w8.heap.size,w8.heap.size+1)] w5' w13).own k14 (fun b hb=>by have:=hoa b hb;omega)
    exact c1.trans k15 (fun i hi ho=>⟨ho,by omega,trivial⟩)
   have kk:Kp (PX B) w w15:=by
    have c1:=(hq12.out.trans k13 (fun i _ ho=>⟨ho,trivial⟩):Kp (PX B) w w13).own k14 (fun b hb=>by have:=hoa b hb;omega)
    exact c1.trans k15 (fun i hi ho=>⟨ho,by omega,trivial⟩)
   refine Cl.bind (w0:=w) (X0:=PX B) (hkp:=kk) WY (aW (b14.tmp k15 (by omega) (hfA _ (Nat.le_refl _))) [[58]]) hno ?_
   rintro q16 v w16 hM16 Ze hq16 hs16 ⟨rfl,Y7⟩
   have hl16:=Y7.lt
   have hc16:=Y7.hp
   rw[aO]at hc16
   have n16:w16.heap[w5'.heap.size]?=some (cl [.slice aa' (a.length+1) ca',.string ⟨#[]⟩,.nilIface] bu):=by exact lookA
   repeat' first|refine .x ?_|refine .y ?_|refine .z ?_|fail
   refine Cl.plain (w0:=w) (X0:=PX B) (yK w16 q16.w [99,97,115,101]) (fun w17 Iu hq17 hs17=>?_) (by exact kpA)
   have en:(a++[n12]).length=a.length+1:=by simp
   have em:(a++[n12]).map i64=a.map i64++[.int .i64 n12]:=by simp
   have ga17:=((ga.kp k15 (fun b hb=>⟨by have:=oaf b hb;omega,trivial⟩)).kp Ze (fun b hb=>⟨by have:=oaf b hb;omega,trivial⟩)).kp Iu (fun _ _=>trivial)
   have i17:=ak.kp (ak.kp (ak.kp i14 k15 ⟨by omega,trivial⟩) Ze ⟨by omega,trivial⟩) Iu trivial
   refine hC2 m _ w17 (by omega) ⟨q16.w.is [99,97,115,101],q16,a++[n12],l12,_,oa',rfl,by rw[XK,List.length_append];simp only[List.length_cons,List.length_nil];omega,by rw[XK,en,List.length_append];simp only[List.length_cons,List.length_nil];omega,
    Or.inr (by rw[en];omega),Y7.ext Iu,(Iu.same _ (by omega) trivial).trans n16,by rw[en,em];exact ga17,i17,oaf,?_,by omega,hM16⟩
   exact(kC.trans Ze (fun i _ ho=>⟨ho,ho.1,trivial⟩):Kp [(B,B+6),(w8.heap.size,w8.heap.size+1)] w5' w16).trans Iu (fun i _ ho=>⟨ho,trivial⟩)
  |false=>
   rw[if_neg (by decide)]at hMI
   subst hG
   simp only[Res.dw]at hMI
   have ha0:0<a.length:=by rcases hmore with h|h;· cases h
                           · exact h
   have hsI:aF wI (w4.heap.size+1) l:=aF.kp (aF.kp hsL k5' trivial) kI ⟨by omega,by omega,trivial⟩
   have heI:wI.heap[w2.heap.size]?=some (cl [.string (bs x.s),i64 x.at_,.iface di du,.string (bs x6.s),.slice a1 ar.length cp1,.pointer none] aG):=(kI.same _ (by omega) ⟨by omega,by omega,trivial⟩).trans ((k5'.same _ (by omega) trivial).trans heL)
   have hgI:=(hg1.kp k5' (fun _ _=>trivial)).kp kI (fun b hb=>⟨by have:=ho1 b hb;omega,by have:=ho1 b hb;omega,trivial⟩)
   have zLA:=kLA.size
   have zAI:=kI.size
   have nv1:∀b,o1=some b→b<wL.heap.size:=hg1.lt
   repeat' first|refine .x ?_|refine .y ?_|refine .z ?_|fail
   refine Cl.bind (w0:=w) (X0:=PX B) hMI (XA hpI (by omega) hsI) hno ?_
   rintro⟨d,l',q20⟩ v w20 hM20 Zd hq20 hs20 ⟨H20,tv,rfl,NM,Y0,Ux,WO⟩
   have hl20:=WO.lt
   dsimp only at hM20 WO Y0 Ux
   obtain⟨ti,tu,rfl⟩:=Y0.form
   have n20:w20.heap[w5'.heap.size]?=some (cl [.slice aa a.length ca,.string ⟨#[]⟩,.nilIface] bu):=by exact lookA
   have e20:w20.heap[w2.heap.size]?=some (cl [.string (bs x.s),i64 x.at_,.iface di du,.string (bs x6.s),.slice a1 ar.length cp1,.pointer none] aG):=by exact lookA
   have g20:=hgI.kp Zd (fun b hb=>⟨by have:=ho1 b hb;omega,by have:=ho1 b hb;omega,trivial⟩)
   have XO:=NM.lacks hHe (by omega)
   have hHt20:=NM.lacks hHt (by omega)
   have hHa20:=NM.lacks (hfA w5'.heap.size (Nat.le_refl _)) (by omega)
   have ho20:∀b,o1=some b→H20 b=none:=fun b hb=>NM.lacks (ho1 b hb).2 (by have:=nv1 b hb;omega)
   obtain⟨cb,QE,ccap,hcb,hcs,hch⟩:=Gw.some hga ha0
   cases hcs
   have hcb1:=hoa cb hcb
   have hcb2:=hga.lt cb hcb
   have hcb20:=NM.lacks (hfA cb (by omega)) hcb2
   have i20:ak .i64 w20 w8.heap.size th:=ak.kp hiI Zd ⟨by omega,by omega,trivial⟩
   repeat' first|refine .x ?_|refine .y ?_|refine .z ?_|fail
   refine Ap.w (fun w9=>Kp [(w5'.heap.size,w5'.heap.size+1)] w20 w9∧w9.heap[w20.heap.size]?=some (cl [.slice (some ⟨cb,0,none⟩) a.length ca,.string (bs d.name),.iface ti tu] bu)) ⟨by exact kpA,by exact lookA⟩ ?_
   rintro w21 ⟨k21,n21⟩
   have z21:=lt_of_heap n21
   refine Ap.g (g20.kp k21 (fun b hb=>⟨by have:=nv1 b hb;omega,trivial⟩)) n21 rfl rfl ?_ (by omega)
   intro v1' w22 o1' g22 Ir k22
   have z22:=k22.size
   have e22:w22.heap[w2.heap.size]?=some (cl [.string (bs x.s),i64 x.at_,.iface di du,.string (bs x6.s),.slice a1 ar.length cp1,.pointer none] aG):=
    (k22.same _ (by omega) (aB fun hb=>by have:=ho1 _ hb;omega)).trans ((k21.same _ (by omega) ⟨by omega,trivial⟩).trans e20)
   have s22:=aF.kp (aF.kp Ux k21 ⟨by omega,trivial⟩) k22 (aB fun hb=>by have:=ho1 _ hb;omega)
   have i22:=ak.kp (ak.kp i20 k21 ⟨by omega,trivial⟩) k22 (aB fun hb=>by have:=ho1 _ hb;omega)
   have c22:w22.heap[cb]?=some (cl (a.map i64++QE) fU):=
    (k22.same _ (by omega) (aB fun hb=>by have:=nv1 _ hb;omega)).trans ((k21.same _ (by omega) ⟨by omega,trivial⟩).trans ((Zd.same _ hcb2 ⟨by omega,by omega,trivial⟩).trans hch))
   have b22:=(WO.tmp k21 (by omega) hHa20).own k22 (fun b hb=>⟨by have:=ho1 b hb;omega,ho20 b hb⟩)
   obtain⟨a1',rJ,rfl⟩:=g22.len
   repeat' first|refine .x ?_|refine .y ?_|refine .z ?_|fail
   refine(fun(Q:∀w9,Kp [(w2.heap.size,w2.heap.size+1)] w22 w9∧w9.heap[w2.heap.size]?=some (cl [.string (bs x.s),i64 x.at_,.iface di du,.string (bs x6.s),.slice a1' (ar.length+1) rJ,.pointer none] aG)→C [.bool false,.bool false] w9)=>Q _ ⟨by exact kpA,by exact lookA⟩) ?_
   rintro w23 ⟨k23,e23⟩
   have z23:=k23.size
   have b23:=b22.tmp k23 (by omega) XO
   have c23:w23.heap[cb]?=some (cl (a.map i64++QE) fU):=(k23.same _ (by omega) ⟨by omega,trivial⟩).trans c22
   have gr20:Gr H H20 w.heap.size:=hgL.trans NM (by have:=kwI.size;omega)
   obtain⟨H24,G24,L24,A24,R24,N24⟩:=b23.frz gr20 c23 (by omega) hcb20 (by omega)
   have o1f:∀b,o1'=some b→w8.heap.size+1<b∧H24 b=none:=by
    intro b hb
    rcases Ir with r|r<;>rw[r]at hb
    ·have:=nv1 b hb
     exact⟨(ho1 b hb).1,by rw[N24 _ (by omega)];exact ho20 b hb⟩
    ·cases hb;exact⟨by omega,by rw[N24 _ (by omega)];exact WO.sub.fresh (by omega)⟩
   have en:∀y:Arm,(ar++[y]).length=ar.length+1:=fun y=>by simp
   have hd24:jo H24 (ar++[⟨a,d⟩]) (cs++[.slice (some ⟨cb,0,none⟩) a.length ca,.string (bs d.name),.iface ti tu]):=
    jo.snoc (d:=⟨a,d⟩) ⟨cb,QE,ca,rfl,R24⟩ (Y0.le L24) (hdL.le (NM.1.trans L24))
   have kk:Kp (PX B) w w23:=by
    have c1:=(hq20.out.trans k21 (fun i hi ho=>⟨ho,by omega,trivial⟩):Kp (PX B) w w21).own k22 (fun b hb=>by have:=ho1 b hb;omega)
    exact c1.trans k23 (fun i hi ho=>⟨ho,by omega,trivial⟩)
   refine hC n _ w23 (by omega) ⟨false,.bool false,q20,ar++[⟨a,d⟩],l',th,_,_,o1',H24,rfl,by rw[en];omega,by omega,by rw[en];omega,Or.inr (by rw[en];omega),A24,G24,UD.trans (NM.1.trans L24),hd24,by rw[N24 _ (by omega)];exact XO,by rw[N24 _ (by omega)];exact hHt20,
    e23,by rw[en];exact g22.kp k23 (fun b hb=>⟨by have:=o1f b hb;omega,trivial⟩),aF.kp s22 k23 ⟨by omega,trivial⟩,ak.kp i22 k23 ⟨by omega,trivial⟩,o1f,kk,by omega,?_⟩
   rw[Bool.false_or];exact hM20
 ·rw[hcase]at hML
  simp only[Bool.false_eq_true,if_false,Res.dw]at hML
  have hf:first=false:=by cases first<;>simp_all
  have har0:0<ar.length:=by rcases hfst with h|h
                            · rw [hf] at h; cases h
                            · exact h
  subst hF
  have z5':=k5'.size
  have hp5':=hpL.ext k5'
  have e5':w5'.heap[w2.heap.size]?=some (cl [.string (bs x.s),i64 x.at_,.iface di du,.string (bs x6.s),.slice a1 ar.length cp1,.pointer none] aG):=(k5'.same _ (by omega) trivial).trans heL
  have g5':=hg1.kp k5' (fun _ _=>trivial)
  have s5':=aF.kp hsL k5' trivial
  have kw5':Kp (PX B) w w5':=hkL.trans k5' (fun i _ ho=>⟨ho,trivial⟩)
  have nv1:∀b,o1=some b→b<wL.heap.size:=hg1.lt
  refine Jn.by (fun _ w30=>∃els ev q30 H30,(M=(want q30 [[125],[59]]).andThen fun p=>.ok (⟨x.s,x.at_,.union dt x6.s ar els⟩,p))∧Gr H H30 w.heap.size∧Hle H' H30∧PR B H30 w30 q30 ∧
   w30.heap[w2.heap.size]?=some (cl [.string (bs x.s),i64 x.at_,.iface di du,.string (bs x6.s),.slice a1 ar.length cp1,ev] aG)∧H30 w2.heap.size=none∧Gw w30 bu 3 (.slice a1 ar.length cp1) ar.length cs o1 ∧
   (∀b,o1=some b→H30 b=none)∧QT H30 els ev∧Kp (PX B) w w30∧w5'.heap.size≤w30.heap.size) (fun J hJ=>?_) ?_
  ·refine Cl.bind (w0:=w) (X0:=PX B) hML (gu hp5' [100,101,102,97,117,108,116]) hno ?_
   rintro⟨bb,q31⟩ v w31 UI hk31 hq31 hs31 ⟨hv,WN⟩
   dsimp only at UI WN hv
   subst hv
   have hl31:=WN.lt
   have g31:=g5'.kp hk31 (fun b hb=>⟨by have:=ho1 b hb;omega,trivial⟩)
   have e31:w31.heap[w2.heap.size]?=some (cl [.string (bs x.s),i64 x.at_,.iface di du,.string (bs x6.s),.slice a1 ar.length cp1,.pointer none] aG):=by exact lookA
   have s31:=aF.kp s5' hk31 ⟨by omega,trivial⟩
   cases bb with
   |false=>
    simp only[Bool.false_eq_true,if_false,Res.dw]at UI
    repeat' first|refine .x ?_|refine .y ?_|refine .z ?_|fail
    exact hJ _ _ ⟨none,.pointer none,q31,H',UI,hgL,Hle.refl _,WN,e31,hHe,g31,fun b hb=>(ho1 b hb).2,rfl,hq31.out,hs31⟩
   |true=>
    simp only[if_true,Res.assoc,Res.dw]at UI
    repeat' first|refine .x ?_|refine .y ?_|refine .z ?_|fail
    refine Cl.bind (w0:=w) (X0:=PX B) UI (aW (WN.ext (by exact kpA)) [[58]]) hno ?_
    rintro q32 v w32 hM32 hk32 hq32 hs32 ⟨rfl,hp32⟩
    have hl32:=hp32.lt
    simp only[size_alloc]at hs32
    have k32:Kp (PX B) w31 w32:=by exact kpA
    have s32:=aF.kp s31 k32 ⟨by omega,trivial⟩
    have g32:=g31.kp k32 (fun b hb=>⟨by have:=ho1 b hb;omega,trivial⟩)
    have e32:w32.heap[w2.heap.size]?=some (cl [.string (bs x.s),i64 x.at_,.iface di du,.string (bs x6.s),.slice a1 ar.length cp1,.pointer none] aG):=(k32.same _ (by omega) ⟨by omega,trivial⟩).trans e31
    clear k32
    refine Cl.bind (w0:=w) (X0:=PX B) hM32 (XA hp32 (by omega) s32) hno ?_
    rintro⟨d,l',q33⟩ v w33 hM33 hk33 hq33 hs33 ⟨H33,tv,rfl,WU,YZ,Y1,WM⟩
    have hl33:=WM.lt
    dsimp only at hM33 WM YZ Y1
    obtain⟨ti,tu,rfl⟩:=YZ.form
    have e33:w33.heap[w2.heap.size]?=some (cl [.string (bs x.s),i64 x.at_,.iface di du,.string (bs x6.s),.slice a1 ar.length cp1,.pointer none] aG):=by exact lookA
    have g33:=g32.kp hk33 (fun b hb=>⟨by have:=ho1 b hb;omega,by have:=ho1 b hb;omega,trivial⟩)
    have XN:=WU.lacks hHe (by omega)
    have ho33:∀b,o1=some b→H33 b=none:=fun b hb=>WU.lacks (ho1 b hb).2 (by have:=nv1 b hb;omega)
    have gr33:Gr H H33 w.heap.size:=hgL.trans WU (by have:=kw5'.size;omega)
    repeat' first|refine .x ?_|refine .y ?_|refine .z ?_|fail
    refine(fun(Q:∀w9,Kp [(w2.heap.size,w2.heap.size+1)] w33 w9∧w9.heap[w2.heap.size]?=some (cl [.string (bs x.s),i64 x.at_,.iface di du,.string (bs x6.s),.slice a1 ar.length cp1,pt w33.heap.size 0] aG) ∧
     w9.heap[w33.heap.size]?=some (cl [.string (bs d.name),.iface ti tu] fJ)→J [] w9)=>Q _ ⟨by exact kpA,by exact lookA,by exact lookA⟩) ?_
    rintro w34 ⟨k34,e34,d34⟩
    have b34:=WM.tmp k34 (by omega) XN
    obtain⟨H35,G35,L35,A35,R35,N35⟩:=b34.frz gr33 d34 (by omega) (WM.sub.fresh (Nat.le_refl _)) (by omega)
    refine hJ _ _ ⟨some d,pt w33.heap.size 0,q33,H35,hM33,G35,WU.1.trans L35,A35,e34,by rw[N35 _ (by omega)];exact XN,g33.kp k34 (fun b hb=>⟨by have:=ho1 b hb;omega,trivial⟩),fun b hb=>by have:=nv1 b hb;rw[N35 _ (by omega)];exact ho33 b hb,
     ⟨_,_,rfl,R35,YZ.le L35⟩,hq33.out.trans k34 (fun i hi ho=>⟨ho,by omega,trivial⟩),by have:=k34.size;omega⟩
  ·rintro _ w30 jk ⟨els,ev,q30,H30,hM30,gr30,hl30,hp30,e30,hHe30,g30,ho30,hev,kw30,z30⟩
   have hl30':=hp30.lt
   repeat' first|refine .x ?_|refine .y ?_|refine .z ?_|fail
   refine Cl.bind (w0:=w) (X0:=PX B) hM30 (aW (hp30.ext (by exact kpA)) [[125],[59]]) hno ?_
   rintro q36 v w36 hM36 hk36 hq36 hs36 ⟨rfl,hp36⟩
   have hl36:=hp36.lt
   simp only[size_alloc]at hs36
   have k36:Kp (PX B) w30 w36:=by exact kpA
   have e36:w36.heap[w2.heap.size]?=some (cl [.string (bs x.s),i64 x.at_,.iface di du,.string (bs x6.s),.slice a1 ar.length cp1,ev] aG):=(k36.same _ (by omega) ⟨by omega,trivial⟩).trans e30
   have g36:=g30.kp k36 (fun b hb=>⟨by have:=ho1 b hb;omega,trivial⟩)
   obtain⟨c1,Dx,cap1,rfl,hv1,hh1⟩:=Gw.some g36 har0
   cases hv1
   obtain⟨H0,G0,L0,A0,R0,N0⟩:=hp36.frz gr30 e36 (by omega) hHe30 (by omega)
   have oc1:=ho1 c1 rfl
   obtain⟨H1,G1,L1,A1,R1,N1⟩:=A0.frz G0 hh1 (by omega) (by rw[N0 _ (by omega)];exact ho30 c1 rfl) (by omega)
   have hD:fQ H1 ⟨x.s,x.at_,.union dt x6.s ar els⟩ (.iface vP (pt w2.heap.size 0)):=by
    refine⟨w2.heap.size,.iface di du,.slice (some ⟨c1,0,none⟩) ar.length cp1,cs,ev,rfl,L1 _ _ R0,hd4.le (L5.trans (L9.trans (UD.trans (hl30.trans (L0.trans L1))))),hdL.le (hl30.trans (L0.trans L1)),⟨c1,Dx,cp1,rfl,R1⟩,?_⟩
    cases els with
    |none=>exact hev
    |some x=>obtain⟨c,t,h1,h2,h3⟩:=hev;exact⟨c,t,h1,L1 _ _ (L0 _ _ h2),h3.le (L0.trans L1)⟩
   exact hok _ _ _ hM36 hq36.out ⟨H1,G1,hD,A1⟩
end Go.W.T
namespace Go.W.T
open Go Go.W Go.M Go.Proofs
def XW(B:Nat)(H:Hp)(w:World):Def×PS→Value→World→Prop:=fun x v w'=>∃H',Gr H H' w.heap.size∧fQ H' x.1 v∧PR B H' w' x.2
theorem JV{B:Nat}{H:Hp}{w:World}{p:PS}(h:PR B H w p):
  Calls P jb #[pt (B+5) 0] w (Post w (definition p) (PX B) (XW B H w)):=by
 refine Post.R fun R M hM hok hno=>?_
 apply sZ
 unfold iW
 have hp:=h.hp
 have hl:=h.lt
 rw[aO]at hp
 rw[definition]at hM
 repeat' first|refine .x ?_|refine .y ?_|refine .z ?_|fail
 refine Cl.plain (w0:=w) (X0:=PX B) (yK w p.w [99,111,110,115,116]) (fun w1 hk1 hq1 hs1=>?_) (by exact kpA)
 have hp1:=h.ext hk1
 cases hc1:p.w.is [99,111,110,115,116]with
 |true=>
  rw[hc1,if_pos rfl]at hM
  repeat' first|refine .x ?_|refine .y ?_|refine .z ?_|fail
  refine Cl.bind (w0:=w) (X0:=PX B) (m:=constant p) (k:=fun x=>.ok x) (by rw[hM];cases constant p<;>rfl) (OQ hp1) hno ?_
  rintro x v w2 hM hk2 hq2 hs2 ⟨H2,hg2,hd2,hp2⟩
  exact hok _ _ _ hM hq2.out ⟨H2,hg2.mono hs1,hd2,hp2⟩
 |false=>
 rw[hc1,if_neg (by decide)]at hM
 have hx1:=hp1.hp
 rw[aO]at hx1
 repeat' first|refine .x ?_|refine .y ?_|refine .z ?_|fail
 refine Cl.plain (w0:=w) (X0:=PX B) (yK w1 p.w [112,114,111,103,114,97,109]) (fun w2 hk2 hq2 hs2=>?_) (by exact kpA)
 have hp2:=hp1.ext hk2
 cases hc2:p.w.is [112,114,111,103,114,97,109]with
 |true=>
  rw[hc2,if_pos rfl]at hM
  repeat' first|refine .x ?_|refine .y ?_|refine .z ?_|fail
  refine Cl.bind (w0:=w) (X0:=PX B) (m:=Go.M.program p) (k:=fun x=>.ok x) (by rw[hM];cases Go.M.program p<;>rfl) (Q8 hp2) hno ?_
  rintro x v w3 hM hk3 hq3 hs3 ⟨H3,hg3,hd3,hp3⟩
  exact hok _ _ _ hM hq3.out ⟨H3,hg3.mono (by omega),hd3,hp3⟩
 |false=>
 rw[hc2,if_neg (by decide)]at hM
 have hx2:=hp2.hp
 rw[aO]at hx2
 repeat' first|refine .x ?_|refine .y ?_|refine .z ?_|fail
 have kw2:Kp [] w w2:=hk1.trans hk2 (fun _ _ _=>⟨trivial,trivial⟩)
 refine Jn.by (fun vals w'=>∃(f:FuncId) (fm:PS→Res (Def×PS)),vals=[.func (.func f) #[pt (B+5) 0] #[]]∧(M=(count p p.n0 24).andThen fun _=>fm { p with n0:=p.n0+1 })∧Kp [] w w'∧oW P f=true ∧
  ∀{w:World} {q:PS},PR B H w q→Calls P f #[pt (B+5) 0] w (Post w (fm q) (PX B) (XW B H w))) (fun J hJ=>?_) ?_
 ·repeat' first|refine .x ?_|refine .y ?_|refine .z ?_|fail
  refine Cl.plain (w0:=w) (X0:=PX B) (yK w2 p.w [116,121,112,101,100,101,102]) (fun w3 hk3 hq3 hs3=>?_) (by exact kpA)
  have hx3:=(hp2.ext hk3).hp
  rw[aO]at hx3
  have kw3:Kp [] w w3:=kw2.trans hk3 (fun _ _ _=>⟨trivial,trivial⟩)
  cases hc3:p.w.is [116,121,112,101,100,101,102]with
  |true=>
   rw[hc3]at hM
   repeat' first|refine .x ?_|refine .y ?_|refine .z ?_|fail
   exact hJ _ _ ⟨76,alias,rfl,hM,kw3,by kernel_rfl,fun h=>VB h⟩
  |false=>
  rw[hc3]at hM
  repeat' first|refine .x ?_|refine .y ?_|refine .z ?_|fail
  refine Cl.plain (w0:=w) (X0:=PX B) (yK w3 p.w [101,110,117,109]) (fun w4 hk4 hq4 hs4=>?_) (by exact kpA)
  have hx4:=((hp2.ext hk3).ext hk4).hp
  rw[aO]at hx4
  have kw4:Kp [] w w4:=kw3.trans hk4 (fun _ _ _=>⟨trivial,trivial⟩)
  cases hc4:p.w.is [101,110,117,109]with
  |true=>
   rw[hc4]at hM
   repeat' first|refine .x ?_|refine .y ?_|refine .z ?_|fail
   exact hJ _ _ ⟨77,enum,rfl,hM,kw4,by kernel_rfl,fun h=>Yn h⟩
  |false=>
  rw[hc4]at hM
  repeat' first|refine .x ?_|refine .y ?_|refine .z ?_|fail
  refine Cl.plain (w0:=w) (X0:=PX B) (yK w4 p.w [115,116,114,117,99,116]) (fun w5 hk5 hq5 hs5=>?_) (by exact kpA)
  have hx5:=(((hp2.ext hk3).ext hk4).ext hk5).hp
  rw[aO]at hx5
  have kw5:Kp [] w w5:=kw4.trans hk5 (fun _ _ _=>⟨trivial,trivial⟩)
  cases hc5:p.w.is [115,116,114,117,99,116]with
  |true=>
   rw[hc5]at hM
   repeat' first|refine .x ?_|refine .y ?_|refine .z ?_|fail
   exact hJ _ _ ⟨78,oL,rfl,hM,kw5,by kernel_rfl,fun h=>LC h⟩
  |false=>
  rw[hc5]at hM
  repeat' first|refine .x ?_|refine .y ?_|refine .z ?_|fail
  refine Cl.plain (w0:=w) (X0:=PX B) (yK w5 p.w [117,110,105,111,110]) (fun w6 hk6 hq6 hs6=>?_) (by exact kpA)
  have kw6:Kp [] w w6:=kw5.trans hk6 (fun _ _ _=>⟨trivial,trivial⟩)
  cases hc6:p.w.is [117,110,105,111,110]with
  |true=>
   rw[hc6]at hM
   repeat' first|refine .x ?_|refine .y ?_|refine .z ?_|fail
   exact hJ _ _ ⟨79,Go.M.union,rfl,hM,kw6,by kernel_rfl,fun h=>Vr h⟩
  |false=>
   rw[hc6]at hM
   repeat' first|refine .x ?_|refine .y ?_|refine .z ?_|fail
   refine Cl.bind (w0:=w) (X0:=PX B) (m:=(bad p:Res (Def×PS))) (k:=fun x=>.ok x) (by rw[hM];rfl) (GZ (h.ext kw6)) hno ?_ (hkp:=kw6.any)
   rintro _ _ _ _ _ _ _ hf
   exact hf.elim
 ·rintro _ w7 jk ⟨f,fm,rfl,hM7,k7,hpl,hf⟩
  have hp7:=h.ext k7
  have hx7:=hp7.hp
  rw[aO]at hx7
  repeat' first|refine .x ?_|refine .y ?_|refine .z ?_|fail
  refine Cl.eX (w0:=w) (X0:=PX B) hM7 (iO hp7 p.n0 24) hno ?_ (hkp:=k7.any)
  rintro _ v w8 e8 hM8 hk8 hq8 hs8 rfl
  have c8:=gJ e8
  repeat' first|refine .x ?_|refine .y ?_|refine .z ?_|fail
  have b8:PR B H (ah w8.drew (B+5) (cl (aO B { p with n0:=p.n0+1 }) aI)) { p with n0:=p.n0+1 }:=
   hp7.counts (by exact kpA) (aj rfl (by simp only[size_drew];have:=hp7.lt;omega)) rfl (by show p.n0+1≤24;omega) hp7.c1 hp7.c2
  have k8:Kp (PX B) w (ah w8.drew (B+5) (cl (aO B { p with n0:=p.n0+1 }) aI)):=(k7.any.drew).Gn (by simp only[Out,and_true,true_and];omega) _
  refine eY.f hpl ?_
  refine Cl.bind (w0:=w) (X0:=PX B) (m:=fm { p with n0:=p.n0+1 }) (k:=fun x=>.ok x) (by rw[hM8];cases fm { p with n0:=p.n0+1 }<;>rfl) (hf b8) hno ?_ (hkp:=k8)
  rintro x v w9 hM9 hk9 hq9 hs9 ⟨H9,hg9,hd9,hp9⟩
  exact hok _ _ _ hM9 hq9.out ⟨H9,hg9.mono k8.size,hd9,hp9⟩
def jm(H:Hp):List Def→List Value→Prop
 |[],[]=>True
 |d::ds,v::r=>fQ H d v∧jm H ds r
 |_,_=>False
theorem jm.le{H H':Hp}(k:Hle H H'):∀{ds:List Def} {l:List Value},jm H ds l→jm H' ds l
 |[],[],_=>trivial
 |_::_,_::_,h=>⟨h.1.le k,jm.le k h.2⟩
 |[],_::_,h=>h.elim
 |_::_,[],h=>h.elim
theorem jm.snoc{H:Hp}{d:Def}{v:Value}(hd:fQ H d v):∀{ds:List Def} {l:List Value},jm H ds l→jm H (ds++[d]) (l++[v])
 |[],[],_=>⟨hd,trivial⟩
 |_::_,_::_,h=>⟨h.1,jm.snoc hd h.2⟩
 |[],_::_,h=>h.elim
 |_::_,[],h=>h.elim
theorem fQ.form{H:Hp}{d:Def}{v:Value}(h:fQ H d v):∃a b,v=.iface a b:=by
 obtain⟨nm,at_,dk⟩:=d
 cases dk with
 |const n=>obtain⟨b,h1,_⟩:=h;exact⟨_,_,h1⟩
 |alias t=>obtain⟨b,u,h1,_⟩:=h;exact⟨_,_,h1⟩
 |enum ns is=>obtain⟨b,u,x,h1,_⟩:=h;exact⟨_,_,h1⟩
 |struct ds=>obtain⟨b,u,l,h1,_⟩:=h;exact⟨_,_,h1⟩
 |union of n ar els=>obtain⟨b,o,u,l,e,h1,_⟩:=h;exact⟨_,_,h1⟩
 |prog n vs=>obtain⟨b,u,l,h1,_⟩:=h;exact⟨_,_,h1⟩
def P8(n:Nat)(w:World)(ds:List Def)(v:Value):Prop:=
 ∃H l o,Sub H w∧(∀b x,H b=some x→n≤b)∧jm H ds l∧Gw w rE 1 v ds.length l o∧∀b,o=some b→n≤b
theorem VC{w:World}{txt:By}(hg:Gl w)(hlen:txt.length≤1200):
  Calls P Ae #[.string (bs txt)] w (Post w (parse txt) [] fun ds v w'=>Gl w'∧P8 w.heap.size w' ds v):=by
 refine Post.R fun R M hM hok hno=>?_
 apply H7
 unfold zt
 rw[parse]at hM
 have hn:Calls P FT #[.string (bs txt)] w fun en w'=>en=.returned (pt w.heap.size 0)∧w'=w.alloc (cl [.string (bs txt),i64 0] rD):=by
  apply Nj
  unfold FM
  repeat' first|refine .x ?_|refine .y ?_|refine .z ?_|fail
  exact rfl
 refine Cl.by hn ?_ (by rintro _ _ ⟨h,_⟩;cases h) (by rintro _ ⟨h,_⟩;cases h)
 rintro v w' ⟨hv,rfl⟩
 cases hv
 repeat' first|refine .x ?_|refine .y ?_|refine .z ?_|fail
 refine Cl.w (fun w9=>Kp [] w w9∧PR w.heap.size (fun _=>none) w9 ⟨txt,0,⟨0,[],0,0⟩,[],[],[],[],0,0,0⟩) ⟨by exact kpA,?_⟩ ?_
 ·have hk:Kp [] w ((((((w.alloc (cl [.string (bs txt),i64 0] rD)).alloc (.map #[] 0)).alloc (.map #[] 0)).alloc (.map #[] 0)).alloc (.map #[] 0)).alloc (cl [pt w.heap.size 0,.int .i64 0,.string ⟨#[]⟩,.int .i64 0,.int .i64 0,.map (some (w.heap.size+1)),.map (some (w.heap.size+1+1)),.map (some (w.heap.size+1+1+1)),.map (some (w.heap.size+1+1+1+1)),.int .i64 0,.int .i64 0,.int .i64 0] 107)):=by exact kpA
  exact { gl:=hg.kp hk (fun _ _=>trivial),hB:=hg.size,sub:=fun _ _ _ h=>(nomatch h),dom:=fun _ _ h=>(nomatch h),lt:=by simp only[size_alloc];omega,hp:=jP (by simp only[size_alloc]),ht:=(bf (by simp only[size_alloc];omega)).trans ((bf (by simp only[size_alloc];omega)).trans ((bf (by simp only[size_alloc];omega)).trans ((bf (by simp only[size_alloc];omega)).trans ((bf (by simp only[size_alloc];omega)).trans (aK ..))))),
          hn := ⟨#[], 0, (by exact lookA), MK.empty⟩, hc := ⟨#[], 0, (by exact lookA), MK.empty⟩, he := ⟨#[], 0, [], (by exact lookA), MK.empty, trivial⟩, hg := ⟨#[], 0, (by exact lookA), MK.empty⟩,
          len := hlen, pos := Nat.zero_le _, c0 := Nat.zero_le _, c1 := Nat.zero_le _, c2 := Nat.zero_le _ }
 rintro w1 ⟨k1,p1⟩
 refine Cl.bind (w0:=w) (X0:=[]) hM (qB p1) hno ?_
 rintro q v w2 hM hk2 hq2 hs2 ⟨rfl,p2⟩
 refine Lp.nat (n:=69) (fun n vals w'=>∃(p':PS) (ds:List Def) (H':Hp) (l:List Value) (v1:Value) (o1:Option Nat),vals=[v1]∧PR w.heap.size H' w' p'∧jm H' ds l∧Gw w' rE 1 v1 ds.length l o1 ∧
  (∀b,o1=some b→w.heap.size+6≤b∧H' b=none)∧Kp [] w w'∧ds.length≤sum p'∧ds.length+n=69∧M=AA n p' ds) ?_ ?_
 ·exact⟨q,[],_,[],.slice none 0 0,none,rfl,p2,trivial,Gw.nil _ _ _,by simp,hq2.out,Nat.zero_le _,rfl,hM⟩
 rintro n _ wL jk C ⟨p',ds,H',l,v1,o1,rfl,hpL,hdL,hg1,ho1,kL,hsum,hn69,hML⟩ hC
 have hcL:=hpL.hp
 have hlL:=hpL.lt
 rw[aO]at hcL
 refine .s ?_
 repeat' first|refine .x ?_|refine .y ?_|refine .z ?_|fail
 refine .split (fun hk=>?_) (fun hk=>?_)
 ·have hk':(p'.w.kind==0)=false:=by
   rw[beq_eq_false_iff_ne]
   intro e
   rw[e]at hk
   exact absurd hk (by decide)
  cases n with
  |zero=>
   have:=hpL.c0
   have:=hpL.c1
   have:=hpL.c2
   unfold sum at hsum
   omega
  |succ n=>
  rw[AA,hk',if_neg (by decide)]at hML
  refine Cl.eX (w0:=w) (X0:=[]) hML (JV hpL) hno ?_
  rintro⟨d,q3⟩ v w3 e3 hM3 hk3 hq3 hs3 ⟨H3,hg3,hd3,hp3⟩
  have hl3:=hp3.lt
  dsimp only at hM3 hd3 hp3
  have hsum3:=Hq e3
  dsimp only at hsum3
  obtain⟨ti,tu,rfl⟩:=hd3.form
  repeat' first|refine .x ?_|refine .y ?_|refine .z ?_|fail
  refine Ap.w (fun w9=>Kp [] w3 w9∧w9.heap[w3.heap.size]?=some (cl [.iface ti tu] rE)) ⟨by exact kpA,by exact lookA⟩ ?_
  rintro w4 ⟨k4,n4⟩
  have z4:=lt_of_heap n4
  have g4:=(hg1.kp hk3 (fun b hb=>⟨by have:=ho1 b hb;omega,trivial⟩)).kp k4 (fun _ _=>trivial)
  refine Ap.g g4 n4 rfl rfl ?_ (by omega)
  intro v2 w5 o2 g5 ho2 k5
  have ho3:∀b,o1=some b→H3 b=none:=fun b hb=>hg3.lacks (ho1 b hb).2 (hg1.lt b hb)
  refine hC n [v2] w5 (by omega) ⟨q3,ds++[d],H3,l++[.iface ti tu],v2,o2,rfl,(hp3.ext k4).own k5 (fun b hb=>⟨(ho1 b hb).1,ho3 b hb⟩),(hdL.le hg3.1).snoc hd3,by rw[List.length_append];exact g5,?_,?_,by rw[List.length_append];simp only[List.length_cons,List.length_nil];omega,by rw[List.length_append];simp only[List.length_cons,List.length_nil];omega,hM3⟩
  ·intro b hb
   rcases ho2 with r|r<;>rw[r]at hb
   ·exact⟨(ho1 b hb).1,ho3 b hb⟩
   ·cases hb;exact⟨by omega,hp3.sub.fresh (by omega)⟩
  ·exact(hq3.out.trans k4 (fun _ _ _=>⟨trivial,trivial⟩):Kp [] w w4).own k5 (fun b hb=>by have:=ho1 b hb;omega)
 ·have hk':(p'.w.kind==0)=true:=by
   rw[beq_iff_eq]
   have:=bne_eq_false_iff_eq.mp hk
   omega
  have hMd:M=.ok ds:=by
   cases n with
   |zero=>exact hML
   |succ n=>rw[AA,hk',if_pos rfl]at hML;exact hML
  exact hok _ _ _ hMd kL ⟨hpL.gl,H',l,o1,hpL.sub,fun b x hx=>by have:=hpL.dom b x hx;omega,hdL,hg1,fun b hb=>by have:=ho1 b hb;omega⟩
end Go.W.T

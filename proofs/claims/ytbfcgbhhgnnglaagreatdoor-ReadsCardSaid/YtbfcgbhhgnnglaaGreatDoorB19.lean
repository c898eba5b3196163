/- Texts of mine, one behind the other; nothing is assumed. -/
import Derived.Test.YtbfcgbhhgnnglaaGreatDoorB18
import Derived.Test.YtbfcgbhhgnnglaaGreatDoorB00
set_option autoImplicit true
set_option relaxedAutoImplicit true
set_option linter.unusedSimpArgs false
set_option linter.unusedVariables false
set_option maxRecDepth 100000
namespace Go.W.T
open Go Go.W Go.M Go.Proofs
def VX(H:Hp):Option Decl->Value->Prop
 |none,v=>v=.pointer none
 |some x,v=>∃c t,v=pt c 0/\H c=some ([.string (bs x.name),t],jD)/\lq H x.ty t
theorem acz{B:Nat}{H:Hp}{w:World}{p:PS}{first:Bool}{E:KE}{K2:Value->World->Prop}(h:PR B H w p)(hT:∀w5,Kp [] w w5->K2 (.bool (first||p.w.is [99,97,115,101])) w5):
  Gd (.bool first) false w (λK47=>K47 (pt (B+5) 0) w) λx48 w49=>
  Gd (.bool first) false w49 (λK50=>Nk x48 λx51=>K50 x51 w49) λx52 w53=>
  Gd (.bool first) false w53 (λK54=>Fa x52 1 λx55=>K54 x55 w53) λx56 w57=>
  Gd (.bool first) false w57 (λK58=>LdN x56 4 w57 λx59=>K58 x59 w57) λx60 w61=>
  Gd (.bool first) false w61 (λK62=>Cl P 100 #[x60,(.string ⟨#[99,97,115,101]⟩)] w61 E λx63 w64=>K62 x63 w64) λx65 w66=>
  Pk (.bool first) (.bool true) x65 λx67=>K2 x67 w66:=by
 have hp:=h.hp;rw[bF]at hp;cases first with
 |true=>
  refine gg ?_;exact hT w (Kp.refl _ _)
 |false=>
  refine gg ?_;refine Cl.plain (w0:=w) (X0:=[]) (yc w p.w [99,97,115,101]) (λw1 hk1 hq1 hs1=>?_) kpA;refine gg ?_;exact hT w1 hk1
theorem MK.len(h:MK κ es clock m):es.size=m.length:=by
 have:=congrArg List.length h.1;simpa using this
theorem g_len(h:aH k w t l)(hK:K (i64 l.length) w):fF P (Builtin.len_ #[346] 3 #[.map (some t)]) w K:=by
 obtain⟨es,ck,h1,h2⟩:=h;have h3:=MK.len h2;rw[List.length_map]at h3;refine fF.by (v:=i64 l.length) (w':=w) ?_ hK;obtain⟨a,b,hu⟩:∃a b,P.underlying 346=some (.map a b):=by
  have hb:(match P.underlying 346 with|some (.map _ _)=>true|_=>false)=true:=by kernel_rfl
  split at hb
  .rename_i h;exact⟨_,_,h⟩
  .cases hb
 rw[<- h3];have hg:(getObj t).run P w=.ok (.map es ck) w:=by simp[getObj,Sem.run,h1]
 simp[Builtin.len_,run_underlying hu,hg,goInt]
set_option maxHeartbeats 1000000 in
theorem aaW(h:PR B H w p):
  Calls P 106 #[pt (B+5) 0] w (Post w (Go.M.union p) (PX B) λx v w'=>∃H',Gr H H' w.heap.size/\jH H' x.1 v/\PR B H' w' x.2):=by
 refine Post.R λR M hM hok hno=>?_;refine cf [10,12] Tryz.func106 ?_;have hl:=h.lt;have hfr:∀b,w.heap.size<=b->H b=none:=λb hb=>h.sub.fresh hb;rw[Go.M.union]at hM;refine gg ?_;refine Cl.bind (w0:=w) (X0:=PX B) hM (dR (h.ext kpA) [[117,110,105,111,110]]) hno ?_;rintro q1 v w1 hM hk1 hq1 hs1 ⟨rfl,hp1⟩;have hl1:=hp1.lt;simp only[size_alloc]at hs1;refine Cl.bind (w0:=w) (X0:=PX B) hM (KG hp1) hno ?_;rintro⟨x,q2⟩ v w2 hM hk2 hq2 hs2 ⟨rfl,hp2⟩;have hl2:=hp2.lt;dsimp only at hM hp2;refine gg ?_;refine Cl.bind (w0:=w) (X0:=PX B) hM (dR (hp2.ext kpA) [[115,119,105,116,99,104],[40]]) hno ?_;rintro q3 v w3 hM hk3 hq3 hs3 ⟨rfl,hp3⟩;have hl3:=hp3.lt;simp only[size_alloc]at hs3;have he3:w3.heap[w2.heap.size]?=some (cl [.string (bs x.s),i64 x.at_,.nilIface,.string ⟨#[]⟩,.slice none 0 0,.pointer none] aX):=by exact lookA
 refine Cl.bind (w0:=w) (X0:=PX B) hM (H7 hp3) hno ?_;rintro⟨⟨dt,lo,hi,nums⟩,q4⟩ v w4 hM hk4 hq4 hs4 ⟨H4,dv,nv,rfl,hg4,hd4,hn4,hp4⟩;have hl4:=hp4.lt;dsimp only at hM hp4 hd4 hn4;obtain⟨di,du,rfl⟩:=hd4.form;have he4:w4.heap[w2.heap.size]?=some (cl [.string (bs x.s),i64 x.at_,.nilIface,.string ⟨#[]⟩,.slice none 0 0,.pointer none] aX):=by exact lookA
 have hHe4:H4 w2.heap.size=none:=hg4.lacks (hfr _ omg) omg;obtain⟨na,nl,nc,rfl⟩:∃a n c,nv=.slice a n c:=by
  cases nums with
  |none=>cases hn4;exact⟨_,_,_,rfl⟩
  |some l=>obtain⟨_,_,_,rfl,_,_⟩:=hn4;exact⟨_,_,_,rfl⟩
 refine gg ?_
 refine Cl.w (λw9=>Kp [(w2.heap.size,w2.heap.size+1)] w4 w9/\w4.heap.size+2<=w9.heap.size/\w9.heap[w4.heap.size]?=some (cl [.slice na nl nc] zJ)/\w9.heap[w4.heap.size+1]?=some (.map #[] 0) /\
  w9.heap[w2.heap.size]?=some (cl [.string (bs x.s),i64 x.at_,.iface di du,.string ⟨#[]⟩,.slice none 0 0,.pointer none] aX)) ⟨kpA,by simp only[size_alloc,ah];omega,lookA,lookA,lookA⟩ ?_
 rintro w5 ⟨k5,z5,nb5,m5,e5⟩;have hp5:=hp4.tmp k5 omg hHe4;obtain⟨H5,G5,L5,A5,R5,N5⟩:=hp5.frz (hg4.mono (show w.heap.size<=_ by omega)) nb5 omg (hp4.sub.fresh (Nat.le_refl _)) omg;have hHe5:H5 w2.heap.size=none:=by rw[N5 _ omg];exact hHe4
 refine Cl.bind (w0:=w) (X0:=PX B) hM (MR (s:=w4.heap.size+1) (l:=[]) A5 omg ⟨#[],0,m5,MK.empty⟩) hno ?_ (hkp:=hq4.out.trans k5 (λi hi ho=>⟨ho,omg,trivial⟩));rintro⟨x6,ns6,q6⟩ v w6 hM6 hk6 hq6 hs6 ⟨rfl,hset6,hp6⟩;have hl6:=hp6.lt;dsimp only at hM6 hp6 hset6;have e6:w6.heap[w2.heap.size]?=some (cl [.string (bs x.s),i64 x.at_,.iface di du,.string ⟨#[]⟩,.slice none 0 0,.pointer none] aX):=by exact lookA
 refine gg ?_
 refine Cl.w (λw9=>Kp [(w2.heap.size,w2.heap.size+1)] w6 w9/\w9.heap[w6.heap.size]?=some (cl [κs [41],κs [123]] oH) /\
  w9.heap[w2.heap.size]?=some (cl [.string (bs x.s),i64 x.at_,.iface di du,.string (bs x6.s),.slice none 0 0,.pointer none] aX)) ⟨kpA,lookA,lookA⟩ ?_
 rintro w7 ⟨k7,n7,e7⟩;have z7:=k7.size;refine Cl.bind (w0:=w) (X0:=PX B) hM6 (dR (hp6.tmp k7 omg hHe5) [[41],[123]]) hno ?_;rintro q8 v w8 hM8 hk8 hq8 hs8 ⟨rfl,hp8⟩;have hl8:=hp8.lt;have e8:w8.heap[w2.heap.size]?=some (cl [.string (bs x.s),i64 x.at_,.iface di du,.string (bs x6.s),.slice none 0 0,.pointer none] aX):=by exact lookA
 have hset8:aW w8 (w4.heap.size+1) ns6:=aW.kp (aW.kp hset6 k7 ⟨omg,trivial⟩) hk8 ⟨omg,trivial⟩;have hq8':Kp (PX B) w w8:=hq8.out;obtain⟨F,hF,hM8⟩:=Res.named hM8;have hnl:=hn4.len;have hf8:H5 (w8.heap.size+1)=none:=hp8.sub.fresh omg;refine gg ?_;refine(λ(Q:∀w9,Kp [] w8 w9/\w9.heap[w8.heap.size+1]?=some (cl [.map (some w8.heap.size)] kN)/\w9.heap[w8.heap.size]?=some (.map #[] 0)/\w8.heap.size+2<=w9.heap.size->Lp [.bool true,undef] w9 _)=>Q _ ⟨kpA,lookA,lookA,by simp only[size_alloc,ah];omega⟩) ?_;rintro w9 ⟨k9,tb9,m9,z9⟩;obtain⟨H9,G9,L9,A9,R9,N9⟩:=(hp8.ext k9).frz G5 tb9 omg hf8 omg;have hHe9:H9 w2.heap.size=none:=by rw[N9 _ omg];exact hHe5
 have hHt9:H9 w8.heap.size=none:=by rw[N9 _ omg];exact hp8.sub.fresh (Nat.le_refl _)
 refine Lp.nat (n:=13) (λn vals w'=>∃(first:Bool) (vv:Value) (p':PS) (ar:List Arm) (l:List By) (there:List Int) (cs:List Value) (v1:Value) (o1:Option Nat) (H':Hp),vals=[.bool first,vv]/\ar.length+n=13/\there.length<=12/\ar.length<=there.length/\(first=true\/0<ar.length) /\
  PR B H' w' p'/\Gr H H' w.heap.size/\Hle H9 H'/\lX H' ar cs/\H' w2.heap.size=none/\H' w8.heap.size=none /\
  w'.heap[w2.heap.size]?=some (cl [.string (bs x.s),i64 x.at_,.iface di du,.string (bs x6.s),v1,.pointer none] aX)/\Gw w' dY 3 v1 ar.length cs o1/\aW w' (w4.heap.size+1) l/\aH .i64 w' w8.heap.size there /\
  (∀b,o1=some b->w8.heap.size+1<b/\H' b=none)/\Kp (PX B) w w'/\w8.heap.size+1<w'.heap.size /\
  M=(if first||p'.w.is [99,97,115,101]then mO lo hi nums n p' ar l there else .ok (ar,l,p')).andThen F) ?_ ?_
 .exact⟨true,undef,q8,[],ns6,[],[],.slice none 0 0,none,H9,rfl,rfl,smp,smp,Or.inl rfl,A9,G9,Hle.refl _,trivial,hHe9,hHt9,(k9.same _ omg trivial).trans e8,Gw.nil _ _ _,aW.kp hset8 k9 trivial,⟨#[],0,m9,MK.empty⟩,smp,hq8'.trans k9 (λi _ ho=>⟨ho,trivial⟩),omg,hM8⟩
 rintro n _ wL jk C ⟨first,vv,p',ar,l,there,cs,v1,o1,H',rfl,hn,hth,har,hfst,hpL,hgL,Z5,hdL,hHe,hHt,heL,hg1,hsL,hiL,ho1,hkL,hszL,hML⟩ hC;obtain⟨a1,cp1,rfl⟩:=hg1.len;have hlL:=hpL.lt;refine .s ?_;refine acz hpL λw5' k5'=>?_;refine .split (λhcase=>?_) (λhcase=>?_)
 .rw[hcase,if_pos rfl]at hML;cases n with
  |zero=>exact absurd har omg
  |succ n=>
  rw[mO]at hML;simp only[Res.assoc]at hML;obtain⟨G,hG,hML⟩:=Res.named hML;have z5':=k5'.size;refine gg ?_;refine(λ(Q:∀w10,Kp [] w5' w10/\w10.heap[w5'.heap.size]?=some (cl [.slice none 0 0,.string ⟨#[]⟩,.nilIface] dY)->Lp [.bool true] w10 _)=>Q _ ⟨kpA,lookA⟩) ?_;rintro wA ⟨kA,nA⟩;have zA:=lt_of_heap nA;have kLA:Kp [] wL wA:=k5'.trans kA (λ_ _ _=>⟨trivial,trivial⟩);have kwA:Kp (PX B) w wA:=hkL.trans kLA (λi _ ho=>⟨ho,trivial⟩);have hpA:=hpL.ext kLA;have hfA:∀b,w5'.heap.size<=b->H' b=none:=λb hb=>(hpL.ext k5').sub.fresh hb
  refine Lp.nat (n:=12 - there.length) (λn vals w'=>∃(more:Bool) (p'':PS) (a th:List Int) (va:Value) (oa:Option Nat),vals=[.bool more]/\th.length+n=12/\a.length+there.length=th.length/\(more=true\/0<a.length) /\
   PR B H' w' p''/\w'.heap[w5'.heap.size]?=some (cl [va,.string ⟨#[]⟩,.nilIface] dY)/\Gw w' jI 1 va a.length (a.map i64) oa/\aH .i64 w' w8.heap.size th/\(∀b,oa=some b->w5'.heap.size<b) /\
   Kp [(B,B+6),(w8.heap.size,w8.heap.size+1)] w5' w'/\w5'.heap.size<w'.heap.size/\M=(if more then jA lo hi nums n p'' a th else .ok (a,th,p'')).andThen G) ?_ ?_
  .exact⟨true,p',[],there,.slice none 0 0,none,rfl,omg,smp,Or.inl rfl,hpA,nA,Gw.nil _ _ _,aH.kp hiL kLA trivial,smp,kA.any,zA,hML⟩
  rintro m _ wI jk2 C2 ⟨more,p'',a,th,va,oa,rfl,hm,hath,hmore,hpI,nI,hga,hiI,hoa,kI,zI,hMI⟩ hC2;obtain⟨aa,ca,rfl⟩:=hga.len;have hlI:=hpI.lt;have kwI:Kp (PX B) w wI:=(hkL.trans k5' (λi _ ho=>⟨ho,trivial⟩):Kp (PX B) w w5').trans kI (λi hi ho=>⟨ho,ho.1,omg,trivial⟩);have htb:H' (w8.heap.size+1)=some ([.map (some w8.heap.size)],kN):=Z5 _ _ R9;have hnb:H' w4.heap.size=some ([.slice na nl nc],zJ):=Z5 _ _ (L9 _ _ R5);have gtb:=hpI.sub _ _ _ htb;have gtbl:=lt_of_heap gtb;cases more with
  |true=>
   rw[if_pos rfl]at hMI;refine gg ?_;refine g_len hiI ?_;cases m with
   |zero=>
    refine Cl.jg (w0:=w) (X0:=PX B) (m:=count p'' th.length 12) (k:=λ_=>M) ?_ (lu hpI th.length 12) hno ?_
    .rw[count,if_pos omg];rw[hMI,jA];rfl
    .rintro _ v w4 e4;have:=jy e4;omega
   |succ m=>
   refine Cl.jg (w0:=w) (X0:=PX B) (m:=count p'' th.length 12) (k:=λ_=>M) (by rw[count,if_neg omg];rfl) (lu hpI th.length 12) hno ?_;rintro _ v wI2 e10 _ hk10 hq10 hs10 rfl;rw[jA]at hMI;simp only[Res.assoc]at hMI;refine gg ?_;refine Cl.bind (w0:=w) (X0:=PX B) hMI (dR (hpI.ext kpA) [[99,97,115,101]]) hno ?_;rintro q11 v w11 hM11 hk11 hq11 hs11 ⟨rfl,Uc⟩;have hl11:=Uc.lt;simp only[size_alloc]at hs11;have i11:aH .i64 w11 w8.heap.size th:=aH.kp (aH.kp (X:=[]) hiI kpA trivial) hk11 ⟨omg,trivial⟩
   refine Cl.jg (w0:=w) (X0:=PX B) hM11 (yg Uc lo hi _ _ (λw=>PR B H' w q11/\aH .i64 w w8.heap.size th) (λl w=>PR B H' w q11/\aH .i64 w w8.heap.size l) [(w8.heap.size,w8.heap.size+1)] (λ_ q=>q)
    ⟨Uc,i11⟩ (λ_ _ a k=>⟨a.1.ext k,aH.kp a.2 k trivial⟩) (Xk omg hHt (hn4.le ((L5.trans L9).trans Z5)) hnb htb hnl) (λ_ _ a=>a.1) (UB q11)) hno ?_
   rintro⟨n12,l12,q12⟩ v w12 e12 hM12 hk12 hq12 hs12 ⟨rfl,Oe,wX,⟨_,hsX⟩,hkX⟩;have hl12:=Oe.lt;dsimp only at hM12 Oe e12 hsX;have i12:=aH.kp hsX hkX ⟨omg,trivial⟩;clear hkX;have hl12e:l12=th++[n12]:=Ie e12;have kB:Kp [(B,B+6),(w8.heap.size,w8.heap.size+1)] wI2 w12:=by exact kpA
   have n12':w12.heap[w5'.heap.size]?=some (cl [.slice aa a.length ca,.string ⟨#[]⟩,.nilIface] dY):=by exact lookA
   refine gg ?_;refine Ap.w (λw9=>Kp [] w12 w9/\w9.heap[w12.heap.size]?=some (cl [.int .i64 n12] jI)) ⟨kpA,lookA⟩ ?_;rintro w13 ⟨k13,n13⟩;have z13:=lt_of_heap n13;have ga12:=hga.kp kB (λb hb=>⟨by have:=hoa b hb;omega,by have:=hoa b hb;omega,trivial⟩);refine Ap.g (ga12.kp k13 (λ_ _=>trivial)) n13 rfl rfl ?_ omg;intro va' w14 oa' ga hoa' k14;have z14:=k14.size;have n14:w14.heap[w5'.heap.size]?=some (cl [.slice aa a.length ca,.string ⟨#[]⟩,.nilIface] dY):=
    (k14.same _ omg (aF λhb=>by have:=hoa _ hb;omega)).trans ((k13.same _ omg trivial).trans n12')
   have i14:=aH.kp (aH.kp i12 k13 trivial) k14 (aF λhb=>by have:=hoa _ hb;omega);have b14:=(Oe.ext k13).own k14 (λb hb=>⟨by have:=hoa b hb;omega,hfA b (by have:=hoa b hb;omega)⟩);obtain⟨aa',ca',rfl⟩:=ga.len;refine gg ?_;refine Cl.w (λw9=>Kp [(w5'.heap.size,w5'.heap.size+1)] w14 w9/\w9.heap[w5'.heap.size]?=some (cl [.slice aa' (a.length+1) ca',.string ⟨#[]⟩,.nilIface] dY)/\w9.heap[w14.heap.size]?=some (cl [κs [58]] oH)) ⟨kpA,lookA,lookA⟩ ?_;rintro w15 ⟨k15,n15,m15⟩;have z15:=k15.size;have oaf:∀b,oa'=some b->w5'.heap.size<b:=by
    intro b hb;rcases hoa' with r|r<;>rw[r]at hb
    .exact hoa b hb
    .cases hb;omega
   have kC:Kp [(B,B+6),(w8.heap.size,w8.heap.size+1)] w5' w15:=by
    have c1:=((kI.trans kB (λi _ ho=>⟨ho,ho⟩):Kp [(B,B+6),(w8.heap.size,w8.heap.size+1)] w5' w12).trans k13 (λi _ ho=>⟨ho,trivial⟩):Kp [(B,B+6),(w8.heap.size,w8.heap.size+1)] w5' w13).own k14 (λb hb=>by have:=hoa b hb;omega);exact c1.trans k15 (λi hi ho=>⟨ho,omg,trivial⟩)
   have kk:Kp (PX B) w w15:=by
    have c1:=(hq12.out.trans k13 (λi _ ho=>⟨ho,trivial⟩):Kp (PX B) w w13).own k14 (λb hb=>by have:=hoa b hb;omega);exact c1.trans k15 (λi hi ho=>⟨ho,omg,trivial⟩)
   refine Cl.bind (w0:=w) (X0:=PX B) (hkp:=kk) hM12 (dR (b14.tmp k15 omg (hfA _ (Nat.le_refl _))) [[58]]) hno ?_;rintro q16 v w16 hM16 hk16 hq16 hs16 ⟨rfl,hp16⟩;have hl16:=hp16.lt;have hc16:=hp16.hp;rw[bF]at hc16;have n16:w16.heap[w5'.heap.size]?=some (cl [.slice aa' (a.length+1) ca',.string ⟨#[]⟩,.nilIface] dY):=by exact lookA
   refine gg ?_;refine Cl.plain (w0:=w) (X0:=PX B) (yc w16 q16.w [99,97,115,101]) (λw17 Jv hq17 hs17=>?_) kpA;have en:(a++[n12]).length=a.length+1:=by simp
   have em:(a++[n12]).map i64=a.map i64++[.int .i64 n12]:=by simp
   have ga17:=((ga.kp k15 (λb hb=>⟨by have:=oaf b hb;omega,trivial⟩)).kp hk16 (λb hb=>⟨by have:=oaf b hb;omega,trivial⟩)).kp Jv (λ_ _=>trivial);have i17:=aH.kp (aH.kp (aH.kp i14 k15 ⟨omg,trivial⟩) hk16 ⟨omg,trivial⟩) Jv trivial
   refine hC2 m _ w17 omg ⟨q16.w.is [99,97,115,101],q16,a++[n12],l12,_,oa',rfl,by rw[hl12e,List.length_append];simp only[List.length_cons,List.length_nil];omega,by rw[hl12e,en,List.length_append];simp only[List.length_cons,List.length_nil];omega,
    Or.inr (by rw[en];omega),hp16.ext Jv,(Jv.same _ omg trivial).trans n16,by rw[en,em];exact ga17,i17,oaf,?_,omg,hM16⟩
   exact(kC.trans hk16 (λi _ ho=>⟨ho,ho.1,trivial⟩):Kp [(B,B+6),(w8.heap.size,w8.heap.size+1)] w5' w16).trans Jv (λi _ ho=>⟨ho,trivial⟩)
  |false=>
   rw[if_neg dcd]at hMI;subst hG;simp only[Res.aS]at hMI
   have ha0:0<a.length:=by rcases hmore with h|h;· cases h
                           · exact h
   have hsI:aW wI (w4.heap.size+1) l:=aW.kp (aW.kp hsL k5' trivial) kI ⟨omg,omg,trivial⟩;have heI:wI.heap[w2.heap.size]?=some (cl [.string (bs x.s),i64 x.at_,.iface di du,.string (bs x6.s),.slice a1 ar.length cp1,.pointer none] aX):=(kI.same _ omg ⟨omg,omg,trivial⟩).trans ((k5'.same _ omg trivial).trans heL);have hgI:=(hg1.kp k5' (λ_ _=>trivial)).kp kI (λb hb=>⟨by have:=ho1 b hb;omega,by have:=ho1 b hb;omega,trivial⟩);have zLA:=kLA.size;have zAI:=kI.size;have nv1:∀b,o1=some b->b<wL.heap.size:=hg1.lt;refine gg ?_;refine Cl.bind (w0:=w) (X0:=PX B) hMI (w_arm hpI omg hsI) hno ?_;rintro⟨d,l',q20⟩ v w20 hM20 hk20 hq20 hs20 ⟨H20,tv,rfl,Q5,ht20,ZR,Xq⟩;have hl20:=Xq.lt;dsimp only at hM20 Xq ht20 ZR;obtain⟨ti,tu,rfl⟩:=ht20.form;have n20:w20.heap[w5'.heap.size]?=some (cl [.slice aa a.length ca,.string ⟨#[]⟩,.nilIface] dY):=by exact lookA
   have e20:w20.heap[w2.heap.size]?=some (cl [.string (bs x.s),i64 x.at_,.iface di du,.string (bs x6.s),.slice a1 ar.length cp1,.pointer none] aX):=by exact lookA
   have g20:=hgI.kp hk20 (λb hb=>⟨by have:=ho1 b hb;omega,by have:=ho1 b hb;omega,trivial⟩);have hHe20:=Q5.lacks hHe omg;have hHt20:=Q5.lacks hHt omg;have hHa20:=Q5.lacks (hfA w5'.heap.size (Nat.le_refl _)) omg;have ho20:∀b,o1=some b->H20 b=none:=λb hb=>Q5.lacks (ho1 b hb).2 (by have:=nv1 b hb;omega);obtain⟨cb,VJ,ccap,hcb,hcs,hch⟩:=Gw.some hga ha0;cases hcs;have hcb1:=hoa cb hcb;have hcb2:=hga.lt cb hcb;have hcb20:=Q5.lacks (hfA cb omg) hcb2;have i20:aH .i64 w20 w8.heap.size th:=aH.kp hiI hk20 ⟨omg,omg,trivial⟩;refine gg ?_;refine Ap.w (λw9=>Kp [(w5'.heap.size,w5'.heap.size+1)] w20 w9/\w9.heap[w20.heap.size]?=some (cl [.slice (some ⟨cb,0,none⟩) a.length ca,.string (bs d.name),.iface ti tu] dY)) ⟨kpA,lookA⟩ ?_;rintro w21 ⟨k21,n21⟩;have z21:=lt_of_heap n21;refine Ap.g (g20.kp k21 (λb hb=>⟨by have:=nv1 b hb;omega,trivial⟩)) n21 rfl rfl ?_ omg;intro v1' w22 o1' g22 Ju k22;have z22:=k22.size;have e22:w22.heap[w2.heap.size]?=some (cl [.string (bs x.s),i64 x.at_,.iface di du,.string (bs x6.s),.slice a1 ar.length cp1,.pointer none] aX):=
    (k22.same _ omg (aF λhb=>by have:=ho1 _ hb;omega)).trans ((k21.same _ omg ⟨omg,trivial⟩).trans e20)
   have s22:=aW.kp (aW.kp ZR k21 ⟨omg,trivial⟩) k22 (aF λhb=>by have:=ho1 _ hb;omega);have i22:=aH.kp (aH.kp i20 k21 ⟨omg,trivial⟩) k22 (aF λhb=>by have:=ho1 _ hb;omega);have c22:w22.heap[cb]?=some (cl (a.map i64++VJ) jI):=
    (k22.same _ omg (aF λhb=>by have:=nv1 _ hb;omega)).trans ((k21.same _ omg ⟨omg,trivial⟩).trans ((hk20.same _ hcb2 ⟨omg,omg,trivial⟩).trans hch))
   have b22:=(Xq.tmp k21 omg hHa20).own k22 (λb hb=>⟨by have:=ho1 b hb;omega,ho20 b hb⟩);obtain⟨a1',rJ,rfl⟩:=g22.len;refine gg ?_;refine(λ(Q:∀w9,Kp [(w2.heap.size,w2.heap.size+1)] w22 w9/\w9.heap[w2.heap.size]?=some (cl [.string (bs x.s),i64 x.at_,.iface di du,.string (bs x6.s),.slice a1' (ar.length+1) rJ,.pointer none] aX)->C [.bool false,.bool false] w9)=>Q _ ⟨kpA,lookA⟩) ?_;rintro w23 ⟨k23,e23⟩;have z23:=k23.size;have b23:=b22.tmp k23 omg hHe20;have c23:w23.heap[cb]?=some (cl (a.map i64++VJ) jI):=(k23.same _ omg ⟨omg,trivial⟩).trans c22;have gr20:Gr H H20 w.heap.size:=hgL.trans Q5 (by have:=kwI.size;omega);obtain⟨H24,G24,L24,A24,R24,N24⟩:=b23.frz gr20 c23 omg hcb20 omg;have o1f:∀b,o1'=some b->w8.heap.size+1<b/\H24 b=none:=by
    intro b hb;rcases Ju with r|r<;>rw[r]at hb
    .have:=nv1 b hb;exact⟨(ho1 b hb).1,by rw[N24 _ omg];exact ho20 b hb⟩
    .cases hb;exact⟨omg,by rw[N24 _ omg];exact Xq.sub.fresh omg⟩
   have en:∀y:Arm,(ar++[y]).length=ar.length+1:=λy=>by simp
   have hd24:lX H24 (ar++[⟨a,d⟩]) (cs++[.slice (some ⟨cb,0,none⟩) a.length ca,.string (bs d.name),.iface ti tu]):=
    lX.snoc (d:=⟨a,d⟩) ⟨cb,VJ,ca,rfl,R24⟩ (ht20.le L24) (hdL.le (Q5.1.trans L24))
   have kk:Kp (PX B) w w23:=by
    have c1:=(hq20.out.trans k21 (λi hi ho=>⟨ho,omg,trivial⟩):Kp (PX B) w w21).own k22 (λb hb=>by have:=ho1 b hb;omega);exact c1.trans k23 (λi hi ho=>⟨ho,omg,trivial⟩)
   refine hC n _ w23 omg ⟨false,.bool false,q20,ar++[⟨a,d⟩],l',th,_,_,o1',H24,rfl,by rw[en];omega,omg,by rw[en];omega,Or.inr (by rw[en];omega),A24,G24,Z5.trans (Q5.1.trans L24),hd24,by rw[N24 _ omg];exact hHe20,by rw[N24 _ omg];exact hHt20,
    e23,by rw[en];exact g22.kp k23 (λb hb=>⟨by have:=o1f b hb;omega,trivial⟩),aW.kp s22 k23 ⟨omg,trivial⟩,aH.kp i22 k23 ⟨omg,trivial⟩,o1f,kk,omg,?_⟩
   rw[Bool.false_or];exact hM20
 .rw[hcase]at hML;simp only[Bool.false_eq_true,if_false,Res.aS]at hML;have hf:first=false:=by cases first<;>simp_all
  have har0:0<ar.length:=by rcases hfst with h|h
                            · rw [hf] at h; cases h
                            · exact h
  subst hF;have z5':=k5'.size;have hp5':=hpL.ext k5';have e5':w5'.heap[w2.heap.size]?=some (cl [.string (bs x.s),i64 x.at_,.iface di du,.string (bs x6.s),.slice a1 ar.length cp1,.pointer none] aX):=(k5'.same _ omg trivial).trans heL;have g5':=hg1.kp k5' (λ_ _=>trivial);have s5':=aW.kp hsL k5' trivial;have kw5':Kp (PX B) w w5':=hkL.trans k5' (λi _ ho=>⟨ho,trivial⟩);have nv1:∀b,o1=some b->b<wL.heap.size:=hg1.lt
  refine Jn.by (λ_ w30=>∃els ev q30 H30,(M=(want q30 [[125],[59]]).andThen λp=>.ok (⟨x.s,x.at_,.union dt x6.s ar els⟩,p))/\Gr H H30 w.heap.size/\Hle H' H30/\PR B H30 w30 q30 /\
   w30.heap[w2.heap.size]?=some (cl [.string (bs x.s),i64 x.at_,.iface di du,.string (bs x6.s),.slice a1 ar.length cp1,ev] aX)/\H30 w2.heap.size=none/\Gw w30 dY 3 (.slice a1 ar.length cp1) ar.length cs o1 /\
   (∀b,o1=some b->H30 b=none)/\VX H30 els ev/\Kp (PX B) w w30/\w5'.heap.size<=w30.heap.size) (λJ hJ=>?_) ?_
  .refine Cl.bind (w0:=w) (X0:=PX B) hML (jQ hp5' [100,101,102,97,117,108,116]) hno ?_;rintro⟨bb,q31⟩ v w31 hM31 hk31 hq31 hs31 ⟨hv,hp31⟩;dsimp only at hM31 hp31 hv;subst hv;have hl31:=hp31.lt;have g31:=g5'.kp hk31 (λb hb=>⟨by have:=ho1 b hb;omega,trivial⟩);have e31:w31.heap[w2.heap.size]?=some (cl [.string (bs x.s),i64 x.at_,.iface di du,.string (bs x6.s),.slice a1 ar.length cp1,.pointer none] aX):=by exact lookA
   have s31:=aW.kp s5' hk31 ⟨omg,trivial⟩;cases bb with
   |false=>
    simp only[Bool.false_eq_true,if_false,Res.aS]at hM31;refine gg ?_;exact hJ _ _ ⟨none,.pointer none,q31,H',hM31,hgL,Hle.refl _,hp31,e31,hHe,g31,λb hb=>(ho1 b hb).2,rfl,hq31.out,hs31⟩
   |true=>
    simp only[if_true,Res.assoc,Res.aS]at hM31;refine gg ?_;refine Cl.bind (w0:=w) (X0:=PX B) hM31 (dR (hp31.ext kpA) [[58]]) hno ?_;rintro q32 v w32 hM32 hk32 hq32 hs32 ⟨rfl,hp32⟩;have hl32:=hp32.lt;simp only[size_alloc]at hs32;have k32:Kp (PX B) w31 w32:=by exact kpA
    have s32:=aW.kp s31 k32 ⟨omg,trivial⟩;have g32:=g31.kp k32 (λb hb=>⟨by have:=ho1 b hb;omega,trivial⟩);have e32:w32.heap[w2.heap.size]?=some (cl [.string (bs x.s),i64 x.at_,.iface di du,.string (bs x6.s),.slice a1 ar.length cp1,.pointer none] aX):=(k32.same _ omg ⟨omg,trivial⟩).trans e31;clear k32;refine Cl.bind (w0:=w) (X0:=PX B) hM32 (w_arm hp32 omg s32) hno ?_;rintro⟨d,l',q33⟩ v w33 hM33 hk33 hq33 hs33 ⟨H33,tv,rfl,hg33,ht33,hset33,hp33⟩;have hl33:=hp33.lt;dsimp only at hM33 hp33 ht33 hset33;obtain⟨ti,tu,rfl⟩:=ht33.form;have e33:w33.heap[w2.heap.size]?=some (cl [.string (bs x.s),i64 x.at_,.iface di du,.string (bs x6.s),.slice a1 ar.length cp1,.pointer none] aX):=by exact lookA
    have g33:=g32.kp hk33 (λb hb=>⟨by have:=ho1 b hb;omega,by have:=ho1 b hb;omega,trivial⟩);have hHe33:=hg33.lacks hHe omg;have ho33:∀b,o1=some b->H33 b=none:=λb hb=>hg33.lacks (ho1 b hb).2 (by have:=nv1 b hb;omega);have gr33:Gr H H33 w.heap.size:=hgL.trans hg33 (by have:=kw5'.size;omega);refine gg ?_
    refine(λ(Q:∀w9,Kp [(w2.heap.size,w2.heap.size+1)] w33 w9/\w9.heap[w2.heap.size]?=some (cl [.string (bs x.s),i64 x.at_,.iface di du,.string (bs x6.s),.slice a1 ar.length cp1,pt w33.heap.size 0] aX) /\
     w9.heap[w33.heap.size]?=some (cl [.string (bs d.name),.iface ti tu] jD)->J [] w9)=>Q _ ⟨kpA,lookA,lookA⟩) ?_
    rintro w34 ⟨k34,e34,d34⟩;have b34:=hp33.tmp k34 omg hHe33;obtain⟨H35,G35,L35,A35,R35,N35⟩:=b34.frz gr33 d34 omg (hp33.sub.fresh (Nat.le_refl _)) omg
    refine hJ _ _ ⟨some d,pt w33.heap.size 0,q33,H35,hM33,G35,hg33.1.trans L35,A35,e34,by rw[N35 _ omg];exact hHe33,g33.kp k34 (λb hb=>⟨by have:=ho1 b hb;omega,trivial⟩),λb hb=>by have:=nv1 b hb;rw[N35 _ omg];exact ho33 b hb,
     ⟨_,_,rfl,R35,ht33.le L35⟩,hq33.out.trans k34 (λi hi ho=>⟨ho,omg,trivial⟩),by have:=k34.size;omega⟩
  .rintro _ w30 jk ⟨els,ev,q30,H30,hM30,gr30,hl30,ZX,e30,hHe30,g30,ho30,hev,kw30,z30⟩;have hl30':=ZX.lt;refine gg ?_;refine Cl.bind (w0:=w) (X0:=PX B) hM30 (dR (ZX.ext kpA) [[125],[59]]) hno ?_;rintro q36 v w36 hM36 hk36 hq36 hs36 ⟨rfl,hp36⟩;have hl36:=hp36.lt;simp only[size_alloc]at hs36;have k36:Kp (PX B) w30 w36:=by exact kpA
   have e36:w36.heap[w2.heap.size]?=some (cl [.string (bs x.s),i64 x.at_,.iface di du,.string (bs x6.s),.slice a1 ar.length cp1,ev] aX):=(k36.same _ omg ⟨omg,trivial⟩).trans e30;have g36:=g30.kp k36 (λb hb=>⟨by have:=ho1 b hb;omega,trivial⟩);obtain⟨c1,nZ,cap1,rfl,hv1,hh1⟩:=Gw.some g36 har0;cases hv1;obtain⟨H0,G0,L0,A0,R0,N0⟩:=hp36.frz gr30 e36 omg hHe30 omg;have oc1:=ho1 c1 rfl;obtain⟨H1,G1,L1,A1,R1,N1⟩:=A0.frz G0 hh1 omg (by rw[N0 _ omg];exact ho30 c1 rfl) omg;have hD:jH H1 ⟨x.s,x.at_,.union dt x6.s ar els⟩ (.iface vH (pt w2.heap.size 0)):=by
    refine⟨w2.heap.size,.iface di du,.slice (some ⟨c1,0,none⟩) ar.length cp1,cs,ev,rfl,L1 _ _ R0,hd4.le (L5.trans (L9.trans (Z5.trans (hl30.trans (L0.trans L1))))),hdL.le (hl30.trans (L0.trans L1)),⟨c1,nZ,cp1,rfl,R1⟩,?_⟩;cases els with
    |none=>exact hev
    |some x=>obtain⟨c,t,h1,h2,h3⟩:=hev;exact⟨c,t,h1,L1 _ _ (L0 _ _ h2),h3.le (L0.trans L1)⟩
   exact hok _ _ _ hM36 hq36.out ⟨H1,G1,hD,A1⟩
end Go.W.T
namespace Go.W.T
open Go Go.W Go.M Go.Proofs
def DefOk(B:Nat)(H:Hp)(w:World):Def×PS->Value->World->Prop:=λx v w'=>∃H',Gr H H' w.heap.size/\jH H' x.1 v/\PR B H' w' x.2
theorem MQ(h:PR B H w p):
  Calls P 63 #[pt (B+5) 0] w (Post w (definition p) (PX B) (DefOk B H w)):=by
 refine Post.R λR M hM hok hno=>?_;refine cf [3] Tryz.func63 ?_;have hp:=h.hp;have hl:=h.lt;rw[bF]at hp;rw[definition]at hM;refine gg ?_;refine Cl.plain (w0:=w) (X0:=PX B) (yc w p.w [99,111,110,115,116]) (λw1 hk1 hq1 hs1=>?_) kpA;have hp1:=h.ext hk1;cases hc1:p.w.is [99,111,110,115,116]with
 |true=>
  rw[hc1,if_pos rfl]at hM;refine gg ?_;refine Cl.bind (w0:=w) (X0:=PX B) (m:=constant p) (k:=λx=>.ok x) (by rw[hM];cases constant p<;>rfl) (S9 hp1) hno ?_;rintro x v w2 hM hk2 hq2 hs2 ⟨H2,hg2,hd2,hp2⟩;exact hok _ _ _ hM hq2.out ⟨H2,hg2.mono hs1,hd2,hp2⟩
 |false=>
 rw[hc1,if_neg dcd]at hM;have hx1:=hp1.hp;rw[bF]at hx1;refine gg ?_;refine Cl.plain (w0:=w) (X0:=PX B) (yc w1 p.w [112,114,111,103,114,97,109]) (λw2 hk2 hq2 hs2=>?_) kpA;have hp2:=hp1.ext hk2;cases hc2:p.w.is [112,114,111,103,114,97,109]with
 |true=>
  rw[hc2,if_pos rfl]at hM;refine gg ?_;refine Cl.bind (w0:=w) (X0:=PX B) (m:=Go.M.program p) (k:=λx=>.ok x) (by rw[hM];cases Go.M.program p<;>rfl) (Wp hp2) hno ?_;rintro x v w3 hM hk3 hq3 hs3 ⟨H3,hg3,hd3,hp3⟩;exact hok _ _ _ hM hq3.out ⟨H3,hg3.mono omg,hd3,hp3⟩
 |false=>
 rw[hc2,if_neg dcd]at hM;have hx2:=hp2.hp;rw[bF]at hx2;refine gg ?_;have kw2:Kp [] w w2:=hk1.trans hk2 (λ_ _ _=>⟨trivial,trivial⟩)
 refine Jn.by (λvals w'=>∃(f:FuncId) (fm:PS->Res (Def×PS)),vals=[.func (.func f) #[pt (B+5) 0] #[]]/\(M=(count p p.n0 24).andThen λ_=>fm { p with n0:=p.n0+1 })/\Kp [] w w'/\nK P f=true /\
  ∀{w:World} {q:PS},PR B H w q->Calls P f #[pt (B+5) 0] w (Post w (fm q) (PX B) (DefOk B H w))) (λJ hJ=>?_) ?_
 .refine gg ?_;refine Cl.plain (w0:=w) (X0:=PX B) (yc w2 p.w [116,121,112,101,100,101,102]) (λw3 hk3 hq3 hs3=>?_) kpA;have hx3:=(hp2.ext hk3).hp;rw[bF]at hx3;have kw3:Kp [] w w3:=kw2.trans hk3 (λ_ _ _=>⟨trivial,trivial⟩);cases hc3:p.w.is [116,121,112,101,100,101,102]with
  |true=>
   rw[hc3]at hM;refine gg ?_;exact hJ _ _ ⟨103,alias,rfl,hM,kw3,by kernel_rfl,λh=>aaZ h⟩
  |false=>
  rw[hc3]at hM;refine gg ?_;refine Cl.plain (w0:=w) (X0:=PX B) (yc w3 p.w [101,110,117,109]) (λw4 hk4 hq4 hs4=>?_) kpA;have hx4:=((hp2.ext hk3).ext hk4).hp;rw[bF]at hx4;have kw4:Kp [] w w4:=kw3.trans hk4 (λ_ _ _=>⟨trivial,trivial⟩);cases hc4:p.w.is [101,110,117,109]with
  |true=>
   rw[hc4]at hM;refine gg ?_;exact hJ _ _ ⟨104,enum,rfl,hM,kw4,by kernel_rfl,λh=>w_enum h⟩
  |false=>
  rw[hc4]at hM;refine gg ?_;refine Cl.plain (w0:=w) (X0:=PX B) (yc w4 p.w [115,116,114,117,99,116]) (λw5 hk5 hq5 hs5=>?_) kpA;have hx5:=(((hp2.ext hk3).ext hk4).ext hk5).hp;rw[bF]at hx5;have kw5:Kp [] w w5:=kw4.trans hk5 (λ_ _ _=>⟨trivial,trivial⟩);cases hc5:p.w.is [115,116,114,117,99,116]with
  |true=>
   rw[hc5]at hM;refine gg ?_;exact hJ _ _ ⟨105,jE,rfl,hM,kw5,by kernel_rfl,λh=>O4 h⟩
  |false=>
  rw[hc5]at hM;refine gg ?_;refine Cl.plain (w0:=w) (X0:=PX B) (yc w5 p.w [117,110,105,111,110]) (λw6 hk6 hq6 hs6=>?_) kpA;have kw6:Kp [] w w6:=kw5.trans hk6 (λ_ _ _=>⟨trivial,trivial⟩);cases hc6:p.w.is [117,110,105,111,110]with
  |true=>
   rw[hc6]at hM;refine gg ?_;exact hJ _ _ ⟨106,Go.M.union,rfl,hM,kw6,by kernel_rfl,λh=>aaW h⟩
  |false=>
   rw[hc6]at hM;refine gg ?_;refine Cl.bind (w0:=w) (X0:=PX B) (m:=(bad p:Res (Def×PS))) (k:=λx=>.ok x) (by rw[hM];rfl) (H8 (h.ext kw6)) hno ?_ (hkp:=kw6.any);rintro _ _ _ _ _ _ _ hf;exact hf.elim
 .rintro _ w7 jk ⟨f,fm,rfl,hM7,k7,hpl,hf⟩;have hp7:=h.ext k7;have hx7:=hp7.hp;rw[bF]at hx7;refine gg ?_;refine Cl.jg (w0:=w) (X0:=PX B) hM7 (lu hp7 p.n0 24) hno ?_ (hkp:=k7.any);rintro _ v w8 e8 hM8 hk8 hq8 hs8 rfl;have c8:=jy e8;refine gg ?_;have b8:PR B H (ag w8.drew (B+5) (cl (bF B { p with n0:=p.n0+1 }) bg)) { p with n0:=p.n0+1 }:=
   hp7.counts kpA (aC rfl (by simp only[size_drew];have:=hp7.lt;omega)) rfl (by show p.n0+1<=24;omega) hp7.c1 hp7.c2
  have k8:Kp (PX B) w (ag w8.drew (B+5) (cl (bF B { p with n0:=p.n0+1 }) bg)):=(k7.any.drew).yS (by simp only[Out,and_true,true_and];omega) _;refine oC.f hpl ?_;refine Cl.bind (w0:=w) (X0:=PX B) (m:=fm { p with n0:=p.n0+1 }) (k:=λx=>.ok x) (by rw[hM8];cases fm { p with n0:=p.n0+1 }<;>rfl) (hf b8) hno ?_ (hkp:=k8);rintro x v w9 hM9 hk9 hq9 hs9 ⟨H9,hg9,hd9,hp9⟩;exact hok _ _ _ hM9 hq9.out ⟨H9,hg9.mono k8.size,hd9,hp9⟩
def lW(H:Hp):List Def->List Value->Prop
 |[],[]=>True
 |d::ds,v::r=>jH H d v/\lW H ds r
 |_,_=>False
theorem lW.le(k:Hle H H'):∀{ds:List Def} {l:List Value},lW H ds l->lW H' ds l
 |[],[],_=>trivial
 |_::_,_::_,h=>⟨h.1.le k,lW.le k h.2⟩
 |[],_::_,h=>h.elim
 |_::_,[],h=>h.elim
theorem lW.snoc(hd:jH H d v):∀{ds:List Def} {l:List Value},lW H ds l->lW H (ds++[d]) (l++[v])
 |[],[],_=>⟨hd,trivial⟩
 |_::_,_::_,h=>⟨h.1,lW.snoc hd h.2⟩
 |[],_::_,h=>h.elim
 |_::_,[],h=>h.elim
theorem jH.form(h:jH H d v):∃a b,v=.iface a b:=by
 obtain⟨nm,at_,dk⟩:=d;cases dk with
 |const n=>obtain⟨b,h1,_⟩:=h;exact⟨_,_,h1⟩
 |alias t=>obtain⟨b,u,h1,_⟩:=h;exact⟨_,_,h1⟩
 |enum ns is=>obtain⟨b,u,x,h1,_⟩:=h;exact⟨_,_,h1⟩
 |struct ds=>obtain⟨b,u,l,h1,_⟩:=h;exact⟨_,_,h1⟩
 |union of n ar els=>obtain⟨b,o,u,l,e,h1,_⟩:=h;exact⟨_,_,h1⟩
 |prog n vs=>obtain⟨b,u,l,h1,_⟩:=h;exact⟨_,_,h1⟩
def UE(n:Nat)(w:World)(ds:List Def)(v:Value):Prop:=
 ∃H l o,Sub H w/\(∀b x,H b=some x->n<=b)/\lW H ds l/\Gw w rD 1 v ds.length l o/\∀b,o=some b->n<=b
theorem aa1(hg:Gl w)(hlen:txt.length<=1200):
  Calls P 37 #[.string (bs txt)] w (Post w (parse txt) [] λds v w'=>Gl w'/\UE w.heap.size w' ds v):=by
 refine Post.R λR M hM hok hno=>?_;refine cf [4] Tryz.func37 ?_;rw[parse]at hM;have hn:Calls P 61 #[.string (bs txt)] w λen w'=>en=.returned (pt w.heap.size 0)/\w'=w.alloc (cl [.string (bs txt),i64 0] rC):=by
  refine cf [] Tryz.func61 ?_;refine gg ?_;exact rfl
 refine Cl.by hn ?_ (by rintro _ _ ⟨h,_⟩;cases h) (by rintro _ ⟨h,_⟩;cases h);rintro v w' ⟨hv,rfl⟩;cases hv;refine gg ?_;refine Cl.w (λw9=>Kp [] w w9/\PR w.heap.size (λ_=>none) w9 ⟨txt,0,⟨0,[],0,0⟩,[],[],[],[],0,0,0⟩) ⟨kpA,?_⟩ ?_
 .have hk:Kp [] w ((((((w.alloc (cl [.string (bs txt),i64 0] rC)).alloc (.map #[] 0)).alloc (.map #[] 0)).alloc (.map #[] 0)).alloc (.map #[] 0)).alloc (cl [pt w.heap.size 0,.int .i64 0,.string ⟨#[]⟩,.int .i64 0,.int .i64 0,.map (some (w.heap.size+1)),.map (some (w.heap.size+1+1)),.map (some (w.heap.size+1+1+1)),.map (some (w.heap.size+1+1+1+1)),.int .i64 0,.int .i64 0,.int .i64 0] 154)):=by exact kpA
  exact { gl:=hg.kp hk (λ_ _=>trivial),hB:=hg.size,sub:=λ_ _ _ h=>(nomatch h),dom:=λ_ _ h=>(nomatch h),lt:=by simp only[size_alloc];omega,hp:=iw (by simp only[size_alloc]),ht:=(cZ (by simp only[size_alloc];omega)).trans ((cZ (by simp only[size_alloc];omega)).trans ((cZ (by simp only[size_alloc];omega)).trans ((cZ (by simp only[size_alloc];omega)).trans ((cZ (by simp only[size_alloc];omega)).trans (bH ..))))),
          hn := ⟨#[], 0, lookA, MK.empty⟩, hc := ⟨#[], 0, lookA, MK.empty⟩, he := ⟨#[], 0, [], lookA, MK.empty, trivial⟩, hg := ⟨#[], 0, lookA, MK.empty⟩,
          len := hlen, pos := Nat.zero_le _, c0 := Nat.zero_le _, c1 := Nat.zero_le _, c2 := Nat.zero_le _ }
 rintro w1 ⟨k1,p1⟩;refine Cl.bind (w0:=w) (X0:=[]) hM (qR p1) hno ?_;rintro q v w2 hM hk2 hq2 hs2 ⟨rfl,p2⟩
 refine Lp.nat (n:=69) (λn vals w'=>∃(p':PS) (ds:List Def) (H':Hp) (l:List Value) (v1:Value) (o1:Option Nat),vals=[v1]/\PR w.heap.size H' w' p'/\lW H' ds l/\Gw w' rD 1 v1 ds.length l o1 /\
  (∀b,o1=some b->w.heap.size+6<=b/\H' b=none)/\Kp [] w w'/\ds.length<=sum p'/\ds.length+n=69/\M=nD n p' ds) ?_ ?_
 .exact⟨q,[],_,[],.slice none 0 0,none,rfl,p2,trivial,Gw.nil _ _ _,smp,hq2.out,Nat.zero_le _,rfl,hM⟩
 rintro n _ wL jk C ⟨p',ds,H',l,v1,o1,rfl,hpL,hdL,hg1,ho1,kL,hsum,hn69,hML⟩ hC;have hcL:=hpL.hp;have hlL:=hpL.lt;rw[bF]at hcL;refine .s ?_;refine gg ?_;refine .split (λhk=>?_) (λhk=>?_)
 .have hk':(p'.w.kind==0)=false:=by
   rw[beq_eq_false_iff_ne];intro e;rw[e]at hk;exact absurd hk dcd
  cases n with
  |zero=>
   have:=hpL.c0;have:=hpL.c1;have:=hpL.c2;unfold sum at hsum;omega
  |succ n=>
  rw[nD,hk',if_neg dcd]at hML;refine Cl.jg (w0:=w) (X0:=[]) hML (MQ hpL) hno ?_;rintro⟨d,q3⟩ v w3 e3 hM3 hk3 hq3 hs3 ⟨H3,hg3,hd3,hp3⟩;have hl3:=hp3.lt;dsimp only at hM3 hd3 hp3;have hsum3:=Iq e3;dsimp only at hsum3;obtain⟨ti,tu,rfl⟩:=hd3.form;refine gg ?_;refine Ap.w (λw9=>Kp [] w3 w9/\w9.heap[w3.heap.size]?=some (cl [.iface ti tu] rD)) ⟨kpA,lookA⟩ ?_;rintro w4 ⟨k4,n4⟩;have z4:=lt_of_heap n4;have g4:=(hg1.kp hk3 (λb hb=>⟨by have:=ho1 b hb;omega,trivial⟩)).kp k4 (λ_ _=>trivial);refine Ap.g g4 n4 rfl rfl ?_ omg;intro v2 w5 o2 g5 ho2 k5;have ho3:∀b,o1=some b->H3 b=none:=λb hb=>hg3.lacks (ho1 b hb).2 (hg1.lt b hb);refine hC n [v2] w5 omg ⟨q3,ds++[d],H3,l++[.iface ti tu],v2,o2,rfl,(hp3.ext k4).own k5 (λb hb=>⟨(ho1 b hb).1,ho3 b hb⟩),(hdL.le hg3.1).snoc hd3,by rw[List.length_append];exact g5,?_,?_,by rw[List.length_append];simp only[List.length_cons,List.length_nil];omega,by rw[List.length_append];simp only[List.length_cons,List.length_nil];omega,hM3⟩
  .intro b hb;rcases ho2 with r|r<;>rw[r]at hb
   .exact⟨(ho1 b hb).1,ho3 b hb⟩
   .cases hb;exact⟨omg,hp3.sub.fresh omg⟩
  .exact(hq3.out.trans k4 (λ_ _ _=>⟨trivial,trivial⟩):Kp [] w w4).own k5 (λb hb=>by have:=ho1 b hb;omega)
 .have hk':(p'.w.kind==0)=true:=by
   rw[beq_iff_eq];have:=bne_eq_false_iff_eq.mp hk;omega
  have hMd:M=.ok ds:=by
   cases n with
   |zero=>exact hML
   |succ n=>rw[nD,hk',if_pos rfl]at hML;exact hML
  exact hok _ _ _ hMd kL ⟨hpL.gl,H',l,o1,hpL.sub,λb x hx=>by have:=hpL.dom b x hx;omega,hdL,hg1,λb hb=>by have:=ho1 b hb;omega⟩
end Go.W.T

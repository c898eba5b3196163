/- Texts of mine, one behind the other; nothing is assumed. -/
import Derived.Test.YtbfcgbhhgnnglaaGreatDoorB27
import Derived.Test.YtbfcgbhhgnnglaaGreatDoorB00
import Derived.Test.YtbfcgbhhgnnglaaGreatDoorB01
set_option autoImplicit true
set_option relaxedAutoImplicit true
set_option linter.unusedSimpArgs false
set_option linter.unusedVariables false
namespace Go.M
structure Ct (p q:RS):Prop where
 consts:q.consts=p.consts
 types:q.types=p.types
 aj:q.aj=p.aj
theorem Ct.refl(p:RS):Ct p p:=⟨rfl,rfl,rfl⟩
theorem Ct.trans(h:Ct p q)(k:Ct q r):Ct p r:=⟨k.consts.trans h.consts,k.types.trans h.types,k.aj.trans h.aj⟩
theorem AY(s:Sb p q):Ct p q:=⟨s.consts,s.types,s.aj⟩
theorem OH(p:RS)(e a:Int):Ct p (aK p e a):=AY (gm ..)
theorem ct_bad(p:RS):Ct p (iQ p):=AY (sF ..)
theorem jw(p:RS):Ct p (aB p):=⟨rfl,rfl,rfl⟩
theorem uQ(p:RS)(n m:Int):Ct p (aG p n m):=AY (CV ..)
theorem df(p:RS)(k:Int)(s:By):Ct p (af p k s):=AY (aT ..)
theorem VH(p:RS):Ct p (fD p).2:=AY (uy ..)
theorem JK(p:RS)(lo hi:Int):Ct p (ak p lo hi).2.2:=AY (lI ..)
theorem Ed(p:RS)(f:Bool):Ct p (bC p f).2:=AY (mX ..)
theorem Ha(p:RS)(l:List By)(a:Bool):Ct p (dS p l a).2:=AY (oJ ..)
theorem XG(p:RS):Ct p (dP p).2.2:=AY (EI ..)
theorem aav(p:RS)(of:Int)(nums:List Int):Ct p (gG p of nums).2.2:=AY (oK of 14 p nums [])
theorem xM(p:RS)(r:eU):Ct p (dh p r).2:=⟨rfl,rfl,rfl⟩
theorem iJ(p:RS)(what:Int):Ct p (az p what).2:=by
 unfold az;have h:=VH p;generalize fD p=x at *;simp only;split
 .exact h
 .split
  .exact h.trans (OH ..)
  .exact h.trans (⟨rfl,rfl,rfl⟩)
theorem OG(p:RS):Ct p (fO p).2.2:=by
 unfold fO;split
 .exact Ct.refl p
 split
 .exact(jw p).trans (xM _ _)
 split
 .exact jw p
 split
 .exact jw p
 split
 .exact jw p
 split
 .simp only;split
  .exact(jw p).trans (jw _)
  .simp only;split
   .exact(jw p).trans (jw _)
   .exact jw p
 .exact ct_bad p
theorem Ec(p:RS)(l:List By)(a:Bool):Ct p (dD p l a).2.2.2.2:=by
 unfold dD;simp only;split
 .have h:=(jw p).trans (Ha (aB p) l a);generalize dS (aB p) l a=x at *;split
  .exact(h.trans (Ed ..)).trans (xM ..)
  .exact(h.trans (Ed ..)).trans (xM ..)
 .have hk:=OG p;generalize fO p=k at *;split
  .exact((hk.trans (jw _)).trans (Ha ..)).trans (xM ..)
  .have h:=hk.trans (Ha k.2.2 l a);generalize dS k.2.2 l a=x at *;split
   .split
    .exact(h.trans (Ed ..)).trans (xM ..)
    .exact(h.trans (Ed ..)).trans (xM ..)
   .exact h
theorem ct_kn(p:RS)(s:By)(n:Int):Ct p (kn_ p s n):=by unfold kn_;split;exact⟨rfl,rfl,rfl⟩;exact Ct.refl p
theorem JL(p:RS)(s:By)(n:Int):Ct p (dI p s n):=by unfold dI;split;exact⟨rfl,rfl,rfl⟩;exact Ct.refl p
theorem AX:∀(k:Nat) (p:RS) (out:By) (parts:List Int) (names:List By),Ct p (aO k p out parts names).1
 |0,p,out,parts,names=>Ct.refl p
 |k+1,p,out,parts,names=>by
  unfold aO;split
  .have h:=(uQ p (parts.length:Nat) 12).trans (Ec _ names false);simp only;generalize dD (aG p (parts.length:Nat) 12) names false=d at *;have h:=h.trans (df d.2.2.2.2 4 [59]);generalize af d.2.2.2.2 4 [59]=q at *;split
   .exact h
   .exact h.trans (AX k _ _ _ _)
  .exact Ct.refl p
theorem OE(p:RS):Ct p (fC p):=by
 unfold fC;simp only;have h:=((df p 2 [115,116,114,117,99,116]).trans (iJ _ 2)).trans (df _ 4 [123]);generalize az (af p 2 [115,116,114,117,99,116]) 2=d at *;generalize af d.2 4 [123]=q at *;have h:=h.trans (AX 14 q ([115,116,114,117,99,116,32]++d.1.s++[32,123,32]) [] []);generalize aO 14 q ([115,116,114,117,99,116,32]++d.1.s++[32,123,32]) [] []=x at *;exact(h.trans (((df ..).trans (df ..)).trans (xM ..))).trans ((JL ..).trans (⟨rfl,rfl,rfl⟩))
theorem aaw(p:RS)(names:List By):Ct p (jc p names).2.2.2:=by
 unfold jc;split
 .exact(jw p).trans (df ..)
 .exact(Ec ..).trans (df ..)
theorem Ea(of:Int):∀(k:Nat) (p:RS) (nums parts:List Int) (names:List By) (out:By),Ct p (aQ of k p nums parts names out).2.2.2.2
 |0,p,nums,parts,names,out=>Ct.refl p
 |k+1,p,nums,parts,names,out=>by
  unfold aQ;split
  .have h:=(aav p of nums).trans (aaw _ names);simp only;generalize gG p of nums=c at *;generalize jc c.2.2 names=a at *;split
   .exact h.trans (Ea of k _ _ _ _ _)
   .exact h
  .exact Ct.refl p
theorem aat(p:RS):Ct p (mQ p):=by
 unfold mQ;simp only;have h:=(((df p 2 [117,110,105,111,110]).trans (iJ _ 2)).trans (df _ 2 [115,119,105,116,99,104])).trans (df _ 4 [40]);generalize az (af p 2 [117,110,105,111,110]) 2=w at *;generalize af (af w.2 2 [115,119,105,116,99,104]) 4 [40]=q at *;have h:=((h.trans (XG q)).trans (VH _)).trans ((df _ 4 [41]).trans (df _ 4 [123]));generalize dP q=d at *;generalize fD d.2.2=m at *;generalize af (af m.2 4 [41]) 4 [123]=q at *;have h:=h.trans (Ea d.1 14 q [] [] [m.1.s] ([117,110,105,111,110,32]++w.1.s++[32,115,119,105,116,99,104,32,40]++d.2.1++[32]++m.1.s++[41,32,123,32]));generalize aQ d.1 14 q [] [] [m.1.s] ([117,110,105,111,110,32]++w.1.s++[32,115,119,105,116,99,104,32,40]++d.2.1++[32]++m.1.s++[41,32,123,32])=x at *;have h:Ct p (if is_ x.2.2.2.2 2 [100,101,102,97,117,108,116]then(let a:=jc (af (aB x.2.2.2.2) 4 [58]) x.2.2.1;(a.1,x.2.2.2.1++([100,101,102,97,117,108,116,58,32]++a.2.1),a.2.2.2))else(-2,x.2.2.2.1,x.2.2.2.2):Int×By×RS).2.2:=by
  split
  .exact h.trans (((jw _).trans (df ..)).trans (aaw ..))
  .exact h
 simp only at h;generalize (if is_ x.2.2.2.2 2 [100,101,102,97,117,108,116]then(let a:=jc (af (aB x.2.2.2.2) 4 [58]) x.2.2.1;(a.1,x.2.2.2.1++([100,101,102,97,117,108,116,58,32]++a.2.1),a.2.2.2))else(-2,x.2.2.2.1,x.2.2.2.2):Int×By×RS)=y at *;exact(h.trans (((df ..).trans (df ..)).trans (xM ..))).trans ((JL ..).trans (⟨rfl,rfl,rfl⟩))
theorem VI(p:RS):Ct p (fV p).2.2:=by unfold fV;split;exact jw p;exact OG p
theorem RI(p:RS)(l:List By):Ct p (dO p l).2.2:=Ha ..
theorem zn(p:RS)(nums:List Int):Ct p (aI p nums).2.2:=by
 unfold aI;simp only;have h:=(df p 4 [61]).trans (JK _ 0 4294967295);generalize ak (af p 4 [61]) 0 4294967295=v at *;refine Ct.trans ?_ (df ..);split
 .exact h.trans (OH ..)
 .exact h
theorem Gn:∀(k:Nat) (p:RS) (out:By) (l:List PcR) (words:List By) (ns:List Int),Ct p (dw k p out l words ns).1
 |0,p,out,l,words,ns=>Ct.refl p
 |k+1,p,out,l,words,ns=>by
  unfold dw;split
  .have h:=(uQ p (l.length:Nat) 8).trans (VI _);simp only;generalize fV (aG p (l.length:Nat) 8)=r at *;have h:=(h.trans (RI r.2.2 words)).trans (df _ 4 [40]);generalize dO r.2.2 words=m at *;have h:=(h.trans (VI _)).trans (df _ 4 [41]);generalize fV (af m.2.2 4 [40])=a at *;have h:=h.trans (zn _ ns);generalize aI (af a.2.2 4 [41]) ns=n at *;split
   .exact h
   .exact h.trans (Gn k _ _ _ _ _)
  .exact Ct.refl p
theorem Un(p:RS)(names:List By)(nums:List Int):Ct p (aZ p names nums).2.2.2.2:=by
 unfold aZ;simp only;have h:=((df p 2 [118,101,114,115,105,111,110]).trans (RI _ names)).trans (df _ 4 [123]);generalize dO (af p 2 [118,101,114,115,105,111,110]) names=w at *;have h:=h.trans (Gn 10 _ ([118,101,114,115,105,111,110,32]++w.2.1.s++[32,123,32]) [] [] []);generalize dw 10 (af w.2.2 4 [123]) ([118,101,114,115,105,111,110,32]++w.2.1.s++[32,123,32]) [] [] []=x at *;exact(h.trans (df ..)).trans (zn ..)
theorem Gm:∀(k:Nat) (p:RS) (out:By) (all:List PcR) (names:List By) (nums:List Int),Ct p (dK k p out all names nums).1
 |0,p,out,all,names,nums=>Ct.refl p
 |k+1,p,out,all,names,nums=>by
  unfold dK;split
  .have h:=(uQ p (nums.length:Nat) 4).trans (Un _ names nums);simp only;generalize aZ (aG p (nums.length:Nat) 4) names nums=v at *;split
   .exact h
   .exact h.trans (Gm k _ _ _ _ _)
  .exact Ct.refl p
theorem Uo(p:RS):Ct p (iK p):=by
 unfold iK;simp only;have h:=(df p 2 [116,121,112,101,100,101,102]).trans (Ec _ [] true);generalize dD (af p 2 [116,121,112,101,100,101,102]) [] true=d at *;split
 .exact h
 .have h:Ct p { d.2.2.2.2 with names:=d.2.2.2.2.names++[⟨d.2.2.2.1.s,1,d.1,d.2.2.2.1.at_⟩] }:=h.trans (⟨rfl,rfl,rfl⟩);exact(h.trans (df _ 4 [59])).trans (⟨rfl,rfl,rfl⟩)
def cnt(p:RS):Int:=p.consts+p.types+(p.aj.length:Nat)
structure Cb (p:RS):Prop where
 c0:0<=p.consts
 c1:p.consts<=40
 t0:0<=p.types
 t1:p.types<=24
 g1:p.aj.length<=4
theorem Cb.ct(h:Cb p)(k:Ct p q):Cb q:=⟨by rw[k.consts];exact h.c0,by rw[k.consts];exact h.c1,by rw[k.types];exact h.t0,by rw[k.types];exact h.t1,by rw[k.aj];exact h.g1⟩
theorem G7(h:(aG p n m).e=0):n<m:=by
 rcases Int.lt_or_le n m with hh|hh
 .exact hh
 .exact absurd h (tH p hh)
theorem Fs.zero(h:Fs p q)(hq:q.e=0):p.e=0:=by
 rcases Decidable.em (p.e=0)with hh|hh
 .exact hh
 .exact absurd hq (h.ne hh)
theorem OI(hc:Cb p)(h:(fZ p).e=0):Cb (fZ p)/\cnt p+1<=cnt (fZ p):=by
 have c0:=hc.c0;unfold fZ at h ⊢;have f:=ay (aG p p.consts 40) 2 [99,111,110,115,116];have k:=(uQ p p.consts 40).trans (df _ 2 [99,111,110,115,116]);have hit:(aG p p.consts 40).e=0->p.consts<40:=G7;simp only at h ⊢;generalize aG p p.consts 40=r at *;generalize af r 2 [99,111,110,115,116]=q at *;have f:=f.trans (ig q 2);have k:=k.trans (iJ q 2);generalize az q 2=d at *;have f:=(f.trans (ay d.2 4 [61])).trans (fB _ (-2147483648) 4294967295);have k:=(k.trans (df d.2 4 [61])).trans (JK _ (-2147483648) 4294967295);generalize ak (af d.2 4 [61]) (-2147483648) 4294967295=v at *;have f:=f.trans (ay v.2.2 4 [59]);have k:=k.trans (df v.2.2 4 [59]);generalize af v.2.2 4 [59]=q at *;split at h
 .rename_i he;exact absurd h (by simpa using he)
 .rename_i he;rw[if_neg he];have hq:q.e=0:=by simpa using he
  have hlt:=hit (f.zero hq);have kk:=k.trans (ct_kn q d.1.s v.1);have e1:(bG q d.1.s v.1).consts=p.consts+1:=by show (kn_ q d.1.s v.1).consts+1=_;rw[kk.consts]
  have e2:(bG q d.1.s v.1).types=p.types:=kk.types;have e3:(bG q d.1.s v.1).aj=p.aj:=kk.aj;refine⟨⟨?_,?_,?_,?_,?_⟩,?_⟩
  .show 0<=(bG q d.1.s v.1).consts;rw[e1];omega
  .show (bG q d.1.s v.1).consts<=40;rw[e1];omega
  .show 0<=(bG q d.1.s v.1).types;rw[e2];exact hc.t0
  .show (bG q d.1.s v.1).types<=24;rw[e2];exact hc.t1
  .show (bG q d.1.s v.1).aj.length<=4;rw[e3];exact hc.g1
  .unfold cnt;show _<=(bG q d.1.s v.1).consts+(bG q d.1.s v.1).types+((bG q d.1.s v.1).aj.length:Nat);rw[e1,e2,e3];omega
def EC(p:RS):RS ⊕ (RS×By×List Int)->Prop
 |.inl q=>q.e≠0
 |.inr (q,_,_)=>Cb q/\q.types=p.types/\q.aj=p.aj/\p.consts<=q.consts
theorem EC.mono(h2:q.types=p.types)(h3:q.aj=p.aj)(h1:p.consts<=q.consts):∀{x:RS ⊕ (RS×By×List Int)},EC q x->EC p x
 |.inl _,h=>h
 |.inr (_,_,_),⟨i1,i2,i3,i4⟩=>⟨i1,i2.trans h2,i3.trans h3,Int.le_trans h1 i4⟩
theorem Ef:∀(k:Nat) (p:RS) (out:By) (nums:List Int),Cb p->EC p (cu k p out nums)
 |0,p,out,nums,hc=>⟨hc,rfl,rfl,Int.le_refl _⟩
 |k+1,p,out,nums,hc=>by
  have c0:=hc.c0;unfold cu;split
  .have kk:=(uQ p (nums.length:Nat) 12);generalize aG p (nums.length:Nat) 12=p1 at *;have hit:(aG p1 p1.consts 40).e=0->p1.consts<40:=G7;have kk2:=kk.trans (uQ p1 p1.consts 40);simp only;generalize aG p1 p1.consts 40=q at *;have f:=ig q 2;have kk2:=kk2.trans (iJ q 2);generalize az q 2=d at *;have f:=(f.trans (ay d.2 4 [61])).trans (fB _ (-2147483648) 2147483647);have kk2:=(kk2.trans (df d.2 4 [61])).trans (JK _ (-2147483648) 2147483647);generalize ak (af d.2 4 [61]) (-2147483648) 2147483647=v at *;have f:Fs q (if v.2.2.e==0&&nums.contains v.1 then aK v.2.2 6 v.2.1 else v.2.2):=by
    split
    .exact f.trans (jf ..)
    .exact f
   have kk2:Ct p (if v.2.2.e==0&&nums.contains v.1 then aK v.2.2 6 v.2.1 else v.2.2):=by
    split
    .exact kk2.trans (OH ..)
    .exact kk2
   generalize (if v.2.2.e==0&&nums.contains v.1 then aK v.2.2 6 v.2.1 else v.2.2)=r at *;split
   .rename_i hr;exact(by simpa using hr:r.e≠0)
   .rename_i hne;have hr:r.e=0:=by simpa using hne
    have hlt:=hit (f.zero hr);rw[kk.consts]at hlt;have k3:=kk2.trans (ct_kn r d.1.s v.1);have e1:(bG r d.1.s v.1).consts=p.consts+1:=by show (kn_ r d.1.s v.1).consts+1=_;rw[k3.consts]
    have e2:(bG r d.1.s v.1).types=p.types:=k3.types;have e3:(bG r d.1.s v.1).aj=p.aj:=k3.aj;have cb:Cb (bG r d.1.s v.1):=⟨by rw[e1];omega,by rw[e1];omega,by rw[e2];exact hc.t0,by rw[e2];exact hc.t1,by rw[e3];exact hc.g1⟩;split
    .refine EC.mono (q:=aB (bG r d.1.s v.1)) e2 e3 ?_ (Ef k _ _ _ (cb.ct (jw _)));show p.consts<=(bG r d.1.s v.1).consts;omega
    .exact⟨cb,e2,e3,omg⟩
  .exact⟨hc,rfl,rfl,Int.le_refl _⟩
theorem GI(hc:Cb p)(h:(bZ p).e=0):Cb (bZ p)/\cnt p<=cnt (bZ p):=by
 unfold bZ at h ⊢;simp only at h ⊢;have k:=((df p 2 [101,110,117,109]).trans (iJ _ 2)).trans (df _ 4 [123]);generalize az (af p 2 [101,110,117,109]) 2=d at *;generalize af d.2 4 [123]=q at *;have ih:=Ef 14 q ([101,110,117,109,32]++d.1.s++[32,123,32]) [] (hc.ct k);generalize cu 14 q ([101,110,117,109,32]++d.1.s++[32,123,32]) []=x at *;cases x with
 |inl q=>exact absurd h ih
 |inr y=>
  obtain⟨r,out,nums⟩:=y;obtain⟨i1,i2,i3,i4⟩:=ih;clear h;simp only;have k2:Ct r (dI (dh (af (af r 4 [125]) 4 [59]) { row0 with kind:=5,nums:=nums }).2 d.1.s (dh (af (af r 4 [125]) 4 [59]) { row0 with kind:=5,nums:=nums }).1):=(((df ..).trans (df ..)).trans (xM ..)).trans (JL ..);generalize dI (dh (af (af r 4 [125]) 4 [59]) { row0 with kind:=5,nums:=nums }).2 d.1.s (dh (af (af r 4 [125]) 4 [59]) { row0 with kind:=5,nums:=nums }).1=z at *;have e2:=k2.types.trans (i2.trans k.types);have e3:=k2.aj.trans (i3.trans k.aj);have e1:=k2.consts;have e0:=k.consts;have cz:=i1.ct k2;refine⟨⟨cz.c0,cz.c1,cz.t0,cz.t1,cz.g1⟩,?_⟩;unfold cnt;show _<=z.consts+z.types+(z.aj.length:Nat);rw[e1,e2,e3];omega
theorem RQ(hc:Cb p)(h:(iy p).e=0):Cb (iy p)/\cnt p+1<=cnt (iy p):=by
 unfold iy at h ⊢;simp only at h ⊢;have hit:(aG p (p.aj.length:Nat) 4).e=0->((p.aj.length:Nat):Int)<4:=G7;have f:=(ay (aG p (p.aj.length:Nat) 4) 2 [112,114,111,103,114,97,109]).trans ((ig _ 2).trans (ay _ 4 [123]));have k:=((uQ p (p.aj.length:Nat) 4).trans (df _ 2 [112,114,111,103,114,97,109])).trans ((iJ _ 2).trans (df _ 4 [123]));generalize aG p (p.aj.length:Nat) 4=r at *;generalize az (af r 2 [112,114,111,103,114,97,109]) 2=w at *;have f:=f.trans (qP 6 _ ([112,114,111,103,114,97,109,32]++w.1.s++[32,123,32]) [] [] []);have k:=k.trans (Gm 6 _ ([112,114,111,103,114,97,109,32]++w.1.s++[32,123,32]) [] [] []);generalize dK 6 (af w.2 4 [123]) ([112,114,111,103,114,97,109,32]++w.1.s++[32,123,32]) [] [] []=x at *;have f:=(f.trans (ay _ 4 [125])).trans (gQ _ (af x.1 4 [125]).aj);have k1:=k.trans (df _ 4 [125]);have k2:=k1.trans (zn _ (af x.1 4 [125]).aj);have el:(aI (af x.1 4 [125]) (af x.1 4 [125]).aj).1.length=p.aj.length+1:=by
  unfold aI;simp only[List.length_append,List.length_cons,List.length_nil];rw[k1.aj]
 generalize aI (af x.1 4 [125]) (af x.1 4 [125]).aj=n at *;have hlt:=hit (f.zero h);refine⟨⟨?_,?_,?_,?_,?_⟩,?_⟩
 .show 0<=n.2.2.consts;rw[k2.consts];exact hc.c0
 .show n.2.2.consts<=40;rw[k2.consts];exact hc.c1
 .show 0<=n.2.2.types;rw[k2.types];exact hc.t0
 .show n.2.2.types<=24;rw[k2.types];exact hc.t1
 .show n.1.length<=4;rw[el];omega
 .unfold cnt;show _<=n.2.2.consts+n.2.2.types+(n.1.length:Nat);rw[k2.consts,k2.types,el];omega
theorem zo(hc:Cb p)(h:(bQ p).e=0)(hp:p.e=0)(hw:p.w.kind=5->p.w.e≠0):Cb (bQ p)/\cnt p+1<=cnt (bQ p):=by
 unfold bQ at h ⊢;split at h
 .rename_i h1;rw[if_pos h1];exact OI hc h
 .rename_i h1;rw[if_neg h1];split at h
  .rename_i h2;rw[if_pos h2];exact RQ hc h
  .rename_i h2;rw[if_neg h2];simp only at h ⊢;split at h
   .exfalso;unfold iQ at h;split at h
    .rename_i h5;unfold aK at h;rw[if_pos (by simp[hp])]at h;exact hw (by simpa using h5) h
    .unfold aK at h;rw[if_pos (by simp[hp])]at h;cases h
   .rename_i h3;rw[if_neg h3];have hit:(aG p p.types 24).e=0->p.types<24:=G7;have k:=uQ p p.types 24;generalize aG p p.types 24=r at *;have go:r.e=0->∀q,Ct { r with types:=r.types+1 } q->Cb q/\cnt p+1<=cnt q:=λhr q kq=>by
     have hlt:=hit hr;have t0:=hc.t0;have e2:q.types=p.types+1:=by rw[kq.types];show r.types+1=_;rw[k.types]
     have e1:q.consts=p.consts:=kq.consts.trans k.consts;have e3:q.aj=p.aj:=kq.aj.trans k.aj;refine⟨⟨by rw[e1];exact hc.c0,by rw[e1];exact hc.c1,by rw[e2];omega,by rw[e2];omega,by rw[e3];exact hc.g1⟩,?_⟩;unfold cnt;rw[e1,e2,e3];omega
    have f0:Fs r { r with types:=r.types+1 }:=Fs.same rfl rfl;split at h
    .rename_i h4;rw[if_pos h4];exact go ((f0.trans (BD _)).zero h) _ (Uo _)
    .rename_i h4;rw[if_neg h4];split at h
     .rename_i h5;rw[if_pos h5];have hr:=(f0.trans (tK _)).zero h;obtain⟨g1,g2⟩:=go hr _ (Ct.refl _);obtain⟨g3,g4⟩:=GI g1 h;exact⟨g3,omg⟩
     .rename_i h5;rw[if_neg h5];split at h
      .rename_i h6;rw[if_pos h6];exact go ((f0.trans (xE _)).zero h) _ (OE _)
      .rename_i h6;rw[if_neg h6];exact go ((f0.trans (Jy _)).zero h) _ (aat _)
end Go.M
namespace Go.M
theorem sJ:∀(k i:Nat) {p:RS},Nv p->NvG p (bI k i p)/\(bI k i p).rows.length=p.rows.length/\(bI k i p).names=p.names/\(bI k i p).txt=p.txt
 |0,i,p,h=>⟨NvG.refl h,rfl,rfl,rfl⟩
 |k+1,i,p,h=>by
  unfold bI;split
  .split
   .rename_i j hj;split
    .exact⟨uF h ..,by rw[(gm ..).rows],(gm ..).names,(gm ..).txt⟩
    .rename_i hw;have hr:=h.names _ (yU (mg hj)) (by simpa using hw);have h2:NvG p { p with rows:=p.rows.modify i λr=>{ r with of:=(cO p.names j).n } }:=by
      refine⟨⟨?_,λx hx hw=>?_,λr hr'=>?_⟩,?_⟩
      .show 5<=(p.rows.modify i _).length;rw[List.length_modify];exact h.five
      .have:=h.names x hx hw;exact⟨this.1,by show _<((p.rows.modify i _).length:Int);rw[List.length_modify];exact this.2⟩
      .show x9 ((p.rows.modify i _).length:Int) r;rw[List.length_modify];rcases mem_modify hr' with hr'|⟨y,hy,rfl⟩
       .exact h.rows r hr'
       .have:=h.rows y hy;exact⟨hr.2,this.els,this.parts,this.few⟩
      .show _<=(p.rows.modify i _).length;rw[List.length_modify];exact Nat.le_refl _
     obtain⟨i1,i2,i3,i4⟩:=sJ k (i+1) h2.nv;refine⟨h2.trans i1,i2.trans (List.length_modify ..),i3,i4⟩
   .exact⟨uF h ..,by rw[(gm ..).rows],(gm ..).names,(gm ..).txt⟩
  .exact sJ k (i+1) h
theorem xg(h:Nv p):NvG p (iL p)/\(iL p).rows.length=p.rows.length/\(iL p).names=p.names/\(iL p).txt=p.txt:=sJ _ _ h
theorem YW(k:Int):x9 5 (vJ k):=⟨by show (0:Int)<5;omega,by show (0:Int)<5;omega,(λx hx=>by cases hx),Nat.zero_le _,Nat.zero_le _⟩
theorem Qr(t:By):Nv (jT t):=by
 refine⟨Nat.le_refl 5,(λx hx=>by cases hx),λr hr=>?_⟩;show x9 5 r;have hr:r∈[vJ 0,vJ 1,vJ 2,vJ 3,vJ 4]:=hr;simp only[List.mem_cons,List.not_mem_nil,or_false]at hr;rcases hr with rfl|rfl|rfl|rfl|rfl<;>exact YW _
theorem yQ(t:By):Ok (jT t):=⟨Nat.zero_le _,Int.le_refl _,by show (0:Int)<=(t.length:Int);omega,λh=>by cases h⟩
theorem YB(h:t.length<=1200):Sz (jT t) 5:=⟨Nat.le_refl 5,Nat.zero_le _,⟨Int.le_refl 0,by show (0:Int)<=_;omega⟩,⟨Int.le_refl 0,by show (0:Int)<=_;omega⟩,Nat.zero_le _,Nat.zero_le _,Nat.zero_le _,yQ t,h⟩
theorem RX(t:By):Cb (jT t)/\cnt (jT t)=0:=⟨⟨Int.le_refl 0,by show (0:Int)<=40;omega,Int.le_refl 0,by show (0:Int)<=24;omega,Nat.zero_le _⟩,rfl⟩
end Go.M
namespace Go.M
def Fd(e a:Int)(p:RS):Prop:=e≠0/\p.e=e/\p.at_=a
def Pn(e a:Int)(p:RS):Prop:=e≠0/\p.e=0/\p.w.kind=5/\p.w.e=e/\p.w.at_=a
def Nb(e a:Int)(p:RS):Prop:=Fd e a p\/Pn e a p
variable {e a:Int}
theorem Fd.fs(h:Fd e a p)(k:Fs p q):Fd e a q:=by
 obtain⟨h1,h2,h3⟩:=h;obtain⟨k1,k2⟩:=k.h (by rw[h2];exact h1);exact⟨h1,k1.trans h2,k2.trans h3⟩
theorem LK(k:Fs p q)(h:Pn e a p->Nb e a q):Nb e a p->Nb e a q:=λhp=>hp.elim (λhp=>Or.inl (hp.fs k)) h
theorem yX(k:Fs p q)(h:Pn e a p->Fd e a q):Nb e a p->Fd e a q:=λhp=>hp.elim (λhp=>hp.fs k) h
theorem Pn.is(h:Pn e a p)(hk:k≠5):is_ p k s=false:=by
 obtain⟨_,_,h3,_⟩:=h;unfold is_;rw[h3];have:((5:Int)==k)=false:=by simpa using λe=>hk e.symm
 rw[this,Bool.and_false,Bool.false_and]
theorem Fd.is(h:Fd e a p):is_ p k s=false:=by
 obtain⟨h1,h2,_⟩:=h;unfold is_;have:(p.e==0)=false:=by rw[h2];simpa using h1
 rw[this,Bool.false_and,Bool.false_and]
theorem Nb.is(h:Nb e a p)(hk:k≠5):is_ p k s=false:=h.elim (λh=>h.is) (λh=>h.is hk)
theorem Pn.bad(h:Pn e a p):Fd e a (iQ p):=by
 obtain⟨h1,h2,h3,h4,h5⟩:=h;unfold iQ aK;rw[h3,if_pos (by rfl),if_pos (by rw[h2];rfl)];exact⟨h1,h4,h5⟩
theorem bY(k:Int)(s:By)(hk:k≠5:=by decide):Nb e a p->Fd e a (af p k s):=yX (ay p k s) λh=>by
 unfold af;rw[h.is hk];exact h.bad
theorem DL(n m:Int):Nb e a p->Fd e a (aG p n m):=yX (mG p n m) λh=>by
 have hb:=h.bad;unfold aG;have e1:(p.e==0&&p.w.kind==5)=true:=by rw[h.2.1,h.2.2.1];rfl
 rw[e1,if_pos rfl];simp only;have e2:((iQ p).e==0)=false:=by rw[hb.2.1];simpa using h.1
 rw[e2,Bool.false_and,if_neg smp];exact hb
theorem Ou:Nb e a p->Fd e a (fD p).2:=yX (uM p) λh=>by
 unfold fD;rw[if_neg (by rw[h.2.1];simp),if_pos (by rw[h.2.2.1];rfl)];exact h.bad
theorem vX(lo hi:Int):Nb e a p->Fd e a (ak p lo hi).2.2:=yX (fB p lo hi) λh=>by
 unfold ak;rw[if_neg (by rw[h.2.1];simp)];have hr:IM p=.inr ():=by
  unfold IM;rw[if_neg (by rw[h.2.2.1];decide),h.is dcd,if_neg smp,h.is dcd,if_neg smp,if_neg (by rw[h.2.2.1];decide)]
 rw[hr];exact h.bad
theorem aaj(f:Bool):Nb e a p->Fd e a (bC p f).2:=λh=>by
 cases f with
 |true=>
  unfold bC;rw[if_pos rfl];exact((bY 4 [91]) h).fs ((fB _ 1 1000).trans (ay _ 4 [93]))
 |false=>
  unfold bC;rw[if_neg smp];have h:=(bY 4 [60]) h;generalize af p 4 [60]=q at *;simp only;rw[h.is,if_neg smp];exact h.fs ((fB q 0 4294967295).trans (ay _ 4 [62]))
theorem DJ(l:List By)(f:Bool):Nb e a p->Fd e a (dS p l f).2:=λh=>by
 unfold dS;have h:=Ou h;generalize fD p=x at *;simp only;generalize (if f=true then(nix x.1.s x.2.names).isSome else l.contains x.1.s)=t;have e2:(x.2.e==0)=false:=by rw[h.2.1];simpa using h.1
 rw[e2,Bool.false_and,if_neg smp];exact h
theorem qm(what:Int):Nb e a p->Fd e a (az p what).2:=λh=>by
 unfold az;have h:=Ou h;generalize fD p=x at *;simp only;have e2:(x.2.e != 0)=true:=by rw[h.2.1];simpa using h.1
 rw[e2,if_pos rfl];exact h
theorem VB:Nb e a p->Fd e a (fO p).2.2:=yX (Oq p) λh=>by
 unfold fO;have hk:(p.w.kind==2)=false:=by rw[h.2.2.1];decide
 have hk1:(p.w.kind==1)=false:=by rw[h.2.2.1];decide
 rw[if_neg (by rw[h.2.1];simp),hk1,if_neg smp,hk,Bool.false_and,if_neg smp,Bool.false_and,if_neg smp,Bool.false_and,if_neg smp,Bool.false_and,if_neg smp];exact h.bad
theorem VC(l:List By)(f:Bool):Nb e a p->Fd e a (dD p l f).2.2.2.2:=yX (xF p l f) λh=>by
 have hk:Fd e a (fO p).2.2:=VB (Or.inr h);unfold dD;simp only;rw[h.is dcd,h.is dcd,Bool.false_or,if_neg smp];generalize fO p=k at *;rw[hk.is,if_neg smp];have h2:=hk.fs (DC k.2.2 l f);generalize dS k.2.2 l f=x at *;rw[h2.is,h2.is,Bool.false_or,if_neg smp];exact h2
theorem nU(r:eU):Nb e a p->Nb e a (dh p r).2:=λh=>h
theorem nb_kn(s:By)(n:Int)(h:Nb e a p):Nb e a (kn_ p s n):=by unfold kn_;split;exact h;exact h
theorem Qy(s:By)(n:Int)(h:Nb e a p):Nb e a (bG p s n):=nb_kn s n h
theorem sU(s:By)(n:Int)(h:Nb e a p):Nb e a (dI p s n):=by unfold dI;split;exact h;exact h
theorem Xz:Nb e a p->Fd e a (dP p).2.2:=yX (vU p) λh=>by
 unfold dP;have hk:(p.w.kind==2)=false:=by rw[h.2.2.1];decide
 have hk1:(p.w.kind==1)=false:=by rw[h.2.2.1];decide
 simp only;rw[hk1,Bool.and_false,if_neg smp,hk,Bool.and_false,Bool.false_and,if_pos (by rfl)];exact h.bad
theorem Ov(l:List By):Nb e a p->Fd e a (jc p l).2.2.2:=yX (Ot p l) λh=>by
 unfold jc;rw[h.is dcd,if_neg smp];exact((VC l false) (Or.inr h)).fs (ay _ _ _)
theorem acG:Nb e a p->Fd e a (fV p).2.2:=yX (oZ p) λh=>by
 unfold fV;rw[h.is dcd,if_neg smp];exact VB (Or.inr h)
theorem Ro(l:List By):Nb e a p->Fd e a (dO p l).2.2:=DJ l false
theorem uP(l:List Int):Nb e a p->Fd e a (aI p l).2.2:=yX (gQ p l) λh=>by
 unfold aI;simp only;have h1:=((bY 4 [61]) (Or.inr h)).fs (fB _ 0 4294967295);generalize ak (af p 4 [61]) 0 4294967295=v at *;have e2:(v.2.2.e==0)=false:=by rw[h1.2.1];simpa using h1.1
 rw[e2,Bool.false_and,if_neg smp];exact h1.fs (ay _ _ _)
theorem uH(k:Nat)(out:By)(nums:List Int):Nb e a p->Nb e a (Ru (cu k p out nums)):=LK (zf k p out nums) λh=>by
 cases k with
 |zero=>exact Or.inr h
 |succ k=>
  left;unfold cu;rw[if_pos (by rw[h.2.1];rfl)];simp only;have h1:=((DL (nums.length:Nat) 12) (Or.inr h)).fs ((mG _ (aG p (nums.length:Nat) 12).consts 40).trans (ig _ 2));generalize az (aG (aG p (nums.length:Nat) 12) (aG p (nums.length:Nat) 12).consts 40) 2=d at *;have h2:=h1.fs ((ay d.2 4 [61]).trans (fB _ (-2147483648) 2147483647));generalize ak (af d.2 4 [61]) (-2147483648) 2147483647=v at *;have e2:(v.2.2.e==0)=false:=by rw[h2.2.1];simpa using h2.1
  have hr:(if v.2.2.e==0&&nums.contains v.1 then aK v.2.2 6 v.2.1 else v.2.2)=v.2.2:=by rw[e2];rfl
  rw[hr,if_pos (by rw[h2.2.1];simpa using h2.1)];exact h2
theorem J9(k:Nat)(out:By)(parts:List Int)(names:List By):Nb e a p->Nb e a (aO k p out parts names).1:=LK (qG k p out parts names) λh=>by
 cases k with
 |zero=>exact Or.inr h
 |succ k=>
  left;unfold aO;rw[if_pos (by rw[h.2.1];rfl)];simp only;have h1:=((DL (parts.length:Nat) 12) (Or.inr h)).fs (xF _ names false);generalize dD (aG p (parts.length:Nat) 12) names false=d at *;have h2:=h1.fs (ay d.2.2.2.2 4 [59]);generalize af d.2.2.2.2 4 [59]=q at *;rw[h2.is,if_neg smp];exact h2.fs (qG k _ _ _ _)
theorem N8(of:Int)(k:Nat)(nums:List Int)(out:By):Nb e a p->Nb e a (bz of k p nums out).2.2:=LK (xG of k p nums out) λh=>by
 cases k with
 |zero=>exact Or.inr h
 |succ k=>
  left;unfold bz;rw[if_pos (by rw[h.2.1];rfl)];simp only;have h1:=((DL (nums.length:Nat) 12) (Or.inr h)).fs (ay _ 2 [99,97,115,101]);generalize af (aG p (nums.length:Nat) 12) 2 [99,97,115,101]=q at *;have h1:=h1.fs (fB q (if of==1||of==4 then 0 else -2147483648) (if of==1 then 4294967295 else if of==4 then 1 else 2147483647));generalize ak q (if of==1||of==4 then 0 else -2147483648) (if of==1 then 4294967295 else if of==4 then 1 else 2147483647)=v at *;have e2:(v.2.2.e==0)=false:=by rw[h1.2.1];simpa using h1.1
  have hr:(if v.2.2.e==0&&decide (of>4)&&!((rowAt v.2.2.rows of).nums.contains v.1)then aK v.2.2 8 v.2.1 else v.2.2)=v.2.2:=by rw[e2];rfl
  have hr2:(if v.2.2.e==0&&nums.contains v.1 then aK v.2.2 6 v.2.1 else v.2.2)=v.2.2:=by rw[e2];rfl
  rw[hr,hr2];have h1:=h1.fs (ay v.2.2 4 [58]);rw[h1.is,if_neg smp];exact h1
theorem Zw(of:Int)(nums:List Int):Nb e a p->Nb e a (gG p of nums).2.2:=N8 of 14 nums []
theorem xq(of:Int)(k:Nat)(nums parts:List Int)(names:List By)(out:By):Nb e a p->Nb e a (aQ of k p nums parts names out).2.2.2.2:=LK (xC of k p nums parts names out) λh=>by
 cases k with
 |zero=>exact Or.inr h
 |succ k=>
  unfold aQ;rw[if_pos (by rw[h.2.1];rfl)];simp only;have h1:=Zw of nums (Or.inr h);generalize gG p of nums=c at *;have h2:=Ov names h1;generalize jc c.2.2 names=d at *;rw[h2.is,if_neg smp];exact Or.inl h2
theorem Qx(k:Nat)(out:By)(l:List PcR)(words:List By)(ns:List Int):Nb e a p->Nb e a (dw k p out l words ns).1:=LK (uN k p out l words ns) λh=>by
 cases k with
 |zero=>exact Or.inr h
 |succ k=>
  left;unfold dw;rw[if_pos (by rw[h.2.1];rfl)];simp only;have h1:=((DL (l.length:Nat) 8) (Or.inr h)).fs (oZ _);generalize fV (aG p (l.length:Nat) 8)=r at *;have h1:=h1.fs ((zg r.2.2 words).trans (ay _ 4 [40]));generalize dO r.2.2 words=m at *;have h1:=h1.fs ((oZ _).trans (ay _ 4 [41]));generalize fV (af m.2.2 4 [40])=d at *;have h1:=h1.fs (gQ _ ns);generalize aI (af d.2.2 4 [41]) ns=n at *;rw[h1.is,if_neg smp];exact h1.fs (uN k _ _ _ _ _)
theorem Qw(k:Nat)(out:By)(l:List PcR)(words:List By)(ns:List Int):Nb e a p->Nb e a (dK k p out l words ns).1:=LK (qP k p out l words ns) λh=>by
 cases k with
 |zero=>exact Or.inr h
 |succ k=>
  left;unfold dK;rw[if_pos (by rw[h.2.1];rfl)];simp only;have h1:=((DL (ns.length:Nat) 4) (Or.inr h)).fs (xB _ words ns);generalize aZ (aG p (ns.length:Nat) 4) words ns=v at *;rw[h1.is,if_neg smp];exact h1.fs (qP k _ _ _ _ _)
theorem Kv:Nb e a p->Fd e a (bQ p):=yX (Ku p) λh=>by
 unfold bQ;rw[h.is dcd,if_neg smp,h.is dcd,if_neg smp];simp only;rw[if_pos (by rw[h.2.2.1];rfl)];exact h.bad
theorem Gi:∀(k:Nat) {p:RS},Fd e a p->dH k p=p
 |0,p,h=>rfl
 |k+1,p,h=>by
  rw[dH,if_neg];rw[h.2.1];have:=h.1;simp[this]
theorem FX(k:Nat)(h:Nb e a p):Fd e a (dH (k+1) p):=by
 rcases h with h|h
 .rw[Gi _ h];exact h
 .rw[dH,if_pos (by rw[h.2.1,h.2.2.1];rfl)];have:=Kv (Or.inr h);rw[Gi _ this];exact this
end Go.M
namespace Go.M
def Sim{α:Type}(m:Res α)(q:RS)(P:α->Prop):Prop:=match m with
 |.ok x=>P x
 |.no e a=>Nb (e:Nat) (a:Nat) q
theorem Sim.bind(hm:Sim m q1 P)(hb:∀{e a:Int},Nb e a q1->Nb e a q')(hk:∀x,P x->Sim (k x) q' Q):Sim (m.andThen k) q' Q:=by
 cases m with
 |ok x=>exact hk x hm
 |no e a=>exact hb hm
theorem Sim.mono(h:Sim m q P)(k:∀x,P x->Q x):Sim m q Q:=by
 cases m with
 |ok x=>exact k x h
 |no e a=>exact h
structure Wok (w:Wd):Prop where
 k:w.kind<=4
 k4:w.kind=4->w.s.length=1
 k2:w.kind=2->∃c r,w.s=c::r/\eP c=true
theorem Wok.key(h:Wok w)(hK:2<=K.length):w.is K=(w.kind==2&&w.s==K):=by
 unfold Wd.is;cases h4:w.kind==4 with
 |false=>rw[Bool.or_false]
 |true=>
  have hl:=h.k4 (by simpa using h4);have hs:(w.s==K)=false:=by
   simp only[beq_eq_false_iff_ne,ne_eq];rintro rfl;omega
  rw[hs,Bool.and_false,Bool.and_false]
theorem Wok.sign(h:Wok w)(hc:eP c=false):w.is [c]=(w.kind==4&&w.s==[c]):=by
 unfold Wd.is;cases h2:w.kind==2 with
 |false=>rw[Bool.false_or]
 |true=>
  obtain⟨d,r,h3,h4⟩:=h.k2 (by simpa using h2);have hs:(w.s==[c])=false:=by
   rw[h3];simp only[beq_eq_false_iff_ne,ne_eq,List.cons.injEq,not_and];rintro rfl;rw[h4]at hc;cases hc
  rw[hs,Bool.and_false,Bool.and_false]
theorem Zr(h:next t f=.ok x):Wok x.1:=by
 unfold next at h
 simp only at h;split at h
 .cases h;exact⟨Nat.zero_le _,(λh=>by cases h),(λh=>by cases h)⟩
 .rename_i c r hr;split at h
  .split at h
   .cases h
   .cases h;exact⟨Nat.le_of_ble_eq_true rfl,(λh=>by cases h),(λh=>by cases h)⟩
  .split at h
   .rename_i h1 h2;have hp:eP c=true:=by
     rw[Bool.and_eq_true]at h2;exact h2.2
    split at h
    .cases h;refine⟨Nat.le_of_ble_eq_true rfl,(λh=>by cases h),λ_=>?_⟩;rw[hr,aY,if_pos hp,List.take_succ_cons];exact⟨c,_,rfl,hp⟩
    .split at h
     .cases h
     .cases h;exact⟨Nat.le_of_ble_eq_true rfl,(λh=>by cases h),(λh=>by cases h)⟩
   .split at h
    .cases h;exact⟨Nat.le_of_ble_eq_true rfl,(λ_=>rfl),(λh=>by cases h)⟩
    .cases h
def cOf(l:List NmR)(s:By):Option Int:=match nix s l with
 |some k=>if(cO l k).what==0 then some (cO l k).n else none
 |none=>none
def eOf(rows:List eU)(l:List NmR)(s:By):Option (List Int):=match nix s l with
 |some k=>if(cO l k).what==1&&(rowAt rows (cO l k).n).kind==5 then some (rowAt rows (cO l k).n).nums else none
 |none=>none
structure Sy (p:PS) (q:RS):Prop where
 e:q.e=0
 txt:q.txt=p.txt
 w:q.w=⟨(p.w.kind:Nat),p.w.s,(p.w.at_:Nat),(p.pos:Nat),p.w.n,0⟩
 wok:Wok p.w
 consts:∀s,cOf q.names s=p.consts.lookup s
 enums:∀s,eOf q.rows q.names s=p.enums.lookup s
 n0:q.types=(p.n0:Nat)
 n1:q.consts=(p.n1:Nat)
 aj:q.aj=p.aj
structure Pv (p p':PS):Prop where
 txt:p'.txt=p.txt
 names:p'.names=p.names
 consts:p'.consts=p.consts
 enums:p'.enums=p.enums
 aj:p'.aj=p.aj
 n0:p'.n0=p.n0
 n1:p'.n1=p.n1
 n2:p'.n2=p.n2
theorem Pv.refl(p:PS):Pv p p:=⟨rfl,rfl,rfl,rfl,rfl,rfl,rfl,rfl⟩
theorem Pv.trans(h:Pv p q)(k:Pv q r):Pv p r:=⟨k.txt.trans h.txt,k.names.trans h.names,k.consts.trans h.consts,k.enums.trans h.enums,k.aj.trans h.aj,k.n0.trans h.n0,k.n1.trans h.n1,k.n2.trans h.n2⟩
variable {p:PS} {q:RS}
theorem Sy.key(h:Sy p q)(hK:2<=K.length:=by decide):is_ q 2 K=p.w.is K:=by
 rw[h.wok.key hK];unfold is_;rw[h.e,h.w];have:(((p.w.kind:Nat):Int)==2)=(p.w.kind==2):=by
  rw[Bool.eq_iff_iff];simp only[beq_iff_eq];omega
 rw[this];rfl
theorem Sy.sign(h:Sy p q)(hc:eP c=false:=by decide):is_ q 4 [c]=p.w.is [c]:=by
 rw[h.wok.sign hc];unfold is_;rw[h.e,h.w];have:(((p.w.kind:Nat):Int)==4)=(p.w.kind==4):=by
  rw[Bool.eq_iff_iff];simp only[beq_iff_eq];omega
 rw[this];rfl
theorem Sy.kind(h:Sy p q)(k:Nat):(q.w.kind==(k:Int))=(p.w.kind==k):=by
 rw[h.w,Bool.eq_iff_iff];simp only[beq_iff_eq];omega
theorem dC(h:Sy p q):Sim (advance p) (aB q) λp'=>Sy p' (aB q)/\Pv p p':=by
 have hn:aB q={ q with w:=wr (next p.txt p.pos) }:=by
  unfold aB;rw[h.txt,h.w];rfl
 rw[hn];unfold advance;have hw:=wr_we p.txt p.pos;cases hx:next p.txt p.pos with
 |ok x=>exact⟨⟨h.e,h.txt,rfl,Zr hx,h.consts,h.enums,h.n0,h.n1,h.aj⟩,rfl,rfl,rfl,rfl,rfl,rfl,rfl,rfl⟩
 |no e a=>
  rw[hx]at hw;exact Or.inr ⟨hw rfl,h.e,rfl,rfl,rfl⟩
theorem mJ(h:q.e=0)(he:e≠0):Fd e a (aK q e a):=by
 unfold aK;rw[if_pos (by rw[h];rfl)];exact⟨he,rfl,rfl⟩
theorem qF(h:q.e=0)(he:e≠0):Nb e a (aK q e a):=Or.inl (mJ h he)
theorem zN(h:Sy p q):Sim (bad p:Res α) (iQ q) P:=by
 have e:iQ q=aK q 3 q.w.at_:=by
  unfold iQ;rw[if_neg];rw[h.w];simp only[beq_iff_eq];have:=h.wok.k;omega
 rw[e,h.w];exact qF h.e dcd
theorem bad_e(h:Sy p q):iQ q=aK q 3 (p.w.at_:Nat):=by
 unfold iQ;have hw:q.w.at_=(p.w.at_:Nat):=by rw[h.w]
 rw[hw,if_neg];rw[h.w];simp only[beq_iff_eq];have:=h.wok.k;omega
theorem DN(h:Sy p q):Fd 3 (p.w.at_:Nat) (iQ q):=by
 rw[bad_e h];exact mJ h.e dcd
theorem abS(h:Sy p q):Nb 3 (p.w.at_:Nat) (iQ q):=Or.inl (DN h)
theorem bT(h:Sy p q)(hc:eP c=false:=by decide):Sim (want p [[c]]) (af q 4 [c]) λp'=>Sy p' (af q 4 [c])/\Pv p p':=by
 rw[want];unfold af;rw[h.sign hc];cases p.w.is [c]with
 |true=>
  rw[if_pos rfl,if_pos rfl];exact Sim.bind (dC h) (λh=>h) λp' hp=>hp
 |false=>
  rw[if_neg smp,if_neg smp];exact zN h
theorem lZ(h:Sy p q)(hK:2<=K.length:=by decide):Sim (want p [K]) (af q 2 K) λp'=>Sy p' (af q 2 K)/\Pv p p':=by
 rw[want];unfold af;rw[h.key hK];cases p.w.is K with
 |true=>
  rw[if_pos rfl,if_pos rfl];exact Sim.bind (dC h) (λh=>h) λp' hp=>hp
 |false=>
  rw[if_neg smp,if_neg smp];exact zN h
theorem Wh(p:PS)(s:By)(r:List By):want p (s::r)=(want p [s]).andThen λp=>want p r:=by
 rw[want,want];split
 .cases advance p<;>rfl
 .rfl
theorem KY(h:Sy p q)(hc:eP c=false:=by decide):Sim (take p [c]) (if is_ q 4 [c]then aB q else q) λx=>x.1=is_ q 4 [c]/\Sy x.2 (if is_ q 4 [c]then aB q else q)/\Pv p x.2:=by
 unfold take;rw[h.sign hc];cases p.w.is [c]with
 |true=>
  rw[if_pos rfl,if_pos rfl];exact Sim.bind (dC h) (λh=>h) λp' hp=>⟨rfl,hp.1,hp.2⟩
 |false=>
  rw[if_neg smp,if_neg smp];exact⟨rfl,h,Pv.refl _⟩
theorem qX(h:Sy p q)(n m:Int):aG q n m=if n>=m then aK q 5 q.w.at_ else q:=by
 unfold aG;have hk:(q.w.kind==5)=false:=by
  rw[h.w];simp only[beq_eq_false_iff_ne,ne_eq];have:=h.wok.k;omega
 simp only[hk,Bool.and_false,Bool.false_eq_true,if_false];rw[h.e]
 by_cases hh:n>=m
 .rw[if_pos (by simp[hh]),if_pos hh]
 .rw[if_neg (by simp[hh]),if_neg hh]
theorem zM(h:Sy p q)(n m:Nat):Sim (count p n m) (aG q (n:Nat) (m:Nat)) λ_=>aG q (n:Nat) (m:Nat)=q:=by
 rw[qX h];unfold count
 by_cases hh:m<=n
 .rw[if_pos hh,if_pos omg,h.w];exact qF h.e dcd
 .rw[if_neg hh,if_neg omg];rfl
theorem Es(h:Sy p q):fD q=if p.w.kind==1 then(q.w,aB q)else(w00,iQ q):=by
 unfold fD;rw[if_neg (by rw[h.e];decide)];have:=h.kind 1;cases hk:p.w.kind==1 with
 |true=>
  rw[hk]at this;rw[if_neg (by unfold bne;rw[show (q.w.kind==1)=true from this];decide),if_pos rfl]
 |false=>
  rw[hk]at this;rw[if_pos (by unfold bne;rw[show (q.w.kind==1)=false from this];decide),if_neg smp]
theorem wQ(h:Sy p q)(l:List By):Sim (called p l) (dS q l false).2 λx=>Sy x.2.2 (dS q l false).2/\Pv p x.2.2/\x.2.1=l++[x.1.s]/\(dS q l false).1=q.w/\x.1=p.w/\l.contains p.w.s=false:=by
 unfold called name dS;rw[Es h];cases hk:p.w.kind==1 with
 |false=>
  rw[if_neg smp,if_neg smp];simp only[Bool.false_eq_true,if_false,Res.oO];have hb:=abS h;have he:(iQ q).e≠0:=by
   unfold iQ aK;rw[if_neg (by rw[h.w];have:=h.wok.k;simp only[beq_iff_eq];omega),if_pos (by rw[h.e];rfl)];show (3:Int)≠0;decide
  have:((iQ q).e==0)=false:=by simpa using he
  rw[this,Bool.false_and,if_neg smp];exact hb
 |true=>
  rw[if_pos rfl,if_pos rfl];simp only[Bool.false_eq_true,if_false,Res.aS];unfold once;have hs:q.w.s=p.w.s:=by rw[h.w]
  have he:((aB q).e==0)=true:=by show (q.e==0)=true;rw[h.e];rfl
  rw[he,Bool.true_and,hs];cases hc:l.contains p.w.s with
  |true=>
   rw[if_pos rfl,if_pos rfl];simp only[Res.oO];have:q.w.at_=(p.w.at_:Nat):=by rw[h.w]
   rw[this];exact qF (q:=aB q) (e:=6) h.e dcd
  |false=>
   rw[if_neg smp,if_neg smp];simp only[Res.aS];exact Sim.bind (dC h) (λh=>h) λp' ⟨h1,v1⟩=>⟨h1,v1,smp,smp,smp,smp⟩
theorem EE(h:Sy p q)(lo hi:Int)(keep:Int->Nat->Res σ)
  (hb:∀{e a:Int},Fd e a (ak q lo hi).2.2->Nb e a q')
  (hk:∀n,lo<=n->n<=hi->ak q lo hi=(n,((p.w.at_:Nat):Int),aB q)->Sim (keep n p.w.at_) q' P)
  (hn:∀n s,keep n p.w.at_=.ok s->ak q lo hi=(n,((p.w.at_:Nat):Int),aB q)->∀{e a:Int},Nb e a (aB q)->Nb e a q'):
  Sim (value p lo hi keep) q' λx=>lo<=x.1/\x.1<=hi/\ak q lo hi=(x.1,((p.w.at_:Nat):Int),aB q)/\P x.2.1/\Sy x.2.2 (aB q)/\Pv p x.2.2:=by
 have hat:q.w.at_=(p.w.at_:Nat):=by rw[h.w]
 have hv:ak q lo hi=(match IM q with
  |.inr _=>(0,0,iQ q)
  |.inl none=>(0,0,aK q 7 q.w.at_)
  |.inl (some n)=>if n<lo\/n>hi then(0,0,aK q 8 q.w.at_)else(n,q.w.at_,aB q)):=by
  unfold ak;rw[if_neg (by rw[h.e];decide)];rfl
 have hr:(match qK p with
  |.ok n=>IM q=.inl (some n)
  |.no e a=>(e=7/\a=p.w.at_/\IM q=.inl none)\/(e=3/\a=p.w.at_/\IM q=.inr ())):=by
  unfold qK IM;have k3:=h.kind 3;have k1:=h.kind 1;have kT:=h.key (K:=[84,82,85,69]);have kF:=h.key (K:=[70,65,76,83,69]);simp only;rw[show (q.w.kind==3)=(p.w.kind==3)from k3,show (q.w.kind==1)=(p.w.kind==1)from k1,kT,kF];cases p.w.kind==3 with
  |true=>
   refine fif ?_;rw[h.w]
  |false=>
   refine fif ?_;cases p.w.is [84,82,85,69]with
   |true=>simp only[↓reduceIte]
   |false=>
    refine fif ?_;cases p.w.is [70,65,76,83,69]with
    |true=>simp only[↓reduceIte]
    |false=>
     refine fif ?_;cases p.w.kind==1 with
     |true=>
      refine fif ?_;have hc:He q=p.consts.lookup p.w.s:=by
       rw[<- h.consts];unfold He cOf;rw[h.w];rfl
      rw[hc];cases p.consts.lookup p.w.s with
      |some v=>rfl
      |none=>exact Or.inl ⟨rfl,rfl,rfl⟩
     |false=>
      refine fif ?_;exact Or.inr ⟨rfl,smp,smp⟩
 unfold value;cases hm:qK p with
 |no e a=>
  rw[hm]at hr;simp only[Res.oO];rcases hr with⟨rfl,rfl,hr⟩|⟨rfl,rfl,hr⟩
  .rw[hr]at hv;refine hb ?_;rw[hv,hat];exact mJ h.e dcd
  .rw[hr]at hv;refine hb ?_;rw[hv];exact DN h
 |ok n=>
  rw[hm]at hr;simp only[Res.aS];rw[show IM q=.inl (some n)from hr]at hv;simp only at hv
  by_cases hc:n<lo\/hi<n
  .rw[if_pos hc];rw[if_pos (show n<lo\/n>hi from hc)]at hv;refine hb ?_;rw[hv,hat];exact mJ h.e dcd
  .rw[if_neg hc];rw[if_neg (show ¬ (n<lo\/n>hi)from hc),hat]at hv;have hkn:=hk n omg omg hv;have hnn:=hn n;generalize keep n p.w.at_=m at *;cases m with
   |no e a=>exact hkn
   |ok s=>
   have hs:P s:=hkn;simp only[Res.aS];refine Sim.bind (dC h) (hnn s rfl hv) λp' ⟨h1,v1⟩=>?_;exact⟨by show lo<=n;omega,by show n<=hi;omega,hv,hs,h1,v1⟩
end Go.M
namespace Go.M
variable {p:PS} {q:RS}
def refs:Ty->List (By×Int)
 |.named s a=>[(s,(a:Nat))]
 |.array t _ _=>refs t
 |.opt t=>refs t
 |_=>[]
def Zn(r:eU):Option (By×Int):=if r.kind==14 then some (r.name,r.at_)else none
def qU(l:List eU):List (By×Int):=l.filterMap Zn
def AO(r:eU):List Int:=
 if r.kind==9||r.kind==10||r.kind==11 then[r.of]
 else if r.kind==12 then r.parts
 else if r.kind==13 then r.parts++[r.els]
 else[]
def Gr(a b:List eU)(l:List (By×Int)):Prop:=∃rs,b=a++rs/\qU rs=l/\∀i r,rs[i]?=some r->∀c∈AO r,c<((a.length+i:Nat):Int)/\(c<5\/(a.length:Int)<=c)
theorem Gr.refl(a:List eU):Gr a a []:=⟨[],smp,rfl,λi r h=>by simp at h⟩
theorem Gr.le(h:Gr a b l):a.length<=b.length:=by
 obtain⟨rs,rfl,_⟩:=h;simp
theorem Gr.trans(h:Gr a b l)(k:Gr b c m):Gr a c (l++m):=by
 obtain⟨rs,rfl,hl,hk⟩:=h;obtain⟨ss,rfl,km,kk⟩:=k;refine⟨rs++ss,by rw[List.append_assoc],by unfold qU at *;rw[List.filterMap_append,hl,km],λi r hi c hc=>?_⟩
 by_cases hlt:i<rs.length
 .rw[List.getElem?_append_left hlt]at hi;exact hk i r hi c hc
 .rw[List.getElem?_append_right omg]at hi;obtain⟨k1,k2⟩:=kk _ r hi c hc;rw[List.length_append]at k1 k2;exact⟨omg,omg⟩
theorem Gr.push(h:Gr a b l)(hr:∀c∈AO r,c<(b.length:Int)/\(c<5\/(a.length:Int)<=c)):Gr a (b++[r]) (l++qU [r]):=by
 obtain⟨rs,rfl,hl,hk⟩:=h;refine⟨rs++[r],by rw[List.append_assoc],by unfold qU at *;rw[List.filterMap_append,hl],λi x hi c hc=>?_⟩
 by_cases hlt:i<rs.length
 .rw[List.getElem?_append_left hlt]at hi;exact hk i x hi c hc
 .rw[List.getElem?_append_right omg]at hi;have hi0:i - rs.length=0:=by
   have:=(List.getElem?_eq_some_iff.mp hi).1;simp only[List.length_cons,List.length_nil]at this;omega
  rw[hi0]at hi;obtain rfl:r=x:=by simpa using hi
  have:=hr c hc;rw[List.length_append]at this;exact⟨omg,this.2⟩
def RT(rows:List eU):Ty->Int->Prop
 |.basic s,r=>(s=[105,110,116]/\r=0)\/(s=[117,110,115,105,103,110,101,100]/\r=1)\/(s=[104,121,112,101,114]/\r=2)\/(s=[117,110,115,105,103,110,101,100,32,104,121,112,101,114]/\r=3)\/(s=[98,111,111,108]/\r=4)
 |.named s a,r=>0<=r/\rows[r.toNat]?=some { row0 with kind:=14,name:=s,at_:=(a:Nat),of := -1 }
 |.bytes t f n,r=>0<=r/\rows[r.toNat]?=some { row0 with kind:=if t then 8 else if f then 6 else 7,n:=n }
 |.array t f n,r=>0<=r/\∃o,rows[r.toNat]?=some { row0 with kind:=if f then 9 else 10,of:=o,n:=n }/\RT rows t o
 |.opt t,r=>0<=r/\∃o,rows[r.toNat]?=some { row0 with kind:=11,of:=o }/\RT rows t o
 |.void,r=>r = -1
theorem jv{α:Type}{a b:List α}{i:Nat}{x:α}(h:a[i]?=some x):(a++b)[i]?=some x:=by
 rw[List.getElem?_append_left (List.getElem?_eq_some_iff.mp h).1];exact h
theorem RT.app{a b:List eU}:∀{t:Ty} {r:Int},RT a t r->RT (a++b) t r
 |.basic s,r,h=>h
 |.named s _,r,h=>⟨h.1,jv h.2⟩
 |.bytes _ _ _,r,h=>⟨h.1,jv h.2⟩
 |.array t f n,r,⟨h,o,h1,h2⟩=>⟨h,o,jv h1,RT.app h2⟩
 |.opt t,r,⟨h,o,h1,h2⟩=>⟨h,o,jv h1,RT.app h2⟩
 |.void,r,h=>h
theorem RT.lt(h5:5<=a.length):∀{t:Ty} {r:Int},RT a t r->r<(a.length:Int)
 |.basic s,r,h=>by rcases h with⟨_,rfl⟩|⟨_,rfl⟩|⟨_,rfl⟩|⟨_,rfl⟩|⟨_,rfl⟩<;>omega
 |.named s _,r,h=>by have:=(List.getElem?_eq_some_iff.mp h.2).1;have:=h.1;omega
 |.bytes _ _ _,r,h=>by have:=(List.getElem?_eq_some_iff.mp h.2).1;have:=h.1;omega
 |.array t f n,r,⟨h,o,h1,h2⟩=>by have:=(List.getElem?_eq_some_iff.mp h1).1;omega
 |.opt t,r,⟨h,o,h1,h2⟩=>by have:=(List.getElem?_eq_some_iff.mp h1).1;omega
 |.void,r,h=>by
  have:r = -1:=h;omega
def Ls(a b:List eU)(r:Int):Prop:=(0<=r/\r<5)\/(r=(b.length:Int) - 1/\(a.length:Int)<=r)
theorem Ls.kid{a b c:List eU}{l:List (By×Int)}{r:Int}(h:Ls a b r)(h5:5<=a.length)(k:Gr a b l)(k2:b.length<=c.length):r<(c.length:Int)/\(r<5\/(a.length:Int)<=r):=by
 have:=k.le;rcases h with⟨h1,h2⟩|⟨h1,h2⟩
 .exact⟨omg,Or.inl h2⟩
 .exact⟨omg,Or.inr h2⟩
theorem Lj(h:n.toNat<a.length):rowAt (a++b) n=rowAt a n:=by
 unfold rowAt;rw[List.getD_eq_getElem?_getD,List.getD_eq_getElem?_getD,List.getElem?_append_left h]
theorem zV(h:nix s l=some k):cO l k∈l:=yU (mg h)
theorem acJ(h:∀x∈l,x.what=1->0<=x.n/\x.n<(a.length:Int))(s:By):eOf (a++b) l s=eOf a l s:=by
 unfold eOf;cases hx:nix s l with
 |none=>rfl
 |some k=>
  simp only;cases hw:(cO l k).what==1 with
  |false=>simp only[Bool.false_and,Bool.false_eq_true,↓reduceIte]
  |true=>
   have:=h _ (zV hx) (by simpa using hw);rw[Lj omg]
theorem yB(h:Sy p q)(hv:Nv q)(r:eU):Sy p (dh q r).2:=
 ⟨h.e,h.txt,h.w,h.wok,h.consts,λs=>(acJ (λx hx hw=>hv.names x hx hw) s).trans (h.enums s),h.n0,h.n1,h.aj⟩
theorem is_e0(h:q.e=0)(k:Int)(s:By):is_ q k s=(q.w.kind==k&&q.w.s==s):=by
 unfold is_;rw[h];rfl
theorem Xh(p:PS):kindOf p=if p.w.kind==1 then(advance p).andThen λx=>.ok (.named p.w.s p.w.at_,x)
  else if p.w.is [105,110,116]then(advance p).andThen λx=>.ok (.basic [105,110,116],x)
  else if p.w.is [104,121,112,101,114]then(advance p).andThen λx=>.ok (.basic [104,121,112,101,114],x)
  else if p.w.is [98,111,111,108]then(advance p).andThen λx=>.ok (.basic [98,111,111,108],x)
  else if p.w.is [117,110,115,105,103,110,101,100]then(advance p).andThen λx=>if x.w.is [104,121,112,101,114]then(advance x).andThen λx=>.ok (.basic [117,110,115,105,103,110,101,100,32,104,121,112,101,114],x)else if x.w.is [105,110,116]then(advance x).andThen λx=>.ok (.basic [117,110,115,105,103,110,101,100],x)else .ok (.basic [117,110,115,105,103,110,101,100],x)
  else bad p:=by
 unfold kindOf take;simp only;cases p.w.kind==1 with
 |true=>simp only[↓reduceIte]
 |false=>
 refine fif ?_;cases p.w.is [105,110,116]with
 |true=>
  refine fif ?_;cases advance p<;>rfl
 |false=>
 simp only[Bool.false_eq_true,↓reduceIte,Res.aS];cases p.w.is [104,121,112,101,114]with
 |true=>
  refine fif ?_;cases advance p<;>rfl
 |false=>
 simp only[Bool.false_eq_true,↓reduceIte,Res.aS];cases p.w.is [98,111,111,108]with
 |true=>
  refine fif ?_;cases advance p<;>rfl
 |false=>
 simp only[Bool.false_eq_true,↓reduceIte,Res.aS];cases p.w.is [117,110,115,105,103,110,101,100]with
 |false=>simp only[Bool.false_eq_true,↓reduceIte,Res.aS]
 |true=>
  refine fif ?_;cases advance p with
  |no=>rfl
  |ok x=>
   simp only[Res.aS,↓reduceIte];cases x.w.is [104,121,112,101,114]with
   |true=>
    refine fif ?_;cases advance x<;>rfl
   |false=>
    simp only[Bool.false_eq_true,↓reduceIte,Res.aS];cases x.w.is [105,110,116]with
    |true=>
     refine fif ?_;cases advance x<;>rfl
    |false=>simp only[Bool.false_eq_true,↓reduceIte,Res.aS]
structure KP (p:PS) (q q':RS) (t:Ty) (r:Int) (p':PS):Prop where
 sy:Sy p' q'
 pv:Pv p p'
 rt:RT q'.rows t r
 gr:Gr q.rows q'.rows (refs t)
 ls:Ls q.rows q'.rows r
 nm:q'.names=q.names
theorem Gr.same(h:b=a):Gr a b []:=h▸Gr.refl a
theorem vO(h:Sy p' q')(v:Pv p p')(hr:q'.rows=q.rows)(hn:q'.names=q.names)(hs:RT q'.rows (.basic s) r)(h5:0<=r/\r<5):KP p q q' (.basic s) r p':=
 ⟨h,v,hs,Gr.same hr,Or.inl h5,hn⟩
theorem PU(h:Sy p q)(hv:Nv q):Sim (kindOf p) (fO q).2.2 λx=>KP p q (fO q).2.2 x.1 (fO q).1 x.2:=by
 rw[Xh];have hk:=h.kind 1;have ki:=h.key (K:=[105,110,116]);have kh:=h.key (K:=[104,121,112,101,114]);have kb:=h.key (K:=[98,111,111,108]);have ku:=h.key (K:=[117,110,115,105,103,110,101,100]);rw[is_e0 h.e]at ki kh kb ku;unfold fO;have he:(q.e != 0)=false:=by rw[h.e];rfl
 rw[he,show (q.w.kind==1)=(p.w.kind==1)from hk,ki,kh,kb,ku];refine fif ?_;cases p.w.kind==1 with
 |true=>
  refine fif ?_;refine Sim.bind (dC h) (λh=>h) λp' ⟨h1,v1⟩=>?_;have hvn:Nv (aB q):=(jr hv).nv;have hq:q.w=⟨(p.w.kind:Nat),p.w.s,(p.w.at_:Nat),(p.pos:Nat),p.w.n,0⟩:=h.w;refine⟨yB h1 hvn _,v1,?_,?_,?_,rfl⟩
  .show 0<=((q.rows.length:Nat):Int)/\(q.rows++[_])[((q.rows.length:Nat):Int).toNat]?=some _;refine⟨omg,?_⟩;rw[Int.toNat_natCast,List.getElem?_append_right (Nat.le_refl _),Nat.sub_self,hq];rfl
  .have:=(Gr.refl q.rows).push (r:={ row0 with kind:=14,name:=q.w.s,at_:=q.w.at_,of := -1 }) (λc hc=>by cases hc);rw[hq]at this;show Gr q.rows (q.rows++[_]) _;rw[hq];exact this
  .right;show ((q.rows.length:Nat):Int)=(((q.rows++[_]).length:Nat):Int) - 1/\_;rw[List.length_append];exact⟨lng,Int.le_refl _⟩
 |false=>
 refine fif ?_;cases p.w.is [105,110,116]with
 |true=>
  refine fif ?_;exact Sim.bind (dC h) (λh=>h) λp' ⟨h1,v1⟩=>vO (q:=q) h1 v1 rfl rfl (Or.inl ⟨rfl,rfl⟩) dcd
 |false=>
 refine fif ?_;cases p.w.is [104,121,112,101,114]with
 |true=>
  refine fif ?_;exact Sim.bind (dC h) (λh=>h) λp' ⟨h1,v1⟩=>vO (q:=q) h1 v1 rfl rfl (Or.inr (Or.inr (Or.inl ⟨rfl,rfl⟩))) dcd
 |false=>
 refine fif ?_;cases p.w.is [98,111,111,108]with
 |true=>
  refine fif ?_;exact Sim.bind (dC h) (λh=>h) λp' ⟨h1,v1⟩=>vO (q:=q) h1 v1 rfl rfl (Or.inr (Or.inr (Or.inr (Or.inr ⟨rfl,rfl⟩)))) dcd
 |false=>
 refine fif ?_;cases p.w.is [117,110,115,105,103,110,101,100]with
 |false=>
  refine fif ?_;exact zN h
 |true=>
  refine fif ?_;refine Sim.bind (dC h) (λhb=>?_) λp' ⟨h1,v1⟩=>?_
  .rw[hb.is dcd,if_neg smp,hb.is dcd];exact hb
  .rw[h1.key (K:=[104,121,112,101,114]),h1.key (K:=[105,110,116])];cases p'.w.is [104,121,112,101,114]with
   |true=>
    refine fif ?_;exact Sim.bind (dC h1) (λh=>h) λp2 ⟨h2,v2⟩=>vO (q:=q) h2 (v1.trans v2) rfl rfl (Or.inr (Or.inr (Or.inr (Or.inl ⟨rfl,rfl⟩)))) dcd
   |false=>
    refine fif ?_;cases p'.w.is [105,110,116]with
    |true=>
     refine fif ?_;exact Sim.bind (dC h1) (λh=>h) λp2 ⟨h2,v2⟩=>vO (q:=q) h2 (v1.trans v2) rfl rfl (Or.inr (Or.inl ⟨rfl,rfl⟩)) dcd
    |false=>
     refine fif ?_;exact vO (q:=q) h1 v1 rfl rfl (Or.inr (Or.inl ⟨rfl,rfl⟩)) dcd
end Go.M
namespace Go.M
variable {p:PS} {q:RS}
theorem Bh(h:Sy p q)(lo hi:Int):Sim (value p lo hi qN) (ak q lo hi).2.2 λx=>lo<=x.1/\x.1<=hi/\ak q lo hi=(x.1,((p.w.at_:Nat):Int),aB q)/\Sy x.2.2 (ak q lo hi).2.2/\Pv p x.2.2:=by
 have:=EE h lo hi qN (q':=(ak q lo hi).2.2) (P:=λ_=>True) (λh=>Or.inl h) (λ_ _ _ _=>trivial) (λn s _ e {_ _} hb=>by rw[e];exact hb);exact this.mono λx ⟨h1,h2,h3,_,h4,h5⟩=>⟨h1,h2,h3,by rw[h3];exact h4,h5⟩
theorem Iw(h:Sy p q)(lo hi:Int)(l:List Int):Sim (value p lo hi λn a=>once l n a) (if(ak q lo hi).2.2.e==0&&l.contains (ak q lo hi).1 then aK (ak q lo hi).2.2 6 (ak q lo hi).2.1 else(ak q lo hi).2.2)
  λx=>lo<=x.1/\x.1<=hi/\ak q lo hi=(x.1,((p.w.at_:Nat):Int),aB q)/\x.2.1=l++[x.1]/\l.contains x.1=false/\Sy x.2.2 (aB q)/\Pv p x.2.2:=by
 have hq:(aB q).e=0:=h.e;have:=EE h lo hi (λn a=>once l n a) (q':=(if(ak q lo hi).2.2.e==0&&l.contains (ak q lo hi).1 then aK (ak q lo hi).2.2 6 (ak q lo hi).2.1 else(ak q lo hi).2.2)) (P:=λm=>∃n,m=l++[n]/\l.contains n=false/\(ak q lo hi).1=n)
  (λhb=>by
   split
   .rename_i hc;rw[Bool.and_eq_true]at hc;have he:(ak q lo hi).2.2.e=0:=by simpa using hc.1
    exact absurd he (by rw[hb.2.1];exact hb.1)
   .exact Or.inl hb)
  (λn _ _ e=>by
   rw[e];simp only;rw[hq];unfold once;cases hc:l.contains n with
   |true=>
    refine fif ?_;exact qF hq dcd
   |false=>
    refine fif ?_
    exact⟨n,rfl,hc,rfl⟩)
  (λn s hs e {_ _} hb=>by
   rw[e];simp only;unfold once at hs;split at hs
   .cases hs
   .rename_i hc;have hc:l.contains n=false:=by simpa using hc
    rw[hc,Bool.and_false,if_neg smp]
    exact hb)
 exact this.mono λx ⟨h1,h2,h3,⟨n,h4,h5,h6⟩,h7,h8⟩=>by
  have hn:n=x.1:=by rw[<- h6,h3]
  exact⟨h1,h2,h3,hn▸h4,hn▸h5,h7,h8⟩
theorem vF(h:is_ q k s=true):af q k s=aB q:=by unfold af;rw[if_pos h]
theorem IA(h:Sy p q)(hi:is_ q 4 [91]=true):Sim (bound p) (bC q true).2 λx=>x.1=true/\x.2.1=(bC q true).1/\Sy x.2.2 (bC q true).2/\Pv p x.2.2:=by
 unfold bound bC take;have hs:=h.sign (c:=91);rw[hi]at hs;simp only[↓reduceIte,vF hi,<- hs];rw[Res.assoc];refine Sim.bind (dC h) (λhb=>?_) λp1 ⟨h1,v1⟩=>?_
 .exact Or.inl ((vX 1 1000 hb).fs (ay _ _ _))
 simp only[Res.aS,↓reduceIte];refine Sim.bind (Bh h1 1 1000) (λhb=>Or.inl ((bY 4 [93]) hb)) λy ⟨_,_,hy,h2,v2⟩=>?_;refine Sim.bind (bT h2) (λhb=>hb) λp3 ⟨h3,v3⟩=>?_;exact⟨rfl,by rw[hy],h3,(v1.trans v2).trans v3⟩
theorem IB(h:Sy p q)(hi:is_ q 4 [91]=false):Sim (bound p) (bC q false).2 λx=>x.1=false/\x.2.1=(bC q false).1/\Sy x.2.2 (bC q false).2/\Pv p x.2.2:=by
 unfold bound bC take;have hs:=h.sign (c:=91);rw[hi]at hs;simp only[Bool.false_eq_true,↓reduceIte,<- hs,Res.aS];refine Sim.bind (bT h) (λhb=>?_) λp1 ⟨h1,v1⟩=>?_
 .simp only[hb.is (by decide:(4:Int)≠5),Bool.false_eq_true,↓reduceIte];exact Or.inl ((vX 0 4294967295 hb).fs (ay _ _ _))
 generalize af q 4 [60]=q1 at *;have h62:=h1.sign (c:=62);cases hg:is_ q1 4 [62]with
 |true=>
  rw[hg]at h62;simp only[↓reduceIte,<- h62,vF hg];rw[Res.assoc];exact Sim.bind (dC h1) (λhb=>hb) λp2 ⟨h2,v2⟩=>⟨rfl,rfl,h2,v1.trans v2⟩
 |false=>
  rw[hg]at h62;simp only[Bool.false_eq_true,↓reduceIte,<- h62,Res.aS];refine Sim.bind (Bh h1 0 4294967295) (λhb=>Or.inl ((bY 4 [62]) hb)) λy ⟨_,_,hy,h2,v2⟩=>?_;refine Sim.bind (bT h2) (λhb=>hb) λp3 ⟨h3,v3⟩=>?_;exact⟨rfl,by rw[hy],h3,(v1.trans v2).trans v3⟩
structure Px (p p':PS) (ns:List By):Prop where
 txt:p'.txt=p.txt
 names:p'.names=ns
 consts:p'.consts=p.consts
 enums:p'.enums=p.enums
 aj:p'.aj=p.aj
 n0:p'.n0=p.n0
 n1:p'.n1=p.n1
 n2:p'.n2=p.n2
theorem Pv.px(h:Pv p p'):Px p p' p.names:=⟨h.txt,h.names,h.consts,h.enums,h.aj,h.n0,h.n1,h.n2⟩
theorem Px.pv(h:Px p p' p.names):Pv p p':=⟨h.txt,h.names,h.consts,h.enums,h.aj,h.n0,h.n1,h.n2⟩
theorem Px.post(h:Px p p' ns)(k:Pv p' r):Px p r ns:=⟨k.txt.trans h.txt,k.names.trans h.names,k.consts.trans h.consts,k.enums.trans h.enums,k.aj.trans h.aj,k.n0.trans h.n0,k.n1.trans h.n1,k.n2.trans h.n2⟩
theorem Px.pre(k:Pv p p')(h:Px p' r ns):Px p r ns:=⟨h.txt.trans k.txt,h.names,h.consts.trans k.consts,h.enums.trans k.enums,h.aj.trans k.aj,h.n0.trans k.n0,h.n1.trans k.n1,h.n2.trans k.n2⟩
def NmOk{σ:Type}(nm:PS->Res (Wd×σ×PS))(ns:List By)(all:Bool)(K:List By->List NmR->Prop)(f:List By->By->List By)(T:List By->By->σ->Prop):Prop:=
 ∀{p:PS} {q:RS},Sy p q->K p.names q.names->Sim (nm p) (dS q ns all).2 λx=>Sy x.2.2 (dS q ns all).2/\(dS q ns all).1.s=x.1.s/\(dS q ns all).1.at_=(x.1.at_:Nat)/\Px p x.2.2 (f p.names x.1.s)/\T p.names x.1.s x.2.1
theorem Zo(l:List By):NmOk (Zp l) l false (λ_ _=>True) (λns _=>ns) (λ_ s m=>m=l++[s]/\l.contains s=false):=λ{p q} h _=>by
 refine(wQ h l).mono λx ⟨h1,v1,h2,h3,h4,h5⟩=>⟨h1,?_,?_,v1.px,h2,by rw[h4];exact h5⟩
 .rw[h3,h.w,h4]
 .rw[h3,h.w,h4]
theorem zX(s:By):∀l:List NmR,(nix s l).isSome=(l.map (·.s)).contains s
 |[]=>rfl
 |x::l=>by
  rw[nix,List.map_cons,List.contains_cons];cases hx:x.s==s with
  |true=>
   have:(s==x.s)=true:=by rw[BEq.comm];exact hx
   rw[this];rfl
  |false=>
   have:(s==x.s)=false:=by rw[BEq.comm];exact hx
   rw[this,Bool.false_or,<- zX s l];simp only[Bool.false_eq_true,↓reduceIte,Option.isSome_map]
abbrev Nm(ns:List By)(l:List NmR):Prop:=l.map (·.s)=ns
theorem Zq:NmOk Dn [] true Nm (λns s=>ns++[s]) (λns s _=>ns.contains s=false):=λ{p q} h hn=>by
 unfold Dn own name dS;rw[Es h];cases hk:p.w.kind==1 with
 |false=>
  rw[if_neg smp,if_neg smp];simp only[↓reduceIte,Res.oO];have hb:=DN h;have he:((iQ q).e==0)=false:=by rw[hb.2.1];decide
  rw[he,Bool.false_and,if_neg smp];exact Or.inl hb
 |true=>
  rw[if_pos rfl,if_pos rfl];simp only[↓reduceIte,Res.aS];unfold once;have hs:q.w.s=p.w.s:=by rw[h.w]
  have ha:q.w.at_=(p.w.at_:Nat):=by rw[h.w]
  have he:((aB q).e==0)=true:=by show (q.e==0)=true;rw[h.e];rfl
  have hx:(nix q.w.s (aB q).names).isSome=p.names.contains p.w.s:=by
   rw[<- hn,<- hs];exact zX q.w.s q.names
  rw[he,Bool.true_and,hx];cases hc:p.names.contains p.w.s with
  |true=>
   simp only[↓reduceIte,Res.oO];rw[ha];exact qF (q:=aB q) (e:=6) h.e dcd
  |false=>
   simp only[Bool.false_eq_true,↓reduceIte,Res.aS];rw[Res.assoc];have h':Sy { p with names:=p.names++[p.w.s] } q:=⟨h.e,h.txt,h.w,h.wok,h.consts,h.enums,h.n0,h.n1,h.aj⟩;refine Sim.bind (dC h') (λhb=>hb) λp' ⟨h1,v1⟩=>?_;exact⟨h1,hs,ha,⟨v1.txt,v1.names,v1.consts,v1.enums,v1.aj,v1.n0,v1.n1,v1.n2⟩,hc⟩
end Go.M
namespace Go.M
variable {p:PS} {q:RS}
structure DP {σ:Type} (f:List By->By->List By) (T:List By->By->σ->Prop) (p:PS) (q:RS) (d:Int×By×By×WR×RS) (x:Decl×Wd×σ×PS):Prop where
 sy:Sy x.2.2.2 d.2.2.2.2
 px:Px p x.2.2.2 (f p.names x.2.1.s)
 ex:T p.names x.2.1.s x.2.2.1
 nm:x.1.name=x.2.1.s
 ds:d.2.2.2.1.s=x.2.1.s
 dat:d.2.2.2.1.at_=(x.2.1.at_:Nat)
 rt:RT d.2.2.2.2.rows x.1.ty d.1
 gr:Gr q.rows d.2.2.2.2.rows (refs x.1.ty)
 ls:Ls q.rows d.2.2.2.2.rows d.1
 nms:d.2.2.2.2.names=q.names
theorem Gr.snoc(h:Gr a b l)(h14:r.kind≠14)(hr:∀c∈AO r,c<(b.length:Int)/\(c<5\/(a.length:Int)<=c)):Gr a (b++[r]) l:=by
 have:=h.push hr;have e:qU [r]=[]:=by
  unfold qU Zn;simp[h14]
 rw[e,List.append_nil]at this;exact this
theorem xu(h:a.length<=b.length):Ls a (b++[r]) ((b.length:Nat):Int):=by
 right;rw[List.length_append];exact⟨lng,omg⟩
theorem qB:(b++[r])[((b.length:Nat):Int).toNat]?=some r:=by
 rw[Int.toNat_natCast,List.getElem?_append_right (Nat.le_refl _),Nat.sub_self];rfl
theorem ZG{w:Wd}{a b:By}(hab:a≠b)(h:w.is a=true):w.is b=false:=by
 unfold Wd.is at *;rw[Bool.and_eq_true]at h;have hs:w.s=a:=by simpa using h.2
 have:(w.s==b)=false:=by rw[hs];simpa using hab
 rw[this,Bool.and_false]
theorem PV{σ:Type}{nm:PS->Res (Wd×σ×PS)}{ns:List By}{all:Bool}{K:List By->List NmR->Prop}{f:List By->By->List By}{T:List By->By->σ->Prop}(hnm:NmOk nm ns all K f T)(h:Sy p q)(hv:Nv q)(hK:K p.names q.names):
  Sim (decl nm p) (dD q ns all).2.2.2.2 λx=>DP f T p q (dD q ns all) x:=by
 unfold decl dD;have ko:=h.key (K:=[111,112,97,113,117,101]);have ks:=h.key (K:=[115,116,114,105,110,103]);simp only[ko,ks];have h5:=hv.five;cases hos:p.w.is [115,116,114,105,110,103]||p.w.is [111,112,97,113,117,101]with
 |true=>
  have hos':(p.w.is [111,112,97,113,117,101]||p.w.is [115,116,114,105,110,103])=true:=by rw[Bool.or_comm];exact hos
  simp only[hos',↓reduceIte];have hvn:=(jr hv).nv;refine Sim.bind (dC h) (λhb=>?_) λp1 ⟨h1,v1⟩=>?_
  .have hb:=DJ ns all hb;generalize dS (aB q) ns all=y at *;simp only[hb.is,Bool.false_and,Bool.false_eq_true,↓reduceIte];exact Or.inl (hb.fs ((vV _ _).trans (tJ _ _)))
  have hK1:K p1.names (aB q).names:=by rw[v1.names];exact hK
  have hv1:=(xh hvn ns all).nv;have sb:=oJ (aB q) ns all;have hn:=hnm h1 hK1;generalize dS (aB q) ns all=y at *;refine Sim.bind hn (λhb=>?_) λx ⟨h2,n2,a2,x2,t2⟩=>?_
  .by_cases hb0:y.2.e=0
   .have hb1:∀k s,k≠5->is_ y.2 k s=false:=λk s hk=>hb.is hk;rw[hb1 4 [91] dcd,Bool.false_and];refine fif ?_;exact nU _ (Or.inl (aaj false hb))
   .have hf:Fd _ _ y.2:=hb.elim id (λhp=>absurd hp.2.1 hb0);simp only[hf.is,Bool.false_and,Bool.false_eq_true,↓reduceIte];exact Or.inl (hf.fs ((vV _ _).trans (tJ _ _)))
  have hpx:Px p x.2.2 (f p.names x.1.s):=by
   have:=Px.pre v1 x2;rw[v1.names]at this;exact this
  have ht:T p.names x.1.s x.2.1:=by rw[<- v1.names];exact t2
  have hrn:y.2.rows=q.rows:=sb.rows;have hnn:y.2.names=q.names:=sb.names;have s60:=h2.sign (c:=60);have s91:=h2.sign (c:=91)
  -- a bound,and its row
  have bt:is_ y.2 4 [91]=true->∀(k:Int) (t:Bool),k=(if t then 8 else 6)->(t=false)->Sim ((bound x.2.2).andThen λz=>Res.ok ((⟨x.1.s,.bytes t z.1 z.2.1⟩:Decl),x.1,x.2.1,z.2.2)) (dh (bC y.2 true).2 { row0 with kind:=6,n:=(bC y.2 true).1 }).2
    λr=>DP f T p q ((dh (bC y.2 true).2 { row0 with kind:=6,n:=(bC y.2 true).1 }).1,q.w.s++[32],[91]++nI_ (bC y.2 true).1++[93],y.1,(dh (bC y.2 true).2 { row0 with kind:=6,n:=(bC y.2 true).1 }).2) r:=λhi k t hk htf=>by
   have hv2:=(sK hv1 true).nv;have sb2:=mX y.2 true;refine Sim.bind (IA h2 hi) (λhb=>nU _ hb) λz ⟨z1,z2,h3,v3⟩=>?_;generalize bC y.2 true=bd at *;refine⟨yB h3 hv2 _,hpx.post v3,ht,rfl,n2,a2,⟨by show (0:Int)<=((bd.2.rows.length:Nat):Int);omega,?_⟩,?_,?_,by show bd.2.names=_;rw[sb2.names];exact hnn⟩
   .show (bd.2.rows++[_])[((bd.2.rows.length:Nat):Int).toNat]?=_;rw[qB,z1,z2,htf];rfl
   .show Gr q.rows (bd.2.rows++[_]) [];rw[sb2.rows,hrn];exact(Gr.refl _).snoc (by show (6:Int)≠14;decide) (λc hc=>by cases hc)
   .show Ls q.rows (bd.2.rows++[_]) ((bd.2.rows.length:Nat):Int);rw[sb2.rows,hrn];exact xu (Nat.le_refl _)
  have bf:is_ y.2 4 [91]=false->∀(k:Int) (t:Bool),k=(if t then 8 else 7)->Sim ((bound x.2.2).andThen λz=>Res.ok ((⟨x.1.s,.bytes t z.1 z.2.1⟩:Decl),x.1,x.2.1,z.2.2)) (dh (bC y.2 false).2 { row0 with kind:=k,n:=(bC y.2 false).1 }).2
    λr=>DP f T p q ((dh (bC y.2 false).2 { row0 with kind:=k,n:=(bC y.2 false).1 }).1,q.w.s++[32],[60]++nI_ (bC y.2 false).1++[62],y.1,(dh (bC y.2 false).2 { row0 with kind:=k,n:=(bC y.2 false).1 }).2) r:=λhi k t hk=>by
   have hv2:=(sK hv1 false).nv;have sb2:=mX y.2 false;refine Sim.bind (IB h2 hi) (λhb=>nU _ hb) λz ⟨z1,z2,h3,v3⟩=>?_;generalize bC y.2 false=bd at *;refine⟨yB h3 hv2 _,hpx.post v3,ht,rfl,n2,a2,⟨by show (0:Int)<=((bd.2.rows.length:Nat):Int);omega,?_⟩,?_,?_,by show bd.2.names=_;rw[sb2.names];exact hnn⟩
   .show (bd.2.rows++[_])[((bd.2.rows.length:Nat):Int).toNat]?=_;rw[qB,z1,z2,hk];rfl
   .show Gr q.rows (bd.2.rows++[_]) [];rw[sb2.rows,hrn];refine(Gr.refl _).snoc ?_ ?_
    .show k≠14;rw[hk];split<;>decide
    .intro c hc;have:AO { row0 with kind:=k,n:=bd.1 }=[]:=by rw[hk];cases t<;>rfl
     rw[this]at hc;cases hc
   .show Ls q.rows (bd.2.rows++[_]) ((bd.2.rows.length:Nat):Int);rw[sb2.rows,hrn];exact xu (Nat.le_refl _)
  cases hst:p.w.is [115,116,114,105,110,103]with
  |true=>
   have hop:p.w.is [111,112,97,113,117,101]=false:=ZG dcd hst;simp only[hop,Bool.and_false,Bool.true_and,Bool.false_eq_true,↓reduceIte];cases h60:x.2.2.w.is [60]with
   |false=>
    simp only[Bool.not_false,↓reduceIte];rw[h60]at s60;refine nU _ (Or.inl ?_);have hw:af y.2 4 [60]=iQ y.2:=by unfold af;rw[if_neg (by rw[s60];simp)]
    have hbd:=DN h2;unfold bC;simp only[Bool.false_eq_true,↓reduceIte,hw,hbd.is];exact hbd.fs ((fB _ _ _).trans (ay _ _ _))
   |true=>
    have h91:x.2.2.w.is [91]=false:=ZG dcd h60;simp only[Bool.not_true,Bool.false_eq_true,↓reduceIte];exact bf (by rw[s91,h91]) 8 true rfl
  |false=>
   have hop:p.w.is [111,112,97,113,117,101]=true:=by rw[hst,Bool.false_or]at hos;exact hos
   simp only[hop,Bool.and_true,Bool.false_and,Bool.false_eq_true,↓reduceIte];cases h91:is_ y.2 4 [91]with
   |true=>
    refine fif ?_;exact bt h91 6 false rfl rfl
   |false=>
    refine fif ?_;exact bf h91 7 false rfl
 |false=>
  have hos':(p.w.is [111,112,97,113,117,101]||p.w.is [115,116,114,105,110,103])=false:=by rw[Bool.or_comm];exact hos
  simp only[hos',Bool.false_eq_true,↓reduceIte];obtain⟨nk,rk⟩:=GZ hv;refine Sim.bind (PU h hv) (λhb=>?_) λt kp=>?_
  .generalize fO q=k at *;simp only[hb.is (by decide:(4:Int)≠5),Bool.false_eq_true,↓reduceIte];have hf:=DJ ns all hb;generalize dS k.2.2 ns all=y at *;simp only[hf.is,Bool.or_self,Bool.false_eq_true,↓reduceIte];exact Or.inl hf
  generalize fO q=k at *;obtain⟨t,p1⟩:=t;have hK1:K p1.names k.2.2.names:=by rw[kp.pv.names,kp.nm];exact hK
  have k1:=kp.sy;have v1:=kp.pv;refine Sim.bind (KY k1 (c:=42)) (λhb=>?_) λy ⟨y1,h2,v2⟩=>?_
  .cases hs:is_ k.2.2 4 [42]with
   |true=>
    rw[hs]at hb;simp only[↓reduceIte]at hb ⊢;exact nU _ (Or.inl (DJ ns all hb))
   |false=>
    rw[hs]at hb;simp only[Bool.false_eq_true,↓reduceIte]at hb ⊢;have hf:=DJ ns all hb;generalize dS k.2.2 ns all=y at *;simp only[hf.is,Bool.or_self,Bool.false_eq_true,↓reduceIte];exact Or.inl hf
  rw[y1];cases hs:is_ k.2.2 4 [42]with
  |true=>
   rw[show is_ k.2.2 4 [42]=true from hs]at h2;simp only[↓reduceIte]at h2 ⊢;have hK2:K y.2.names (aB k.2.2).names:=by rw[v2.names];exact hK1
   have hn:=hnm h2 hK2;have nv:=jr nk.nv;have sb:=oJ (aB k.2.2) ns all;have nv2:=xh nv.nv ns all;generalize dS (aB k.2.2) ns all=z at *;refine Sim.bind hn (λhb=>nU _ hb) λx ⟨h3,n3,a3,x3,t3⟩=>?_;have hzr:z.2.rows=k.2.2.rows:=sb.rows;have hzn:z.2.names=k.2.2.names:=sb.names;have hpx:Px p x.2.2 (f p.names x.1.s):=by
    have:=Px.pre (v1.trans v2) x3;rw[v2.names,v1.names]at this;exact this
   refine⟨yB h3 nv2.nv _,hpx,by rw[<- v1.names,<- v2.names];exact t3,rfl,n3,a3,⟨by show (0:Int)<=((z.2.rows.length:Nat):Int);omega,k.1,?_,?_⟩,?_,?_,by show z.2.names=_;rw[hzn];exact kp.nm⟩
   .show (z.2.rows++[_])[((z.2.rows.length:Nat):Int).toNat]?=_;exact qB
   .show RT (z.2.rows++[_]) t k.1;rw[hzr];exact kp.rt.app
   .show Gr q.rows (z.2.rows++[_]) (refs t);rw[hzr];refine kp.gr.snoc (by show (11:Int)≠14;decide) λc hc=>?_;obtain rfl:c=k.1:=by
     have:AO { row0 with kind:=11,of:=k.1 }=[k.1]:=rfl;rw[this]at hc;exact List.mem_singleton.mp hc
    exact kp.ls.kid h5 kp.gr (Nat.le_refl _)
   .show Ls q.rows (z.2.rows++[_]) ((z.2.rows.length:Nat):Int);rw[hzr];exact xu kp.gr.le
  |false=>
   rw[show is_ k.2.2 4 [42]=false from hs]at h2;simp only[Bool.false_eq_true,↓reduceIte]at h2 ⊢;have hK2:K y.2.names k.2.2.names:=by rw[v2.names];exact hK1
   have hn:=hnm h2 hK2;have sb:=oJ k.2.2 ns all;have nv2:=xh nk.nv ns all;generalize dS k.2.2 ns all=z at *;refine Sim.bind hn (λhb=>?_) λx ⟨h3,n3,a3,x3,t3⟩=>?_
   .simp only[hb.is (by decide:(4:Int)≠5),Bool.or_self,Bool.false_eq_true,↓reduceIte];exact hb
   have hzr:z.2.rows=k.2.2.rows:=sb.rows;have hzn:z.2.names=k.2.2.names:=sb.names;have hpx:Px p x.2.2 (f p.names x.1.s):=by
    have:=Px.pre (v1.trans v2) x3;rw[v2.names,v1.names]at this;exact this
   have ht:T p.names x.1.s x.2.1:=by rw[<- v1.names,<- v2.names];exact t3
   rw[h3.sign (c:=91),h3.sign (c:=60)];have arr:∀(fx:Bool) (bd:Int×RS),RT bd.2.rows t k.1->bd.2.rows=k.2.2.rows->bd.2.names=q.names->∀(n:Int) (p3:PS),n=bd.1->Sy p3 bd.2->Nv bd.2->Pv x.2.2 p3->DP f T p q ((dh bd.2 { row0 with kind:=if fx then 9 else 10,of:=k.1,n:=bd.1 }).1,[],[],z.1,(dh bd.2 { row0 with kind:=if fx then 9 else 10,of:=k.1,n:=bd.1 }).2) ((⟨x.1.s,.array t fx n⟩:Decl),x.1,x.2.1,p3):=λfx bd hrt hbr hbn n p3 hnn h4 nvb v4=>by
    refine⟨yB h4 nvb _,hpx.post v4,ht,rfl,n3,a3,⟨by show (0:Int)<=((bd.2.rows.length:Nat):Int);omega,k.1,?_,?_⟩,?_,?_,hbn⟩
    .show (bd.2.rows++[_])[((bd.2.rows.length:Nat):Int).toNat]?=_;rw[qB,hnn]
    .exact hrt.app
    .show Gr q.rows (bd.2.rows++[_]) (refs t);rw[hbr];refine kp.gr.snoc ?_ λc hc=>?_
     .show (if fx then(9:Int)else 10)≠14;split<;>decide
     .obtain rfl:c=k.1:=by
       have:AO { row0 with kind:=if fx then 9 else 10,of:=k.1,n:=bd.1 }=[k.1]:=by cases fx<;>rfl
       rw[this]at hc;exact List.mem_singleton.mp hc
      exact kp.ls.kid h5 kp.gr (Nat.le_refl _)
    .show Ls q.rows (bd.2.rows++[_]) ((bd.2.rows.length:Nat):Int);rw[hbr];exact xu kp.gr.le
   cases h91:x.2.2.w.is [91]with
   |true=>
    have hi:is_ z.2 4 [91]=true:=by rw[h3.sign (c:=91)];exact h91
    simp only[Bool.true_or,↓reduceIte];have sb2:=mX z.2 true;have nvb:=(sK nv2.nv true).nv;refine Sim.bind (IA h3 hi) (λhb=>nU _ hb) λb ⟨b1,b2,h4,v4⟩=>?_;rw[b1];have:=arr true (bC z.2 true) (by rw[sb2.rows,hzr];exact kp.rt) (by rw[sb2.rows,hzr]) (by rw[sb2.names,hzn];exact kp.nm) b.2.1 b.2.2 b2 h4 nvb v4;exact⟨this.sy,this.px,this.ex,this.nm,this.ds,this.dat,this.rt,this.gr,this.ls,this.nms⟩
   |false=>
    have hi:is_ z.2 4 [91]=false:=by rw[h3.sign (c:=91)];exact h91
    cases h60:x.2.2.w.is [60]with
    |true=>
     simp only[Bool.false_or,Bool.false_eq_true,↓reduceIte];have sb2:=mX z.2 false;have nvb:=(sK nv2.nv false).nv;refine Sim.bind (IB h3 hi) (λhb=>nU _ hb) λb ⟨b1,b2,h4,v4⟩=>?_;rw[b1];have:=arr false (bC z.2 false) (by rw[sb2.rows,hzr];exact kp.rt) (by rw[sb2.rows,hzr]) (by rw[sb2.names,hzn];exact kp.nm) b.2.1 b.2.2 b2 h4 nvb v4;exact⟨this.sy,this.px,this.ex,this.nm,this.ds,this.dat,this.rt,this.gr,this.ls,this.nms⟩
    |false=>
     simp only[Bool.or_self,Bool.false_eq_true,↓reduceIte];exact⟨h3,hpx,ht,rfl,n3,a3,by show RT z.2.rows t k.1;rw[hzr];exact kp.rt,by show Gr q.rows z.2.rows (refs t);rw[hzr];exact kp.gr,by show Ls q.rows z.2.rows k.1;rw[hzr];exact kp.ls,by show z.2.names=_;rw[hzn];exact kp.nm⟩
end Go.M
namespace Go.M
variable {p:PS} {q:RS}
theorem mi:∀{l:List NmR} {x:NmR},nix s l=none->nix s (l++[x])=if x.s==s then some l.length else none
 |[],x,h=>by
  rw[List.nil_append,nix];rfl
 |y::l,x,h=>by
  rw[nix]at h;rw[List.cons_append,nix];cases hy:y.s==s with
  |true=>rw[hy,if_pos rfl]at h;cases h
  |false=>
   rw[hy]at h;simp only[Bool.false_eq_true,↓reduceIte,Option.map_eq_none_iff]at h;rw[mi h];refine fif ?_;split<;>simp
theorem oP:∀{l m:List NmR},nix s l=some k->nix s (l++m)=some k
 |[],m,h=>by cases h
 |y::l,m,h=>by
  rw[nix]at h;rw[List.cons_append,nix];cases hy:y.s==s with
  |true=>
   rw[hy]at h;simpa using h
  |false=>
   rw[hy]at h;simp only[Bool.false_eq_true,↓reduceIte,Option.map_eq_some_iff]at h ⊢;obtain⟨j,hj,rfl⟩:=h;exact⟨j,oP hj,rfl⟩
theorem Jh(h:k<l.length):cO (l++m) k=cO l k:=by
 unfold cO;rw[List.getD_eq_getElem?_getD,List.getD_eq_getElem?_getD,List.getElem?_append_left h]
theorem zW:cO (l++[x]) l.length=x:=by
 unfold cO;rw[List.getD_eq_getElem?_getD,List.getElem?_append_right (Nat.le_refl _),Nat.sub_self];rfl
theorem VQ(hn:nix x.s l=none)(hw:x.what≠0)(s:By):cOf (l++[x]) s=cOf l s:=by
 unfold cOf;cases h:nix s l with
 |some k=>rw[oP h];simp only[Jh (mg h)]
 |none=>
  rw[mi h];cases x.s==s with
  |true=>
   simp only[↓reduceIte,zW];rw[if_neg (by simpa using hw)]
  |false=>simp only[Bool.false_eq_true,↓reduceIte]
theorem acI(hn:nix x.s l=none)(hw:x.what≠1)(s:By):eOf rows (l++[x]) s=eOf rows l s:=by
 unfold eOf;cases h:nix s l with
 |some k=>rw[oP h];simp only[Jh (mg h)]
 |none=>
  rw[mi h];cases x.s==s with
  |true=>
   simp only[↓reduceIte,zW];rw[if_neg (by simp[hw])]
  |false=>simp only[Bool.false_eq_true,↓reduceIte]
theorem sQ(hf:∀x,(f x).s=x.s):∀(l:List NmR) (k:Nat),nix s (l.modify k f)=nix s l
 |[],k=>by simp
 |y::l,0=>by rw[List.modify_zero_cons,nix,nix,hf]
 |y::l,k+1=>by rw[List.modify_succ_cons,nix,nix,sQ hf l k]
theorem og(h:j<l.length):cO (l.modify k f) j=if k=j then f (cO l j)else cO l j:=by
 unfold cO;rw[List.getD_eq_getElem?_getD,List.getD_eq_getElem?_getD,List.getElem?_modify,List.getElem?_eq_getElem h];split<;>simp
theorem Vh(h:nix s l=some k)(g:nix t l=some k):s=t:=by
 have key:∀{s:By} {l:List NmR} {k:Nat},nix s l=some k->(cO l k).s=s:=by
  intro s l;induction l with
  |nil=>intro k h;cases h
  |cons y l ih=>
   intro k h;rw[nix]at h;cases hy:y.s==s with
   |true=>
    rw[hy]at h;obtain rfl:0=k:=by simpa using h
    have:y.s=s:=by simpa using hy
    exact this
   |false=>
    rw[hy]at h;simp only[Bool.false_eq_true,↓reduceIte,Option.map_eq_some_iff]at h;obtain⟨j,hj,rfl⟩:=h;exact ih hj
 rw[<- key h,key g]
theorem cOf_kn(h:nix s l=some k)(t:By):cOf (l.modify k λx=>{ x with what:=0,n:=n }) t=if t==s then some n else cOf l t:=by
 unfold cOf;rw[sQ (f:=λx=>{ x with what:=0,n:=n }) (λx=>rfl)];cases ht:t==s with
 |true=>
  obtain rfl:t=s:=by simpa using ht
  rw[h];simp only[og (mg h),↓reduceIte];rfl
 |false=>
  cases hg:nix t l with
  |none=>rfl
  |some j=>
   have hne:k≠j:=λe=>by
    subst e;have:=Vh h hg;rw[this]at ht;simp at ht
   simp only[og (mg hg),if_neg hne,Bool.false_eq_true,↓reduceIte]
theorem eOf_kn(h:nix s l=some k)(hw:(cO l k).what≠1)(t:By):eOf rows (l.modify k λx=>{ x with what:=0,n:=n }) t=eOf rows l t:=by
 unfold eOf;rw[sQ (f:=λx=>{ x with what:=0,n:=n }) (λx=>rfl)];cases hg:nix t l with
 |none=>rfl
 |some j=>
  simp only[og (mg hg)]
  by_cases e:k=j
  .subst e;rw[if_pos rfl];have:((cO l k).what==1)=false:=by simpa using hw
   rw[this];rfl
  .rw[if_neg e]
theorem MF(h:nix s l=some k)(hw:(cO l k).what≠0)(t:By):cOf (l.modify k λx=>{ x with what:=1,n:=n }) t=cOf l t:=by
 unfold cOf;rw[sQ (f:=λx=>{ x with what:=1,n:=n }) (λx=>rfl)];cases hg:nix t l with
 |none=>rfl
 |some j=>
  simp only[og (mg hg)]
  by_cases e:k=j
  .subst e;rw[if_pos rfl,if_neg smp,if_neg (by simpa using hw)]
  .rw[if_neg e]
theorem LZ(h:nix s l=some k)(t:By):eOf rows (l.modify k λx=>{ x with what:=1,n:=n }) t=if t==s then(if(rowAt rows n).kind==5 then some (rowAt rows n).nums else none)else eOf rows l t:=by
 unfold eOf;rw[sQ (f:=λx=>{ x with what:=1,n:=n }) (λx=>rfl)];cases ht:t==s with
 |true=>
  obtain rfl:t=s:=by simpa using ht
  rw[h];simp only[og (mg h),↓reduceIte];rfl
 |false=>
  cases hg:nix t l with
  |none=>rfl
  |some j=>
   have hne:k≠j:=λe=>by
    subst e;have:=Vh h hg;rw[this]at ht;simp at ht
   simp only[og (mg hg),if_neg hne,Bool.false_eq_true,↓reduceIte]
theorem Qu(hn:Nm ns l)(h:ns.contains s=false):nix s l=none:=by
 have:=zX s l;rw[hn,h]at this;cases hx:nix s l with
 |none=>rfl
 |some k=>rw[hx]at this;cases this
theorem nX(h:Sy p q)(hn:Nm p.names q.names):Sim (own p) (az q 2).2 λx=>x.1=p.w/\(az q 2).1=q.w/\Sy x.2 (az q 2).2/\Px p x.2 (p.names++[p.w.s])/\(az q 2).2.names=q.names++[⟨p.w.s,2,-1,(p.w.at_:Nat)⟩]/\Nm x.2.names (az q 2).2.names/\(az q 2).2.rows=q.rows/\nix p.w.s q.names=none:=by
 unfold own name az;rw[Es h];cases hk:p.w.kind==1 with
 |false=>
  simp only[Bool.false_eq_true,↓reduceIte,Res.oO];have hb:=DN h;have he:((iQ q).e != 0)=true:=by rw[hb.2.1];decide
  simp only[he,↓reduceIte];exact Or.inl hb
 |true=>
  simp only[↓reduceIte,Res.aS];unfold once;have hs:q.w.s=p.w.s:=by rw[h.w]
  have ha:q.w.at_=(p.w.at_:Nat):=by rw[h.w]
  have he:((aB q).e != 0)=false:=by show (q.e != 0)=false;rw[h.e];rfl
  simp only[he,Bool.false_eq_true,↓reduceIte];have hx:(nix q.w.s (aB q).names).isSome=p.names.contains p.w.s:=by
   rw[<- hn,<- hs];exact zX q.w.s q.names
  cases hc:p.names.contains p.w.s with
  |true=>
   rw[hc]at hx;obtain⟨k,hk2⟩:=Option.isSome_iff_exists.mp hx;rw[hk2];simp only[↓reduceIte,Res.oO];rw[ha];exact qF (q:=aB q) (e:=6) h.e dcd
  |false=>
   rw[hc]at hx;have hk2:nix q.w.s (aB q).names=none:=by
    cases hz:nix q.w.s (aB q).names with
    |none=>rfl
    |some k=>rw[hz]at hx;cases hx
   rw[hk2];simp only[Bool.false_eq_true,↓reduceIte,Res.aS];have hk3:nix p.w.s q.names=none:=by rw[<- hs];exact hk2
   have h':Sy { p with names:=p.names++[p.w.s] } q:=⟨h.e,h.txt,h.w,h.wok,h.consts,h.enums,h.n0,h.n1,h.aj⟩;refine Sim.bind (dC h') (λhb=>?_) λp' ⟨h1,v1⟩=>?_
   .exact hb
   .refine⟨rfl,smp,⟨h1.e,h1.txt,h1.w,h1.wok,λs=>?_,λs=>?_,h1.n0,h1.n1,h1.aj⟩,⟨v1.txt,v1.names,v1.consts,v1.enums,v1.aj,v1.n0,v1.n1,v1.n2⟩,?_,?_,rfl,hk3⟩
    .show cOf (q.names++[⟨q.w.s,2,-1,q.w.at_⟩]) s=_;rw[VQ hk2 (by show (2:Int)≠0;decide)];exact h1.consts s
    .show eOf q.rows (q.names++[⟨q.w.s,2,-1,q.w.at_⟩]) s=_;rw[acI hk2 (by show (2:Int)≠1;decide)];exact h1.enums s
    .show q.names++[⟨q.w.s,2,-1,q.w.at_⟩]=_;rw[hs,ha]
    .show (q.names++[(⟨q.w.s,2,-1,q.w.at_⟩:NmR)]).map (λx=>x.s)=p'.names;rw[v1.names,List.map_append,hn,hs];rfl
end Go.M
namespace Go.M
variable {p:PS} {q:RS}
def RTs(rows:List eU):List Ty->List Int->Prop
 |[],l=>l=[]
 |t::ts,l=>∃r rs,l=r::rs/\RT rows t r/\RTs rows ts rs
theorem RTs.app:∀{ts:List Ty} {l:List Int},RTs a ts l->RTs (a++b) ts l
 |[],l,h=>h
 |t::ts,l,⟨r,rs,h1,h2,h3⟩=>⟨r,rs,h1,h2.app,RTs.app h3⟩
theorem RTs.gr(h:RTs a ts x)(k:Gr a b l):RTs b ts x:=by
 obtain⟨rs,rfl,_⟩:=k;exact h.app
theorem RTs.snoc(hr:RT a t r):∀{ts:List Ty} {l:List Int},RTs a ts l->RTs a (ts++[t]) (l++[r])
 |[],l,h=>by
  obtain rfl:l=[]:=h;exact⟨r,[],rfl,hr,rfl⟩
 |t::ts,l,⟨r',rs,h1,h2,h3⟩=>⟨r',rs++[r],by rw[h1];rfl,h2,RTs.snoc hr h3⟩
def DZ:Dk->List (By×Int)
 |.alias t=>refs t
 |.struct ds=>ds.flatMap λd=>refs d.ty
 |.union _ _ arms els=>(arms.flatMap λa=>refs a.decl.ty)++(match els with|some d=>refs d.ty|none=>[])
 |.prog _ vs=>vs.flatMap λv=>v.procs.flatMap λx=>refs x.res++refs x.arg
 |_=>[]
def DK(rows:List eU)(r:Int):Dk->Prop
 |.alias t=>RT rows t r
 |.enum _ nums=>0<=r/\rows[r.toNat]?=some { row0 with kind:=5,nums:=nums }
 |.struct ds=>0<=r/\∃parts,rows[r.toNat]?=some { row0 with kind:=12,parts:=parts }/\RTs rows (ds.map λd=>d.ty) parts
 |.union _ _ arms els=>0<=r/\∃f parts e,rows[r.toNat]?=some { row0 with kind:=13,of:=f,nums:=arms.flatMap (λa=>a.nums),parts:=parts,els:=e }/\RTs rows (arms.flatMap λa=>List.replicate a.nums.length a.decl.ty) parts/\(match els with|none=>e = -2|some d=>RT rows d.ty e)/\∀a∈arms,a.nums≠[]
 |_=>True
theorem DK.app:∀{k:Dk},DK a r k->DK (a++b) r k
 |.const _,h=>trivial
 |.alias t,h=>RT.app h
 |.enum _ _,h=>⟨h.1,jv h.2⟩
 |.struct ds,⟨h,ps,h1,h2⟩=>⟨h,ps,jv h1,h2.app⟩
 |.union _ _ arms none,⟨h,f,ps,e,h1,h2,h3,h4⟩=>⟨h,f,ps,e,jv h1,h2.app,h3,h4⟩
 |.union _ _ arms (some d),⟨h,f,ps,e,h1,h2,h3,h4⟩=>⟨h,f,ps,e,jv h1,h2.app,RT.app h3,h4⟩
 |.prog _ _,h=>trivial
def qj:Dk->Bool
 |.const _=>false
 |.prog _ _=>false
 |_=>true
def Ndp:List NmR->Prop:=λl=>(l.map λx=>x.s).Nodup
theorem uG(h:Ndp l)(hn:nix x.s l=none):Ndp (l++[x]):=by
 unfold Ndp at *;rw[List.map_append,List.nodup_append];refine⟨h,smp,λa ha b hb=>?_⟩;have hb:b=x.s:=by simpa using hb
 have hs:=zX x.s l;rw[hn]at hs;have hc:x.s ∉ l.map λy=>y.s:=by
  intro hm;have:(l.map λy=>y.s).contains x.s=true:=by simpa using hm
  have hs:false=(l.map λy=>y.s).contains x.s:=hs;rw[this]at hs;cases hs
 rintro rfl;rw[hb]at ha;exact hc ha
theorem abR(h:Ndp l)(e:m.map (λx=>x.s)=l.map λx=>x.s):Ndp m:=by unfold Ndp at *;rw[e];exact h
structure DfP (p:PS) (q q':RS) (x:Def×PS):Prop where
 sy:Sy x.2 q'
 nm:Nm x.2.names q'.names
 gr:Gr q.rows q'.rows (DZ x.1.k)
 hd:∃h tail,q'.names=q.names++h::tail/\h.s=x.1.name/\h.at_=((x.1.at_:Nat):Int)/\(∀y∈tail,y.what≠1)/\(if qj x.1.k then h.what=1/\DK q'.rows h.n x.1.k/\Ls q.rows q'.rows h.n else h.what≠1)
 n2:(q.aj.length:Nat)=p.n2->q'.aj.length=x.2.n2
 nd:Ndp q.names->Ndp q'.names
structure Sn (p:PS) (q:RS):Prop where
 sy:Sy p q
 nm:Nm p.names q.names
 nv:Nv q
theorem Ip(h:Sy p q)(o:By):Sy p { q with out:=o }:=⟨h.e,h.txt,h.w,h.wok,h.consts,h.enums,h.n0,h.n1,h.aj⟩
theorem modify_last(f:α->α)(x:α):∀l:List α,(l++[x]).modify l.length f=l++[f x]
 |[]=>rfl
 |a::l=>by
  rw[List.cons_append,List.length_cons,List.modify_succ_cons,modify_last f x l];rfl
theorem PL(h:Sy p q)(hn:nix s l=none)(hq:q.names=l++[⟨s,2,-1,a⟩])(v:Int):
  Sy { p with n1:=p.n1+1,consts:=bK p.consts s v } (bG q s v)/\(bG q s v).names=l++[⟨s,0,v,a⟩]/\(bG q s v).rows=q.rows/\(bG q s v).aj=q.aj:=by
 have hk:nix s q.names=some l.length:=by
  rw[hq,mi hn];simp
 have hat:cO q.names l.length=⟨s,2,-1,a⟩:=by rw[hq];exact zW
 have hkn:kn_ q s v={ q with names:=q.names.modify l.length λx=>{ x with what:=0,n:=v } }:=by
  unfold kn_;rw[hk]
 have ja:q.names.modify l.length (λx=>{ x with what:=0,n:=v })=l++[⟨s,0,v,a⟩]:=by
  rw[hq];exact modify_last _ _ _
 unfold bG;rw[hkn];refine⟨⟨h.e,h.txt,h.w,h.wok,λt=>?_,λt=>?_,h.n0,?_,h.aj⟩,ja,rfl,rfl⟩
 .show cOf (q.names.modify l.length λx=>{ x with what:=0,n:=v }) t=(bK p.consts s v).lookup t;rw[cOf_kn hk,bM,h.consts]
 .show eOf q.rows (q.names.modify l.length λx=>{ x with what:=0,n:=v }) t=p.enums.lookup t;rw[eOf_kn hk (by rw[hat];show (2:Int)≠1;decide),h.enums]
 .show q.consts+1=((p.n1+1:Nat):Int);rw[h.n1];omega
theorem Ny(h:Sn p q):Sim (constant p) (fZ q) λx=>DfP p q (fZ q) x:=by
 unfold constant fZ;have hs:=h.sy;have hf:=zM hs p.n1 40;rw[<- hs.n1]at hf;simp only
 -- what is left once a step has failed
 have r5:∀{e a:Int} (d:WR) (v:Int×Int×RS) (q5:RS),Nb e a q5->Nb e a (if q5.e != 0 then q5 else { bG q5 d.s v.1 with out:=(bG q5 d.s v.1).out++[99,111,110,115,116,32]++d.s++[32,61,32]++nI_ v.1++[59,10] }):=λd v q5 hb=>by
  split
  .exact hb
  .exact Qy d.s v.1 hb
 have r4:∀{e a:Int} (d:WR) (v:Int×Int×RS),Nb e a v.2.2->Nb e a (if(af v.2.2 4 [59]).e != 0 then af v.2.2 4 [59]else { bG (af v.2.2 4 [59]) d.s v.1 with out:=(bG (af v.2.2 4 [59]) d.s v.1).out++[99,111,110,115,116,32]++d.s++[32,61,32]++nI_ v.1++[59,10] }):=λd v hb=>r5 d v _ (Or.inl ((bY 4 [59]) hb));refine Sim.bind hf (λhb=>?_) λ_ hq1=>?_
 .have hb:=(bY 2 [99,111,110,115,116]) hb;have hb:=hb.fs (ig _ 2);generalize az (af (aG q q.consts 40) 2 [99,111,110,115,116]) 2=d at *;exact r4 d.1 _ (Or.inl (hb.fs ((ay _ _ _).trans (fB _ _ _))))
 have hq1:aG q q.consts 40=q:=hq1;rw[hq1];clear hf hq1;refine Sim.bind (lZ hs) (λhb=>?_) λp1 ⟨h1,v1⟩=>?_
 .have hb:=qm 2 hb;generalize az (af q 2 [99,111,110,115,116]) 2=d at *;exact r4 d.1 _ (Or.inl (hb.fs ((ay _ _ _).trans (fB _ _ _))))
 have n1:Nm p1.names (af q 2 [99,111,110,115,116]).names:=by rw[v1.names,(aT ..).names];exact h.nm
 have sb1:=aT q 2 [99,111,110,115,116];generalize af q 2 [99,111,110,115,116]=q1 at *;have ct:=iJ q1 2;refine Sim.bind (nX h1 n1) (λhb=>?_) λw ⟨w1,d1,h2,x2,dn,n2,dr,hnone⟩=>?_
 .generalize az q1 2=d at *;exact r4 d.1 _ (Or.inl (((bY 4 [61]) hb).fs (fB _ _ _)))
 generalize az q1 2=d at *;refine Sim.bind (bT h2) (λhb=>r4 d.1 _ (Or.inl (vX _ _ hb))) λp3 ⟨h3,v3⟩=>?_;have sb3:=aT d.2 4 [61];have ct3:=df d.2 4 [61];generalize af d.2 4 [61]=q3 at *;have sb4:=lI q3 (-2147483648) 4294967295;refine Sim.bind (Bh h3 (-2147483648) 4294967295) (λhb=>r4 d.1 _ hb) λy ⟨_,_,hy,h4,v4⟩=>?_;generalize ak q3 (-2147483648) 4294967295=v at *;have sb5:=aT v.2.2 4 [59];refine Sim.bind (bT h4) (λhb=>r5 d.1 v _ hb) λp5 ⟨h5,v5⟩=>?_;generalize af v.2.2 4 [59]=q5 at *;have he:(q5.e != 0)=false:=by rw[h5.e];rfl
 simp only[he,Bool.false_eq_true,↓reduceIte];have hdn:d.1.s=p1.w.s:=by rw[d1,h1.w]
 have ja:q5.names=q.names++[⟨p1.w.s,2,-1,(p1.w.at_:Nat)⟩]:=by rw[sb5.names,sb4.names,sb3.names,dn,sb1.names]
 have hrows:q5.rows=q.rows:=by rw[sb5.rows,sb4.rows,sb3.rows,dr,sb1.rows]
 have EZ:q5.aj=q.aj:=by rw[sb5.aj,sb4.aj,sb3.aj,ct.aj,sb1.aj]
 have hv1:v.1=y.1:=by rw[hy]
 obtain⟨k1,k2,k3,k4⟩:=PL h5 (l:=q.names) (by rw[<- sb1.names];exact hnone) ja v.1;rw[hdn];have hw:w.1=p1.w:=w1;refine⟨?_,?_,?_,⟨⟨p1.w.s,0,v.1,(p1.w.at_:Nat)⟩,[],?_,by rw[hw],by rw[hw],(λy hy=>by cases hy),?_⟩,λhn2=>?_,λhnd=>?_⟩
 .have:Sy { p5 with n1:=p5.n1+1,consts:=bK p5.consts w.1.s y.1 } (bG q5 p1.w.s v.1):=by rw[hw,<- hv1];exact k1
  exact Ip this _
 .show (bG q5 p1.w.s v.1).names.map (λx=>x.s)=p5.names;rw[k2,List.map_append,v5.names,v4.names,v3.names,x2.names,v1.names];have:q.names.map (λx=>x.s)=p.names:=h.nm;rw[this];rfl
 .show Gr q.rows (bG q5 p1.w.s v.1).rows [];rw[k3,hrows];exact Gr.refl _
 .exact k2
 .show ¬ ((0:Int)=1);decide
 .show (bG q5 p1.w.s v.1).aj.length=p5.n2;rw[k4,EZ,hn2,v5.n2,v4.n2,v3.n2,x2.n2,v1.n2]
 .show Ndp (bG q5 p1.w.s v.1).names;rw[k2];exact uG hnd (by rw[<- sb1.names];exact hnone)
end Go.M

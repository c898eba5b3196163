/- Texts of mine, one behind the other; nothing is assumed. -/
import Derived.Test.YtbfcgbhhgnnglaaGreatDoorB28
set_option autoImplicit true
set_option relaxedAutoImplicit true
set_option linter.unusedSimpArgs false
set_option linter.unusedVariables false
namespace Go.M
variable {p:PS} {q:RS}
def B5(rows:List eU):Prop:=∃rs,rows=Lh++rs
theorem B5.gr(h:B5 a)(k:Gr a b l):B5 b:=by
 obtain⟨rs,rfl⟩:=h;obtain⟨ss,rfl,_⟩:=k;exact⟨rs++ss,by rw[List.append_assoc]⟩
theorem pY(h:rows[r.toNat]?=some x):rowAt rows r=x:=by
 unfold rowAt;rw[List.getD_eq_getElem?_getD,h];rfl
theorem RT.not5(h5:B5 rows):∀{t:Ty} {r:Int},RT rows t r->(rowAt rows r).kind≠5
 |.basic s,r,h=>by
  obtain⟨rs,rfl⟩:=h5;rcases h with⟨_,rfl⟩|⟨_,rfl⟩|⟨_,rfl⟩|⟨_,rfl⟩|⟨_,rfl⟩
  .show (0:Int)≠5;decide
  .show (1:Int)≠5;decide
  .show (2:Int)≠5;decide
  .show (3:Int)≠5;decide
  .show (4:Int)≠5;decide
 |.named s _,r,h=>by rw[pY h.2];show (14:Int)≠5;decide
 |.bytes t f _,r,h=>by rw[pY h.2];show (if t then(8:Int)else if f then 6 else 7)≠5;cases t<;>cases f<;>decide
 |.array t f n,r,⟨h,o,h1,h2⟩=>by rw[pY h1];show (if f then(9:Int)else 10)≠5;cases f<;>decide
 |.opt t,r,⟨h,o,h1,h2⟩=>by rw[pY h1];show (11:Int)≠5;decide
 |.void,r,h=>by
  obtain rfl:r = -1:=h;obtain⟨rs,rfl⟩:=h5;show (0:Int)≠5;decide
theorem aaq(hn:nix x.s l=none)(hk:(rowAt rows x.n).kind≠5)(s:By):eOf rows (l++[x]) s=eOf rows l s:=by
 unfold eOf;cases h:nix s l with
 |some k=>rw[oP h];simp only[Jh (mg h)]
 |none=>
  rw[mi h];cases x.s==s with
  |true=>
   simp only[↓reduceIte,zW];rw[if_neg (by simp[hk])]
  |false=>simp only[Bool.false_eq_true,↓reduceIte]
theorem WO(h:Sn p q)(h5:B5 q.rows):Sim (alias p) (iK q) λx=>DfP p q (iK q) x:=by
 unfold alias iK;have hs:=h.sy;simp only;have r2:∀{e a:Int} (d:Int×By×By×WR×RS),Nb e a d.2.2.2.2->Nb e a (if d.2.2.2.2.e != 0 then d.2.2.2.2 else { af { d.2.2.2.2 with names:=d.2.2.2.2.names++[⟨d.2.2.2.1.s,1,d.1,d.2.2.2.1.at_⟩] } 4 [59]with out:=(af { d.2.2.2.2 with names:=d.2.2.2.2.names++[⟨d.2.2.2.1.s,1,d.1,d.2.2.2.1.at_⟩] } 4 [59]).out++[116,121,112,101,100,101,102,32]++d.2.1++d.2.2.2.1.s++d.2.2.1++[59,10] }):=λd hb=>by
  split
  .exact hb
  .have hb2:Nb _ _ { d.2.2.2.2 with names:=d.2.2.2.2.names++[⟨d.2.2.2.1.s,1,d.1,d.2.2.2.1.at_⟩] }:=hb;have:=(bY 4 [59]) hb2;exact Or.inl ⟨this.1,this.2.1,this.2.2⟩
 refine Sim.bind (lZ hs) (λhb=>r2 _ (Or.inl (VC [] true hb))) λp1 ⟨h1,v1⟩=>?_;have sb1:=aT q 2 [116,121,112,101,100,101,102];have nv1:=aU h.nv 2 [116,121,112,101,100,101,102];generalize af q 2 [116,121,112,101,100,101,102]=q1 at *;have hn1:Nm p1.names q1.names:=by rw[v1.names,sb1.names];exact h.nm
 have ctd:=Ec q1 [] true;refine Sim.bind (PV (K:=Nm) (f:=λns s=>ns++[s]) (T:=λns s _=>ns.contains s=false) Zq h1 nv1.nv hn1) (λhb=>r2 _ hb) λx dp=>?_;generalize dD q1 [] true=d at *;have he:(d.2.2.2.2.e != 0)=false:=by rw[dp.sy.e];rfl
 simp only[he,Bool.false_eq_true,↓reduceIte];have hnone:nix x.2.1.s q1.names=none:=Qu hn1 dp.ex;have hb5:B5 d.2.2.2.2.rows:=by
  have:=dp.gr;rw[sb1.rows]at this;exact h5.gr this
 have hsy:Sy x.2.2.2 { d.2.2.2.2 with names:=d.2.2.2.2.names++[⟨d.2.2.2.1.s,1,d.1,d.2.2.2.1.at_⟩] }:=by
  have e1:nix d.2.2.2.1.s d.2.2.2.2.names=none:=by rw[dp.ds,dp.nms];exact hnone
  refine⟨dp.sy.e,dp.sy.txt,dp.sy.w,dp.sy.wok,λt=>?_,λt=>?_,dp.sy.n0,dp.sy.n1,dp.sy.aj⟩
  .show cOf (d.2.2.2.2.names++[⟨d.2.2.2.1.s,1,d.1,d.2.2.2.1.at_⟩]) t=_;rw[VQ e1 (by show (1:Int)≠0;decide)];exact dp.sy.consts t
  .show eOf d.2.2.2.2.rows (d.2.2.2.2.names++[⟨d.2.2.2.1.s,1,d.1,d.2.2.2.1.at_⟩]) t=_;rw[aaq e1 (dp.rt.not5 hb5)];exact dp.sy.enums t
 have sb3:=aT { d.2.2.2.2 with names:=d.2.2.2.2.names++[⟨d.2.2.2.1.s,1,d.1,d.2.2.2.1.at_⟩] } 4 [59];refine Sim.bind (bT hsy) (λhb=>hb) λp3 ⟨h3,v3⟩=>?_;have ja:(af { d.2.2.2.2 with names:=d.2.2.2.2.names++[⟨d.2.2.2.1.s,1,d.1,d.2.2.2.1.at_⟩] } 4 [59]).names=q.names++[⟨x.2.1.s,1,d.1,(x.2.1.at_:Nat)⟩]:=by
  rw[sb3.names,<- sb1.names,<- dp.nms,<- dp.ds,<- dp.dat]
 have hrows:(af { d.2.2.2.2 with names:=d.2.2.2.2.names++[⟨d.2.2.2.1.s,1,d.1,d.2.2.2.1.at_⟩] } 4 [59]).rows=d.2.2.2.2.rows:=sb3.rows;have EZ:(af { d.2.2.2.2 with names:=d.2.2.2.2.names++[⟨d.2.2.2.1.s,1,d.1,d.2.2.2.1.at_⟩] } 4 [59]).aj=q.aj:=by rw[sb3.aj,<- sb1.aj];exact ctd.aj
 generalize af { d.2.2.2.2 with names:=d.2.2.2.2.names++[⟨d.2.2.2.1.s,1,d.1,d.2.2.2.1.at_⟩] } 4 [59]=q3 at *;refine⟨Ip h3 _,?_,?_,⟨⟨x.2.1.s,1,d.1,(x.2.1.at_:Nat)⟩,[],ja,rfl,rfl,(λy hy=>by cases hy),?_⟩,λhn2=>?_,λhnd=>?_⟩
 .show q3.names.map (λx=>x.s)=p3.names;rw[ja,List.map_append,v3.names,dp.px.names,v1.names];have:q.names.map (λx=>x.s)=p.names:=h.nm;rw[this];rfl
 .show Gr q.rows q3.rows (refs x.1.ty);rw[hrows,<- sb1.rows];exact dp.gr
 .show (1:Int)=1/\RT q3.rows x.1.ty d.1/\Ls q.rows q3.rows d.1;rw[hrows];exact⟨rfl,dp.rt,by rw[<- sb1.rows];exact dp.ls⟩
 .show q3.aj.length=p3.n2;rw[EZ,hn2,v3.n2,dp.px.n2,v1.n2]
 .show Ndp q3.names;rw[ja];exact uG hnd (by rw[<- sb1.names];exact hnone)
theorem ER(hb:Nb e a v'):
  Nb e a (Ru (if v'.e != 0 then .inl v' else if is_ (bG v' s n) 4 [44]then cu k (aB (bG v' s n)) (out++(s++[32,61,32]++nI_ n)++[44,32]) (nums++[n])else .inr (bG v' s n,out++(s++[32,61,32]++nI_ n),nums++[n]))):=by
 split
 .exact hb
 .have h2:=Qy s n hb;rw[h2.is dcd,if_neg smp];exact h2
theorem CE:∀(k:Nat) {p:PS} {q:RS} (ns:List By) (is:List Int) (out:By),Sy p q->Nm p.names q.names->k+is.length=12 ->
  Sim (jY k p ns is) (Ru (cu (k+2) q out is)) λx=>∃out' q' tail,cu (k+2) q out is=.inr (q',out',x.2.1)/\Sy x.2.2 q'/\Nm x.2.2.names q'.names/\q'.rows=q.rows/\q'.aj=q.aj/\x.2.2.n2=p.n2/\q'.names=q.names++tail/\(∀y∈tail,y.what=0)/\(Ndp q.names->Ndp q'.names)
 |k,p,q,ns,is,out,h,hn,hk=>by
  have fin:∀{e a:Int},Nb e a (aG (aG q (is.length:Nat) 12) (aG q (is.length:Nat) 12).consts 40)->Nb e a (Ru (cu (k+2) q out is)):=λhb=>by
   rw[cu,if_pos (by rw[h.e];rfl)];simp only;have h1:=qm 2 hb;generalize az (aG (aG q (is.length:Nat) 12) (aG q (is.length:Nat) 12).consts 40) 2=d at *;have h2:=h1.fs ((ay d.2 4 [61]).trans (fB _ (-2147483648) 2147483647));generalize ak (af d.2 4 [61]) (-2147483648) 2147483647=v at *;have hr:(if v.2.2.e==0&&is.contains v.1 then aK v.2.2 6 v.2.1 else v.2.2)=v.2.2:=by
    have e2:(v.2.2.e==0)=false:=by rw[h2.2.1];simpa using h2.1
    rw[e2];rfl
   rw[hr];exact ER (Or.inl h2)
  cases k with
  |zero=>
   have hl:is.length=12:=omg;have hf:=qX h (is.length:Nat) 12;rw[if_pos omg]at hf;have hw:q.w.at_=(p.w.at_:Nat):=by rw[h.w]
   rw[hw]at hf;refine fin ?_;rw[hf];exact Or.inl ((mJ h.e dcd).fs (mG _ _ _))
  |succ k=>
   rw[jY];have hf0:=qX h (is.length:Nat) 12;rw[if_neg omg]at hf0;rw[hf0]at fin;have hf:=zM h p.n1 40;rw[<- h.n1]at hf;refine Sim.bind hf (λhb=>fin hb) λ_ hq1=>?_;have hq1:aG q q.consts 40=q:=hq1;rw[show k+1+2=(k+2)+1 from rfl,cu,if_pos (by rw[h.e];rfl)];simp only[hf0,hq1];clear fin hf hf0 hq1;have r3:∀{e a:Int} (d:WR×RS),Nb e a (af d.2 4 [61])->Nb e a (Ru (if(if(ak (af d.2 4 [61]) (-2147483648) 2147483647).2.2.e==0&&is.contains (ak (af d.2 4 [61]) (-2147483648) 2147483647).1 then aK (ak (af d.2 4 [61]) (-2147483648) 2147483647).2.2 6 (ak (af d.2 4 [61]) (-2147483648) 2147483647).2.1 else(ak (af d.2 4 [61]) (-2147483648) 2147483647).2.2).e != 0 then .inl (if(ak (af d.2 4 [61]) (-2147483648) 2147483647).2.2.e==0&&is.contains (ak (af d.2 4 [61]) (-2147483648) 2147483647).1 then aK (ak (af d.2 4 [61]) (-2147483648) 2147483647).2.2 6 (ak (af d.2 4 [61]) (-2147483648) 2147483647).2.1 else(ak (af d.2 4 [61]) (-2147483648) 2147483647).2.2)else if is_ (bG (if(ak (af d.2 4 [61]) (-2147483648) 2147483647).2.2.e==0&&is.contains (ak (af d.2 4 [61]) (-2147483648) 2147483647).1 then aK (ak (af d.2 4 [61]) (-2147483648) 2147483647).2.2 6 (ak (af d.2 4 [61]) (-2147483648) 2147483647).2.1 else(ak (af d.2 4 [61]) (-2147483648) 2147483647).2.2) d.1.s (ak (af d.2 4 [61]) (-2147483648) 2147483647).1) 4 [44]then cu (k+2) (aB (bG (if(ak (af d.2 4 [61]) (-2147483648) 2147483647).2.2.e==0&&is.contains (ak (af d.2 4 [61]) (-2147483648) 2147483647).1 then aK (ak (af d.2 4 [61]) (-2147483648) 2147483647).2.2 6 (ak (af d.2 4 [61]) (-2147483648) 2147483647).2.1 else(ak (af d.2 4 [61]) (-2147483648) 2147483647).2.2) d.1.s (ak (af d.2 4 [61]) (-2147483648) 2147483647).1)) (out++(d.1.s++[32,61,32]++nI_ (ak (af d.2 4 [61]) (-2147483648) 2147483647).1)++[44,32]) (is++[(ak (af d.2 4 [61]) (-2147483648) 2147483647).1])else .inr (bG (if(ak (af d.2 4 [61]) (-2147483648) 2147483647).2.2.e==0&&is.contains (ak (af d.2 4 [61]) (-2147483648) 2147483647).1 then aK (ak (af d.2 4 [61]) (-2147483648) 2147483647).2.2 6 (ak (af d.2 4 [61]) (-2147483648) 2147483647).2.1 else(ak (af d.2 4 [61]) (-2147483648) 2147483647).2.2) d.1.s (ak (af d.2 4 [61]) (-2147483648) 2147483647).1,out++(d.1.s++[32,61,32]++nI_ (ak (af d.2 4 [61]) (-2147483648) 2147483647).1),is++[(ak (af d.2 4 [61]) (-2147483648) 2147483647).1]))):=λd hb=>by
    have h2:=vX (-2147483648) 2147483647 hb;generalize ak (af d.2 4 [61]) (-2147483648) 2147483647=v at *;have hr:(if v.2.2.e==0&&is.contains v.1 then aK v.2.2 6 v.2.1 else v.2.2)=v.2.2:=by
     have e2:(v.2.2.e==0)=false:=by rw[h2.2.1];simpa using h2.1
     rw[e2];rfl
    rw[hr];exact ER (Or.inl h2)
   refine Sim.bind (nX h hn) (λhb=>r3 _ (Or.inl ((bY 4 [61]) hb))) λw ⟨w1,d1,h2,x2,dn,n2,dr,hnone⟩=>?_;have ctd:=iJ q 2;generalize az q 2=d at *;refine Sim.bind (bT h2) (λhb=>r3 d hb) λp3 ⟨h3,v3⟩=>?_;have sb3:=aT d.2 4 [61];clear r3;generalize af d.2 4 [61]=q3 at *;have sb4:=lI q3 (-2147483648) 2147483647;refine Sim.bind (Iw h3 (-2147483648) 2147483647 is) (λhb=>ER hb) λy ⟨_,_,hy,hy1,hy2,h4,v4⟩=>?_;have hv:(if(ak q3 (-2147483648) 2147483647).2.2.e==0&&is.contains (ak q3 (-2147483648) 2147483647).1 then aK (ak q3 (-2147483648) 2147483647).2.2 6 (ak q3 (-2147483648) 2147483647).2.1 else(ak q3 (-2147483648) 2147483647).2.2)=aB q3:=by
    rw[hy];simp only;rw[hy2,Bool.and_false,if_neg smp]
   rw[hv];have hv1:(ak q3 (-2147483648) 2147483647).1=y.1:=by rw[hy]
   rw[hv1];have he:((aB q3).e != 0)=false:=by rw[h4.e];rfl
   simp only[he,Bool.false_eq_true,↓reduceIte];have hdn:d.1.s=p.w.s:=by rw[d1,h.w]
   rw[hdn];have ja:(aB q3).names=q.names++[⟨p.w.s,2,-1,(p.w.at_:Nat)⟩]:=by show q3.names=_;rw[sb3.names,dn]
   obtain⟨k1,k2,k3,k4⟩:=PL h4 hnone ja y.1;have hrows:(bG (aB q3) p.w.s y.1).rows=q.rows:=by rw[k3];show q3.rows=_;rw[sb3.rows,dr]
   have EZ:(bG (aB q3) p.w.s y.1).aj=q.aj:=by rw[k4];show q3.aj=_;rw[sb3.aj,ctd.aj]
   have hw:w.1.s=p.w.s:=by rw[w1]
   have k1:Sy { y.2.2 with n1:=y.2.2.n1+1,consts:=bK y.2.2.consts w.1.s y.1 } (bG (aB q3) p.w.s y.1):=by rw[hw];exact k1
   generalize bG (aB q3) p.w.s y.1=q5 at *;have hnm5:Nm y.2.2.names q5.names:=by
    show q5.names.map (λx=>x.s)=_;rw[k2,List.map_append,v4.names,v3.names,x2.names];have:q.names.map (λx=>x.s)=p.names:=hn;rw[this];rfl
   refine Sim.bind (KY k1) (λhb=>?_) λx ⟨x1,h6,v6⟩=>?_
   .cases hi:is_ q5 4 [44]with
    |true=>
     rw[hi]at hb;simp only[↓reduceIte]at hb ⊢;exact uH _ _ _ hb
    |false=>
     rw[hi]at hb;simp only[Bool.false_eq_true,↓reduceIte]at hb ⊢;exact hb
   .rw[x1];cases hi:is_ q5 4 [44]with
    |true=>
     rw[show is_ q5 4 [44]=true from hi]at h6;simp only[↓reduceIte]at h6 ⊢;have ih:=CE k (ns++[w.1.s]) (is++[y.1]) (out++(p.w.s++[32,61,32]++nI_ y.1)++[44,32]) h6 (by rw[v6.names];exact hnm5) lng;refine ih.mono λz ⟨out',q',tail,z1,z2,z3,z4,z5,z6,z7,z8,z9⟩=>?_;refine⟨out',q',⟨p.w.s,0,y.1,(p.w.at_:Nat)⟩::tail,z1,z2,z3,z4.trans hrows,z5.trans EZ,?_,?_,?_,λhnd=>z9 (by show Ndp q5.names;rw[k2];exact uG hnd hnone)⟩
     .rw[z6,v6.n2,v4.n2,v3.n2,x2.n2]
     .rw[z7];show q5.names++tail=_;rw[k2,List.append_assoc];rfl
     .intro u hu;rcases List.mem_cons.mp hu with rfl|hu
      .rfl
      .exact z8 u hu
    |false=>
     rw[show is_ q5 4 [44]=false from hi]at h6;simp only[Bool.false_eq_true,↓reduceIte]at h6 ⊢;refine⟨_,q5,[⟨p.w.s,0,y.1,(p.w.at_:Nat)⟩],rfl,h6,?_,hrows,EZ,?_,k2,λu hu=>?_,λhnd=>by rw[k2];exact uG hnd hnone⟩
     .rw[v6.names];exact hnm5
     .rw[v6.n2,v4.n2,v3.n2,x2.n2]
     .rw[List.mem_singleton.mp hu]
end Go.M
namespace Go.M
variable {p:PS} {q:RS}
theorem N7(hn:nix s l=none)(hx:x.s=s):nix s (l++x::t)=some l.length:=by
 have h1:nix s (l++[x])=some l.length:=by
  rw[mi hn,hx];simp
 have:=oP (m:=t) h1
 rwa [List.append_assoc]at this
theorem Qs:cO (l++x::t) l.length=x:=by
 unfold cO;rw[List.getD_eq_getElem?_getD,List.getElem?_append_right (Nat.le_refl _),Nat.sub_self];rfl
theorem uI(f:α->α)(x:α)(t:List α):∀l:List α,(l++x::t).modify l.length f=l++f x::t
 |[]=>rfl
 |a::l=>by
  rw[List.cons_append,List.length_cons,List.modify_succ_cons,uI f x t l];rfl
theorem Ih(hn:nix s l=none)(hq:q.names=l++⟨s,2,-1,a⟩::tail)(r:Int):dI q s r={ q with names:=l++⟨s,1,r,a⟩::tail }:=by
 have hk:nix s q.names=some l.length:=by rw[hq];exact N7 hn rfl
 unfold dI;rw[hk];simp only;rw[hq,uI]
theorem KT(h:Sy p q)(hn:nix s l=none)(hq:q.names=l++⟨s,2,-1,a⟩::tail)(hr:(rowAt q.rows r).kind≠5):Sy p (dI q s r):=by
 have hk:nix s q.names=some l.length:=by rw[hq];exact N7 hn rfl
 have hat:cO q.names l.length=⟨s,2,-1,a⟩:=by rw[hq];exact Qs
 have e:dI q s r={ q with names:=q.names.modify l.length λx=>{ x with what:=1,n:=r } }:=by unfold dI;rw[hk]
 rw[e];refine⟨h.e,h.txt,h.w,h.wok,λt=>?_,λt=>?_,h.n0,h.n1,h.aj⟩
 .show cOf (q.names.modify l.length λx=>{ x with what:=1,n:=r }) t=_;rw[MF hk (by rw[hat];show (2:Int)≠0;decide)];exact h.consts t
 .show eOf q.rows (q.names.modify l.length λx=>{ x with what:=1,n:=r }) t=_;rw[LZ hk,<- h.enums];cases ht:t==s with
  |false=>simp only[Bool.false_eq_true,↓reduceIte]
  |true=>
   obtain rfl:t=s:=by simpa using ht
   refine fif ?_;rw[if_neg (by simpa using hr)];unfold eOf;rw[hk];simp only[hat];rfl
theorem WI(h:Sy p q)(hn:nix s l=none)(hq:q.names=l++⟨s,2,-1,a⟩::tail)(hr:(rowAt q.rows r).kind=5)(hrn:(rowAt q.rows r).nums=nums):Sy { p with enums:=bK p.enums s nums } (dI q s r):=by
 have hk:nix s q.names=some l.length:=by rw[hq];exact N7 hn rfl
 have hat:cO q.names l.length=⟨s,2,-1,a⟩:=by rw[hq];exact Qs
 have e:dI q s r={ q with names:=q.names.modify l.length λx=>{ x with what:=1,n:=r } }:=by unfold dI;rw[hk]
 rw[e];refine⟨h.e,h.txt,h.w,h.wok,λt=>?_,λt=>?_,h.n0,h.n1,h.aj⟩
 .show cOf (q.names.modify l.length λx=>{ x with what:=1,n:=r }) t=_;rw[MF hk (by rw[hat];show (2:Int)≠0;decide)];exact h.consts t
 .show eOf q.rows (q.names.modify l.length λx=>{ x with what:=1,n:=r }) t=(bK p.enums s nums).lookup t;rw[LZ hk,bM,h.enums,hr,hrn];rfl
theorem BP(p:PS)(a b:By):want p [a,b]=(want p [a]).andThen λp=>want p [b]:=Wh p a [b]
theorem YI(h:Sn p q):Sim (enum p) (bZ q) λx=>DfP p q (bZ q) x:=by
 unfold enum bZ;have hs:=h.sy;simp only
 have rt:∀{e a:Int} (d:WR) (L:RS ⊕ (RS×By×List Int)),Nb e a (Ru L)->Nb e a (match L with
   |.inl p=>p
   |.inr (p,out,nums)=>{ dI (dh (af (af p 4 [125]) 4 [59]) { row0 with kind:=5,nums:=nums }).2 d.s (dh (af (af p 4 [125]) 4 [59]) { row0 with kind:=5,nums:=nums }).1 with out:=(dI (dh (af (af p 4 [125]) 4 [59]) { row0 with kind:=5,nums:=nums }).2 d.s (dh (af (af p 4 [125]) 4 [59]) { row0 with kind:=5,nums:=nums }).1).out++out++[32,125,59,10] }):=λd L hb=>by
  cases L with
  |inl p=>exact hb
  |inr y=>
   obtain⟨p,out,nums⟩:=y;exact sU _ _ (nU _ (Or.inl (((bY 4 [125]) hb).fs (ay _ 4 [59]))))
 refine Sim.bind (lZ hs) (λhb=>?_) λp1 ⟨h1,v1⟩=>?_
 .have hb:=qm 2 hb;generalize az (af q 2 [101,110,117,109]) 2=d at *;exact rt d.1 _ (uH 14 _ _ (Or.inl (hb.fs (ay d.2 4 [123]))))
 have n1:Nm p1.names (af q 2 [101,110,117,109]).names:=by rw[v1.names,(aT ..).names];exact h.nm
 have sb1:=aT q 2 [101,110,117,109];generalize af q 2 [101,110,117,109]=q1 at *;have ct:=iJ q1 2;refine Sim.bind (nX h1 n1) (λhb=>?_) λw ⟨w1,d1,h2,x2,dn,n2,dr,hnone⟩=>?_
 .generalize az q1 2=d at *;exact rt d.1 _ (uH 14 _ _ (Or.inl ((bY 4 [123]) hb)))
 generalize az q1 2=d at *;refine Sim.bind (bT h2) (λhb=>rt d.1 _ (uH 14 _ _ hb)) λp3 ⟨h3,v3⟩=>?_;have sb3:=aT d.2 4 [123];generalize af d.2 4 [123]=q3 at *;have nm3:Nm p3.names q3.names:=by rw[v3.names,sb3.names];exact n2
 refine Sim.bind (CE 12 [] [] ([101,110,117,109,32]++d.1.s++[32,123,32]) h3 nm3 rfl) (λhb=>rt d.1 _ hb) λx ⟨out',q',tail,z1,z2,z3,z4,z5,z6,z7,z8,z9⟩=>?_;clear rt;rw[z1];simp only;rw[BP,Res.assoc];refine Sim.bind (bT z2) (λhb=>?_) λp5 ⟨h5,v5⟩=>?_
 .exact sU _ _ (nU _ (Or.inl ((bY 4 [59]) hb)))
 have sb5:=aT q' 4 [125];generalize af q' 4 [125]=q5 at *;refine Sim.bind (bT h5) (λhb=>sU _ _ (nU _ hb)) λp6 ⟨h6,v6⟩=>?_;have sb6:=aT q5 4 [59];generalize af q5 4 [59]=q6 at *;have hdn:d.1.s=p1.w.s:=by rw[d1,h1.w]
 have hw:w.1=p1.w:=w1;have hr6:q6.rows=q.rows:=by rw[sb6.rows,sb5.rows,z4,sb3.rows,dr,sb1.rows]
 have hn6:q6.names=q.names++⟨p1.w.s,2,-1,(p1.w.at_:Nat)⟩::tail:=by
  rw[sb6.names,sb5.names,z7,sb3.names,dn,sb1.names,List.append_assoc];rfl
 have hp6:q6.aj=q.aj:=by rw[sb6.aj,sb5.aj,z5,sb3.aj,ct.aj,sb1.aj]
 have hnq:nix p1.w.s q.names=none:=by rw[<- sb1.names];exact hnone
 have nv6:Nv q6:=by
  refine⟨by rw[hr6];exact h.nv.five,λy hy hwh=>?_,λr hr=>by rw[hr6]at hr ⊢;exact h.nv.rows r hr⟩;rw[hn6]at hy;rcases List.mem_append.mp hy with hy|hy
  .have:=h.nv.names y hy hwh;unfold Rg at *;rw[hr6];exact this
  .rcases List.mem_cons.mp hy with rfl|hy
   .cases hwh
   .rw[z8 y hy]at hwh;cases hwh
 have hrow:=yB h6 nv6 { row0 with kind:=5,nums:=x.2.1 };have Xp:rowAt (dh q6 { row0 with kind:=5,nums:=x.2.1 }).2.rows (dh q6 { row0 with kind:=5,nums:=x.2.1 }).1={ row0 with kind:=5,nums:=x.2.1 }:=pY qB;have hsy:=WI hrow (l:=q.names) (tail:=tail) (s:=p1.w.s) (a:=(p1.w.at_:Nat)) hnq hn6 (r:=(dh q6 { row0 with kind:=5,nums:=x.2.1 }).1) (nums:=x.2.1) (by rw[Xp]) (by rw[Xp]);have hty:=Ih (q:=(dh q6 { row0 with kind:=5,nums:=x.2.1 }).2) (l:=q.names) (tail:=tail) (s:=p1.w.s) (a:=(p1.w.at_:Nat)) hnq hn6 (dh q6 { row0 with kind:=5,nums:=x.2.1 }).1;rw[hdn];refine⟨?_,?_,?_,⟨⟨p1.w.s,1,(dh q6 { row0 with kind:=5,nums:=x.2.1 }).1,(p1.w.at_:Nat)⟩,tail,?_,by rw[hw],by rw[hw],(λy hy=>by rw[z8 y hy];decide),?_⟩,λhn2=>?_,λhnd=>?_⟩
 .have:Sy { p6 with enums:=bK p6.enums w.1.s x.2.1 } (dI (dh q6 { row0 with kind:=5,nums:=x.2.1 }).2 p1.w.s (dh q6 { row0 with kind:=5,nums:=x.2.1 }).1):=by rw[hw];exact hsy
  exact Ip this _
 .show (dI (dh q6 { row0 with kind:=5,nums:=x.2.1 }).2 p1.w.s (dh q6 { row0 with kind:=5,nums:=x.2.1 }).1).names.map (λx=>x.s)=p6.names;rw[hty];have e1:q'.names.map (λx=>x.s)=x.2.2.names:=z3;rw[v6.names,v5.names,<- e1,z7,sb3.names,dn,sb1.names,List.append_assoc];simp only[List.map_append,List.map_cons,List.singleton_append]
 .rw[hty];show Gr q.rows (q6.rows++[_]) [];rw[hr6];exact(Gr.refl _).snoc (by show (5:Int)≠14;decide) λc hc=>by cases hc
 .rw[hty]
 .rw[hty];show (1:Int)=1/\(0<=((q6.rows.length:Nat):Int)/\(q6.rows++[_])[((q6.rows.length:Nat):Int).toNat]?=_)/\Ls q.rows (q6.rows++[_]) ((q6.rows.length:Nat):Int);exact⟨rfl,⟨omg,qB⟩,xu (by rw[hr6];exact Nat.le_refl _)⟩
 .rw[hty];show q6.aj.length=p6.n2;rw[hp6,hn2,v6.n2,v5.n2,z6,v3.n2,x2.n2,v1.n2]
 .rw[hty];have h9:Ndp q6.names:=by
   rw[sb6.names,sb5.names];exact z9 (by rw[sb3.names,dn,sb1.names];exact uG hnd hnq)
  refine abR h9 ?_;show (q.names++_::tail).map (λx=>x.s)=_;rw[hn6];simp only[List.map_append,List.map_cons]
end Go.M
namespace Go.M
variable {p:PS} {q:RS}
def Kd(n:Nat)(rows:List eU)(c:Int):Prop:=c<(rows.length:Int)/\(c<5\/(n:Int)<=c)
theorem Kd.gr(h:Kd n a c)(k:Gr a b l):Kd n b c:=⟨by have:=h.1;have:=k.le;omega,h.2⟩
structure MP (p:PS) (q q':RS) (l l':List By) (r:Int) (x:Decl×List By×PS):Prop where
 sy:Sy x.2.2 q'
 pv:Pv p x.2.2
 ls:x.2.1=l'
 rt:RT q'.rows x.1.ty r
 gr:Gr q.rows q'.rows (refs x.1.ty)
 kd:Kd q.rows.length q'.rows r
 nm:q'.names=q.names
 pg:q'.aj=q.aj
theorem Iy(h:Sy p q)(hv:Nv q)(l:List By):Sim (member p l) (af (dD q l false).2.2.2.2 4 [59]) λx=>MP p q (af (dD q l false).2.2.2.2 4 [59]) l (l++[(dD q l false).2.2.2.1.s]) (dD q l false).1 x:=by
 unfold member;have ct:=Ec q l false;refine Sim.bind (PV (K:=λ_ _=>True) (f:=λns _=>ns) (T:=λ_ s m=>m=l++[s]/\l.contains s=false) (Zo l) h hv trivial) (λhb=>Or.inl ((bY 4 [59]) hb)) λx dp=>?_;generalize dD q l false=d at *;have sb:=aT d.2.2.2.2 4 [59];refine Sim.bind (bT dp.sy) (λhb=>hb) λp1 ⟨h1,v1⟩=>?_;refine⟨h1,dp.px.pv.trans v1,by rw[dp.ds];exact dp.ex.1,by rw[sb.rows];exact dp.rt,by rw[sb.rows];exact dp.gr,?_,by rw[sb.names];exact dp.nms,by rw[sb.aj];exact ct.aj⟩;rw[sb.rows];exact dp.ls.kid hv.five dp.gr (Nat.le_refl _)
def FO(l:List Decl):List (By×Int):=l.flatMap λd=>refs d.ty
theorem IL(l:List Decl)(d:Decl):FO (l++[d])=FO l++refs d.ty:=by simp[FO]
theorem qE(hb:Nb e a q):Nb e a (af (aO k q out parts names).1 4 [125]):=
 Or.inl ((bY 4 [125]) (J9 k out parts names hb))
theorem yI:∀(k:Nat) {p:PS} {q:RS} (ds:List Decl) (l:List By) (parts:List Int) (out:By) {n:Nat} {U2:List (By×Int)},Sy p q->Nv q->k+parts.length=12->n<=q.rows.length->RTs q.rows (ds.map λd=>d.ty) parts->(∀c∈parts,Kd n q.rows c) ->
  Sim (gW k p ds l) (af (aO (k+2) q out parts l).1 4 [125]) λx=>∃new,Sy x.2 (af (aO (k+2) q out parts l).1 4 [125])/\Pv p x.2/\Gr q.rows (af (aO (k+2) q out parts l).1 4 [125]).rows new/\FO x.1=FO ds++new/\RTs (af (aO (k+2) q out parts l).1 4 [125]).rows (x.1.map λd=>d.ty) (aO (k+2) q out parts l).2.2/\(∀c∈(aO (k+2) q out parts l).2.2,Kd n (af (aO (k+2) q out parts l).1 4 [125]).rows c)/\(af (aO (k+2) q out parts l).1 4 [125]).names=q.names/\(af (aO (k+2) q out parts l).1 4 [125]).aj=q.aj
 |k,p,q,ds,l,parts,out,n,U2,h,hv,hk,hn,hrt,hkd=>by
  have fin:∀{e a:Int},Nb e a (af (dD (aG q (parts.length:Nat) 12) l false).2.2.2.2 4 [59])->Nb e a (af (aO (k+2) q out parts l).1 4 [125]):=λhb=>by
   rw[aO,if_pos (by rw[h.e];rfl)];simp only;generalize dD (aG q (parts.length:Nat) 12) l false=d at *;generalize af d.2.2.2.2 4 [59]=q2 at *;rw[hb.is (by decide),if_neg (by simp)];exact qE hb
  cases k with
  |zero=>
   have hf:=qX h (parts.length:Nat) 12;rw[if_pos (by omega)]at hf;have hw:q.w.at_=(p.w.at_:Nat):=by rw[h.w]
   rw[hw]at hf;refine fin ?_;rw[hf];exact Or.inl (((mJ h.e (by decide)).fs (xF _ _ _)).fs (ay _ _ _))
  |succ k=>
   rw[gW];have hf0:=qX h (parts.length:Nat) 12;rw[if_neg (by omega)]at hf0;rw[hf0]at fin;refine Sim.bind (Iy h hv l) (λhb=>fin hb) λm mp=>?_;clear fin;rw[show k+1+2=(k+2)+1 from rfl,aO,if_pos (by rw[h.e];rfl)];simp only[hf0];have nvd:=(G6 hv l false).1;have nvw:=aU nvd.nv 4 [59];have hle:=(nvd.trans nvw).le;generalize dD q l false=d at *;generalize af d.2.2.2.2 4 [59]=q2 at *;have Xo:RTs q2.rows ((ds++[m.1]).map λd=>d.ty) (parts++[d.1]):=by
    rw[List.map_append];exact RTs.snoc mp.rt (hrt.gr mp.gr)
   have Xt:∀c∈parts++[d.1],Kd n q2.rows c:=λc hc=>by
    rcases List.mem_append.mp hc with hc|hc
    .exact(hkd c hc).gr mp.gr
    .rw[List.mem_singleton.mp hc];exact⟨mp.kd.1,by rcases mp.kd.2 with h|h;exact Or.inl h;exact Or.inr (by omega)⟩
   have IE:=mp.sy.sign (c:=125);unfold take;cases hi:is_ q2 4 [125]with
   |true=>
    rw[show is_ q2 4 [125]=true from hi]at IE;simp only[↓reduceIte,<- IE];rw[vF hi,Res.assoc];refine Sim.bind (dC mp.sy) (λhb=>hb) λp3 ⟨h3,v3⟩=>?_;exact⟨refs m.1.ty,h3,mp.pv.trans v3,mp.gr,IL _ _,Xo,Xt,mp.nm,mp.pg⟩
   |false=>
    rw[show is_ q2 4 [125]=false from hi]at IE;simp only[Bool.false_eq_true,↓reduceIte,<- IE,Res.aS];rw[mp.ls];have ih:=yI k (ds++[m.1]) (l++[d.2.2.2.1.s]) (parts++[d.1]) (out++d.2.1++d.2.2.2.1.s++d.2.2.1++[59,32]) (n:=n) (U2:=U2) mp.sy nvw.nv (by simp only[List.length_append,List.length_cons,List.length_nil];omega) (by omega) Xo Xt;refine ih.mono λx ⟨new,a1,a2,a3,a4,a5,a6,a7,a8⟩=>?_;exact⟨refs m.1.ty++new,a1,mp.pv.trans a2,mp.gr.trans a3,by rw[a4,IL,List.append_assoc],a5,a6,a7.trans mp.nm,a8.trans mp.pg⟩
theorem Tz(h:Sn p q):Sim (jE p) (fC q) λx=>DfP p q (fC q) x:=by
 unfold jE fC;have hs:=h.sy;simp only;have rt:∀{e a:Int} (d:WR) (out:By) (parts:List Int) (r:RS),Nb e a (af r 4 [59])->Nb e a { dI (dh (af r 4 [59]) { row0 with kind:=12,parts:=parts }).2 d.s (dh (af r 4 [59]) { row0 with kind:=12,parts:=parts }).1 with out:=(dI (dh (af r 4 [59]) { row0 with kind:=12,parts:=parts }).2 d.s (dh (af r 4 [59]) { row0 with kind:=12,parts:=parts }).1).out++out++[125,59,10] }:=λd out parts r hb=>sU _ _ (nU _ hb);refine Sim.bind (lZ hs) (λhb=>?_) λp1 ⟨h1,v1⟩=>?_
 .have hb:=qm 2 hb;generalize az (af q 2 [115,116,114,117,99,116]) 2=d at *;exact rt d.1 _ _ _ (Or.inl ((bY 4 [59]) (qE (Or.inl (hb.fs (ay d.2 4 [123]))))))
 have n1:Nm p1.names (af q 2 [115,116,114,117,99,116]).names:=by rw[v1.names,(aT ..).names];exact h.nm
 have sb1:=aT q 2 [115,116,114,117,99,116];have nv1:=aU h.nv 2 [115,116,114,117,99,116];generalize af q 2 [115,116,114,117,99,116]=q1 at *;have ct:=iJ q1 2;have nv2:=jF nv1.nv;refine Sim.bind (nX h1 n1) (λhb=>?_) λw ⟨w1,d1,h2,x2,dn,n2,dr,hnone⟩=>?_
 .generalize az q1 2=d at *;exact rt d.1 _ _ _ (Or.inl ((bY 4 [59]) (qE (Or.inl ((bY 4 [123]) hb)))))
 generalize az q1 2=d at *;refine Sim.bind (bT h2) (λhb=>rt d.1 _ _ _ (Or.inl ((bY 4 [59]) (qE hb)))) λp3 ⟨h3,v3⟩=>?_;have sb3:=aT d.2 4 [123];have nv3:=aU nv2.nv 4 [123];generalize af d.2 4 [123]=q3 at *;have hr3:q3.rows=q.rows:=by rw[sb3.rows,dr,sb1.rows]
 have ih:=yI 12 [] [] [] ([115,116,114,117,99,116,32]++d.1.s++[32,123,32]) (n:=q.rows.length) (U2:=[]) h3 nv3.nv rfl (by rw[hr3];exact Nat.le_refl _) rfl (λc hc=>by cases hc);have nvL:=vg 14 nv3.nv ([115,116,114,117,99,116,32]++d.1.s++[32,123,32]) [] [] (Ps.nil _);have nv5:=aU nvL.1.nv 4 [125];refine Sim.bind ih (λhb=>rt d.1 _ _ _ (Or.inl ((bY 4 [59]) hb))) λx ⟨new,a1,a2,a3,a4,a5,a6,a7,a8⟩=>?_;generalize aO (12+2) q3 ([115,116,114,117,99,116,32]++d.1.s++[32,123,32]) [] []=L at *;generalize af L.1 4 [125]=q5 at *;refine Sim.bind (bT a1) (λhb=>rt d.1 _ _ _ hb) λp6 ⟨h6,v6⟩=>?_;have sb6:=aT q5 4 [59];have nv6:=aU nv5.nv 4 [59];generalize af q5 4 [59]=q6 at *;clear rt ih;have hdn:d.1.s=p1.w.s:=by rw[d1,h1.w]
 have hw:w.1=p1.w:=w1;have hn6:q6.names=q.names++[⟨p1.w.s,2,-1,(p1.w.at_:Nat)⟩]:=by rw[sb6.names,a7,sb3.names,dn,sb1.names]
 have hp6:q6.aj=q.aj:=by rw[sb6.aj,a8,sb3.aj,ct.aj,sb1.aj]
 have hnq:nix p1.w.s q.names=none:=by rw[<- sb1.names];exact hnone
 have g6:Gr q.rows q6.rows new:=by rw[sb6.rows,<- hr3];exact a3
 have hrow:=yB h6 nv6.nv { row0 with kind:=12,parts:=L.2.2 };have Xp:rowAt (dh q6 { row0 with kind:=12,parts:=L.2.2 }).2.rows (dh q6 { row0 with kind:=12,parts:=L.2.2 }).1={ row0 with kind:=12,parts:=L.2.2 }:=pY qB;have hsy:=KT hrow (l:=q.names) (tail:=[]) (s:=p1.w.s) (a:=(p1.w.at_:Nat)) hnq hn6 (r:=(dh q6 { row0 with kind:=12,parts:=L.2.2 }).1) (by rw[Xp];show (12:Int)≠5;decide);have hty:=Ih (q:=(dh q6 { row0 with kind:=12,parts:=L.2.2 }).2) (l:=q.names) (tail:=[]) (s:=p1.w.s) (a:=(p1.w.at_:Nat)) hnq hn6 (dh q6 { row0 with kind:=12,parts:=L.2.2 }).1;rw[hdn];refine⟨?_,?_,?_,⟨⟨p1.w.s,1,(dh q6 { row0 with kind:=12,parts:=L.2.2 }).1,(p1.w.at_:Nat)⟩,[],?_,by rw[hw],by rw[hw],(λy hy=>by cases hy),?_⟩,λhn2=>?_,λhnd=>by rw[hty];exact uG hnd hnq⟩
 .exact Ip hsy _
 .show (dI (dh q6 { row0 with kind:=12,parts:=L.2.2 }).2 p1.w.s (dh q6 { row0 with kind:=12,parts:=L.2.2 }).1).names.map (λx=>x.s)=p6.names;rw[hty,v6.names,a2.names,v3.names,x2.names,v1.names];have e:q.names.map (λx=>x.s)=p.names:=h.nm;simp only[List.map_append,e];rfl
 .rw[hty];show Gr q.rows (q6.rows++[_]) (FO x.1);rw[a4,show FO []++new=new from rfl];refine g6.snoc (by show (12:Int)≠14;decide) λc hc=>?_;have:c∈L.2.2:=hc;have:=a6 c this;rw[<- sb6.rows]at this;exact this
 .rw[hty]
 .rw[hty];show (1:Int)=1/\(0<=((q6.rows.length:Nat):Int)/\∃parts,(q6.rows++[_])[((q6.rows.length:Nat):Int).toNat]?=_/\RTs (q6.rows++[_]) _ parts)/\Ls q.rows (q6.rows++[_]) ((q6.rows.length:Nat):Int);exact⟨rfl,⟨omg,L.2.2,qB,by rw[sb6.rows];exact a5.app⟩,xu g6.le⟩
 .rw[hty];show q6.aj.length=p6.n2;rw[hp6,hn2,v6.n2,a2.n2,v3.n2,x2.n2,v1.n2]
end Go.M
namespace Go.M
variable {p:PS} {q:RS}
def OfR(rows:List eU)(x:Ty×Int×Int×Option (List Int))(f:Int):Prop:=
 0<=f/\x.2.1=(if f==1||f==4 then 0 else -2147483648)/\x.2.2.1=(if f==1 then 4294967295 else if f==4 then 1 else 2147483647)/\(match x.2.2.2 with|none=>f<=4|some l=>4<f/\f<(rows.length:Int)/\(rowAt rows f).nums=l)
theorem OfR.gr(h:OfR a x f)(k:Gr a b l):OfR b x f:=by
 obtain⟨g0,g1,g2,g3⟩:=h;refine⟨g0,g1,g2,?_⟩;obtain⟨rs,rfl,_⟩:=k;cases hx:x.2.2.2 with
 |none=>rw[hx]at g3;exact g3
 |some nl=>
  rw[hx]at g3;obtain⟨g4,g5,g6⟩:=g3;exact⟨g4,by rw[List.length_append];omega,by rw[Lj omg];exact g6⟩
theorem acS(h5:B5 rows)(h0:0<=n)(hk:(rowAt rows n).kind=5):4<n:=by
 obtain⟨rs,rfl⟩:=h5;rcases Int.lt_or_le 4 n with h|h
 .exact h
 .exfalso;have:n=0\/n=1\/n=2\/n=3\/n=4:=omg;rcases this with rfl|rfl|rfl|rfl|rfl
  .exact absurd (show (0:Int)=5 from hk) dcd
  .exact absurd (show (1:Int)=5 from hk) dcd
  .exact absurd (show (2:Int)=5 from hk) dcd
  .exact absurd (show (3:Int)=5 from hk) dcd
  .exact absurd (show (4:Int)=5 from hk) dcd
theorem GH(p:PS):fK p=if p.w.kind==1 then(match p.enums.lookup p.w.s with
  |none=>.no 7 p.w.at_
  |some nums=>(advance p).andThen λx=>.ok ((.named p.w.s p.w.at_,least,LM,some nums),x))
  else if p.w.is [105,110,116]then(advance p).andThen λx=>.ok ((.basic [105,110,116],least,LM,none),x)
  else if p.w.is [98,111,111,108]then(advance p).andThen λx=>.ok ((.basic [98,111,111,108],0,1,none),x)
  else if p.w.is [117,110,115,105,103,110,101,100]then(advance p).andThen λx=>if x.w.is [105,110,116]then(advance x).andThen λx=>.ok ((.basic [117,110,115,105,103,110,101,100],0,top,none),x)else .ok ((.basic [117,110,115,105,103,110,101,100],0,top,none),x)
  else bad p:=by
 unfold fK take;simp only;cases p.w.kind==1 with
 |true=>
  refine fif ?_;cases p.enums.lookup p.w.s<;>rfl
 |false=>
 refine fif ?_;cases p.w.is [105,110,116]with
 |true=>
  refine fif ?_;cases advance p<;>rfl
 |false=>
 simp only[Bool.false_eq_true,↓reduceIte,Res.aS];cases p.w.is [98,111,111,108]with
 |true=>
  refine fif ?_;cases advance p<;>rfl
 |false=>
 simp only[Bool.false_eq_true,↓reduceIte,Res.aS];cases p.w.is [117,110,115,105,103,110,101,100]with
 |false=>simp only[Bool.false_eq_true,↓reduceIte,Res.aS]
 |true=>
  refine fif ?_;cases advance p with
  |no=>rfl
  |ok x=>
   simp only[Res.aS,↓reduceIte];cases x.w.is [105,110,116]with
   |true=>
    refine fif ?_;cases advance x<;>rfl
   |false=>simp only[Bool.false_eq_true,↓reduceIte,Res.aS]
theorem EF(h:Sy p q)(hv:Nv q)(h5:B5 q.rows):Sim (fK p) (dP q).2.2 λx=>Sy x.2 (dP q).2.2/\Pv p x.2/\OfR q.rows x.1 (dP q).1:=by
 rw[GH];have hk:=h.kind 1;have hk2:=h.kind 2;have hs:q.w.s=p.w.s:=by rw[h.w]
 have ha:q.w.at_=(p.w.at_:Nat):=by rw[h.w]
 have he:(q.e==0)=true:=by rw[h.e];rfl
 have ki:=h.wok.key (K:=[105,110,116]) dcd;have kb:=h.wok.key (K:=[98,111,111,108]) dcd;have ku:=h.wok.key (K:=[117,110,115,105,103,110,101,100]) dcd;rw[ki,kb,ku];unfold dP;simp only;rw[he,Bool.true_and,Bool.true_and,show (q.w.kind==1)=(p.w.kind==1)from hk,show (q.w.kind==2)=(p.w.kind==2)from hk2,hs,ha];cases h1:p.w.kind==1 with
 |true=>
  refine fif ?_;have hen:=h.enums p.w.s;unfold eOf at hen;cases hx:nix p.w.s q.names with
  |none=>
   rw[hx]at hen;rw[<- hen];exact qF h.e dcd
  |some k=>
   rw[hx]at hen;simp only at hen ⊢;rw[<- hen];cases hw:(cO q.names k).what==1&&(rowAt q.rows (cO q.names k).n).kind==5 with
   |false=>
    have:((cO q.names k).what != 1||(rowAt q.rows (cO q.names k).n).kind != 5)=true:=by
     unfold bne;rw[<- Bool.not_and,hw];rfl
    rw[this];refine fif ?_;exact qF h.e dcd
   |true=>
    have:((cO q.names k).what != 1||(rowAt q.rows (cO q.names k).n).kind != 5)=false:=by
     unfold bne;rw[<- Bool.not_and,hw];rfl
    rw[this];refine fif ?_;rw[Bool.and_eq_true]at hw;obtain⟨r0,r1⟩:=hv.names _ (zV hx) (by simpa using hw.1);have h4:=acS h5 r0 (by simpa using hw.2);refine Sim.bind (dC h) (λhb=>hb) λp1 ⟨a1,a2⟩=>?_;refine⟨a1,a2,r0,?_,?_,h4,r1,rfl⟩
    .have e1:((cO q.names k).n==1)=false:=by simpa using (by omega:(cO q.names k).n≠1)
     have e4:((cO q.names k).n==4)=false:=by simpa using (by omega:(cO q.names k).n≠4)
     simp only[e1,e4,Bool.or_self,Bool.false_eq_true,↓reduceIte];rfl
    .have e1:((cO q.names k).n==1)=false:=by simpa using (by omega:(cO q.names k).n≠1)
     have e4:((cO q.names k).n==4)=false:=by simpa using (by omega:(cO q.names k).n≠4)
     simp only[e1,e4,Bool.false_eq_true,↓reduceIte];rfl
 |false=>
 refine fif ?_;cases h2:p.w.kind==2 with
 |false=>
  simp only[Bool.false_and,Bool.not_false,Bool.false_eq_true,↓reduceIte];exact zN h
 |true=>
 simp only[Bool.true_and];cases hi:p.w.s==[105,110,116]with
 |true=>
  simp only[Bool.true_or,Bool.not_true,Bool.false_eq_true,↓reduceIte];refine Sim.bind (dC h) (λhb=>hb) λp1 ⟨a1,a2⟩=>⟨a1,a2,Int.le_refl 0,rfl,rfl,by show (0:Int)<=4;decide⟩
 |false=>
 simp only[Bool.false_or,Bool.false_eq_true,↓reduceIte];cases hb:p.w.s==[98,111,111,108]with
 |true=>
  have hu:(p.w.s==[117,110,115,105,103,110,101,100])=false:=by
   have:p.w.s=[98,111,111,108]:=by simpa using hb
   rw[this];rfl
  simp only[hu,Bool.or_true,Bool.not_true,Bool.false_eq_true,↓reduceIte];refine Sim.bind (dC h) (λhb=>hb) λp1 ⟨a1,a2⟩=>⟨a1,a2,by show (0:Int)<=4;decide,rfl,rfl,Int.le_refl 4⟩
 |false=>
 simp only[Bool.or_false,Bool.false_eq_true,↓reduceIte];cases hu:p.w.s==[117,110,115,105,103,110,101,100]with
 |false=>
  simp only[Bool.not_false,Bool.false_eq_true,↓reduceIte];exact zN h
 |true=>
  simp only[Bool.not_true,Bool.false_eq_true,↓reduceIte];refine Sim.bind (dC h) (λhb=>?_) λp1 ⟨a1,a2⟩=>?_
  .rw[hb.is dcd,if_neg smp];exact hb
  .rw[a1.key (K:=[105,110,116])];cases p1.w.is [105,110,116]with
   |true=>
    refine fif ?_;exact Sim.bind (dC a1) (λhb=>hb) λp2 ⟨b1,b2⟩=>⟨b1,a2.trans b2,by show (0:Int)<=1;decide,rfl,rfl,by show (1:Int)<=4;decide⟩
   |false=>
    refine fif ?_;exact⟨a1,a2,by show (0:Int)<=1;decide,rfl,rfl,by show (1:Int)<=4;decide⟩
def iG(q:RS)(f:Int)(v:Int×Int×RS)(there:List Int):RS:=
 let p1:=if v.2.2.e==0&&decide (f>4)&&!((rowAt v.2.2.rows f).nums.contains v.1)then aK v.2.2 8 v.2.1 else v.2.2
 if p1.e==0&&there.contains v.1 then aK p1 6 v.2.1 else p1
theorem OJ(f:Int)(k:Nat)(p:RS)(nums:List Int)(out:By)(he:p.e=0):bz f (k+1) p nums out =
  (let v := ak (af (aG p (nums.length : Nat) 12) 2 [99, 97, 115, 101]) (if f == 1 || f == 4 then 0 else -2147483648) (if f == 1 then 4294967295 else if f == 4 then 1 else 2147483647)
   let q := af (iG p f v nums) 4 [58]
   if is_ q 2 [99, 97, 115, 101] then bz f k q (nums ++ [v.1]) (out ++ [99, 97, 115, 101, 32] ++ nI_ v.1 ++ [58, 32]) else (nums ++ [v.1], out ++ [99, 97, 115, 101, 32] ++ nI_ v.1 ++ [58, 32], q)) := by
 rw[bz,if_pos (by simp[he])];rfl
theorem JO(h:Fd e a v.2.2):iG q f v there=v.2.2:=by
 have e2:(v.2.2.e==0)=false:=by rw[h.2.1];simpa using h.1
 unfold iG;simp only[e2,Bool.false_and,Bool.false_eq_true,↓reduceIte]
theorem sb_chk{p r:RS}{f:Int}{v:Int×Int×RS}{there:List Int}(h:Sb p v.2.2):Sb p (iG r f v there):=by
 unfold iG;simp only;have h1:Sb p (if v.2.2.e==0&&decide (f>4)&&!((rowAt v.2.2.rows f).nums.contains v.1)then aK v.2.2 8 v.2.1 else v.2.2):=by
  split
  .exact h.trans (gm _ _ _)
  .exact h
 generalize (if v.2.2.e==0&&decide (f>4)&&!((rowAt v.2.2.rows f).nums.contains v.1)then aK v.2.2 8 v.2.1 else v.2.2)=z at *;split
 .exact h1.trans (gm _ _ _)
 .exact h1
theorem YK(h:Sy p q)(hf:OfR q.rows x f)(there:List Int):
  Sim (value p x.2.1 x.2.2.1 λn a=>if x.2.2.2.any λl=>!l.contains n then .no 8 a else once there n a) (iG q f (ak q x.2.1 x.2.2.1) there) λy=>y.2.1=there++[y.1]/\(ak q x.2.1 x.2.2.1).1=y.1/\Sy y.2.2 (iG q f (ak q x.2.1 x.2.2.1) there)/\Pv p y.2.2:=by
 obtain⟨f0,_,_,hf3⟩:=hf;have hq:(aB q).e=0:=h.e;have hq1:((aB q).e==0)=true:=by rw[hq];rfl
 have hr:(aB q).rows=q.rows:=rfl;have hany:∀n:Int,(x.2.2.2.any λl=>!l.contains n)=(decide (f>4)&&!((rowAt q.rows f).nums.contains n)):=λn=>by
  cases hx:x.2.2.2 with
  |none=>
   rw[hx]at hf3;have:decide (f>4)=false:=decide_eq_false (by have:f<=4:=hf3;omega);rw[this];rfl
  |some l=>
   rw[hx]at hf3;obtain⟨h1,_,h2⟩:=hf3;have:decide (f>4)=true:=decide_eq_true h1;rw[this,h2];simp
 have chk:∀n:Int,∀a:Int,iG q f (n,a,aB q) there=(if(x.2.2.2.any λl=>!l.contains n)then aK (aB q) 8 a else if there.contains n then aK (aB q) 6 a else aB q):=λn a=>by
  unfold iG;simp only[hq1,Bool.true_and,hr,hany];cases decide (f>4)&&!((rowAt q.rows f).nums.contains n)with
  |true=>
   refine fif ?_;have hf:=mJ (q:=aB q) hq (e:=8) (a:=a) dcd;have e2:((aK (aB q) 8 a).e==0)=false:=by rw[hf.2.1];decide
   rw[e2,Bool.false_and,if_neg smp]
  |false=>
   simp only[Bool.false_eq_true,↓reduceIte,hq1,Bool.true_and]
 have:=EE h x.2.1 x.2.2.1 (λn a=>if x.2.2.2.any λl=>!l.contains n then .no 8 a else once there n a) (q':=iG q f (ak q x.2.1 x.2.2.1) there) (P:=λm=>∃n,m=there++[n]/\(ak q x.2.1 x.2.2.1).1=n/\iG q f (ak q x.2.1 x.2.2.1) there=aB q)
  (λhb=>by rw[JO hb];exact Or.inl hb)
  (λn _ _ e=>by
   rw[e,chk];simp only;cases x.2.2.2.any λl=>!l.contains n with
   |true=>
    refine fif ?_;exact qF hq dcd
   |false=>
    refine fif ?_;unfold once;cases hc:there.contains n with
    |true=>
     refine fif ?_;exact qF hq dcd
    |false=>
     refine fif ?_
     exact⟨n,rfl,rfl,trivial⟩)
  (λn s hs e {_ _} hb=>by
   rw[e,chk];split at hs
   .cases hs
   .rename_i h1;unfold once at hs;split at hs
    .cases hs
    .rename_i h2;rw[if_neg h1,if_neg h2]
     exact hb)
 exact this.mono λy ⟨_,_,h3,⟨n,h4,h5,h6⟩,h7,h8⟩=>by
  have hn:n=y.1:=by rw[<- h5,h3]
  exact⟨hn▸h4,hn▸h5,by rw[h6];exact h7,h8⟩
theorem CO:∀(k j:Nat) {p:PS} {q:RS} (a there:List Int) (out:By),Sy p q->OfR q.rows x f->k+there.length=12->k+1<=j ->
  Sim (jA x.2.1 x.2.2.1 x.2.2.2 k p a there) (bz f j q there out).2.2 λy=>∃new,y.1=a++new/\y.2.1=there++new/\(bz f j q there out).1=there++new/\Sy y.2.2 (bz f j q there out).2.2/\Pv p y.2.2
 |k,0,p,q,a,there,out,h,hf,hk,hj=>by omega
 |k,j+1,p,q,a,there,out,h,hf,hk,hj=>by
  obtain⟨f0,f1,f2,f3⟩:=id hf;rw[OJ f j q there out h.e];rw[<- f1,<- f2];simp only;have fin:∀{e b:Int} {v:Int×Int×RS},Nb e b (af (iG q f v there) 4 [58])->Nb e b (if is_ (af (iG q f v there) 4 [58]) 2 [99,97,115,101]then bz f j (af (iG q f v there) 4 [58]) (there++[v.1]) (out++[99,97,115,101,32]++nI_ v.1++[58,32])else(there++[v.1],out++[99,97,115,101,32]++nI_ v.1++[58,32],af (iG q f v there) 4 [58])).2.2:=λhb=>by
   rw[hb.is dcd,if_neg smp];exact hb
  have fin2:∀{e b:Int} {r:RS},Nb e b r->Nb e b (af (iG q f (ak r x.2.1 x.2.2.1) there) 4 [58]):=λhb=>by
   have h1:=vX x.2.1 x.2.2.1 hb;rw[JO h1];exact Or.inl (h1.fs (ay _ _ _))
  cases k with
  |zero=>
   have hfu:=qX h (there.length:Nat) 12;rw[if_pos omg]at hfu;have hw:q.w.at_=(p.w.at_:Nat):=by rw[h.w]
   rw[hw]at hfu;rw[hfu];exact fin (fin2 (Or.inl ((mJ h.e dcd).fs (ay _ _ _))))
  |succ k=>
   rw[jA];have hfu:=qX h (there.length:Nat) 12;rw[if_neg omg]at hfu;rw[hfu];refine Sim.bind (lZ h) (λhb=>fin (fin2 hb)) λp1 ⟨h1,v1⟩=>?_;have sb1:=aT q 2 [99,97,115,101];generalize af q 2 [99,97,115,101]=q1 at *;have hf1:OfR q1.rows x f:=by rw[sb1.rows];exact hf
   have ec:∀v,iG q f v there=iG q1 f v there:=λv=>rfl;simp only[ec];refine Sim.bind (YK h1 hf1 there) (λhb=>?_) λy ⟨y1,y2,h2,v2⟩=>?_
   .have:=(bY 4 [58]) hb;rw[this.is,if_neg smp];exact Or.inl this
   have sbv:=lI q1 x.2.1 x.2.2.1;have sbc:Sb q1 (iG q1 f (ak q1 x.2.1 x.2.2.1) there):=by
    exact sb_chk sbv
   rw[y2];generalize iG q1 f (ak q1 x.2.1 x.2.2.1) there=q2 at *;refine Sim.bind (bT h2) (λhb=>?_) λp3 ⟨h3,v3⟩=>?_
   .rw[hb.is dcd,if_neg smp];exact hb
   have sb3:=aT q2 4 [58];generalize af q2 4 [58]=q3 at *;have hkc:=h3.key (K:=[99,97,115,101]);rw[<- hkc];cases hi:is_ q3 2 [99,97,115,101]with
   |true=>
    refine fif ?_;rw[y1];have hf3:OfR q3.rows x f:=by rw[sb3.rows,sbc.rows];exact hf1
    have ih:=CO (x:=x) (f:=f) k j (a++[y.1]) (there++[y.1]) (out++[99,97,115,101,32]++nI_ y.1++[58,32]) h3 hf3 lng omg;refine ih.mono λz ⟨new,a1,a2,a3,a4,a5⟩=>⟨y.1::new,by rw[a1,List.append_assoc];rfl,by rw[a2,List.append_assoc];rfl,by rw[a3,List.append_assoc];rfl,a4,((v1.trans v2).trans v3).trans a5⟩
   |false=>
    refine fif ?_;exact⟨[y.1],rfl,y1,rfl,h3,(v1.trans v2).trans v3⟩
end Go.M
namespace Go.M
variable {p:PS} {q:RS}
theorem Sim.and(h:Sim m q P)(k:Yl m Q):Sim m q λx=>P x/\Q x:=by
 cases m with
 |ok x=>exact⟨h,k x rfl⟩
 |no e a=>exact h
theorem UY(h:Sy p q)(hv:Nv q)(l:List By):Sim (arm p l) (jc q l).2.2.2 λx=>MP p q (jc q l).2.2.2 l (jc q l).2.2.1 (jc q l).1 x:=by
 unfold arm jc take;have hk:=h.key (K:=[118,111,105,100]);rw[<- hk];cases hi:is_ q 2 [118,111,105,100]with
 |true=>
  refine fif ?_;rw[Res.assoc];refine Sim.bind (dC h) (λhb=>Or.inl ((bY 4 [59]) hb)) λp1 ⟨h1,v1⟩=>?_;have sb:=aT (aB q) 4 [59];simp only[Res.aS,↓reduceIte];refine Sim.bind (bT h1) (λhb=>hb) λp2 ⟨h2,v2⟩=>?_;have hv5:=hv.five;exact⟨h2,v1.trans v2,rfl,rfl,by rw[sb.rows];exact Gr.refl _,⟨by rw[sb.rows];show (-1:Int)<((q.rows.length:Nat):Int);omega,Or.inl (by show (-1:Int)<5;decide)⟩,sb.names,sb.aj⟩
 |false=>
  simp only[Bool.false_eq_true,↓reduceIte,Res.aS];exact Iy h hv l
theorem RTs.append:∀{ts us:List Ty} {l m:List Int},RTs a ts l->RTs a us m->RTs a (ts++us) (l++m)
 |[],us,l,m,h,k=>by
  obtain rfl:l=[]:=h;exact k
 |t::ts,us,l,m,⟨r,rs,h1,h2,h3⟩,k=>⟨r,rs++m,by rw[h1];rfl,h2,RTs.append h3 k⟩
theorem RTs.rep(h:RT a t r):∀n:Nat,RTs a (List.replicate n t) (List.replicate n r)
 |0=>rfl
 |n+1=>⟨r,List.replicate n r,rfl,h,RTs.rep h n⟩
theorem RTs.len:∀{ts:List Ty} {l:List Int},RTs a ts l->l.length=ts.length
 |[],l,h=>by
  obtain rfl:l=[]:=h;rfl
 |t::ts,l,⟨r,rs,h1,h2,h3⟩=>by rw[h1,List.length_cons,List.length_cons,h3.len]
def Aq(l:List Arm):List (By×Int):=l.flatMap λa=>refs a.decl.ty
def fE(l:List Arm):List Int:=l.flatMap λa=>a.nums
def Nq(l:List Arm):List Ty:=l.flatMap λa=>List.replicate a.nums.length a.decl.ty
theorem Yu(l:List Arm):(Nq l).length=(fE l).length:=by
 induction l with
 |nil=>rfl
 |cons a l ih=>simp only[Nq,fE,List.flatMap_cons,List.length_append,List.length_replicate]at *;omega
theorem FN:∀(k j:Nat) {p:PS} {q:RS} (as:List Arm) (l:List By) (parts:List Int) (out:By) {n:Nat},Sy p q->Nv q->OfR q.rows x f->(fE as).length<=12->13<=k+(fE as).length->14<=j+(fE as).length->n<=q.rows.length->RTs q.rows (Nq as) parts->(∀c∈parts,Kd n q.rows c)->(∀a∈as,a.nums≠[]) ->
  Sim (mO x.2.1 x.2.2.1 x.2.2.2 k p as l (fE as)) (aQ f j q (fE as) parts l out).2.2.2.2 λy=>∃new,(aQ f j q (fE as) parts l out).1=fE y.1/\RTs (aQ f j q (fE as) parts l out).2.2.2.2.rows (Nq y.1) (aQ f j q (fE as) parts l out).2.1/\(aQ f j q (fE as) parts l out).2.2.1=y.2.1/\Sy y.2.2 (aQ f j q (fE as) parts l out).2.2.2.2/\Pv p y.2.2/\Gr q.rows (aQ f j q (fE as) parts l out).2.2.2.2.rows new/\Aq y.1=Aq as++new/\(∀c∈(aQ f j q (fE as) parts l out).2.1,Kd n (aQ f j q (fE as) parts l out).2.2.2.2.rows c)/\(aQ f j q (fE as) parts l out).2.2.2.2.names=q.names/\(aQ f j q (fE as) parts l out).2.2.2.2.aj=q.aj/\∀a∈y.1,a.nums≠[]
 |0,j,p,q,as,l,parts,out,n,h,hv,hf,h12,hk,hj,hn,hrt,hkd,hne=>by omega
 |k,0,p,q,as,l,parts,out,n,h,hv,hf,h12,hk,hj,hn,hrt,hkd,hne=>by omega
 |k+1,j+1,p,q,as,l,parts,out,n,h,hv,hf,h12,hk,hj,hn,hrt,hkd,hne=>by
  rw[mO,aQ,if_pos (by rw[h.e];rfl)];simp only;have fin:∀{e a:Int} (c:List Int×By×RS) (d:Int×By×List By×RS),Nb e a d.2.2.2->Nb e a (if is_ d.2.2.2 2 [99,97,115,101]then aQ f j d.2.2.2 c.1 (parts++List.replicate (c.1.length - parts.length) d.1) d.2.2.1 (out++c.2.1++d.2.1)else(c.1,parts++List.replicate (c.1.length - parts.length) d.1,d.2.2.1,out++c.2.1++d.2.1,d.2.2.2)).2.2.2.2:=λc d hb=>by
   rw[hb.is dcd,if_neg smp];exact hb
  have hcl:=CO (x:=x) (f:=f) (12 - (fE as).length) 14 [] (fE as) [] h hf omg omg;have hyl:=Be x.2.1 x.2.2.1 x.2.2.2 (12 - (fE as).length) p [] (fE as);have sbc:Sb q (gG q f (fE as)).2.2:=oK f 14 q (fE as) [];have hcl:Sim (jA x.2.1 x.2.2.1 x.2.2.2 (12 - (fE as).length) p [] (fE as)) (gG q f (fE as)).2.2 λy=>∃new,y.1=[]++new/\y.2.1=fE as++new/\(gG q f (fE as)).1=fE as++new/\Sy y.2.2 (gG q f (fE as)).2.2/\Pv p y.2.2:=hcl;generalize gG q f (fE as)=c at *;have nvc:=hv.sb sbc;refine Sim.bind (hcl.and hyl) (λhb=>fin _ _ (Or.inl (Ov l hb))) λy ⟨⟨new,y1,y2,y3,h1,v1⟩,yl1,yl2,yl3⟩=>?_;rw[List.nil_append]at y1;have nva:=(Jf nvc.nv l).1;have hma:=UY h1 nvc.nv l;generalize jc c.2.2 l=a at *;refine Sim.bind hma (λhb=>fin c a hb) λd mp=>?_;clear fin hma hcl;have hkc:=mp.sy.key (K:=[99,97,115,101]);rw[<- hkc];have e1:fE (as++[⟨y.1,d.1⟩])=fE as++new:=by simp[fE,y1]
  have hpl:parts.length=(fE as).length:=by rw[hrt.len,Yu]
  have hnl:new.length+(fE as).length<=12:=by
   rw[y1]at yl1;simp only[List.length_nil]at yl1;omega
  have hn1:1<=new.length:=by
   rw[y1]at yl2;simp only[List.length_nil]at yl2;omega
  have hrep:c.1.length - parts.length=new.length:=by rw[y3,List.length_append,hpl];omega
  have e2:Nq (as++[⟨y.1,d.1⟩])=Nq as++List.replicate new.length d.1.ty:=by simp[Nq,y1]
  have hgr:Gr q.rows a.2.2.2.rows (refs d.1.ty):=by rw[<- sbc.rows];exact mp.gr
  have hle:=hgr.le;have Xo:RTs a.2.2.2.rows (Nq (as++[⟨y.1,d.1⟩])) (parts++List.replicate (c.1.length - parts.length) a.1):=by
   rw[e2,hrep];exact(hrt.gr hgr).append (RTs.rep mp.rt _)
  have Xt:∀z∈parts++List.replicate (c.1.length - parts.length) a.1,Kd n a.2.2.2.rows z:=λz hz=>by
   rcases List.mem_append.mp hz with hz|hz
   .exact(hkd z hz).gr hgr
   .rw[List.eq_of_mem_replicate hz];refine⟨mp.kd.1,?_⟩;rcases mp.kd.2 with h|h
    .exact Or.inl h
    .rw[sbc.rows]at h;exact Or.inr omg
  have e3:Aq (as++[⟨y.1,d.1⟩])=Aq as++refs d.1.ty:=by simp[Aq]
  have hnm:a.2.2.2.names=q.names:=by rw[mp.nm,sbc.names]
  have hpg:a.2.2.2.aj=q.aj:=by rw[mp.pg,sbc.aj]
  have hc1:c.1=fE (as++[⟨y.1,d.1⟩]):=by rw[e1];exact y3
  have hy2:y.2.1=fE (as++[⟨y.1,d.1⟩]):=by rw[e1];exact y2
  have hne2:∀z∈as++[⟨y.1,d.1⟩],z.nums≠[]:=λz hz=>by
   rcases List.mem_append.mp hz with hz|hz
   .exact hne z hz
   .rw[List.mem_singleton.mp hz];show y.1≠[];rw[y1];intro e;rw[e]at hn1;simp at hn1
  cases hi:is_ a.2.2.2 2 [99,97,115,101]with
  |true=>
   refine fif ?_;have hf2:OfR a.2.2.2.rows x f:=hf.gr hgr;have hlen:(fE (as++[⟨y.1,d.1⟩])).length=(fE as).length+new.length:=by rw[e1,List.length_append]
   rw[hy2,mp.ls];rw[hc1]at Xo Xt ⊢;have ih:=FN (x:=x) (f:=f) k j (as++[⟨y.1,d.1⟩]) a.2.2.1 (parts++List.replicate ((fE (as++[⟨y.1,d.1⟩])).length - parts.length) a.1) (out++c.2.1++a.2.1) (n:=n) mp.sy nva.nv hf2 omg omg omg omg Xo Xt hne2;refine ih.mono λz ⟨nw,a1,a2,a3,a4,a5,a6,a7,a8,a9,a10,a11⟩=>?_;exact⟨refs d.1.ty++nw,a1,a2,a3,a4,(v1.trans mp.pv).trans a5,hgr.trans a6,by rw[a7,e3,List.append_assoc],a8,a9.trans hnm,a10.trans hpg,a11⟩
  |false=>
   refine fif ?_;exact⟨refs d.1.ty,hc1,Xo,mp.ls.symm,mp.sy,v1.trans mp.pv,hgr,e3,Xt,hnm,hpg,hne2⟩
end Go.M
namespace Go.M
variable {p:PS} {q:RS}
theorem Zh(q:RS):dS q [] false=fD q:=by
 unfold dS;simp only[Bool.false_eq_true,↓reduceIte,List.contains_nil,Bool.and_false]
theorem YH(h:Sy p q):Sim (called p []) (fD q).2 λx=>Sy x.2.2 (fD q).2/\Pv p x.2.2/\x.2.1=[(fD q).1.s]/\(fD q).1.s=x.1.s:=by
 have:=wQ h [];rw[Zh]at this;exact this.mono λx ⟨h1,v1,h2,h3,h4,h5⟩=>⟨h1,v1,by rw[h2,h3,h.w,h4];rfl,by rw[h3,h.w,h4]⟩
def fH(q:RS)(l:List By)(out:By):Int×By×RS:=if is_ q 2 [100,101,102,97,117,108,116]then(let a:=jc (af (aB q) 4 [58]) l;(a.1,out++([100,101,102,97,117,108,116,58,32]++a.2.1),a.2.2.2))else(-2,out,q)
def DV:Option Decl->List (By×Int)
 |none=>[]
 |some d=>refs d.ty
def elseRT(rows:List eU)(e:Int):Option Decl->Prop
 |none=>e = -2
 |some d=>RT rows d.ty e
theorem rH(l:List By)(out:By)(hb:Nb e a q):Nb e a (fH q l out).2.2:=by
 unfold fH;rw[hb.is dcd,if_neg smp];exact hb
theorem YJ(h:Sy p q)(hv:Nv q)(l:List By)(out:By):Sim ((take p [100,101,102,97,117,108,116]).andThen λx=>(if x.1 then(want x.2 [[58]]).andThen λp=>(arm p l).andThen λe=>.ok (some e.1,e.2.2)else .ok (none,x.2):Res (Option Decl×PS))) (fH q l out).2.2
  λy=>Sy y.2 (fH q l out).2.2/\Pv p y.2/\Gr q.rows (fH q l out).2.2.rows (DV y.1)/\elseRT (fH q l out).2.2.rows (fH q l out).1 y.1/\Kd q.rows.length (fH q l out).2.2.rows (fH q l out).1/\(fH q l out).2.2.names=q.names/\(fH q l out).2.2.aj=q.aj/\Nv (fH q l out).2.2:=by
 unfold take fH;have hk:=h.key (K:=[100,101,102,97,117,108,116]);rw[<- hk];cases hi:is_ q 2 [100,101,102,97,117,108,116]with
 |true=>
  refine fif ?_;rw[Res.assoc];refine Sim.bind (dC h) (λhb=>Or.inl (Ov l (Or.inl ((bY 4 [58]) hb)))) λp1 ⟨h1,v1⟩=>?_;have sb:=aT (aB q) 4 [58];have nv1:=aU (jr hv).nv 4 [58];simp only[Res.aS,↓reduceIte];refine Sim.bind (bT h1) (λhb=>Or.inl (Ov l hb)) λp2 ⟨h2,v2⟩=>?_;have hr:(af (aB q) 4 [58]).rows=q.rows:=sb.rows;have hn:(af (aB q) 4 [58]).names=q.names:=sb.names;have hp:(af (aB q) 4 [58]).aj=q.aj:=sb.aj;generalize af (aB q) 4 [58]=q2 at *;have nv2:=(Jf nv1.nv l).1;refine Sim.bind (UY h2 nv1.nv l) (λhb=>hb) λd mp=>?_;exact⟨mp.sy,(v1.trans v2).trans mp.pv,by rw[<- hr];exact mp.gr,mp.rt,by rw[<- hr];exact mp.kd,mp.nm.trans hn,mp.pg.trans hp,nv2.nv⟩
 |false=>
  simp only[Bool.false_eq_true,↓reduceIte,Res.aS];have:=hv.five;exact⟨h,Pv.refl _,Gr.refl _,rfl,⟨omg,Or.inl dcd⟩,smp,smp,hv⟩
theorem WM(h:Sn p q)(h5:B5 q.rows):Sim (union p) (mQ q) λx=>DfP p q (mQ q) x:=by
 unfold union mQ;have hs:=h.sy;simp only;have rt:∀{e a:Int} (d:WR) (out:By) (nums parts:List Int) (f:Int) (y:Int×By×RS),Nb e a y.2.2->Nb e a { dI (dh (af (af y.2.2 4 [125]) 4 [59]) { row0 with kind:=13,of:=f,nums:=nums,parts:=parts,els:=y.1 }).2 d.s (dh (af (af y.2.2 4 [125]) 4 [59]) { row0 with kind:=13,of:=f,nums:=nums,parts:=parts,els:=y.1 }).1 with out:=(dI (dh (af (af y.2.2 4 [125]) 4 [59]) { row0 with kind:=13,of:=f,nums:=nums,parts:=parts,els:=y.1 }).2 d.s (dh (af (af y.2.2 4 [125]) 4 [59]) { row0 with kind:=13,of:=f,nums:=nums,parts:=parts,els:=y.1 }).1).out++out++[125,59,10] }:=λd out nums parts f y hb=>sU _ _ (nU _ (Or.inl (((bY 4 [125]) hb).fs (ay _ 4 [59]))));have rt2:∀{e a:Int} (w:WR) (d:Int×By×RS) (m:WR×RS),Nb e a m.2->Nb e a (aQ d.1 14 (af (af m.2 4 [41]) 4 [123]) [] [] [m.1.s] ([117,110,105,111,110,32]++w.s++[32,115,119,105,116,99,104,32,40]++d.2.1++[32]++m.1.s++[41,32,123,32])).2.2.2.2:=λw d m hb=>xq _ _ _ _ _ _ (Or.inl (((bY 4 [41]) hb).fs (ay _ 4 [123])));have e13:(14:Nat)=13+1:=rfl;refine Sim.bind (lZ hs) (λhb=>?_) λp1 ⟨h1,v1⟩=>?_
 .have hb:=qm 2 hb;generalize az (af q 2 [117,110,105,111,110]) 2=d at *;have hb:=hb.fs ((ay d.2 2 [115,119,105,116,99,104]).trans ((ay _ 4 [40]).trans (vU _)));generalize dP (af (af d.2 2 [115,119,105,116,99,104]) 4 [40])=nn at *;exact rt d.1 _ _ _ _ _ (rH _ _ (rt2 d.1 nn _ (Or.inl (hb.fs (uM _)))))
 have n1:Nm p1.names (af q 2 [117,110,105,111,110]).names:=by rw[v1.names,(aT ..).names];exact h.nm
 have sb1:=aT q 2 [117,110,105,111,110];have nv1:=aU h.nv 2 [117,110,105,111,110];generalize af q 2 [117,110,105,111,110]=q1 at *;have ct:=iJ q1 2;have nv2:=jF nv1.nv;refine Sim.bind (nX h1 n1) (λhb=>?_) λw ⟨w1,d1,h2,x2,dn,n2,dr,hnone⟩=>?_
 .generalize az q1 2=d at *;have hb:=((bY 2 [115,119,105,116,99,104]) hb).fs ((ay _ 4 [40]).trans (vU _));generalize dP (af (af d.2 2 [115,119,105,116,99,104]) 4 [40])=nn at *;exact rt d.1 _ _ _ _ _ (rH _ _ (rt2 d.1 nn _ (Or.inl (hb.fs (uM _)))))
 generalize az q1 2=d at *;rw[BP,Res.assoc];refine Sim.bind (lZ h2) (λhb=>?_) λp3 ⟨h3,v3⟩=>?_
 .have hb:=((bY 4 [40]) hb).fs (vU _);generalize dP (af (af d.2 2 [115,119,105,116,99,104]) 4 [40])=nn at *;exact rt d.1 _ _ _ _ _ (rH _ _ (rt2 d.1 nn _ (Or.inl (hb.fs (uM _)))))
 have sb3:=aT d.2 2 [115,119,105,116,99,104];have nv3:=aU nv2.nv 2 [115,119,105,116,99,104];generalize af d.2 2 [115,119,105,116,99,104]=q3 at *;refine Sim.bind (bT h3) (λhb=>?_) λp4 ⟨h4,v4⟩=>?_
 .have hb:=Xz hb;generalize dP (af q3 4 [40])=nn at *;exact rt d.1 _ _ _ _ _ (rH _ _ (rt2 d.1 nn _ (Or.inl (hb.fs (uM _)))))
 have sb4:=aT q3 4 [40];have nv4:=aU nv3.nv 4 [40];generalize af q3 4 [40]=q4 at *;have hr4:q4.rows=q.rows:=by rw[sb4.rows,sb3.rows,dr,sb1.rows]
 have sbn:=EI q4;have nvn:=(EO nv4.nv).1;refine Sim.bind (EF h4 nv4.nv (by rw[hr4];exact h5)) (λhb=>?_) λdd ⟨h5',v5,hof⟩=>?_
 .generalize dP q4=nn at *;exact rt d.1 _ _ _ _ _ (rH _ _ (rt2 d.1 nn _ (Or.inl (Ou hb))))
 generalize dP q4=nn at *;have sbm:=uy nn.2.2;have nvm:=GY nvn.nv;refine Sim.bind (YH h5') (λhb=>rt d.1 _ _ _ _ _ (rH _ _ (rt2 d.1 nn _ hb))) λnm ⟨h6,v6,l6,s6⟩=>?_;clear rt2;generalize fD nn.2.2=m at *;rw[BP,Res.assoc];refine Sim.bind (bT h6) (λhb=>rt d.1 _ _ _ _ _ (rH _ _ (xq _ _ _ _ _ _ (Or.inl ((bY 4 [123]) hb))))) λp7 ⟨h7,v7⟩=>?_;have sb7:=aT m.2 4 [41];have nv7:=aU nvm.nv 4 [41];generalize af m.2 4 [41]=q7 at *;refine Sim.bind (bT h7) (λhb=>rt d.1 _ _ _ _ _ (rH _ _ (xq _ _ _ _ _ _ hb))) λp8 ⟨h8,v8⟩=>?_;have sb8:=aT q7 4 [123];have nv8:=aU nv7.nv 4 [123];generalize af q7 4 [123]=q8 at *;have hr8:q8.rows=q.rows:=by rw[sb8.rows,sb7.rows,sbm.rows,sbn.rows,hr4]
 have hof8:OfR q8.rows dd.1 nn.1:=by rw[hr8,<- hr4];exact hof
 have hal:=FN (x:=dd.1) (f:=nn.1) 13 14 [] [m.1.s] [] ([117,110,105,111,110,32]++d.1.s++[32,115,119,105,116,99,104,32,40]++nn.2.1++[32]++m.1.s++[41,32,123,32]) (n:=q.rows.length) h8 nv8.nv hof8 (Nat.zero_le _) dcd dcd (by rw[hr8];exact Nat.le_refl _) rfl (λc hc=>by cases hc) (λc hc=>by cases hc);rw[l6];have hal:Sim (mO dd.1.2.1 dd.1.2.2.1 dd.1.2.2.2 13 p8 [] [m.1.s] []) _ _:=hal;have nvu:=(xf nn.1 14 nv8.nv [] [] [m.1.s] ([117,110,105,111,110,32]++d.1.s++[32,115,119,105,116,99,104,32,40]++nn.2.1++[32]++m.1.s++[41,32,123,32]) (Ps.nil _)).1;refine Sim.bind hal (λhb=>rt d.1 _ _ _ _ _ (rH _ _ hb)) λas ⟨new,a1,a2,a3,a4,a5,a6,a7,a8,a9,a10,a11⟩=>?_;clear hal;have e0:fE []=[]:=rfl;rw[e0]at a1 a2 a3 a4 a6 a8 a9 a10;generalize aQ nn.1 14 q8 [] [] [m.1.s] ([117,110,105,111,110,32]++d.1.s++[32,115,119,105,116,99,104,32,40]++nn.2.1++[32]++m.1.s++[41,32,123,32])=U at *;rw[<- Res.assoc];have hel:=YJ a4 nvu.nv U.2.2.1 U.2.2.2.1;rw[<- a3];refine Sim.bind hel (λhb=>rt d.1 _ _ _ _ _ hb) λe ⟨b1,b2,b3,b4,b5,b6,b7,b8⟩=>?_;change Sim _ { dI (dh (af (af (fH U.2.2.2.2 U.2.2.1 U.2.2.2.1).2.2 4 [125]) 4 [59]) { row0 with kind:=13,of:=nn.1,nums:=U.1,parts:=U.2.1,els:=(fH U.2.2.2.2 U.2.2.1 U.2.2.2.1).1 }).2 d.1.s (dh (af (af (fH U.2.2.2.2 U.2.2.1 U.2.2.2.1).2.2 4 [125]) 4 [59]) { row0 with kind:=13,of:=nn.1,nums:=U.1,parts:=U.2.1,els:=(fH U.2.2.2.2 U.2.2.1 U.2.2.2.1).1 }).1 with out:=(dI (dh (af (af (fH U.2.2.2.2 U.2.2.1 U.2.2.2.1).2.2 4 [125]) 4 [59]) { row0 with kind:=13,of:=nn.1,nums:=U.1,parts:=U.2.1,els:=(fH U.2.2.2.2 U.2.2.1 U.2.2.2.1).1 }).2 d.1.s (dh (af (af (fH U.2.2.2.2 U.2.2.1 U.2.2.2.1).2.2 4 [125]) 4 [59]) { row0 with kind:=13,of:=nn.1,nums:=U.1,parts:=U.2.1,els:=(fH U.2.2.2.2 U.2.2.1 U.2.2.2.1).1 }).1).out++(fH U.2.2.2.2 U.2.2.1 U.2.2.2.1).2.1++[125,59,10] } λx=>DfP p q { dI (dh (af (af (fH U.2.2.2.2 U.2.2.1 U.2.2.2.1).2.2 4 [125]) 4 [59]) { row0 with kind:=13,of:=nn.1,nums:=U.1,parts:=U.2.1,els:=(fH U.2.2.2.2 U.2.2.1 U.2.2.2.1).1 }).2 d.1.s (dh (af (af (fH U.2.2.2.2 U.2.2.1 U.2.2.2.1).2.2 4 [125]) 4 [59]) { row0 with kind:=13,of:=nn.1,nums:=U.1,parts:=U.2.1,els:=(fH U.2.2.2.2 U.2.2.1 U.2.2.2.1).1 }).1 with out:=(dI (dh (af (af (fH U.2.2.2.2 U.2.2.1 U.2.2.2.1).2.2 4 [125]) 4 [59]) { row0 with kind:=13,of:=nn.1,nums:=U.1,parts:=U.2.1,els:=(fH U.2.2.2.2 U.2.2.1 U.2.2.2.1).1 }).2 d.1.s (dh (af (af (fH U.2.2.2.2 U.2.2.1 U.2.2.2.1).2.2 4 [125]) 4 [59]) { row0 with kind:=13,of:=nn.1,nums:=U.1,parts:=U.2.1,els:=(fH U.2.2.2.2 U.2.2.1 U.2.2.2.1).1 }).1).out++(fH U.2.2.2.2 U.2.2.1 U.2.2.2.1).2.1++[125,59,10] } x;generalize fH U.2.2.2.2 U.2.2.1 U.2.2.2.1=E at *;clear rt;rw[BP,Res.assoc];refine Sim.bind (bT b1) (λhb=>sU _ _ (nU _ (Or.inl ((bY 4 [59]) hb)))) λp9 ⟨h9,v9⟩=>?_;have sb9:=aT E.2.2 4 [125];have nv9:=aU b8 4 [125];generalize af E.2.2 4 [125]=q9 at *;refine Sim.bind (bT h9) (λhb=>sU _ _ (nU _ hb)) λp10 ⟨h10,v10⟩=>?_;have sb10:=aT q9 4 [59];have nv10:=aU nv9.nv 4 [59];generalize af q9 4 [59]=q10 at *;have hdn:d.1.s=p1.w.s:=by rw[d1,h1.w]
 have hw:w.1=p1.w:=w1;have hr10:q10.rows=E.2.2.rows:=by rw[sb10.rows,sb9.rows]
 have hn6:q10.names=q.names++[⟨p1.w.s,2,-1,(p1.w.at_:Nat)⟩]:=by rw[sb10.names,sb9.names,b6,a9,sb8.names,sb7.names,sbm.names,sbn.names,sb4.names,sb3.names,dn,sb1.names]
 have hp6:q10.aj=q.aj:=by rw[sb10.aj,sb9.aj,b7,a10,sb8.aj,sb7.aj,sbm.aj,sbn.aj,sb4.aj,sb3.aj,ct.aj,sb1.aj]
 have hnq:nix p1.w.s q.names=none:=by rw[<- sb1.names];exact hnone
 have g1:Gr q.rows U.2.2.2.2.rows new:=by rw[<- hr8];exact a6
 have g10:Gr q.rows q10.rows (new++DV e.1):=by rw[hr10];exact g1.trans b3
 have hrow:=yB h10 nv10.nv { row0 with kind:=13,of:=nn.1,nums:=U.1,parts:=U.2.1,els:=E.1 };have Xp:rowAt (dh q10 { row0 with kind:=13,of:=nn.1,nums:=U.1,parts:=U.2.1,els:=E.1 }).2.rows (dh q10 { row0 with kind:=13,of:=nn.1,nums:=U.1,parts:=U.2.1,els:=E.1 }).1={ row0 with kind:=13,of:=nn.1,nums:=U.1,parts:=U.2.1,els:=E.1 }:=pY qB;have hsy:=KT hrow (l:=q.names) (tail:=[]) (s:=p1.w.s) (a:=(p1.w.at_:Nat)) hnq hn6 (r:=(dh q10 { row0 with kind:=13,of:=nn.1,nums:=U.1,parts:=U.2.1,els:=E.1 }).1) (by rw[Xp];show (13:Int)≠5;decide);have hty:=Ih (q:=(dh q10 { row0 with kind:=13,of:=nn.1,nums:=U.1,parts:=U.2.1,els:=E.1 }).2) (l:=q.names) (tail:=[]) (s:=p1.w.s) (a:=(p1.w.at_:Nat)) hnq hn6 (dh q10 { row0 with kind:=13,of:=nn.1,nums:=U.1,parts:=U.2.1,els:=E.1 }).1;rw[hdn];have hrefs:DZ (.union dd.1.1 nm.1.s as.1 e.1)=new++DV e.1:=by
  show Aq as.1++_=_;rw[a7,show Aq []++new=new from rfl];cases e.1<;>rfl
 refine⟨?_,?_,?_,⟨⟨p1.w.s,1,(dh q10 { row0 with kind:=13,of:=nn.1,nums:=U.1,parts:=U.2.1,els:=E.1 }).1,(p1.w.at_:Nat)⟩,[],?_,by rw[hw],by rw[hw],(λy hy=>by cases hy),?_⟩,λhn2=>?_,λhnd=>by rw[hty];exact uG hnd hnq⟩
 .exact Ip hsy _
 .show (dI (dh q10 { row0 with kind:=13,of:=nn.1,nums:=U.1,parts:=U.2.1,els:=E.1 }).2 p1.w.s (dh q10 { row0 with kind:=13,of:=nn.1,nums:=U.1,parts:=U.2.1,els:=E.1 }).1).names.map (λx=>x.s)=p10.names;rw[hty,v10.names,v9.names,b2.names,a5.names,v8.names,v7.names,v6.names,v5.names,v4.names,v3.names,x2.names,v1.names];have e:q.names.map (λx=>x.s)=p.names:=h.nm;simp only[List.map_append,e];rfl
 .rw[hty];show Gr q.rows (q10.rows++[_]) (DZ (.union dd.1.1 nm.1.s as.1 e.1));rw[hrefs];refine g10.snoc (by show (13:Int)≠14;decide) λc hc=>?_;have hc:c∈U.2.1++[E.1]:=hc;show Kd q.rows.length q10.rows c;rw[hr10];rcases List.mem_append.mp hc with hc|hc
  .exact(a8 c hc).gr b3
  .rw[List.mem_singleton.mp hc];refine⟨b5.1,?_⟩;have:=g1.le;rcases b5.2 with h|h
   .exact Or.inl h
   .exact Or.inr omg
 .rw[hty]
 .rw[hty];show (1:Int)=1/\DK (q10.rows++[_]) ((q10.rows.length:Nat):Int) (.union dd.1.1 nm.1.s as.1 e.1)/\Ls q.rows (q10.rows++[_]) ((q10.rows.length:Nat):Int);have hdk:0<=((q10.rows.length:Nat):Int)/\(q10.rows++[({ row0 with kind:=13,of:=nn.1,nums:=U.1,parts:=U.2.1,els:=E.1 }:eU)])[((q10.rows.length:Nat):Int).toNat]?=some { row0 with kind:=13,of:=nn.1,nums:=fE as.1,parts:=U.2.1,els:=E.1 }:=⟨omg,by rw[qB,a1]⟩;have hts:RTs (q10.rows++[({ row0 with kind:=13,of:=nn.1,nums:=U.1,parts:=U.2.1,els:=E.1 }:eU)]) (Nq as.1) U.2.1:=by rw[hr10];exact(a2.gr b3).app
  refine⟨rfl,?_,xu g10.le⟩;cases he:e.1 with
  |none=>
   rw[he]at b4;exact⟨hdk.1,nn.1,U.2.1,E.1,hdk.2,hts,b4,a11⟩
  |some dl=>
   rw[he]at b4;exact⟨hdk.1,nn.1,U.2.1,E.1,hdk.2,hts,by rw[hr10];exact RT.app b4,a11⟩
 .rw[hty];show q10.aj.length=p10.n2;rw[hp6,hn2,v10.n2,v9.n2,b2.n2,a5.n2,v8.n2,v7.n2,v6.n2,v5.n2,v4.n2,v3.n2,x2.n2,v1.n2]
end Go.M
namespace Go.M
variable {p:PS} {q:RS}
structure SP (p:PS) (q q':RS) (l:List (By×Int)) (p':PS):Prop where
 sy:Sy p' q'
 pv:Pv p p'
 gr:Gr q.rows q'.rows l
 nm:q'.names=q.names
 pg:q'.aj=q.aj
 nv:Nv q'
theorem SP.trans(h:SP p q q' l p')(k:SP p' q' s m r):SP p q s (l++m) r:=⟨k.sy,h.pv.trans k.pv,h.gr.trans k.gr,k.nm.trans h.nm,k.pg.trans h.pg,k.nv⟩
theorem SP.sb(h:Sy p' q')(v:Pv p p')(s:Sb q q')(hv:Nv q):SP p q q' [] p':=⟨h,v,Gr.same s.rows,s.names,s.aj,(hv.sb s).nv⟩
theorem aau(q:RS):(fO q).2.2.names=q.names/\(fO q).2.2.aj=q.aj:=by
 have:=OG q;refine⟨?_,this.aj⟩;unfold fO;split
 .rfl
 split
 .rfl
 split
 .rfl
 split
 .rfl
 split
 .rfl
 split
 .simp only;split
  .rfl
  .simp only;split<;>rfl
 .exact(sF q).names
theorem PQ(h:Sy p q)(hv:Nv q):Sim (side p) (fV q).2.2 λx=>SP p q (fV q).2.2 (refs x.1) x.2/\RT (fV q).2.2.rows x.1 (fV q).1:=by
 unfold side fV take;have hk:=h.key (K:=[118,111,105,100]);rw[<- hk];cases hi:is_ q 2 [118,111,105,100]with
 |true=>
  refine fif ?_;rw[Res.assoc];refine Sim.bind (dC h) (λhb=>hb) λp1 ⟨h1,v1⟩=>?_;simp only[Res.aS,↓reduceIte];exact⟨SP.sb h1 v1 (iC q) hv,rfl⟩
 |false=>
  simp only[Bool.false_eq_true,↓reduceIte,Res.aS];exact(PU h hv).mono λx kp=>⟨⟨kp.sy,kp.pv,kp.gr,kp.nm,(aau q).2,(GZ hv).1.nv⟩,kp.rt⟩
theorem wP(h:Sy p q)(hv:Nv q)(l:List Int):Sim (numbered p l) (aI q l).2.2 λx=>SP p q (aI q l).2.2 [] x.2.2/\(aI q l).1=x.2.1/\(aI q l).2.1=x.1:=by
 have sbn:=lJ q l;unfold numbered aI at *;simp only at sbn ⊢;refine Sim.bind (bT h) (λhb=>?_) λp1 ⟨h1,v1⟩=>?_
 .have h1:=vX 0 4294967295 hb;generalize ak (af q 4 [61]) 0 4294967295=v at *;have e2:(v.2.2.e==0)=false:=by rw[h1.2.1];simpa using h1.1
  rw[e2,Bool.false_and,if_neg smp];exact Or.inl (h1.fs (ay _ _ _))
 generalize af q 4 [61]=q1 at *;refine Sim.bind (Iw h1 0 4294967295 l) (λhb=>Or.inl ((bY 4 [59]) hb)) λy ⟨_,_,hy,hy1,hy2,h2,v2⟩=>?_;have hv1:(ak q1 0 4294967295).1=y.1:=by rw[hy]
 have hq2:(if(ak q1 0 4294967295).2.2.e==0&&l.contains (ak q1 0 4294967295).1 then aK (ak q1 0 4294967295).2.2 6 (ak q1 0 4294967295).2.1 else(ak q1 0 4294967295).2.2)=aB q1:=by
  rw[hy];simp only;rw[hy2,Bool.and_false,if_neg smp]
 rw[hq2]at sbn ⊢;rw[hv1];refine Sim.bind (bT h2) (λhb=>hb) λp3 ⟨h3,v3⟩=>?_;exact⟨SP.sb h3 ((v1.trans v2).trans v3) sbn hv,hy1.symm,rfl⟩
def vK(l:List pG):List (By×Int):=l.flatMap λx=>refs x.res++refs x.arg
theorem yV(hb:Nb e a q):Nb e a (af (dw k q out l words ns).1 4 [125]):=
 Or.inl ((bY 4 [125]) (Qx k out l words ns hb))
theorem CB:∀(k:Nat) {p:PS} {q:RS} (qs:List pG) (l:List PcR) (words:List By) (ns:List Int) (out:By),Sy p q->Nv q->k+l.length=8 ->
  Sim (jW k p qs words ns) (af (dw (k+2) q out l words ns).1 4 [125]) λx=>∃new,SP p q (af (dw (k+2) q out l words ns).1 4 [125]) new x.2/\vK x.1=vK qs++new
 |k,p,q,qs,l,words,ns,out,h,hv,hk=>by
  have fin:∀{e a:Int},Fd e a (aG q (l.length:Nat) 8)->Nb e a (af (dw (k+2) q out l words ns).1 4 [125]):=λhb=>by
   rw[dw,if_pos (by rw[h.e];rfl)];simp only;have hb:=hb.fs (oZ _);generalize fV (aG q (l.length:Nat) 8)=r at *;have hb:=hb.fs ((zg r.2.2 words).trans (ay _ 4 [40]));generalize dO r.2.2 words=m at *;have hb:=hb.fs ((oZ _).trans (ay _ 4 [41]));generalize fV (af m.2.2 4 [40])=d at *;have hb:=hb.fs (gQ _ ns);generalize aI (af d.2.2 4 [41]) ns=n at *;rw[hb.is,if_neg (by simp)];exact yV (Or.inl hb)
  cases k with
  |zero=>
   have hf:=qX h (l.length:Nat) 8;rw[if_pos (by omega)]at hf;have hw:q.w.at_=(p.w.at_:Nat):=by rw[h.w]
   rw[hw]at hf;refine fin ?_;rw[hf];exact mJ h.e (by decide)
  |succ k=>
   clear fin;rw[jW,show k+1+2=(k+2)+1 from rfl,dw,if_pos (by rw[h.e];rfl)];have hf0:=qX h (l.length:Nat) 8;rw[if_neg (by omega)]at hf0;simp only[hf0];have fin:∀{e a:Int} (r:Int×By×RS) (m:List By×WR×RS) (d:Int×By×RS) (n:List Int×Int×RS),Nb e a n.2.2->Nb e a (af (if is_ n.2.2 4 [125]then(n.2.2,out++r.2.1++[32]++m.2.1.s++[40]++d.2.1++[41,32,61,32]++nI_ n.2.1++[59,32],l++[⟨0,0,n.2.1,d.1,r.1⟩])else dw (k+2) n.2.2 (out++r.2.1++[32]++m.2.1.s++[40]++d.2.1++[41,32,61,32]++nI_ n.2.1++[59,32]) (l++[⟨0,0,n.2.1,d.1,r.1⟩]) m.1 n.1).1 4 [125]):=λr m d n hb=>by
    rw[hb.is (by decide),if_neg (by simp)];exact yV hb
   refine Sim.bind (PQ h hv) (λhb=>?_) λx ⟨sp1,_⟩=>?_
   .generalize fV q=r at *;have hb:=Ro words hb;generalize dO r.2.2 words=m at *;have hb:=hb.fs ((ay m.2.2 4 [40]).trans (oZ _));generalize fV (af m.2.2 4 [40])=d at *;have hb:=hb.fs ((ay d.2.2 4 [41]).trans (gQ _ ns));exact fin r m d _ (Or.inl hb)
   generalize fV q=r at *;have hca:=wQ sp1.sy words
   have hca:Sim (called x.2 words) (dO r.2.2 words).2.2 λy=>Sy y.2.2 (dO r.2.2 words).2.2/\Pv x.2 y.2.2/\(dO r.2.2 words).1=y.2.1:=hca.mono λy ⟨c1,c2,c3,c4,c5,_⟩=>⟨c1,c2,by
    show words++[(dS r.2.2 words false).1.s]=_
    rw[c3,c4,sp1.sy.w,c5]⟩
   have sba:Sb r.2.2 (dO r.2.2 words).2.2:=oJ r.2.2 words false;refine Sim.bind hca (λhb=>?_) λy ⟨h2,v2,l2⟩=>?_
   .generalize dO r.2.2 words=m at *;have hb:=((bY 4 [40]) hb).fs (oZ _);generalize fV (af m.2.2 4 [40])=d at *;have hb:=hb.fs ((ay d.2.2 4 [41]).trans (gQ _ ns));exact fin r m d _ (Or.inl hb)
   generalize dO r.2.2 words=m at *;refine Sim.bind (bT h2) (λhb=>?_) λp3 ⟨h3,v3⟩=>?_
   .have hb:=acG hb;generalize fV (af m.2.2 4 [40])=d at *;have hb:=hb.fs ((ay d.2.2 4 [41]).trans (gQ _ ns));exact fin r m d _ (Or.inl hb)
   have sb3:=aT m.2.2 4 [40];have sp3:=sp1.trans (SP.sb h3 (v2.trans v3) (sba.trans sb3) sp1.nv);generalize af m.2.2 4 [40]=q3 at *;refine Sim.bind (PQ h3 sp3.nv) (λhb=>?_) λz ⟨sp4,_⟩=>?_
   .generalize fV q3=d at *;have hb:=((bY 4 [41]) hb).fs (gQ _ ns);exact fin r m d _ (Or.inl hb)
   generalize fV q3=d at *;refine Sim.bind (bT sp4.sy) (λhb=>fin r m d _ (Or.inl (uP ns hb))) λp5 ⟨h5,v5⟩=>?_;have sp5:=SP.sb h5 v5 (aT d.2.2 4 [41]) sp4.nv;generalize af d.2.2 4 [41]=q5 at *;refine Sim.bind (wP h5 sp5.nv ns) (λhb=>fin r m d _ hb) λu ⟨sp6,n6,_⟩=>?_;clear fin;generalize aI q5 ns=nu at *;have sp:=((sp3.trans sp4).trans sp5).trans sp6;have eref:vK (qs++[⟨y.1.s,u.1,z.1,x.1⟩])=vK qs++(refs x.1++refs z.1):=by simp[vK]
   have sp:SP p q nu.2.2 (refs x.1++refs z.1) u.2.2:=by
    simp only[List.append_nil]at sp;exact sp
   unfold take;have IE:=sp.sy.sign (c:=125);rw[<- IE];cases hi:is_ nu.2.2 4 [125]with
   |true=>
    simp only[↓reduceIte];rw[vF hi,Res.assoc];refine Sim.bind (dC sp.sy) (λhb=>hb) λp7 ⟨h7,v7⟩=>?_;have:=sp.trans (SP.sb h7 v7 (iC nu.2.2) sp.nv);rw[List.append_nil]at this;exact⟨_,this,eref⟩
   |false=>
    simp only[Bool.false_eq_true,↓reduceIte,Res.aS];rw[<- l2,<- n6];have ih:=CB k (qs++[⟨y.1.s,u.1,z.1,x.1⟩]) (l++[⟨0,0,nu.2.1,d.1,r.1⟩]) m.1 nu.1 (out++r.2.1++[32]++m.2.1.s++[40]++d.2.1++[41,32,61,32]++nI_ nu.2.1++[59,32]) sp.sy sp.nv (by simp only[List.length_append,List.length_cons,List.length_nil];omega);exact ih.mono λv ⟨new,a1,a2⟩=>⟨_,sp.trans a1,by rw[a2,eref,List.append_assoc]⟩
def CZ(l:List qw):List (By×Int):=l.flatMap λv=>vK v.procs
theorem PO(h:Sy p q)(hv:Nv q)(names:List By)(nums:List Int):Sim (version p names nums) (aZ q names nums).2.2.2.2 λx=>SP p q (aZ q names nums).2.2.2.2 (vK x.1.procs) x.2.2.2/\(aZ q names nums).1=x.2.1/\(aZ q names nums).2.1=x.2.2.1:=by
 unfold version aZ;simp only;have fin:∀{e a:Int} (w:List By×WR×RS),Nb e a (af w.2.2 4 [123])->Nb e a (aI (af (dw 10 (af w.2.2 4 [123]) ([118,101,114,115,105,111,110,32]++w.2.1.s++[32,123,32]) [] [] []).1 4 [125]) nums).2.2:=λw hb=>Or.inl (uP nums (yV hb));refine Sim.bind (lZ h) (λhb=>fin _ (Or.inl ((Ro names hb).fs (ay _ _ _)))) λp1 ⟨h1,v1⟩=>?_;have sp1:=SP.sb h1 v1 (aT q 2 [118,101,114,115,105,111,110]) hv;generalize af q 2 [118,101,114,115,105,111,110]=q1 at *;have hca:=wQ h1 names
 have hca:Sim (called p1 names) (dO q1 names).2.2 λy=>Sy y.2.2 (dO q1 names).2.2/\Pv p1 y.2.2/\(dO q1 names).1=y.2.1:=hca.mono λy ⟨c1,c2,c3,c4,c5,_⟩=>⟨c1,c2,by
  show names++[(dS q1 names false).1.s]=_
  rw[c3,c4,h1.w,c5]⟩
 have sba:Sb q1 (dO q1 names).2.2:=oJ q1 names false;refine Sim.bind hca (λhb=>fin _ (Or.inl ((bY 4 [123]) hb))) λy ⟨h2,v2,l2⟩=>?_;generalize dO q1 names=w at *;refine Sim.bind (bT h2) (λhb=>fin w hb) λp3 ⟨h3,v3⟩=>?_;have sp3:=sp1.trans (SP.sb h3 (v2.trans v3) (sba.trans (aT w.2.2 4 [123])) sp1.nv);generalize af w.2.2 4 [123]=q3 at *;have hpl:=CB 8 [] [] [] [] ([118,101,114,115,105,111,110,32]++w.2.1.s++[32,123,32]) h3 sp3.nv rfl;refine Sim.bind hpl (λhb=>Or.inl (uP nums hb)) λx ⟨new,sp4,r4⟩=>?_;clear fin;have e10:(8+2:Nat)=10:=rfl;rw[e10]at sp4;generalize af (dw 10 q3 ([118,101,114,115,105,111,110,32]++w.2.1.s++[32,123,32]) [] [] []).1 4 [125]=q4 at *;refine Sim.bind (wP sp4.sy sp4.nv nums) (λhb=>hb) λu ⟨sp5,n5,_⟩=>?_;have sp:=(sp3.trans sp4).trans sp5;have r4:vK x.1=new:=r4;refine⟨?_,l2,n5⟩;show SP p q _ (vK x.1) _;rw[r4];simpa only[List.nil_append,List.append_nil] using sp
theorem qM(hb:Nb e a q):Nb e a (af (dK k q out l words ns).1 4 [125]):=
 Or.inl ((bY 4 [125]) (Qw k out l words ns hb))
theorem Cm:∀(k:Nat) {p:PS} {q:RS} (vs:List qw) (l:List PcR) (words:List By) (ns:List Int) (out:By),Sy p q->Nv q->k+ns.length=4 ->
  Sim (jR k p vs words ns) (af (dK (k+2) q out l words ns).1 4 [125]) λx=>∃new,SP p q (af (dK (k+2) q out l words ns).1 4 [125]) new x.2/\CZ x.1=CZ vs++new
 |k,p,q,vs,l,words,ns,out,h,hv,hk=>by
  have fin:∀{e a:Int},Nb e a (aZ (aG q (ns.length:Nat) 4) words ns).2.2.2.2->Nb e a (af (dK (k+2) q out l words ns).1 4 [125]):=λhb=>by
   rw[dK,if_pos (by rw[h.e];rfl)];simp only;generalize aZ (aG q (ns.length:Nat) 4) words ns=v at *;rw[hb.is (by decide),if_neg (by simp)];exact qM hb
  cases k with
  |zero=>
   have hf:=qX h (ns.length:Nat) 4;rw[if_pos (by omega)]at hf;have hw:q.w.at_=(p.w.at_:Nat):=by rw[h.w]
   rw[hw]at hf;refine fin ?_;rw[hf];exact Or.inl ((mJ h.e (by decide)).fs (xB _ _ _))
  |succ k=>
   rw[jR,show k+1+2=(k+2)+1 from rfl];have hf0:=qX h (ns.length:Nat) 4;rw[if_neg (by omega)]at hf0;rw[hf0]at fin;have hnl:(aZ q words ns).2.1.length=ns.length+1:=by unfold aZ aI;simp
   refine Sim.bind (PO h hv words ns) (λhb=>fin hb) λx ⟨sp,l1,n1⟩=>?_;clear fin;rw[dK,if_pos (by rw[h.e];rfl)];simp only[hf0];generalize aZ q words ns=v at *;have eref:CZ (vs++[x.1])=CZ vs++vK x.1.procs:=by simp[CZ]
   unfold take;have IE:=sp.sy.sign (c:=125);rw[<- IE];cases hi:is_ v.2.2.2.2 4 [125]with
   |true=>
    simp only[↓reduceIte];rw[vF hi,Res.assoc];refine Sim.bind (dC sp.sy) (λhb=>hb) λp7 ⟨h7,v7⟩=>?_;have:=sp.trans (SP.sb h7 v7 (iC v.2.2.2.2) sp.nv);rw[List.append_nil]at this;exact⟨_,this,eref⟩
   |false=>
    simp only[Bool.false_eq_true,↓reduceIte,Res.aS];rw[<- l1,<- n1];have ih:=Cm k (vs++[x.1]) (l++v.2.2.1) v.1 v.2.1 (out++v.2.2.2.1) sp.sy sp.nv (by omega);exact ih.mono λu ⟨new,a1,a2⟩=>⟨_,sp.trans a1,by rw[a2,eref,List.append_assoc]⟩
theorem PT(h:Sn p q)(hn2:(q.aj.length:Nat)=p.n2):Sim (program p) (iy q) λx=>DfP p q (iy q) x:=by
 unfold program iy;have hs:=h.sy;simp only;have hf:Sim (count p p.n2 4) (aG q ((q.aj.length:Nat):Int) 4) λ_=>aG q ((q.aj.length:Nat):Int) 4=q:=by
  rw[<- hn2];exact zM hs q.aj.length 4
 have rt:∀{e a:Int} (r:RS) (l:List PcR) (o:By),Nb e a r->Nb e a ({ (aI r r.aj).2.2 with aj:=(aI r r.aj).1,procs:=(aI r r.aj).2.2.procs++l,out:=o }:RS):=λr l o hb=>Or.inl (uP r.aj hb);refine Sim.bind hf (λhb=>?_) λ_ hq1=>?_
 .have hb:=((bY 2 [112,114,111,103,114,97,109]) hb).fs ((ig _ 2).trans (ay _ 4 [123]));generalize az (af (aG q ((q.aj.length:Nat):Int) 4) 2 [112,114,111,103,114,97,109]) 2=d at *;exact rt _ _ _ (qM (Or.inl hb))
 have hq1:aG q ((q.aj.length:Nat):Int) 4=q:=hq1;rw[hq1];clear hf hq1;have hs':Sy { p with n2:=p.n2+1 } q:=⟨hs.e,hs.txt,hs.w,hs.wok,hs.consts,hs.enums,hs.n0,hs.n1,hs.aj⟩;refine Sim.bind (lZ hs') (λhb=>?_) λp1 ⟨h1,v1⟩=>?_
 .have hb:=(qm 2 hb).fs (ay _ 4 [123]);generalize az (af q 2 [112,114,111,103,114,97,109]) 2=d at *;exact rt _ _ _ (qM (Or.inl hb))
 have n1:Nm p1.names (af q 2 [112,114,111,103,114,97,109]).names:=by rw[v1.names,(aT ..).names];exact h.nm
 have sb1:=aT q 2 [112,114,111,103,114,97,109];have nv1:=aU h.nv 2 [112,114,111,103,114,97,109];generalize af q 2 [112,114,111,103,114,97,109]=q1 at *;have ct:=iJ q1 2;have nv2:=jF nv1.nv;refine Sim.bind (nX h1 n1) (λhb=>?_) λw ⟨w1,d1,h2,x2,dn,n2,dr,hnone⟩=>?_
 .have hb:=((bY 4 [123]) hb);generalize az q1 2=d at *;exact rt _ _ _ (qM (Or.inl hb))
 generalize az q1 2=d at *;refine Sim.bind (bT h2) (λhb=>rt _ _ _ (qM hb)) λp3 ⟨h3,v3⟩=>?_;have sb3:=aT d.2 4 [123];have nv3:=aU nv2.nv 4 [123];generalize af d.2 4 [123]=q3 at *;have hvl:=Cm 4 [] [] [] [] ([112,114,111,103,114,97,109,32]++d.1.s++[32,123,32]) h3 nv3.nv rfl;refine Sim.bind hvl (λhb=>rt _ _ _ hb) λx ⟨new,sp4,r4⟩=>?_;clear rt;have e6:(4+2:Nat)=6:=rfl;rw[e6]at sp4;generalize dK 6 q3 ([112,114,111,103,114,97,109,32]++d.1.s++[32,123,32]) [] [] []=L at *;generalize af L.1 4 [125]=q4 at *;have hpg4:q4.aj=x.2.aj:=sp4.sy.aj;rw[<- hpg4];have hnl:(aI q4 q4.aj).1.length=q4.aj.length+1:=by unfold aI;simp
 have sbn:=lJ q4 q4.aj;refine Sim.bind (wP sp4.sy sp4.nv q4.aj) (λhb=>hb) λu ⟨sp5,n5,n5'⟩=>?_;generalize aI q4 q4.aj=nu at *;have hw:w.1=p1.w:=w1;have hnq:nix p1.w.s q.names=none:=by rw[<- sb1.names];exact hnone
 have ja:nu.2.2.names=q.names++[⟨p1.w.s,2,-1,(p1.w.at_:Nat)⟩]:=by rw[sp5.nm,sp4.nm,sb3.names,dn,sb1.names]
 have hg:Gr q.rows nu.2.2.rows new:=by
  have:=sp4.gr.trans sp5.gr;rw[List.append_nil,sb3.rows,dr,sb1.rows]at this;exact this
 have hpgq:q4.aj=q.aj:=by rw[sp4.pg,sb3.aj,ct.aj,sb1.aj]
 have hs5:=sp5.sy;refine⟨⟨hs5.e,hs5.txt,hs5.w,hs5.wok,hs5.consts,hs5.enums,hs5.n0,hs5.n1,n5⟩,?_,?_,⟨⟨p1.w.s,2,-1,(p1.w.at_:Nat)⟩,[],ja,by rw[hw],by rw[hw],(λy hy=>by cases hy),?_⟩,λhn=>?_,λhnd=>?_⟩
 .show nu.2.2.names.map (λx=>x.s)=u.2.2.names;rw[ja,List.map_append,sp5.pv.names,sp4.pv.names,v3.names,x2.names,v1.names];have:q.names.map (λx=>x.s)=p.names:=h.nm;rw[this];rfl
 .show Gr q.rows nu.2.2.rows (CZ x.1);rw[r4];exact hg
 .show ¬ ((2:Int)=1);decide
 .show nu.1.length=u.2.2.n2;rw[hnl,hpgq,hn,sp5.pv.n2,sp4.pv.n2,v3.n2,x2.n2,v1.n2]
 .show Ndp nu.2.2.names;rw[ja];exact uG hnd hnq
end Go.M
namespace Go.M
variable {p:PS} {q:RS}
theorem Vu(h:Wok w)(hK:2<=K.length)(hi:w.is K=true):(w.kind==2)=true/\w.s=K:=by
 rw[h.key hK,Bool.and_eq_true]at hi;exact⟨hi.1,by simpa using hi.2⟩
theorem Iz(h:Sn p q)(h5:B5 q.rows)(hn2:(q.aj.length:Nat)=p.n2):Sim (definition p) (bQ q) λx=>DfP p q (bQ q) x:=by
 unfold definition bQ;have hs:=h.sy;rw[hs.key (K:=[99,111,110,115,116]),hs.key (K:=[112,114,111,103,114,97,109])];cases h1:p.w.is [99,111,110,115,116]with
 |true=>
  refine fif ?_;exact Ny h
 |false=>
 refine fif ?_;cases h2:p.w.is [112,114,111,103,114,97,109]with
 |true=>
  refine fif ?_;exact PT h hn2
 |false=>
 refine fif ?_;have hk2:(q.w.kind != 2)=(p.w.kind != 2):=by
  unfold bne;rw[show (q.w.kind==2)=(p.w.kind==2)from hs.kind 2]
 have hss:q.w.s=p.w.s:=by rw[hs.w]
 rw[hk2,hss];have kt:=hs.wok.key (K:=[116,121,112,101,100,101,102]) dcd;have ke:=hs.wok.key (K:=[101,110,117,109]) dcd;have kst:=hs.wok.key (K:=[115,116,114,117,99,116]) dcd;have ku:=hs.wok.key (K:=[117,110,105,111,110]) dcd;have hs':Sn { p with n0:=p.n0+1 } { q with types:=q.types+1 }:=⟨⟨hs.e,hs.txt,hs.w,hs.wok,hs.consts,hs.enums,by show q.types+1=((p.n0+1:Nat):Int);rw[hs.n0];omega,hs.n1,hs.aj⟩,h.nm,(h.nv.same (q:={ q with types:=q.types+1 }) rfl rfl).nv⟩
 have go:∀(f:PS->Res (Def×PS)) (g:RS->RS),(∀r,Fs r (g r))->Sim (f { p with n0:=p.n0+1 }) (g { q with types:=q.types+1 }) (λx=>DfP { p with n0:=p.n0+1 } { q with types:=q.types+1 } (g { q with types:=q.types+1 }) x) ->
   Sim ((count p p.n0 24).andThen λ_=>f { p with n0:=p.n0+1 }) (g { aG q q.types 24 with types:=(aG q q.types 24).types+1 }) λx=>DfP p q (g { aG q q.types 24 with types:=(aG q q.types 24).types+1 }) x:=λf g hg hfg=>by
  have hc:=zM hs p.n0 24;rw[<- hs.n0]at hc;cases hcc:count p p.n0 24 with
  |no e a=>
   rw[hcc]at hc;have hc:Nb (e:Nat) (a:Nat) (aG q q.types 24):=hc;simp only[Res.oO];rcases hc with hc|hc
   .have h1:Fd (e:Nat) (a:Nat) { aG q q.types 24 with types:=(aG q q.types 24).types+1 }:=hc;exact Or.inl (h1.fs (hg _))
   .exfalso;have hf:=qX hs q.types 24;have hne:(aG q q.types 24).e=0:=hc.2.1;rw[hf]at hne hc;split at hne
    .have:=(mJ (q:=q) hs.e (e:=5) (a:=q.w.at_) dcd).2.1;rw[this]at hne;cases hne
    .rename_i hge;unfold count at hcc;rw[if_neg (by have:=hs.n0;omega)]at hcc;cases hcc
  |ok u=>
   rw[hcc]at hc;have hc:aG q q.types 24=q:=hc;rw[hc];simp only[Res.aS];exact hfg.mono λx d=>⟨d.sy,d.nm,d.gr,d.hd,d.n2,d.nd⟩
 cases ht:p.w.is [116,121,112,101,100,101,102]with
 |true=>
  obtain⟨e1,e2⟩:=Vu hs.wok dcd ht;have hc:(p.w.kind != 2||(p.w.s != [116,121,112,101,100,101,102]&&p.w.s != [101,110,117,109]&&p.w.s != [115,116,114,117,99,116]&&p.w.s != [117,110,105,111,110]))=false:=by unfold bne;rw[e1,e2];rfl
  have c1:(p.w.s==[116,121,112,101,100,101,102])=true:=by rw[e2];rfl
  simp only[hc,c1,Bool.false_eq_true,↓reduceIte];exact go alias iK BD (WO hs' h5)
 |false=>
 cases he:p.w.is [101,110,117,109]with
 |true=>
  obtain⟨e1,e2⟩:=Vu hs.wok dcd he;have hc:(p.w.kind != 2||(p.w.s != [116,121,112,101,100,101,102]&&p.w.s != [101,110,117,109]&&p.w.s != [115,116,114,117,99,116]&&p.w.s != [117,110,105,111,110]))=false:=by unfold bne;rw[e1,e2];rfl
  have c1:(p.w.s==[116,121,112,101,100,101,102])=false:=by rw[e2];rfl
  have c2:(p.w.s==[101,110,117,109])=true:=by rw[e2];rfl
  simp only[hc,c1,c2,Bool.false_eq_true,↓reduceIte];exact go enum bZ tK (YI hs')
 |false=>
 cases hst:p.w.is [115,116,114,117,99,116]with
 |true=>
  obtain⟨e1,e2⟩:=Vu hs.wok dcd hst;have hc:(p.w.kind != 2||(p.w.s != [116,121,112,101,100,101,102]&&p.w.s != [101,110,117,109]&&p.w.s != [115,116,114,117,99,116]&&p.w.s != [117,110,105,111,110]))=false:=by unfold bne;rw[e1,e2];rfl
  have c1:(p.w.s==[116,121,112,101,100,101,102])=false:=by rw[e2];rfl
  have c2:(p.w.s==[101,110,117,109])=false:=by rw[e2];rfl
  have c3:(p.w.s==[115,116,114,117,99,116])=true:=by rw[e2];rfl
  simp only[hc,c1,c2,c3,Bool.false_eq_true,↓reduceIte];exact go jE fC xE (Tz hs')
 |false=>
 cases hu:p.w.is [117,110,105,111,110]with
 |true=>
  obtain⟨e1,e2⟩:=Vu hs.wok dcd hu;have hc:(p.w.kind != 2||(p.w.s != [116,121,112,101,100,101,102]&&p.w.s != [101,110,117,109]&&p.w.s != [115,116,114,117,99,116]&&p.w.s != [117,110,105,111,110]))=false:=by unfold bne;rw[e1,e2];rfl
  have c1:(p.w.s==[116,121,112,101,100,101,102])=false:=by rw[e2];rfl
  have c2:(p.w.s==[101,110,117,109])=false:=by rw[e2];rfl
  have c3:(p.w.s==[115,116,114,117,99,116])=false:=by rw[e2];rfl
  simp only[hc,c1,c2,c3,Bool.false_eq_true,↓reduceIte];exact go union mQ Jy (WM hs' h5)
 |false=>
  rw[ht]at kt;rw[he]at ke;rw[hst]at kst;rw[hu]at ku;have hc:(p.w.kind != 2||(p.w.s != [116,121,112,101,100,101,102]&&p.w.s != [101,110,117,109]&&p.w.s != [115,116,114,117,99,116]&&p.w.s != [117,110,105,111,110]))=true:=by
   unfold bne;cases hkk:p.w.kind==2 with
   |false=>rfl
   |true=>
    rw[hkk,Bool.true_and]at kt ke kst ku;rw[<- kt,<- ke,<- kst,<- ku];rfl
  simp only[hc,Bool.false_eq_true,↓reduceIte];exact zN hs
structure PR (q:RS) (ds:List Def):Prop where
 refs:qU q.rows=ds.flatMap λd=>DZ d.k
 b5:B5 q.rows
 tr:∀(i:Nat) (r:eU),q.rows[i]?=some r->∀c∈AO r,c<((i:Nat):Int)
 tys:(q.names.filter λx=>x.what==1).map (λx=>(x.s,x.at_))=(ds.filter λd=>qj d.k).map λd=>(d.name,((d.at_:Nat):Int))
 dk:∀x∈q.names,x.what=1->∃d∈ds,qj d.k=true/\d.name=x.s/\((d.at_:Nat):Int)=x.at_/\DK q.rows x.n d.k/\0<=x.n
 own:∀x∈q.names,x.what=1->5<=x.n->∀(i:Nat) (r:eU),q.rows[i]?=some r->x.n ∉ AO r
 inj:∀x∈q.names,∀y∈q.names,x.what=1->y.what=1->x.n=y.n->5<=x.n->x.s=y.s
 nd:Ndp q.names
 sub:(ds.map λd=>d.name).Sublist (q.names.map λx=>x.s)
theorem PR.step(h:PR q ds)(hv:Nv q)(d:DfP p q q' x):PR q' (ds++[x.1]):=by
 obtain⟨rs,hrs,hrn,hrk⟩:=d.gr;obtain⟨hh,tail,hn,hs,ha,ht,hty⟩:=d.hd;have tr':∀(i:Nat) (r:eU),q'.rows[i]?=some r->∀c∈AO r,c<((i:Nat):Int):=λi r hi c hc=>by
  rw[hrs]at hi
  by_cases hlt:i<q.rows.length
  .rw[List.getElem?_append_left hlt]at hi;exact h.tr i r hi c hc
  .rw[List.getElem?_append_right omg]at hi;have:=(hrk _ r hi c hc).1;omega
 have hx:∀y∈q'.names,y.what=1->y∈q.names\/(y=hh/\qj x.1.k=true):=λy hy hw=>by
  rw[hn]at hy;rcases List.mem_append.mp hy with hy|hy
  .exact Or.inl hy
  .rcases List.mem_cons.mp hy with rfl|hy
   .right;refine⟨rfl,?_⟩;cases hk:qj x.1.k with
    |true=>rfl
    |false=>
     rw[hk]at hty;exact absurd hw (by simpa using hty)
   .exact absurd hw (ht y hy)
 refine⟨?_,?_,tr',?_,λy hy hw=>?_,λy hy hw h5 i r hi hm=>?_,λy hy z hz wy wz e h5=>?_,d.nd h.nd,?_⟩
 .have e1:=h.refs;unfold qU at *;rw[hrs,List.filterMap_append,e1,hrn,List.flatMap_append];simp
 .obtain⟨r5,e5⟩:=h.b5;exact⟨r5++rs,by rw[hrs,e5,List.append_assoc]⟩
 .have htl:(tail.filter λx=>x.what==1)=[]:=by
   rw[List.filter_eq_nil_iff];intro a ha2;have:=ht a ha2;simpa using this
  rw[hn,List.filter_append,List.map_append,h.tys,List.filter_append,List.map_append,List.filter_cons,htl];congr 1;cases hk:qj x.1.k with
  |true=>
   rw[hk]at hty;have hw:(hh.what==1)=true:=by
    have:hh.what=1:=hty.1;rw[this];rfl
   rw[hw];simp[hk,hs,ha]
  |false=>
   rw[hk]at hty;have hw:(hh.what==1)=false:=by
    have:hh.what≠1:=by simpa using hty
    simpa using this
   rw[hw];simp[hk]
 .rcases hx y hy hw with hy|⟨rfl,hk⟩
  .obtain⟨e,he,e1,e2,e3,e4,e5⟩:=h.dk y hy hw;exact⟨e,List.mem_append_left _ he,e1,e2,e3,by rw[hrs];exact e4.app,e5⟩
  .rw[hk]at hty;have hty:y.what=1/\DK q'.rows y.n x.1.k/\Ls q.rows q'.rows y.n:=hty;refine⟨x.1,List.mem_append_right _ (List.mem_singleton_self _),hk,hs.symm,ha.symm,hty.2.1,?_⟩;rcases hty.2.2 with l|l
   .exact l.1
   .omega
 .rcases hx y hy hw with hy|⟨rfl,hk⟩
  .have hrg:=h.dk y hy hw;have hr:=hv.names y hy hw;rw[hrs]at hi
   by_cases hlt:i<q.rows.length
   .rw[List.getElem?_append_left hlt]at hi;exact h.own y hy hw h5 i r hi hm
   .rw[List.getElem?_append_right omg]at hi;have:=(hrk _ r hi _ hm).2;have:=hr.2;omega
  .rw[hk]at hty;have hty:y.what=1/\DK q'.rows y.n x.1.k/\Ls q.rows q'.rows y.n:=hty;have h1:=tr' i r hi _ hm;have h2:=(List.getElem?_eq_some_iff.mp hi).1;rcases hty.2.2 with l|l
   .omega
   .omega
 .rcases hx y hy wy with hy|⟨rfl,ky⟩
  .rcases hx z hz wz with hz|⟨rfl,kz⟩
   .exact h.inj y hy z hz wy wz e h5
   .rw[kz]at hty;have hty:z.what=1/\DK q'.rows z.n x.1.k/\Ls q.rows q'.rows z.n:=hty;have:=(hv.names y hy wy).2;rcases hty.2.2 with l|l<;>omega
  .rcases hx z hz wz with hz|⟨rfl,kz⟩
   .rw[ky]at hty;have hty:y.what=1/\DK q'.rows y.n x.1.k/\Ls q.rows q'.rows y.n:=hty;have:=(hv.names z hz wz).2;rcases hty.2.2 with l|l<;>omega
   .rfl
 .rw[hn,List.map_append,List.map_append];refine h.sub.append ?_;simp only[List.map_cons,List.map_nil,hs];exact List.Sublist.cons_cons _ (List.nil_sublist _)
structure PI2 (p:PS) (q:RS) (ds:List Def):Prop where
 sn:Sn p q
 pr:PR q ds
 n2:(q.aj.length:Nat)=p.n2
 cb:Cb q
def UD{α:Type}(m:Res α)(q:RS)(P:α->Prop):Prop:=match m with
 |.ok x=>P x
 |.no e a=>Fd (e:Nat) (a:Nat) q
theorem UD.bind(hm:Sim m q1 P)(hb:∀{e a:Int},Nb e a q1->Fd e a q')(hk:∀x,P x->UD (k x) q' Q):UD (m.andThen k) q' Q:=by
 cases m with
 |ok x=>exact hk x hm
 |no e a=>exact hb hm
theorem CJ:∀(k j:Nat) {p:PS} {q:RS} (ds:List Def),PI2 p q ds->(69:Int)<=k+cnt q->k+1<=j ->
  UD (nD k p ds) (dH j q) λds'=>(∃p',PI2 p' (dH j q) ds')/\(dH j q).w.kind=0
 |0,j,p,q,ds,h,hc,hj=>by
  exfalso;have h1:=h.cb.c1;have h2:=h.cb.t1;have h3:=h.cb.g1;unfold cnt at hc;omega
 |k+1,0,p,q,ds,h,hc,hj=>by omega
 |k+1,j+1,p,q,ds,h,hc,hj=>by
  rw[nD,dH];have he:(q.e==0)=true:=by rw[h.sn.sy.e];rfl
  have hk:=h.sn.sy.kind 0;have hb:(q.w.kind != 0)=!(p.w.kind==0):=by unfold bne;rw[show (q.w.kind==0)=(p.w.kind==0)from hk]
  rw[he,Bool.true_and,hb];cases h0:p.w.kind==0 with
  |true=>
   simp only[Bool.not_true,Bool.false_eq_true,↓reduceIte];refine⟨⟨p,h⟩,?_⟩;rw[h0]at hk;simpa using hk
  |false=>
   simp only[Bool.not_false,Bool.false_eq_true,↓reduceIte];refine UD.bind (Iz h.sn h.pr.b5 h.n2) (λhb=>?_) λx d=>?_
   .obtain⟨j,rfl⟩:∃i,j=i+1:=⟨j - 1,omg⟩;exact FX j hb
   .have hw:q.w.kind=5->q.w.e≠0:=λe=>by
     rw[h.sn.sy.w]at e;have:=h.sn.sy.wok.k;have e:((p.w.kind:Nat):Int)=5:=e;omega
    obtain⟨c1,c2⟩:=zo h.cb d.sy.e h.sn.sy.e hw;exact CJ k j (ds++[x.1]) ⟨⟨d.sy,d.nm,(Aw h.sn.nv).nv⟩,h.pr.step h.sn.nv d,d.n2 h.n2,c1⟩ omg omg
theorem WN(t:By):UD (parse t) (dH 80 (aB (jT t))) λds=>(∃p',PI2 p' (dH 80 (aB (jT t))) ds)/\(dH 80 (aB (jT t))).w.kind=0:=by
 unfold parse;have h0:Sy ⟨t,0,⟨0,[],0,0⟩,[],[],[],[],0,0,0⟩ (jT t):=⟨rfl,rfl,rfl,⟨Nat.zero_le _,(λh=>by cases h),(λh=>by cases h)⟩,λs=>rfl,λs=>rfl,rfl,rfl,rfl⟩;refine UD.bind (dC h0) (λhb=>FX 79 hb) λp ⟨h1,v1⟩=>?_;have pr0:PR (aB (jT t)) []:=by
  refine⟨rfl,⟨[],rfl⟩,λi r hi c hc=>?_,rfl,(λx hx=>by cases hx),(λx hx=>by cases hx),(λx hx=>by cases hx),List.nodup_nil,List.Sublist.slnil⟩;exfalso;have hi:Lh[i]?=some r:=hi;have:r∈Lh:=List.mem_of_getElem? hi;have hr:r∈[vJ 0,vJ 1,vJ 2,vJ 3,vJ 4]:=this;simp only[List.mem_cons,List.not_mem_nil,or_false]at hr;rcases hr with rfl|rfl|rfl|rfl|rfl<;>cases hc
 obtain⟨c1,c2⟩:=RX t;have hcn:cnt (aB (jT t))=0:=c2;exact CJ 69 80 [] ⟨⟨h1,by show ([]:List NmR).map _=p.names;rw[v1.names];rfl,(jr (Qr t)).nv⟩,pr0,by show (0:Nat)=p.n2;rw[v1.n2],c1.ct (jw _)⟩ (by rw[hcn];decide) dcd
end Go.M

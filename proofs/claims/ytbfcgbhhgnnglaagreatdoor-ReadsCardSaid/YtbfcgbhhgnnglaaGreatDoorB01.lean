/- Texts of mine, one behind the other; nothing is assumed. -/
import Derived.Test.YtbfcgbhhgnnglaaGreatDoorB00
set_option autoImplicit true
set_option relaxedAutoImplicit true
set_option linter.unusedSimpArgs false
set_option linter.unusedVariables false
namespace Go.M
structure Rsv (L L':List Ins) (calls:List (Nat×By×Nat)) (start:List (By×Nat)):Prop where
 len:L'.length=L.length
 other:∀(p:Nat) (x:Ins),L[p]?=some x->x.op≠6->L'[p]?=some x
 call:∀x∈calls,∃t,start.lookup x.2.1=some t/\L'[x.1]?=some { ins 6 with to:=((t:Nat):Int) }
theorem uY:∀{calls:List (Nat×By×Nat)} {L L':List Ins},gz start L calls=.ok L'->L'.length=L.length/\∀p,(∀x∈calls,x.1≠p)->L'[p]?=L[p]?
 |[],L,L',h=>by cases h;exact⟨rfl,λp _=>rfl⟩
 |(a,s,f)::r,L,L',h=>by
  rw[gz]at h;split at h
  .cases h
  .obtain⟨h1,h2⟩:=uY h;refine⟨h1.trans (List.length_modify ..),λp hp=>?_⟩;rw[h2 p λx hx=>hp x (List.mem_cons_of_mem _ hx),List.getElem?_modify];have:a≠p:=hp (a,s,f) (List.mem_cons_self ..);simp only[this,if_false];cases L[p]?<;>rfl
theorem YV:∀{calls:List (Nat×By×Nat)} {L L':List Ins},gz start L calls=.ok L'->(∀x∈calls,L[x.1]?=some (ins 6))->calls.Pairwise (λa b=>a.1<b.1) ->
  ∀x∈calls,∃t,start.lookup x.2.1=some t/\L'[x.1]?=some { ins 6 with to:=((t:Nat):Int) }
 |[],L,L',h,_,_=>λx hx=>by cases hx
 |(a,s,f)::r,L,L',h,hc,hp=>by
  rw[gz]at h;cases ht:start.lookup s with
  |none=>rw[ht]at h;cases h
  |some t=>
   rw[ht]at h;simp only at h;obtain⟨hp1,hp2⟩:=List.pairwise_cons.mp hp;intro x hx;rcases List.mem_cons.mp hx with rfl|hx
   .refine⟨t,ht,?_⟩;rw[(uY h).2 a λy hy=>by have:=hp1 y hy;simp only at this;omega,List.getElem?_modify,hc _ (List.mem_cons_self ..)];simp
   .refine YV h ?_ hp2 x hx;intro y hy;have:=hp1 y hy;simp only at this;rw[List.getElem?_modify,hc y (List.mem_cons_of_mem _ hy)];simp only[show a≠y.1 by omega,if_false];rfl
theorem LI.rsv(h:LI c)(hr:gz c.start c.L c.calls=.ok L'):Rsv c.L L' c.calls c.start:=by
 obtain⟨h1,h2⟩:=uY hr;refine⟨h1,λp x hx ho=>?_,YV hr h.calls h.sorted⟩;rw[h2 p,hx];intro y hy e;have:=h.calls y hy;rw[e,hx]at this;cases this;exact ho rfl
def rf(L:List Ins)(start:List (By×Nat)):Ty->Nat->Prop
 |.basic s,p=>L[p]?=some (ins (gI s))
 |.named s _,p=>∃t,start.lookup s=some t/\L[p]?=some { ins 6 with to:=((t:Nat):Int) }
 |.bytes _ f n,p=>L[p]?=some { ins 5 with n:=n,fixed:=f }
 |.array t f n,p=>L[p]?=some { ins (if f then 8 else 9)with n:=n,to:=((p+tsz t+2:Nat):Int) }/\rf L start t (p+1)/\L[p+1+tsz t]?=some (ins 10)
 |.opt t,p=>L[p]?=some { ins 12 with to:=((p+tsz t+1:Nat):Int) }/\rf L start t (p+1)
 |.void,p=>L[p]?=some (ins 15)
theorem kS(s:By):gI s<=3:=by
 unfold gI;split
 .omega
 split
 .omega
 split<;>omega
section
variable {L L':List Ins} {calls:List (Nat×By×Nat)} {start:List (By×Nat)}
theorem vY(r:Rsv L L' calls start):∀(t:Ty) (p:Nat),Seg L p (gX t p)->(∀x∈iP t p,x∈calls)->rf L' start t p
 |.basic s,p,h,_=>r.other p _ h.head (by have:=kS s;simp only[ins];omega)
 |.named s a,p,h,hc=>r.call (p,s,a) (hc _ (by simp[iP]))
 |.bytes _ f n,p,h,_=>r.other p _ h.head (by simp[ins])
 |.array t f n,p,h,hc=>by
  rw[gX]at h;refine⟨r.other p _ h.head (by cases f<;>simp[ins]),vY r t (p+1) h.tail.left hc,?_⟩;have:=h.tail.right;rw[dN]at this;exact r.other _ _ this.head (by simp[ins])
 |.opt t,p,h,hc=>by
  rw[gX]at h;exact⟨r.other p _ h.head (by simp[ins]),vY r t (p+1) h.tail hc⟩
 |.void,p,h,_=>r.other p _ h.head (by simp[ins])
def MJ(L:List Ins)(start:List (By×Nat)):List Decl->Nat->Prop
 |[],_=>True
 |d::r,p=>rf L start d.ty p/\MJ L start r (p+tsz d.ty)
def ML(L:List Ins)(start:List (By×Nat))(e:Int):List Arm->Nat->Prop
 |[],_=>True
 |a::r,p=>rf L start a.decl.ty p/\L[p+tsz a.decl.ty]?=some (xR e)/\ML L start e r (p+tsz a.decl.ty+1)
def CodeE(L:List Ins)(start:List (By×Nat))(e:Int):Option Decl->Nat->Prop
 |none,_=>True
 |some d,p=>rf L start d.ty p/\L[p+tsz d.ty]?=some (xR e)
theorem RN(r:Rsv L L' calls start):∀(l:List Decl) (p:Nat),Seg L p (uZ l p)->(∀x∈kQ l p,x∈calls)->MJ L' start l p
 |[],_,_,_=>trivial
 |d::l,p,h,hc=>by
  rw[uZ]at h;have h2:=h.right;rw[dN]at h2;exact⟨vY r d.ty p h.left λx hx=>hc x (List.mem_append_left _ hx),RN r l _ h2 λx hx=>hc x (List.mem_append_right _ hx)⟩
theorem RP(r:Rsv L L' calls start)(e:Int):∀(l:List Arm) (p:Nat),Seg L p (pO l p e)->(∀x∈kD l p,x∈calls)->ML L' start e l p
 |[],_,_,_=>trivial
 |d::l,p,h,hc=>by
  rw[pO]at h;have h2:=h.right;rw[dN]at h2;exact⟨vY r d.decl.ty p h.left λx hx=>hc x (List.mem_append_left _ hx),r.other _ _ h2.head (by simp[xR,ins]),RP r e l _ h2.tail λx hx=>hc x (List.mem_append_right _ hx)⟩
theorem aaA(r:Rsv L L' calls start)(e:Int)(l:Option Decl)(p:Nat)(h:Seg L p (DW l p e))(hc:∀x∈tV l p,x∈calls):CodeE L' start e l p:=by
 cases l with
 |none=>trivial
 |some d=>
  rw[DW]at h;have h2:=h.right;rw[dN]at h2;exact⟨vY r d.ty p h.left hc,r.other _ _ h2.head (by simp[xR,ins])⟩
def JX(L:List Ins)(tabs:List Tab)(start:List (By×Nat))(defs:List (By×Def))(p tb:Nat):Dk->Prop
 |.alias t=>rf L start t p/\L[p+tsz t]?=some (ins 7)
 |.enum _ nums=>L[p]?=some { ins 4 with table:=some tb }/\tabs[tb]?=some (members nums)/\L[p+1]?=some (ins 7)
 |.struct ds=>L[p]?=some { ins 11 with n:=ds.length }/\MJ L start ds (p+1)/\L[p+1+iD ds]?=some (ins 7)
 |.union of _ arms els=>L[p]?=some (lF defs of tb (pM els (p+1+bD arms)))/\tabs[tb]?=some (pz arms (p+1) [])/\Seg tabs (tb+1) (lC defs of) /\
   ML L start ((p+1+bD arms+lQ els:Nat):Int) arms (p+1)/\CodeE L start ((p+1+bD arms+lQ els:Nat):Int) els (p+1+bD arms)/\L[p+1+bD arms+lQ els]?=some (ins 7)
 |_=>True
theorem aaz(r:Rsv L L' calls start)(p tb:Nat)(k:Dk)(h:Seg L p (qZ defs p tb k))(hc:∀x∈gZ p k,x∈calls)(ht:Seg tabs tb (lM defs p k)):JX L' tabs start defs p tb k:=by
 cases k with
 |const n=>trivial
 |prog n vs=>trivial
 |alias t=>
  simp only[qZ]at h;have h2:=h.right;rw[dN]at h2;exact⟨vY r t p h.left hc,r.other _ _ h2.head (by simp[ins])⟩
 |enum ns is=>exact⟨r.other _ _ h.head (by simp[ins]),ht.head,r.other _ _ h.tail.head (by simp[ins])⟩
 |struct ds=>
  simp only[qZ]at h;have h2:=h.tail.right;rw[IX]at h2;exact⟨r.other _ _ h.head (by simp[ins]),RN r ds (p+1) h.tail.left hc,r.other _ _ h2.head (by simp[ins])⟩
 |union of n arms els=>
  simp only[qZ,Eu,List.cons_append]at h;simp only[gZ,nM]at hc;have h1:=h.tail.left;have h2:=h1.right;have h3:=h.tail.right;rw[qp]at h2;rw[List.length_append,qp,Rw,<- Nat.add_assoc]at h3;exact⟨r.other _ _ h.head (by simp[lF,ins]),ht.head,ht.tail,RP r _ arms _ h1.left λx hx=>hc x (List.mem_append_left _ hx),aaA r _ els _ h2 λx hx=>hc x (List.mem_append_right _ hx),r.other _ _ h3.head (by simp[ins])⟩
end
structure Prg (L:List Ins) (tabs:List Tab) (start:List (By×Nat)) (defs:List (By×Def)):Prop where
 named:∀s p,start.lookup s=some p->∃d tb,defs.lookup s=some d/\isType d.k=true/\nT defs d.k=true/\JX L tabs start defs p tb d.k
theorem LI.prg(h:LI c)(hr:gz c.start c.L c.calls=.ok L'):Prg L' c.tabs c.start c.defs:=
 ⟨λs p hs=>by
  obtain⟨d,tb,h1,h2,h3,h4,h5,h6⟩:=h.start s p hs
  exact⟨d,tb,h1,h2,h3,aaz (h.rsv hr) p tb d.k h4 h5 h6⟩⟩
def JC(op:Nat)(set:List Int)(n:Int):Bool:=
 if op==0 then n==YL n
 else if op==1 then n==n % 4294967296
 else if op==3 then n==0||n==1
 else if op==4 then set.contains n
 else true
theorem sV:∀(l:List Int) (k:Nat) (m:Tab) (n:Int),((kJ k m l).lookup n).isSome=((m.lookup n).isSome||l.contains n)
 |[],k,m,n=>by simp[kJ]
 |a::r,k,m,n=>by
  rw[kJ,sV r,bM,List.contains_cons];cases h:n==a with
  |true=>simp
  |false=>simp
theorem y5(l:List Int)(n:Int):((members l).lookup n).isSome=l.contains n:=by rw[members,sV];simp
structure OW (σ:Type) (L:List Ins) (tabs:List Tab) (io:Wy σ) (z:Wz σ):Prop where
 leaf:∀i set d,(i.op=4->∀n,fits 4 (yu tabs i.table) n=set.contains n)->io.leaf i d=z.leaf i.op i.fixed i.n set d
 list:∀i d,io.list i d=z.list (i.op==9) i.n d
 listGe:∀v n d x,z.list v n d=.ok x->0<=n->0<=x.1
 option:∀d,io.option d=z.option d
 union:∀i set which d,(∀n,fits i.of_ (yu tabs i.set) n=JC i.of_ set n)->(∀n,JC i.of_ set n=true->which n=if target tabs i n<0 then none else some ((L[(target tabs i n).toNat]?).map (·.op)==some 15)) ->
  io.union i d=(z.union i.of_ set which d).andThen λx=>.ok (target tabs i x.1,x.2)
 arm:∀of_ set which d x,z.union of_ set which d=.ok x->JC of_ set x.1=true/\(which x.1).isSome=true
 place:∀d,io.place d=z.place d
theorem xZ(b:Nat):∀(l:List Int) (m:Tab) (n:Int),(o9 b m l).lookup n=if l.contains n then some b else m.lookup n
 |[],m,n=>by simp[o9]
 |a::r,m,n=>by
  rw[o9,xZ b r,bM,List.contains_cons];cases h:n==a<;>cases h2:r.contains n<;>simp
theorem zu:∀(l:List Arm) (b:Nat) (m:Tab) (n:Int),ML L start e l b ->
  (match Ba l n with
   |some t=>∃p,(pz l b m).lookup n=some p/\rf L start t p/\L[p+tsz t]?=some (xR e)
   |none=>(pz l b m).lookup n=m.lookup n)
 |[],b,m,n,_=>rfl
 |a::r,b,m,n,h=>by
  have k:=zu r (b+tsz a.decl.ty+1) (o9 b m a.nums) n h.2.2;rw[Ba,pz];cases hr:Ba r n with
  |some t=>rw[hr]at k;exact k
  |none=>
   rw[hr]at k;simp only at k ⊢;rw[xZ]at k;split
   .rename_i t ht;cases hc:a.nums.contains n with
    |true=>
     rw[hc,if_pos rfl]at ht k;cases ht;exact⟨b,k,h.1,h.2.1⟩
    |false=>rw[hc,if_neg smp]at ht;cases ht
   .rename_i ht;cases hc:a.nums.contains n with
    |true=>rw[hc,if_pos rfl]at ht;cases ht
    |false=>rw[hc,if_neg smp]at k;exact k
theorem aay:∀{t:Ty} {p:Nat},rf L start t p->((L[p]?).map (·.op)==some 15)=(t==.void)
 |.basic s,p,h=>by
  rw[show L[p]?=_ from h];have:=kS s;have h1:(gI s==15)=false:=by simp;omega
  show (some (gI s)==some 15)=_;rw[show (some (gI s)==some 15)=(gI s==15)from rfl,h1];exact(beq_eq_false_iff_ne.mpr smp).symm
 |.named s a,p,h=>by
  obtain⟨t,_,h⟩:=h;rw[h];exact(beq_eq_false_iff_ne.mpr smp).symm
 |.bytes a f n,p,h=>by rw[show L[p]?=_ from h];exact(beq_eq_false_iff_ne.mpr smp).symm
 |.array t f n,p,h=>by rw[h.1];cases f<;>exact(beq_eq_false_iff_ne.mpr smp).symm
 |.opt t,p,h=>by rw[h.1];exact(beq_eq_false_iff_ne.mpr smp).symm
 |.void,p,h=>by rw[show L[p]?=_ from h];rfl
def Rj:Ty->Bool
 |.basic _=>true
 |.named _ _=>true
 |_=>false
def okN(f:Bool)(n:Int):Bool:=if f then decide (1<=n/\n<=1000)else decide (0<=n/\n<=4294967295)
theorem NW(h:okN f n=true):0<=n/\n<=4294967295/\(f=true->1<=n/\n<=1000):=by
 unfold okN at h;cases f with
 |true=>simp only[if_true,decide_eq_true_eq]at h;exact⟨omg,omg,λ_=>h⟩
 |false=>simp only[Bool.false_eq_true,if_false,decide_eq_true_eq]at h;exact⟨h.1,h.2,λh=>by cases h⟩
def okT:Ty->Bool
 |.array t f n=>Rj t&&okN f n
 |.opt t=>Rj t
 |.bytes _ f n=>okN f n
 |_=>true
def i32(n:Int):Bool:=decide (-2147483648<=n/\n<=2147483647)
def okK:Dk->Bool
 |.alias t=>okT t&&t != .void
 |.enum _ nums=>nums.all i32
 |.struct ds=>((!ds.isEmpty)&&decide (ds.length<=12))&&ds.all λd=>okT d.ty&&d.ty != .void
 |.union of _ arms els=>((EN of != 2)&&arms.all λa=>okT a.decl.ty)&&els.all λd=>okT d.ty
 |_=>true
theorem xH(h:Rj t=true):okT t=true:=by cases t<;>first|rfl|cases h
section
variable {σ:Type} {L:List Ins} {tabs:List Tab} {lim:Lim} {io:Wy σ} {z:Wz σ} {start:List (By×Nat)} {defs:List (By×Def)}
def iR(L:List Ins)(lim:Lim)(io:Wy σ)(s:MS σ)(m:Res σ)(pc:Nat)(back:List Nat)(loops:List (Int×Nat)):Prop:=Comes L lim io s (m.andThen λd=>.ok ⟨pc,back,loops,d⟩)
theorem iR.dX(h:iR L lim io s m pc back loops)(k:∀d,m=.ok d->iR L lim io ⟨pc,back,loops,d⟩ (f d) pc' back' loops'):
  iR L lim io s (m.andThen f) pc' back' loops':=by
 unfold iR;rw[Res.assoc];exact Comes.bind h k
theorem iR.Dl{s:MS σ}{i:Ins}{α:Type}{m:Res α}{f:α->MS σ}{r:α->Res σ}{pc:Nat}{back:List Nat}{loops:List (Int×Nat)}(hi:L[s.pc]?=some i)(h:oh lim io i s=some (m.andThen λx=>.ok (true,f x)))
  (k:∀x,m=.ok x->iR L lim io (f x) (r x) pc back loops):iR L lim io s (m.andThen r) pc back loops:=by
 unfold iR;rw[Res.assoc];exact Comes.step hi h k
theorem iR.go(hi:L[s.pc]?=some i)(h:oh lim io i s=some (.ok (true,s')))(k:iR L lim io s' m pc back loops):iR L lim io s m pc back loops:=
 (Goes.step hi h).comes k
theorem iR.here:iR L lim io ⟨pc,back,loops,d⟩ (.ok d) pc back loops:=Goes.refl _
def wu(L:List Ins)(lim:Lim)(io:Wy σ)(start:List (By×Nat))(nm:By->σ->Res σ)(r:Nat):Prop:=
 ∀s t,start.lookup s=some t->∀p back loops d,L[p]?=some { ins 6 with to:=((t:Nat):Int) }->(lim.depth - back.length).toNat=r->loops.length<=back.length+1->iR L lim io ⟨p,back,loops,d⟩ (nm s d) (p+1) back loops
theorem EJ(w:OW σ L tabs io z){p:Nat}{i:Ins}{back:List Nat}{loops:List (Int×Nat)}{d:σ}{set:List Int}(hi:L[p]?=some i)(ho:i.op<=5)(hs:i.op=4->∀n,fits 4 (yu tabs i.table) n=set.contains n):iR L lim io ⟨p,back,loops,d⟩ (z.leaf i.op i.fixed i.n set d) (p+1) back loops:=by
 have h:oh lim io i ⟨p,back,loops,d⟩=some ((io.leaf i d).andThen λd=>.ok (true,⟨p+1,back,loops,d⟩)):=by
  have e:∀k,5<k->(i.op==k)=false:=λk hk=>by simp;omega
  unfold oh;simp only[e 16 omg,e 15 omg,e 14 omg,e 6 omg,e 7 omg,e 8 omg,e 9 omg,e 10 omg,e 11 omg,e 12 omg,e 13 omg,Bool.false_eq_true,if_false,Bool.or_self]
 rw[w.leaf i set d hs]at h;have k:=iR.Dl (pc:=p+1) (back:=back) (loops:=loops) (r:=λd=>Res.ok d) hi h λx _=>iR.here;rw[show (z.leaf i.op i.fixed i.n set d).andThen (λd=>Res.ok d)=z.leaf i.op i.fixed i.n set d by cases z.leaf i.op i.fixed i.n set d<;>rfl]at k;exact k
theorem IG(w:OW σ L tabs io z){nm:By->σ->Res σ}{r:Nat}(hn:wu L lim io start nm r)(t:Ty)(hf:Rj t=true)(p:Nat)(back:List Nat)(loops:List (Int×Nat))(d:σ)(h:rf L start t p)(hr:(lim.depth - back.length).toNat=r)(hl:loops.length<=back.length+1):
  iR L lim io ⟨p,back,loops,d⟩ (ug z nm t d) (p+tsz t) back loops:=by
 cases t with
 |basic s=>
  have hb:=kS s;exact EJ (lim:=lim) (back:=back) (loops:=loops) (d:=d) (set:=[]) w (show L[p]?=some (ins (gI s))from h) (by simp only[ins];omega) (λh4=>by simp only[ins]at h4;omega)
 |named s a=>
  obtain⟨t,h1,h2⟩:=h;exact hn s t h1 p back loops d h2 hr hl
 |_=>cases hf
theorem NC(w:OW σ L tabs io z){nm:By->σ->Res σ}{r:Nat}(hn:wu L lim io start nm r)(hd:lim.depth<=900)(t:Ty)(ht:okT t=true)(p:Nat)(back:List Nat)(loops:List (Int×Nat))(d:σ)(h:rf L start t p)(hr:(lim.depth - back.length).toNat=r)(hb:back.length<=901)(hl:loops.length<=back.length):
  iR L lim io ⟨p,back,loops,d⟩ (ug z nm t d) (p+tsz t) back loops:=by
 cases t with
 |basic s=>exact IG w hn _ rfl p back loops d h hr (by omega)
 |named s a=>exact IG w hn _ rfl p back loops d h hr (by omega)
 |bytes a f n=>exact EJ (lim:=lim) (back:=back) (loops:=loops) (d:=d) (set:=[]) w (show L[p]?=some { ins 5 with n:=n,fixed:=f }from h) (by simp[ins]) (λh4=>by simp[ins]at h4)
 |void=>exact iR.go (show L[p]?=some (ins 15)from h) rfl iR.here
 |opt t=>
  obtain⟨h1,h2⟩:=h;rw[ug];refine iR.Dl (m:=z.option d) (f:=λx=>⟨if x.1 then p+1 else p+tsz t+1,back,loops,x.2⟩) (pc:=p+tsz (.opt t)) h1 (by rw[<- w.option];rfl) ?_;intro x _;have e:p+tsz (.opt t)=p+1+tsz t:=by rw[tsz];omega
  cases hx:x.1 with
  |true=>
   simp only[if_true];have k:=IG w hn t ht (p+1) back loops x.2 h2 hr (by omega);rw[e];exact k
  |false=>
   simp only[if_false,Bool.false_eq_true];rw[tsz,<- Nat.add_assoc];exact iR.here
 |array t f n=>
  obtain⟨h1,h2,h3⟩:=h;rw[ug];rw[okT,Bool.and_eq_true]at ht;have hex:oh lim io { ins (if f then 8 else 9)with n:=n,to:=((p+tsz t+2:Nat):Int) } ⟨p,back,loops,d⟩=some ((z.list (!f) n d).andThen λx=>.ok (true,if x.1==0 then⟨p+tsz t+2,back,loops,x.2⟩else⟨p+1,back,(x.1 - 1,p+1)::loops,x.2⟩)):=by
   have hl':¬ 1000000<=loops.length:=by omega
   cases f<;>simp only[oh,ins,if_true,if_false,Bool.false_eq_true,hl',w.list] <;>
   .simp only[show ∀a b:Nat,(a==b)=decide (a=b)from λ_ _=>rfl];simp only[decide_true,decide_false,Nat.reduceEqDiff,Bool.or_true,Bool.true_or,if_true,if_false,Bool.false_eq_true,Bool.not_true,Bool.not_false];congr 2;funext x;cases x.1==0<;>rfl
  refine iR.Dl (f:=λx=>if x.1==0 then⟨p+tsz t+2,back,loops,x.2⟩else⟨p+1,back,(x.1 - 1,p+1)::loops,x.2⟩) (pc:=p+tsz (.array t f n)) h1 hex ?_;intro x hx;have hge:=w.listGe (!f) n d x hx (NW ht.2).1;rw[tsz,<- Nat.add_assoc]
  by_cases h0:x.1=0
  .rw[h0];simp only[beq_self_eq_true,if_true,Int.toNat_zero,iter];exact iR.here
  .have hb0:(x.1==0)=false:=by simpa using h0
   simp only[hb0,Bool.false_eq_true,if_false]
   -- the rounds
   have round:∀(k:Nat) (left:Int) (d:σ),left.toNat=k->iR L lim io ⟨p+1,back,(left,p+1)::loops,d⟩ (iter (ug z nm t) (k+1) d) (p+tsz t+2) back loops:=by
    intro k;induction k with
    |zero=>
     intro left d hk;rw[iter];refine iR.dX (IG w hn t ht.1 (p+1) back ((left,p+1)::loops) d h2 hr (by simp only[List.length_cons];omega)) λd' _=>?_;refine iR.go h3 (s':=⟨p+tsz t+2,back,loops,d'⟩) ?_ ?_
     .have:¬ 0<left:=by omega
      simp only[oh,ins];simp only[show ∀a b:Nat,(a==b)=decide (a=b)from λ_ _=>rfl,decide_false,decide_true,Nat.reduceEqDiff,Bool.or_self,if_false,if_true,Bool.false_eq_true,this];rw[show p+1+tsz t+1=p+tsz t+2 by omega]
     .rw[iter];exact iR.here
    |succ k ih=>
     intro left d hk;rw[iter];refine iR.dX (IG w hn t ht.1 (p+1) back ((left,p+1)::loops) d h2 hr (by simp only[List.length_cons];omega)) λd' _=>?_;refine iR.go h3 (s':=⟨p+1,back,(left - 1,p+1)::loops,d'⟩) ?_ (ih (left - 1) d' (by omega));have:0<left:=by omega
     simp only[oh,ins];simp only[show ∀a b:Nat,(a==b)=decide (a=b)from λ_ _=>rfl,decide_false,decide_true,Nat.reduceEqDiff,Bool.or_self,if_false,if_true,Bool.false_eq_true,this]
   have:=round (x.1.toNat - 1) (x.1 - 1) x.2 (by omega);rw[show x.1.toNat - 1+1=x.1.toNat by omega]at this;exact this
end
end Go.M
namespace Go.M
section
variable {σ:Type} {L:List Ins} {tabs:List Tab} {lim:Lim} {io:Wy σ} {z:Wz σ} {start:List (By×Nat)} {defs:List (By×Def)}
theorem YQ(w:OW σ L tabs io z){nm:By->σ->Res σ}{r:Nat}(hn:wu L lim io start nm r)(hd:lim.depth<=900){back:List Nat}{loops:List (Int×Nat)}(hr:(lim.depth - back.length).toNat=r)(hb:back.length<=901)(hl:loops.length<=back.length):
  ∀(ds:List Decl) (hk:ds.all (λd=>okT d.ty&&d.ty != .void)=true) (p:Nat) (d:σ),MJ L start ds p->iR L lim io ⟨p,back,loops,d⟩ (J4 z nm ds d) (p+iD ds) back loops
 |[],_,p,d,_=>iR.here
 |a::ds,hk,p,d,h=>by
  rw[List.all_cons,Bool.and_eq_true,Bool.and_eq_true]at hk;rw[J4,iD,<- Nat.add_assoc];exact iR.dX (NC w hn hd a.ty hk.1.1 p back loops d h.1 hr hb hl) λd' _=>YQ w hn hd hr hb hl ds hk.2 _ d' h.2
theorem Ff:∀(l:List Arm) (n:Int) (t:Ty),Ba l n=some t->∃a∈l,a.decl.ty=t/\a.nums.contains n=true
 |[],_,_,h=>by cases h
 |a::r,n,t,h=>by
  rw[Ba]at h;split at h
  .rename_i t' ht;cases h;obtain⟨b,h1,h2⟩:=Ff r n t ht;exact⟨b,List.mem_cons_of_mem _ h1,h2⟩
  .split at h
   .cases h;exact⟨a,List.mem_cons_self ..,rfl,by assumption⟩
   .cases h
theorem tab0{i:Nat}{m:Tab}(h:tabs[i]?=some m):(yu tabs (some i)).getD []=m:=by simp[yu,h]
theorem aai{defs:List (By×Def)}{of:Ty}{tb:Nat}{n:By}{arms:List Arm}{els:Option Decl}(hg:nT defs (.union of n arms els)=true)(hs:Seg tabs (tb+1) (lC defs of))(to:Int)(m:Int):
  fits (lF defs of tb to).of_ (yu tabs (lF defs of tb to).set) m=JC (EN of) (yR defs of) m:=by
 cases of with
 |basic s=>
  have hb:=kS s;have h4:(gI s==4)=false:=by simp;omega
  simp only[lF,EN,fits,JC,h4,Bool.false_eq_true,if_false]
 |named s a=>
  simp only[nT]at hg;cases hl:defs.lookup s with
  |none=>rw[hl]at hg;cases hg
  |some d=>
   rw[hl]at hg;obtain⟨x,y,k⟩:=d;cases k with
   |enum ns is=>
    simp only[lC,hl]at hs;have h1:=hs.head;simp only[lF,EN,lC,hl,fits,JC,yR,tab0 h1,y5]
   |_=>cases hg
 |_=>cases hg
theorem TB(w:OW σ L tabs io z){nm:By->σ->Res σ}{r:Nat}(hn:wu L lim io start nm r)(hd:lim.depth<=900){back:List Nat}{loops:List (Int×Nat)}(hr:(lim.depth - back.length).toNat=r)(hb:back.length<=901)(hl:loops.length<=back.length)
  {of:Ty} {n:By} {arms:List Arm} {els:Option Decl} {p tb:Nat} (d:σ) (hg:nT defs (.union of n arms els)=true) (hok:okK (.union of n arms els)=true) (h:JX L tabs start defs p tb (.union of n arms els)):
  iR L lim io ⟨p,back,loops,d⟩ (EH z nm defs (.union of n arms els) d) (p+1+bD arms+lQ els) back loops:=by
 obtain⟨h1,h2,h3,h4,h5,h6⟩:=h;have hfit:=aai (tabs:=tabs) hg h3 (pM els (p+1+bD arms));generalize he:p+1+bD arms+lQ els=e at *
 -- where a number leads
 have lead:∀m,JC (EN of) (yR defs of) m=true->(match zx arms els m with
   |some t=>∃q:Nat,target tabs (lF defs of tb (pM els (p+1+bD arms))) m=(q:Int)/\rf L start t q/\L[q+tsz t]?=some (xR (e:Nat))
   |none=>target tabs (lF defs of tb (pM els (p+1+bD arms))) m = -1):=by
  intro m hm;have k:=zu arms (p+1) [] m h4;have ht:target tabs (lF defs of tb (pM els (p+1+bD arms))) m=(match (pz arms (p+1) []).lookup m with|some t=>((t:Nat):Int)|none=>pM els (p+1+bD arms)):=by
   unfold target;rw[hfit,hm];simp only[Bool.not_true,Bool.false_eq_true,if_false];rw[show (lF defs of tb (pM els (p+1+bD arms))).table=some tb from rfl,tab0 h2];rfl
  rw[ht];unfold zx;cases ha:Ba arms m with
  |some t=>
   rw[ha]at k;obtain⟨q,k1,k2,k3⟩:=k;rw[k1];exact⟨q,rfl,k2,k3⟩
  |none=>
   rw[ha]at k;simp only[List.lookup_nil]at k;rw[k];cases els with
   |none=>exact rfl
   |some dd=>exact⟨_,rfl,h5.1,h5.2⟩
 have hu:=w.union (lF defs of tb (pM els (p+1+bD arms))) (yR defs of) (yf arms els) d hfit (λm hm=>by
  have k:=lead m hm;unfold yf;cases ha:zx arms els m with
  |none=>rw[ha]at k;simp only at k;rw[k];rfl
  |some t=>
   rw[ha]at k;obtain⟨q,k1,k2,k3⟩:=k;rw[k1,if_neg omg,Int.toNat_natCast,aay k2]
   rfl)
 have hex:oh lim io (lF defs of tb (pM els (p+1+bD arms))) ⟨p,back,loops,d⟩=some ((z.union (EN of) (yR defs of) (yf arms els) d).andThen λx=>.ok (true,⟨(target tabs (lF defs of tb (pM els (p+1+bD arms))) x.1).toNat,back,loops,x.2⟩)):=by
  simp only[oh,lF,ins];simp only[show ∀a b:Nat,(a==b)=decide (a=b)from λ_ _=>rfl,decide_false,decide_true,Nat.reduceEqDiff,Bool.or_self,if_false,if_true,Bool.false_eq_true];refine congrArg some ((congrArg (λm=>Res.andThen m _) hu).trans ?_);rw[Res.assoc];rfl
 refine iR.Dl (f:=λx=>⟨(target tabs (lF defs of tb (pM els (p+1+bD arms))) x.1).toNat,back,loops,x.2⟩) h1 hex λx hx=>?_;obtain⟨a1,a2⟩:=w.arm _ _ _ _ _ hx;have k:=lead x.1 a1;unfold yf at a2;cases ha:zx arms els x.1 with
 |none=>rw[ha]at a2;cases a2
 |some t=>
  rw[ha]at k;obtain⟨q,k1,k2,k3⟩:=k;simp only[k1,Int.toNat_natCast];have hkt:okT t=true:=by
   rw[okK,Bool.and_eq_true,Bool.and_eq_true]at hok;unfold zx at ha;cases ha':Ba arms x.1 with
   |some t'=>
    rw[ha']at ha;cases ha;obtain⟨b,hb1,rfl,_⟩:=Ff _ _ _ ha';exact List.all_eq_true.mp hok.1.2 b hb1
   |none=>
    rw[ha']at ha;cases els with
    |none=>cases ha
    |some dd=>cases ha;exact hok.2
  have hT:=NC w hn hd t hkt q back loops x.2 k2 hr hb hl;have:iR L lim io ⟨q,back,loops,x.2⟩ ((ug z nm t x.2).andThen λd=>.ok d) e back loops:=by
   refine iR.dX hT λd' _=>?_;exact iR.go k3 (s':=⟨e,back,loops,d'⟩) (by simp[oh,xR,ins]) iR.here
  rwa [show ∀m:Res σ,(m.andThen λd=>.ok d)=m from λm=>by cases m<;>rfl]at this
theorem runs_K(w:OW σ L tabs io z){nm:By->σ->Res σ}{r:Nat}(hn:wu L lim io start nm r)(hd:lim.depth<=900){back:List Nat}{q:Nat}{loops:List (Int×Nat)}(hr:(lim.depth - (q::back).length).toNat=r)(hb:(q::back).length<=901)(hl:loops.length<=(q::back).length)
  {k:Dk} {p tb:Nat} (d:σ) (ht:isType k=true) (hg:nT defs k=true) (hok:okK k=true) (h:JX L tabs start defs p tb k):
  iR L lim io ⟨p,q::back,loops,d⟩ (EH z nm defs k d) q back loops:=by
 have ret:∀(e:Nat) (m:Res σ),L[e]?=some (ins 7)->iR L lim io ⟨p,q::back,loops,d⟩ m e (q::back) loops->iR L lim io ⟨p,q::back,loops,d⟩ m q back loops:=by
  intro e m h7 hm;have:=iR.dX (f:=λd=>.ok d) hm λd' _=>iR.go h7 (s':=⟨q,back,loops,d'⟩) (by simp[oh,ins]) iR.here
  rwa [show (m.andThen λd=>.ok d)=m by cases m<;>rfl]at this
 cases k with
 |const n=>cases ht
 |prog n vs=>cases ht
 |alias t=>
  rw[okK,Bool.and_eq_true]at hok;exact ret _ _ h.2 (NC w hn hd t hok.1 p (q::back) loops d h.1 hr hb hl)
 |enum ns is=>
  refine ret _ _ h.2.2 ?_
  exact EJ (lim:=lim) (back:=q::back) (loops:=loops) (d:=d) (set:=is) w h.1 (by simp[ins]) (λ_ n=>by
   simp only[fits,tab0 h.2.1,y5]
   rfl)
 |struct ds=>
  obtain⟨h1,h2,h3⟩:=h;rw[okK,Bool.and_eq_true]at hok;refine ret _ _ h3 ?_;rw[EH];refine iR.Dl (m:=z.list false ds.length d) (f:=λx=>⟨p+1,q::back,loops,x.2⟩) h1 ?_ λx _=>YQ w hn hd hr hb hl ds hok.2 (p+1) x.2 h2;simp only[oh,ins];simp only[show ∀a b:Nat,(a==b)=decide (a=b)from λ_ _=>rfl,decide_false,decide_true,Nat.reduceEqDiff,Bool.or_self,if_false,if_true,Bool.false_eq_true,w.list]
 |union of n arms els=>exact ret _ _ h.2.2.2.2.2 (TB w hn hd hr hb hl d hg hok h)
def EL(defs:List (By×Def)):Prop:=∀s d,defs.lookup s=some d->okK d.k=true
theorem La(w:OW σ L tabs io z)(g:Prg L tabs start defs)(ho:EL defs)(hd:lim.depth<=900):∀r,wu L lim io start (sem z defs r) r
 |0,s,t,hs,p,back,loops,d,hp,hr,hl=>by
  rw[sem];refine Comes.fail hp ?_;have:lim.depth<=back.length:=omg;simp only[oh,ins,this,if_true,w.place];simp only[show ∀a b:Nat,(a==b)=decide (a=b)from λ_ _=>rfl,decide_false,decide_true,Nat.reduceEqDiff,if_false,if_true,Bool.false_eq_true]
 |r+1,s,t,hs,p,back,loops,d,hp,hr,hl=>by
  obtain⟨x,tb,h1,h2,h3,h4⟩:=g.named s t hs;rw[sem,h1];simp only;refine iR.go hp (s':=⟨t,(p+1)::back,loops,d⟩) ?_ (runs_K w (La w g ho hd r) hd (by simp only[List.length_cons];omega) (by simp only[List.length_cons];omega) (by simp only[List.length_cons];omega) d h2 h3 (ho s x h1) h4);have:¬ lim.depth<=back.length:=omg;simp only[oh,ins,this,if_false];simp only[show ∀a b:Nat,(a==b)=decide (a=b)from λ_ _=>rfl,decide_false,decide_true,Nat.reduceEqDiff,if_false,if_true,Bool.false_eq_true,Int.toNat_natCast]
theorem YS(w:OW σ L tabs io z)(g:Prg L tabs start defs)(ho:EL defs)(hd:lim.depth<=900){t:Ty}(ht:okT t=true){p:Nat}(d:σ)(h:rf L start t p)(hs:L[p+tsz t]?=some (ins 16)):
  ∃n,Jk L lim io n ⟨p,[],[],d⟩=some ((ug z (sem z defs lim.depth.toNat) t d).andThen λd=>.ok ⟨p+tsz t,[],[],d⟩):=
 Comes.stop (i:=ins 16) rfl (λ_=>hs) (NC w (La w g ho hd lim.depth.toNat) hd t ht p [] [] d h smp smp smp)
end
end Go.M
namespace Go.M
end Go.M
namespace Go.M
structure Each {σ:Type} (z:Wz σ) (Q:σ->σ->Prop):Prop where
 refl:∀d,Q d d
 trans:∀a b c,Q a b->Q b c->Q a c
 leaf:∀op f n set d d',(op<=5)->(op=5->okN f n=true)->z.leaf op f n set d=.ok d'->Q d d'
 list:∀v n d x,0<=n->z.list v n d=.ok x->Q d x.2
 option:∀d x,z.option d=.ok x->Q d x.2
 union:∀of_ set which d x,z.union of_ set which d=.ok x->Q d x.2
section
variable {σ:Type} {z:Wz σ} {Q:σ->σ->Prop}
theorem Each.iter(h:Each z Q){f:σ->Res σ}(hf:∀d d',f d=.ok d'->Q d d'):∀(n:Nat) {d d':σ},M.iter f n d=.ok d'->Q d d'
 |0,d,d',e=>by cases e;exact h.refl d
 |n+1,d,d',e=>by
  obtain⟨x,e1,e2⟩:=Res.then_ok e;exact h.trans _ _ _ (hf _ _ e1) (h.iter hf n e2)
theorem Each.ty(h:Each z Q){nm:By->σ->Res σ}(hn:∀s d d',nm s d=.ok d'->Q d d'):∀(t:Ty),okT t=true->∀{d d':σ},ug z nm t d=.ok d'->Q d d'
 |.basic s,_,d,d',e=>h.leaf _ _ _ _ _ _ (by have:=kS s;omega) (by have:=kS s;omega) e
 |.named s a,_,d,d',e=>hn s d d' e
 |.bytes a f n,ho,d,d',e=>h.leaf _ _ _ _ _ _ omg (λ_=>ho) e
 |.void,_,d,d',e=>by cases e;exact h.refl d
 |.opt t,ho,d,d',e=>by
  rw[ug]at e;obtain⟨x,e1,e2⟩:=Res.then_ok e;refine h.trans _ _ _ (h.option d x e1) ?_;split at e2
  .exact h.ty hn t (xH ho) e2
  .cases e2;exact h.refl _
 |.array t f n,ho,d,d',e=>by
  rw[okT,Bool.and_eq_true]at ho;rw[ug]at e;obtain⟨x,e1,e2⟩:=Res.then_ok e;exact h.trans _ _ _ (h.list _ _ _ x (NW ho.2).1 e1) (h.iter (λd d' e=>h.ty hn t (xH ho.1) e) _ e2)
theorem Each.parts(h:Each z Q){nm:By->σ->Res σ}(hn:∀s d d',nm s d=.ok d'->Q d d'):∀(ds:List Decl),(ds.all λd=>okT d.ty&&d.ty != .void)=true->∀{d d':σ},J4 z nm ds d=.ok d'->Q d d'
 |[],_,d,d',e=>by cases e;exact h.refl d
 |a::r,ho,d,d',e=>by
  rw[List.all_cons,Bool.and_eq_true,Bool.and_eq_true]at ho;rw[J4]at e;obtain⟨x,e1,e2⟩:=Res.then_ok e;exact h.trans _ _ _ (h.ty hn a.ty ho.1.1 e1) (h.parts hn r ho.2 e2)
theorem JS{of:Ty}{n:By}{arms:List Arm}{els:Option Decl}{m:Int}{t:Ty}(hok:okK (.union of n arms els)=true)(ha:zx arms els m=some t):okT t=true:=by
 rw[okK,Bool.and_eq_true,Bool.and_eq_true]at hok;unfold zx at ha;cases ha':Ba arms m with
 |some t'=>
  rw[ha']at ha;cases ha;obtain⟨b,hb1,rfl,_⟩:=Ff _ _ _ ha';exact List.all_eq_true.mp hok.1.2 b hb1
 |none=>
  rw[ha']at ha;cases els with
  |none=>cases ha
  |some dd=>cases ha;exact hok.2
theorem Each.kind(h:Each z Q){nm:By->σ->Res σ}(hn:∀s d d',nm s d=.ok d'->Q d d'){defs:List (By×Def)}(k:Dk)(ho:okK k=true){d d':σ}(e:EH z nm defs k d=.ok d'):Q d d':=by
 cases k with
 |const n=>cases e
 |prog n vs=>cases e
 |alias t=>rw[okK,Bool.and_eq_true]at ho;exact h.ty hn t ho.1 e
 |enum ns is=>exact h.leaf _ _ _ _ _ _ omg omg e
 |struct ds=>
  rw[okK,Bool.and_eq_true]at ho;rw[EH]at e;obtain⟨x,e1,e2⟩:=Res.then_ok e;exact h.trans _ _ _ (h.list _ _ _ x omg e1) (h.parts hn ds ho.2 e2)
 |union of n arms els=>
  rw[EH]at e;obtain⟨x,e1,e2⟩:=Res.then_ok e;refine h.trans _ _ _ (h.union _ _ _ _ x e1) ?_;cases ha:zx arms els x.1 with
  |none=>rw[ha]at e2;cases e2
  |some t=>rw[ha]at e2;exact h.ty hn t (JS ho ha) e2
end
def aaO(set:List Int):Prop:=∀m∈set,i32 m=true
theorem Zk{defs:List (By×Def)}(ho:EL defs)(of:Ty):aaO (yR defs of):=by
 cases of with
 |named s a=>
  simp only[yR];split
  .rename_i hl;have:=ho s _ hl;simp only[okK]at this;exact λm hm=>List.all_eq_true.mp this m hm
  .intro m hm;cases hm
 |_=>intro m hm;cases hm
structure Beside {σ τ:Type} (z:Wz σ) (y:Wz τ) (G:σ->Prop) (R:σ->τ->Prop):Prop where
 back:Each z λd d'=>G d'->G d
 leaf:∀op f n set d d' e,(op<=5)->(op=5->okN f n=true)->aaO set->z.leaf op f n set d=.ok d'->G d'->R d e->∃e',y.leaf op f n set e=.ok e'/\R d' e'
 list:∀v n d x e,0<=n->n<=4294967295->z.list v n d=.ok x->G x.2->R d e->∃e',y.list v n e=.ok (x.1,e')/\R x.2 e'
 option:∀d x e,z.option d=.ok x->G x.2->R d e->∃e',y.option e=.ok (x.1,e')/\R x.2 e'
 union:∀of_ set which d x e,(of_<=4)->of_≠2->aaO set->z.union of_ set which d=.ok x->G x.2->R d e->∃e',y.union of_ set which e=.ok (x.1,e')/\R x.2 e'
section
variable {σ τ:Type} {z:Wz σ} {y:Wz τ} {G:σ->Prop} {R:σ->τ->Prop}
theorem Beside.iter(h:Beside z y G R){f:σ->Res σ}{g:τ->Res τ}(hb:∀d d',f d=.ok d'->G d'->G d)(hf:∀d d' e,f d=.ok d'->G d'->R d e->∃e',g e=.ok e'/\R d' e'):∀(n:Nat) {d d':σ} {e:τ},M.iter f n d=.ok d'->G d'->R d e->∃e',M.iter g n e=.ok e'/\R d' e'
 |0,d,d',e,k,_,r=>by cases k;exact⟨e,rfl,r⟩
 |n+1,d,d',e,k,hg,r=>by
  obtain⟨x,e1,e2⟩:=Res.then_ok k;have gx:G x:=h.back.iter hb n e2 hg;obtain⟨e',a1,a2⟩:=hf _ _ _ e1 gx r;obtain⟨e'',b1,b2⟩:=h.iter hb hf n e2 hg a2;exact⟨e'',by rw[M.iter,a1];exact b1,b2⟩
def NmB(G:σ->Prop)(R:σ->τ->Prop)(nm:By->σ->Res σ)(mn:By->τ->Res τ):Prop:=(∀s d d',nm s d=.ok d'->G d'->G d)/\∀s d d' e,nm s d=.ok d'->G d'->R d e->∃e',mn s e=.ok e'/\R d' e'
theorem Beside.ty(h:Beside z y G R){nm:By->σ->Res σ}{mn:By->τ->Res τ}(hn:NmB G R nm mn):∀(t:Ty),okT t=true->∀{d d':σ} {e:τ},ug z nm t d=.ok d'->G d'->R d e->∃e',ug y mn t e=.ok e'/\R d' e'
 |.basic s,_,d,d',e,k,g,r=>h.leaf _ _ _ _ _ _ _ (by have:=kS s;omega) (by have:=kS s;omega) (λm hm=>by cases hm) k g r
 |.named s a,_,d,d',e,k,g,r=>hn.2 s d d' e k g r
 |.bytes a f n,ho,d,d',e,k,g,r=>h.leaf _ _ _ _ _ _ _ omg (λ_=>ho) (λm hm=>by cases hm) k g r
 |.void,_,d,d',e,k,g,r=>by cases k;exact⟨e,rfl,r⟩
 |.opt t,ho,d,d',e,k,g,r=>by
  rw[ug]at k;obtain⟨x,e1,e2⟩:=Res.then_ok k;have gx:G x.2:=by
   split at e2
   .exact h.back.ty hn.1 t (xH ho) e2 g
   .cases e2;exact g
  obtain⟨e',a1,a2⟩:=h.option d x e e1 gx r;rw[ug,a1];simp only[Res.aS];split at e2
  .rename_i hx;rw[if_pos hx];exact h.ty hn t (xH ho) e2 g a2
  .rename_i hx;rw[if_neg hx];cases e2;exact⟨e',rfl,a2⟩
 |.array t f n,ho,d,d',e,k,g,r=>by
  rw[okT,Bool.and_eq_true]at ho;rw[ug]at k;obtain⟨x,e1,e2⟩:=Res.then_ok k;have hb:∀d d',ug z nm t d=.ok d'->G d'->G d:=λd d' k g=>h.back.ty hn.1 t (xH ho.1) k g;have gx:G x.2:=h.back.iter hb _ e2 g;obtain⟨e',a1,a2⟩:=h.list _ _ d x e (NW ho.2).1 (NW ho.2).2.1 e1 gx r;rw[ug,a1];simp only[Res.aS];exact h.iter hb (λd d' e k g r=>h.ty hn t (xH ho.1) k g r) _ e2 g a2
theorem Beside.parts(h:Beside z y G R){nm:By->σ->Res σ}{mn:By->τ->Res τ}(hn:NmB G R nm mn):∀(ds:List Decl),(ds.all λd=>okT d.ty&&d.ty != .void)=true->∀{d d':σ} {e:τ},J4 z nm ds d=.ok d'->G d'->R d e->∃e',J4 y mn ds e=.ok e'/\R d' e'
 |[],_,d,d',e,k,g,r=>by cases k;exact⟨e,rfl,r⟩
 |a::l,ho,d,d',e,k,g,r=>by
  rw[List.all_cons,Bool.and_eq_true,Bool.and_eq_true]at ho;rw[J4]at k;obtain⟨x,e1,e2⟩:=Res.then_ok k;obtain⟨e',a1,a2⟩:=h.ty hn a.ty ho.1.1 e1 (h.back.parts hn.1 l ho.2 e2 g) r;rw[J4,a1];exact h.parts hn l ho.2 e2 g a2
theorem abM(of:Ty):EN of<=4:=by
 cases of with
 |basic s=>have:=kS s;simp only[EN];omega
 |_=>exact Nat.le_refl _
theorem Beside.kind(h:Beside z y G R){nm:By->σ->Res σ}{mn:By->τ->Res τ}(hn:NmB G R nm mn){defs:List (By×Def)}(hd:EL defs)(k:Dk)(ho:okK k=true){d d':σ}{e:τ}(hk:EH z nm defs k d=.ok d')(g:G d')(r:R d e):∃e',EH y mn defs k e=.ok e'/\R d' e':=by
 cases k with
 |const n=>cases hk
 |prog n vs=>cases hk
 |alias t=>rw[okK,Bool.and_eq_true]at ho;exact h.ty hn t ho.1 hk g r
 |enum ns is=>
  rw[okK]at ho;exact h.leaf _ _ _ _ _ _ _ omg omg (λm hm=>List.all_eq_true.mp ho m hm) hk g r
 |struct ds=>
  rw[okK,Bool.and_eq_true]at ho;rw[EH]at hk;obtain⟨x,e1,e2⟩:=Res.then_ok hk;have hds:ds.length<=12:=by
   have:=ho.1;rw[Bool.and_eq_true,decide_eq_true_eq]at this;exact this.2
  obtain⟨e',a1,a2⟩:=h.list _ _ d x e omg omg e1 (h.back.parts hn.1 ds ho.2 e2 g) r;rw[EH,a1];exact h.parts hn ds ho.2 e2 g a2
 |union of n arms els=>
  rw[EH]at hk;obtain⟨x,e1,e2⟩:=Res.then_ok hk;cases ha:zx arms els x.1 with
  |none=>rw[ha]at e2;cases e2
  |some t=>
   rw[ha]at e2;have h2:EN of≠2:=by
    have ho:=ho;rw[okK,Bool.and_eq_true,Bool.and_eq_true,bne_iff_ne]at ho;exact ho.1.1
   obtain⟨e',a1,a2⟩:=h.union _ _ _ d x e (abM of) h2 (Zk hd of) e1 (h.back.ty hn.1 t (JS ho ha) e2 g) r;rw[EH,a1];simp only[Res.aS,ha];exact h.ty hn t (JS ho ha) e2 g a2
end
end Go.M
namespace Go.M
theorem UH{d:DS}(h:d.pos+4<=d.b.length):d.word=.ok (w32 (d.b.drop d.pos),{ d with pos:=d.pos+4 }):=by
 unfold DS.word;rw[if_neg omg]
theorem acD{l:By}(h:4<=l.length):∃a b c d r,l=a::b::c::d::r:=by
 match l,h with
 |a::b::c::d::r,_=>exact⟨a,b,c,d,r,rfl⟩
theorem uD(n:Nat)(h:n<256):(LH n).toNat=n:=by
 unfold LH;rw[UInt8.toNat_ofNat'];omega
theorem Wv(n:Nat)(r:By)(h:n<4294967296):w32 (xP n++r)=n:=by
 simp only[xP,List.cons_append,w32];rw[uD _ omg,uD _ omg,uD _ omg,uD _ omg];omega
theorem KD(n:Nat):(xP n).length=4:=rfl
theorem acB{d:DS}{lim:Lim}(h:(d.l.length:Int)<lim.fuel):d.fuel lim=.ok ():=by
 unfold DS.fuel;rw[if_neg omg]
end Go.M
namespace Go.M
def strip(n:Nd):Nd:={ n with at_:=0 }
def alike(a b:List Nd):Prop:=a.map strip=b.map strip
theorem alike.len{a b:List Nd}(h:alike a b):a.length=b.length:=by
 have:=congrArg List.length h;simpa using this
end Go.M
namespace Go.M
def said(n:Nd):Nd:=
 if n.kind=1 then⟨1,n.n,[],0,0⟩else if n.kind=2 then⟨2,0,n.s,0,0⟩else if n.kind=3 then⟨3,0,[],0,n.len⟩else if n.kind=4 then⟨4,n.n,[],0,n.len⟩else⟨n.kind,0,[],0,0⟩
def NdOk(n:Nd):Prop := -9223372036854775808<=n.n/\n.n<9223372036854775808
structure BR (B:By) (M:List Nd) (e:ES) (d:DS):Prop where
 b:d.b=B
 l:e.l=M
 pos:d.pos=e.out.length
 k:d.l.length=e.k
 al:d.l.map strip=(M.take e.k).map said
theorem BR.fuel{B:By}{M:List Nd}{e:ES}{d:DS}(h:BR B M e d){lim rl:Lim}(hf:(e.k:Int)<lim.fuel)(hl:lim.fuel<=rl.fuel):d.fuel rl=.ok ():=acB (by rw[h.k];omega)
theorem BR.drop(h:BR B M e d)(hp:e.out++x<+:B):∃r,B.drop d.pos=x++r/\d.pos+x.length<=B.length:=by
 obtain⟨t,rfl⟩:=hp;refine⟨t,?_,?_⟩
 .rw[h.pos,List.append_assoc,List.drop_left]
 .rw[h.pos];simp
theorem BR.word(h:BR B M e d)(hw:w<4294967296)(hd:B.drop d.pos=xP w++r):d.word=.ok (w,⟨B,d.pos+4,d.l⟩):=by
 have hl:d.pos+4<=B.length:=by
  have:=congrArg List.length hd;rw[List.length_drop,List.length_append,KD]at this;omega
 rw[UH (by rw[h.b];exact hl),h.b,hd,Wv w r hw]
end Go.M
namespace Go.M
theorem aa3{x m:By}(h:4<=x.length):w32 (x++m)=w32 x:=by
 obtain⟨a,b,c,d,r,rfl⟩:=acD h;rfl
structure XR (more:By) (d e:DS):Prop where
 b:e.b=d.b++more
 pos:e.pos=d.pos
 l:e.l=d.l
theorem XR.word{more:By}{d e:DS}(h:XR more d e)(hl:d.pos+4<=d.b.length):e.word=.ok (w32 (d.b.drop d.pos),⟨e.b,d.pos+4,d.l⟩):=by
 rw[UH (by rw[h.b,h.pos,List.length_append];omega),h.b,h.pos,List.drop_append_of_le_length omg,aa3 (by rw[List.length_drop];omega),h.l]
def Ord(b:By):Nat->List Nd->Nat->Prop
 |p,[],q=>p<=q
 |p,n::r,q=>if n.kind=2 then ∃a:Nat,n.at_=a/\p<=a/\a+n.s.length<=b.length/\n.s=(b.drop a).take n.s.length/\Ord b (a+n.s.length) r q else Ord b p r q
theorem Ord.lower{b:By}:∀{l:List Nd} {p p' q:Nat},Ord b p l q->p'<=p->Ord b p' l q
 |[],p,p',q,h,hp=>Nat.le_trans hp h
 |n::r,p,p',q,h,hp=>by
  rw[Ord]at h ⊢;split at h
  .rename_i hk;rw[if_pos hk];obtain⟨a,h1,h2,h3⟩:=h;exact⟨a,h1,omg,h3⟩
  .rename_i hk;rw[if_neg hk];exact h.lower hp
theorem Ord.app{b:By}:∀{l m:List Nd} {p q r:Nat},Ord b p l q->Ord b q m r->Ord b p (l++m) r
 |[],m,p,q,r,h,k=>k.lower h
 |n::l,m,p,q,r,h,k=>by
  rw[List.cons_append,Ord];rw[Ord]at h;split at h
  .rename_i hk;rw[if_pos hk];obtain⟨a,h1,h2,h3,h4,h5⟩:=h;exact⟨a,h1,h2,h3,h4,h5.app k⟩
  .rename_i hk;rw[if_neg hk];exact h.app k
def texts(l:List Nd):List Nd:=l.filter λn=>n.kind==2
structure Far (d d':DS):Prop where
 b:d'.b=d.b
 le:d.pos<=d'.pos
 in_:d.pos<=d.b.length->d'.pos<=d.b.length
 dvd:4∣d'.pos - d.pos
 ex:∃ns,d'.l=d.l++ns/\Ord d.b d.pos ns d'.pos/\4*(texts ns).length<=d'.pos - d.pos
theorem Far.refl(d:DS):Far d d:=⟨rfl,Nat.le_refl _,λh=>h,smp,[],smp,Nat.le_refl _,by simp[texts]⟩
theorem Far.trans{a b c:DS}(h:Far a b)(k:Far b c):Far a c:=by
 obtain⟨n1,e1,e2,e3⟩:=h.ex;obtain⟨n2,f1,f2,f3⟩:=k.ex;have h1:=h.le;have h2:=k.le;rw[h.b]at f2;refine⟨k.b.trans h.b,Nat.le_trans h1 h2,λx=>?_,?_,n1++n2,?_,e2.app f2,?_⟩
 .have:=k.in_ (by rw[h.b];exact h.in_ x);rw[h.b]at this;exact this
 .have:=h.dvd;have:=k.dvd;omega
 .rw[f1,e1,List.append_assoc]
 .simp only[texts,List.filter_append,List.length_append]at *;omega
theorem Far.len{d d':DS}(h:Far d d'):d.l.length<=d'.l.length:=by
 obtain⟨ns,e,_⟩:=h.ex;rw[e,List.length_append];omega
section
variable {lim:Lim}
end
end Go.M
namespace Go.M
structure IOk (len:Nat) (tabs:List Tab) (i:Ins):Prop where
 n:0<=i.n/\i.n<=4294967295
 to:i.to<len
 ge:i.op=13\/0<=i.to
 tab:i.op=13->∃tb m,i.table=some tb/\tabs[tb]?=some m/\∀x∈m,x.2<len
def PIns(e:Nat)(i:Ins):Prop:=(0<=i.n/\i.n<=4294967295)/\0<=i.to/\i.to<=e/\i.op≠13
theorem PIns.ok(h:PIns e i)(hl:e<len):IOk len tabs i:=⟨h.1,by have:=h.2.2.1;omega,Or.inr h.2.1,λh13=>absurd h13 h.2.2.2⟩
def okP:Dk->Bool
 |.prog _ vs=>vs.all λv=>v.procs.all λq=>okT q.arg&&okT q.res
 |_=>true
structure Tidy (ds:List Def):Prop where
 fine:fine ds=true
 ok:∀d∈ds,okK d.k=true/\okP d.k=true
structure Comp (ds:List Def) (c:CS):Prop where
 li:LI (aP CS.empty ds)
 start:c.start=(aP CS.empty ds).start
 defs:c.defs=(aP CS.empty ds).defs
 tabs:c.tabs=(aP CS.empty ds).tabs
 procs:c.procs=(aP CS.empty ds).procs
 fA:c.fA=(aP CS.empty ds).fA
 rsv:Rsv (aP CS.empty ds).L c.L (aP CS.empty ds).calls (aP CS.empty ds).start
 prg:Prg c.L c.tabs c.start c.defs
 defsOk:EL c.defs
 all:∀i∈c.L,IOk c.L.length c.tabs i
 len:c.L.length+2*c.start.length<1000000
theorem rf.app:∀{t:Ty} {p:Nat},rf L start t p->rf (L++r) start t p:=by
 have g:∀{p:Nat} {x:Ins},L[p]?=some x->(L++r)[p]?=some x:=λh=>by rw[List.getElem?_append_left (vk h)];exact h
 intro t;induction t with
 |basic s=>intro p h;exact g h
 |named s a=>intro p h;obtain⟨t,h1,h2⟩:=h;exact⟨t,h1,g h2⟩
 |bytes a f n=>intro p h;exact g h
 |array t f n ih=>intro p h;exact⟨g h.1,ih h.2.1,g h.2.2⟩
 |opt t ih=>intro p h;exact⟨g h.1,ih h.2⟩
 |void=>intro p h;exact g h
theorem JX.app(h:JX L tabs start defs p tb k):JX (L++r) tabs start defs p tb k:=by
 have g:∀{p:Nat} {x:Ins},L[p]?=some x->(L++r)[p]?=some x:=λh=>by rw[List.getElem?_append_left (vk h)];exact h
 have gp:∀(l:List Decl) {p:Nat},MJ L start l p->MJ (L++r) start l p:=by
  intro l;induction l with
  |nil=>intro p _;trivial
  |cons d l ih=>intro p h;exact⟨h.1.app,ih h.2⟩
 have ga:∀(l:List Arm) {p:Nat} {e:Int},ML L start e l p->ML (L++r) start e l p:=by
  intro l;induction l with
  |nil=>intro p e _;trivial
  |cons d l ih=>intro p e h;exact⟨h.1.app,g h.2.1,ih h.2.2⟩
 cases k with
 |const n=>trivial
 |prog n vs=>trivial
 |alias t=>exact⟨h.1.app,g h.2⟩
 |enum ns is=>exact⟨g h.1,h.2.1,g h.2.2⟩
 |struct ds=>exact⟨g h.1,gp ds h.2.1,g h.2.2⟩
 |union of n arms els=>
  refine⟨g h.1,h.2.1,h.2.2.1,ga arms h.2.2.2.1,?_,g h.2.2.2.2.2⟩;have he:=h.2.2.2.2.1;cases els with
  |none=>trivial
  |some d=>exact⟨he.1.app,g he.2⟩
theorem Prg.app(h:Prg L tabs start defs):Prg (L++r) tabs start defs:=
 ⟨λs p hs=>by obtain⟨d,tb,h1,h2,h3,h4⟩:=h.named s p hs;exact⟨d,tb,h1,h2,h3,h4.app⟩⟩
structure Whole (ds:List Def) (c d:CS):Prop where
 comp:Comp ds c
 start:d.start=c.start
 defs:d.defs=c.defs
 tabs:d.tabs=c.tabs
 procs:d.procs=c.procs
 fA:d.fA=c.fA
 prg:Prg d.L d.tabs d.start d.defs
 all:∀i∈d.L,insOk d.L.length d.tabs i=true
 len:d.L.length<1000000
 pre:∃r,d.L=c.L++r
 has:∀s,(d.types.lookup s).isSome=(d.start.lookup s).isSome
 ent:∀s p,d.types.lookup s=some p->∃t,d.start.lookup s=some t/\d.L[p]?=some { ins 6 with to:=((t:Nat):Int) }/\d.L[p+1]?=some (ins 16)
theorem Whole.run(h:Whole ds c d)(w:OW σ d.L d.tabs io z)(hd:lim.depth<=900)(hp:d.types.lookup s=some p)(x:σ):
  ∃n,Jk d.L lim io n ⟨p,[],[],x⟩=some ((sem z d.defs lim.depth.toNat s x).andThen λy=>.ok ⟨p+1,[],[],y⟩):=by
 obtain⟨t,h1,h2,h3⟩:=h.ent s p hp;have ho:EL d.defs:=by rw[h.defs];exact h.comp.defsOk
 exact YS w h.prg ho hd (t:=.named s 0) rfl (p:=p) x ⟨t,h1,h2⟩ h3
end Go.M
namespace Go.M
end Go.M
set_option maxRecDepth 100000
namespace Go.M
end Go.M
namespace Go.M
section
variable {defs:List (By×Def)} {lim wl:Lim} {t:Ty} {b:By}
end
end Go.M
namespace Go.M
def Yl{α:Type}(m:Res α)(Q:α->Prop):Prop:=∀a,m=.ok a->Q a
theorem Yl.ok(h:Q a):Yl (.ok a) Q:=λb hb=>by cases hb;exact h
theorem Yl.no:Yl (.no e a:Res α) Q:=λb hb=>by cases hb
theorem Yl.bind(h:Yl m P)(hk:∀a,P a->Yl (k a) Q):Yl (m.andThen k) Q:=λb hb=>by
 obtain⟨a,ha,hb⟩:=Res.then_ok hb;exact hk a (h a ha) b hb
theorem Yl.any:Yl m (λ_=>True):=λ_ _=>trivial
theorem Yl.dX{α β:Type}{m:Res α}{k:α->Res β}{Q:β->Prop}(hk:∀a,Yl (k a) Q):Yl (m.andThen k) Q:=Yl.bind Yl.any λa _=>hk a
theorem Yl.ite[Decidable c](h1:c->Yl A Q)(h2:¬ c->Yl B Q):Yl (if c then A else B) Q:=by
 split
 .exact h1 asu
 .exact h2 asu
theorem Yl.mono(h:Yl m P)(k:∀a,P a->Q a):Yl m Q:=λa ha=>k a (h a ha)
def kindOk(t:Ty):Prop:=Rj t=true/\t≠.void/\tsz t=1
theorem kindOk.basic(s:By):kindOk (.basic s):=⟨rfl,smp,rfl⟩
theorem O1(p:PS):Yl (kindOf p) λx=>kindOk x.1:=by
 unfold kindOf;refine Yl.ite (λ_=>Yl.dX λ_=>Yl.ok ⟨rfl,smp,rfl⟩) λ_=>?_;refine Yl.dX λ_=>Yl.ite (λ_=>Yl.ok (kindOk.basic _)) λ_=>Yl.dX λ_=>Yl.ite (λ_=>Yl.ok (kindOk.basic _)) λ_=>Yl.dX λ_=>Yl.ite (λ_=>Yl.ok (kindOk.basic _)) λ_=>Yl.dX λ_=>Yl.ite (λ_=>?_) λ_=>Yl.no;exact Yl.dX λ_=>Yl.ite (λ_=>Yl.ok (kindOk.basic _)) λ_=>Yl.dX λ_=>Yl.ok (kindOk.basic _)
theorem GM(p:PS)(lo hi:Int)(keep:Int->Nat->Res σ):Yl (value p lo hi keep) λx=>lo<=x.1/\x.1<=hi:=λx hx=>yl hx
theorem UG(p:PS):Yl (bound p) λx=>okN x.1 x.2.1=true:=by
 unfold bound;refine Yl.dX λx=>Yl.ite (λ_=>?_) λ_=>Yl.dX λp=>Yl.dX λx=>Yl.ite (λ_=>Yl.ok rfl) λ_=>?_
 .refine Yl.bind (GM _ _ _ _) λy hy=>Yl.dX λp=>Yl.ok ?_;simp only[okN,if_true,decide_eq_true_eq];exact hy
 .refine Yl.bind (GM _ _ _ _) λy hy=>Yl.dX λp=>Yl.ok ?_;simp only[okN,Bool.false_eq_true,if_false,decide_eq_true_eq];exact hy
def lh(t:Ty):Prop:=okT t=true/\t≠.void/\tsz t<=3
theorem kindOk.decl(h:kindOk t):lh t:=⟨xH h.1,h.2.1,by have:=h.2.2;omega⟩
theorem XV{σ:Type}(nm:PS->Res (Wd×σ×PS))(p:PS):Yl (decl nm p) λx=>lh x.1.ty:=by
 unfold decl;refine Yl.ite (λ_=>?_) λ_=>?_
 .refine Yl.dX λp=>Yl.dX λx=>Yl.ite (λ_=>Yl.no) λ_=>Yl.bind (UG _) λy hy=>Yl.ok ⟨hy,smp,by simp[tsz]⟩
 .refine Yl.bind (O1 p) λt ht=>Yl.dX λy=>Yl.ite (λ_=>?_) λ_=>?_
  .exact Yl.dX λx=>Yl.ok ⟨ht.1,smp,by simp[tsz,ht.2.2]⟩
  .refine Yl.dX λx=>Yl.ite (λ_=>?_) λ_=>Yl.ok ht.decl;refine Yl.bind (UG _) λz hz=>Yl.ok ⟨?_,smp,by simp[tsz,ht.2.2]⟩;simp only[okT,ht.1,hz,Bool.and_self]
theorem O0(p:PS)(l:List By):Yl (member p l) λx=>lh x.1.ty:=by
 unfold member;exact Yl.bind (XV _ p) λx hx=>Yl.dX λ_=>Yl.ok hx
def jU(t:Ty):Prop:=okT t=true/\tsz t<=3
theorem lh.side(h:lh t):jU t:=⟨h.1,h.2.2⟩
theorem y_arm(p:PS)(l:List By):Yl (arm p l) λx=>jU x.1.ty:=by
 unfold arm;refine Yl.dX λx=>Yl.ite (λ_=>Yl.dX λ_=>Yl.ok ⟨rfl,by simp[tsz]⟩) λ_=>(O0 _ _).mono λ_ h=>h.side
theorem XU(p:PS):Yl (side p) λx=>jU x.1:=by
 unfold side;exact Yl.dX λx=>Yl.ite (λ_=>Yl.ok ⟨rfl,by simp[tsz]⟩) λ_=>(O1 _).mono λ_ h=>h.decl.side
theorem Ht:∀(k:Nat) (p:PS) (ns:List By) (is:List Int),(is.all i32=true)->Yl (jY k p ns is) λx=>x.2.1.all i32=true/\x.2.1.length<=is.length+k
 |0,_,_,_,_=>Yl.no
 |k+1,p,ns,is,h=>by
  rw[jY];refine Yl.dX λ_=>Yl.dX λm=>Yl.dX λp=>Yl.bind (GM _ _ _ _) λv hv=>Yl.dX λx=>?_;have h':(is++[v.1]).all i32=true:=by
   rw[List.all_append,h];simp only[List.all_cons,List.all_nil,Bool.and_true,Bool.true_and,i32,decide_eq_true_eq];exact hv
  refine Yl.ite (λ_=>?_) λ_=>Yl.ok ⟨h',smp⟩;exact(Ht k _ _ _ h').mono λa ha=>⟨ha.1,by have:=ha.2;simp at this;omega⟩
theorem BO:∀(k:Nat) (p:PS) (ds:List Decl) (l:List By),(∀d∈ds,lh d.ty)->Yl (gW k p ds l) λx=>(∀d∈x.1,lh d.ty)/\x.1.length<=ds.length+k/\1<=x.1.length
 |0,_,_,_,_=>Yl.no
 |k+1,p,ds,l,h=>by
  rw[gW];refine Yl.bind (O0 p l) λd hd=>Yl.dX λx=>?_;have h':∀a∈ds++[d.1],lh a.ty:=λa ha=>by
   rcases List.mem_append.mp ha with ha|ha
   .exact h a ha
   .rw[List.mem_singleton]at ha;subst ha;exact hd
  refine Yl.ite (λ_=>Yl.ok ⟨h',smp,smp⟩) λ_=>?_;exact(BO k _ _ _ h').mono λa ha=>⟨ha.1,by have:=ha.2.1;simp at this;omega,ha.2.2⟩
def I8(enums:List (By×List Int)):Ty->Prop
 |.basic s=>gI s≠2
 |.named s _=>∃nums,enums.lookup s=some nums
 |_=>False
theorem Hu(p:PS):Yl (fK p) λx=>I8 p.enums x.1.1:=by
 unfold fK;refine Yl.ite (λ_=>?_) λ_=>?_
 .cases hl:p.enums.lookup p.w.s with
  |none=>exact Yl.no
  |some nums=>exact Yl.dX λ_=>Yl.ok ⟨nums,hl⟩
 .refine Yl.dX λ_=>Yl.ite (λ_=>Yl.ok (by show gI _≠2;decide)) λ_=>Yl.dX λ_=>Yl.ite (λ_=>Yl.ok (by show gI _≠2;decide)) λ_=>Yl.dX λ_=>Yl.ite (λ_=>Yl.dX λ_=>Yl.ok (by show gI _≠2;decide)) λ_=>Yl.no
theorem Be(lo hi:Int)(nums:Option (List Int)):∀(k:Nat) (p:PS) (a there:List Int),Yl (jA lo hi nums k p a there) λx=>x.1.length<=a.length+k/\a.length+1<=x.1.length/\x.2.1.length=there.length+(x.1.length - a.length)
 |0,_,_,_=>Yl.no
 |k+1,p,a,there=>by
  rw[jA];refine Yl.dX λp=>Yl.bind (P:=λv=>v.2.1=there++[v.1]) (λv hv=>Ie hv) λv hv=>Yl.dX λp=>Yl.ite (λ_=>?_) λ_=>Yl.ok ?_
  .refine(Be lo hi nums k _ _ _).mono λx hx=>?_;rw[hv]at hx;simp only[List.length_append,List.length_singleton]at hx;omega
  .rw[hv];simp only[List.length_append,List.length_singleton];omega
theorem KC(lo hi:Int)(nums:Option (List Int)):∀(k:Nat) (p:PS) (as:List Arm) (l:List By) (there:List Int),(∀a∈as,jU a.decl.ty/\a.nums.length<=12)->Yl (mO lo hi nums k p as l there) λx=>(∀a∈x.1,jU a.decl.ty/\a.nums.length<=12)/\x.1.length<=as.length+k
 |0,_,_,_,_,_=>Yl.no
 |k+1,p,as,l,there,h=>by
  rw[mO];refine Yl.bind (Be lo hi nums _ p [] there) λc hc=>Yl.bind (y_arm c.2.2 l) λd hd=>?_;have h':∀a∈as++[⟨c.1,d.1⟩],jU a.decl.ty/\a.nums.length<=12:=λa ha=>by
   rcases List.mem_append.mp ha with ha|ha
   .exact h a ha
   .rw[List.mem_singleton]at ha;subst ha;exact⟨hd,by have:=hc.1;simp at this;show c.1.length<=12;omega⟩
  refine Yl.ite (λ_=>?_) λ_=>Yl.ok ⟨h',smp⟩;exact(KC lo hi nums k _ _ _ _ h').mono λa ha=>⟨ha.1,by have:=ha.2;simp at this;omega⟩
theorem Bc(p:PS)(l:List Int):Yl (numbered p l) λx=>inRange x.1=true:=by
 unfold numbered;refine Yl.dX λp=>Yl.bind (GM _ _ _ _) λv hv=>Yl.dX λp=>Yl.ok ?_;simp only[inRange,decide_eq_true_eq];exact hv
def IU(q:pG):Prop:=jU q.arg/\jU q.res/\inRange q.n=true
theorem Hr:∀(k:Nat) (p:PS) (qs:List pG) (l:List By) (ns:List Int),(∀q∈qs,IU q)->Yl (jW k p qs l ns) λx=>(∀q∈x.1,IU q)/\x.1.length<=qs.length+k
 |0,_,_,_,_,_=>Yl.no
 |k+1,p,qs,l,ns,h=>by
  rw[jW];refine Yl.bind (XU p) λr hr=>Yl.dX λnm=>Yl.dX λp=>Yl.bind (XU p) λa ha=>Yl.dX λp=>Yl.bind (Bc p ns) λn hn=>Yl.dX λx=>?_;have h':∀q∈qs++[⟨nm.1.s,n.1,a.1,r.1⟩],IU q:=λq hq=>by
   rcases List.mem_append.mp hq with hq|hq
   .exact h q hq
   .rw[List.mem_singleton]at hq;subst hq;exact⟨ha,hr,hn⟩
  refine Yl.ite (λ_=>Yl.ok ⟨h',smp⟩) λ_=>?_;exact(Hr k _ _ _ _ h').mono λa ha=>⟨ha.1,by have:=ha.2;simp at this;omega⟩
def wG(v:qw):Prop:=(∀q∈v.procs,IU q)/\v.procs.length<=8/\inRange v.n=true
theorem VY(p:PS)(names:List By)(nums:List Int):Yl (version p names nums) λx=>wG x.1:=by
 unfold version;refine Yl.dX λp=>Yl.dX λnm=>Yl.dX λp=>Yl.bind (Hr 8 p [] [] [] (λq h=>by cases h)) λx hx=>Yl.bind (Bc _ _) λn hn=>Yl.ok ⟨hx.1,by have:=hx.2;simpa using this,hn⟩
theorem Hq:∀(k:Nat) (p:PS) (vs:List qw) (l:List By) (ns:List Int),(∀v∈vs,wG v)->Yl (jR k p vs l ns) λx=>(∀v∈x.1,wG v)/\x.1.length<=vs.length+k
 |0,_,_,_,_,_=>Yl.no
 |k+1,p,vs,l,ns,h=>by
  rw[jR];refine Yl.bind (VY p l ns) λv hv=>Yl.dX λx=>?_;have h':∀a∈vs++[v.1],wG a:=λa ha=>by
   rcases List.mem_append.mp ha with ha|ha
   .exact h a ha
   .rw[List.mem_singleton]at ha;subst ha;exact hv
  refine Yl.ite (λ_=>Yl.ok ⟨h',smp⟩) λ_=>?_;exact(Hq k _ _ _ _ h').mono λa ha=>⟨ha.1,by have:=ha.2;simp at this;omega⟩
def GL(enums:List (By×List Int)):Dk->Prop
 |.const _=>True
 |.alias t=>lh t
 |.enum _ nums=>nums.all i32=true/\nums.length<=12
 |.struct ds=>(∀d∈ds,lh d.ty)/\1<=ds.length/\ds.length<=12
 |.union of _ arms els=>I8 enums of/\(∀a∈arms,jU a.decl.ty/\a.nums.length<=12)/\arms.length<=13/\(∀d,els=some d->jU d.ty)
 |.prog n vs=>inRange n=true/\(∀v∈vs,wG v)/\vs.length<=4
end Go.M
namespace Go.M
def ne(p:PS):List By×List (By×List Int):=(p.names,p.enums)
abbrev NE:=List By×List (By×List Int)
theorem sS(h:advance p=.ok q):ne q=ne p:=by
 obtain⟨x,_,h2⟩:=Res.then_ok h;cases h2;rfl
theorem fJ:∀{l:List By} {p q:PS},want p l=.ok q->ne q=ne p
 |[],p,q,h=>by cases h;rfl
 |s::r,p,q,h=>by
  rw[want]at h;split at h
  .obtain⟨x,h1,h2⟩:=Res.then_ok h;exact(fJ h2).trans (sS h1)
  .cases h
theorem Jj(h:value p lo hi keep=.ok x):ne x.2.2=ne p:=by
 obtain⟨n,h1,h⟩:=Res.then_ok h;split at h
 .cases h
 obtain⟨s,h2,h⟩:=Res.then_ok h;obtain⟨q,h3,h⟩:=Res.then_ok h;cases h;exact sS h3
def Ke{α:Type}(m:Res α)(f:α->NE)(n:NE):Prop:=∀a,m=.ok a->f a=n
theorem Ke.ok(h:f a=n):Ke (.ok a) f n:=λb hb=>by cases hb;exact h
theorem Ke.no:Ke (.no e a) f n:=λb hb=>by cases hb
theorem Ke.ite[Decidable c](h1:Ke A f n)(h2:Ke B f n):Ke (if c then A else B) f n:=by
 split
 .exact h1
 .exact h2
theorem Ke.bind(g:α->NE)(h1:Ke m g n1)(h2:∀a,g a=n1->Ke (k a) f n):Ke (m.andThen k) f n:=λb hb=>by
 obtain⟨a,ha,hk⟩:=Res.then_ok hb;exact h2 a (h1 a ha) b hk
variable {n:NE} {p:PS}
theorem tq(a b:Nat):Ke (count q a b) (λ_=>n) n:=λ_ _=>rfl
theorem iZ(h:ne p=n):Ke (advance p) ne n:=λq hq=>(sS hq).trans h
theorem mD(h:ne p=n):Ke (want p l) ne n:=λq hq=>(fJ hq).trans h
theorem qO(h:ne p=n):Ke (value p lo hi k) (λx=>ne x.2.2) n:=λq hq=>(Jj hq).trans h
theorem jL(h:ne p=n):Ke (take p s) (λx=>ne x.2) n:=by
 unfold take;refine Ke.ite ?_ (Ke.ok h);exact Ke.bind _ (iZ h) λq hq=>Ke.ok hq
theorem jX(h:ne p=n):Ke (called p l) (λx=>ne x.2.2) n:=by
 unfold called;refine Ke.bind (λ_=>n) (λ_ _=>rfl) λw _=>Ke.bind (λ_=>n) (λ_ _=>rfl) λl _=>?_
 (repeat' (first|exact Ke.no|exact Ke.ok (by assumption)|refine Ke.ite ?_ ?_|refine Ke.bind _ (tq _ _) λ_ _=>?_|refine Ke.bind _ (mD (by assumption)) λ_ _=>?_|refine Ke.bind _ (iZ (by assumption)) λ_ _=>?_|refine Ke.bind _ (jL (by assumption)) λ_ _=>?_|refine Ke.bind _ (jX (by assumption)) λ_ _=>?_|refine Ke.bind _ (qO (by assumption)) λ_ _=>?_))
theorem EY(h:ne p=n):Ke (kindOf p) (λx=>ne x.2) n:=by
 unfold kindOf
 (repeat' (first|exact Ke.no|exact Ke.ok (by assumption)|refine Ke.ite ?_ ?_|refine Ke.bind _ (tq _ _) λ_ _=>?_|refine Ke.bind _ (mD (by assumption)) λ_ _=>?_|refine Ke.bind _ (iZ (by assumption)) λ_ _=>?_|refine Ke.bind _ (jL (by assumption)) λ_ _=>?_|refine Ke.bind _ (jX (by assumption)) λ_ _=>?_|refine Ke.bind _ (qO (by assumption)) λ_ _=>?_))
theorem Dw(h:ne p=n):Ke (bound p) (λx=>ne x.2.2) n:=by
 unfold bound
 (repeat' (first|exact Ke.no|exact Ke.ok (by assumption)|refine Ke.ite ?_ ?_|refine Ke.bind _ (tq _ _) λ_ _=>?_|refine Ke.bind _ (mD (by assumption)) λ_ _=>?_|refine Ke.bind _ (iZ (by assumption)) λ_ _=>?_|refine Ke.bind _ (jL (by assumption)) λ_ _=>?_|refine Ke.bind _ (jX (by assumption)) λ_ _=>?_|refine Ke.bind _ (qO (by assumption)) λ_ _=>?_))
theorem abY{σ:Type}{n':NE}{nm:PS->Res (Wd×σ×PS)}(hn:∀q,ne q=n->Ke (nm q) (λx=>ne x.2.2) n')(h:ne p=n):Ke (decl nm p) (λx=>ne x.2.2.2) n':=by
 unfold decl;refine Ke.ite ?_ ?_
 .refine Ke.bind _ (iZ h) λq hq=>Ke.bind _ (hn q hq) λx hx=>Ke.ite Ke.no ?_;refine Ke.bind _ (Dw hx) λy hy=>Ke.ok hy
 .refine Ke.bind _ (EY h) λt ht=>Ke.bind _ (jL ht) λy hy=>Ke.ite ?_ ?_
  .refine Ke.bind _ (hn _ hy) λx hx=>Ke.ok hx
  .refine Ke.bind _ (hn _ hy) λx hx=>Ke.ite ?_ (Ke.ok hx);refine Ke.bind _ (Dw hx) λy hy=>Ke.ok hy
theorem LW{l:List By}(h:ne p=n):Ke (member p l) (λx=>ne x.2.2) n:=by
 unfold member;refine Ke.bind _ (abY (λq hq=>jX hq) h) λx hx=>?_
 (repeat' (first|exact Ke.no|exact Ke.ok (by assumption)|refine Ke.ite ?_ ?_|refine Ke.bind _ (tq _ _) λ_ _=>?_|refine Ke.bind _ (mD (by assumption)) λ_ _=>?_|refine Ke.bind _ (iZ (by assumption)) λ_ _=>?_|refine Ke.bind _ (jL (by assumption)) λ_ _=>?_|refine Ke.bind _ (jX (by assumption)) λ_ _=>?_|refine Ke.bind _ (qO (by assumption)) λ_ _=>?_))
theorem AP:∀(k:Nat) {p:PS} {ds:List Decl} {l:List By},ne p=n->Ke (gW k p ds l) (λx=>ne x.2) n
 |0,_,_,_,_=>Ke.no
 |k+1,p,ds,l,h=>by
  rw[gW];refine Ke.bind _ (LW h) λd hd=>Ke.bind _ (jL hd) λx hx=>Ke.ite (Ke.ok hx) (AP k hx)
theorem Gz(h:ne p=n):Ke (fK p) (λx=>ne x.2) n:=by
 unfold fK;refine Ke.ite ?_ ?_
 .cases p.enums.lookup p.w.s with
  |none=>exact Ke.no
  |some l=>exact Ke.bind _ (iZ h) λq hq=>Ke.ok hq
 ·(repeat' (first|exact Ke.no|exact Ke.ok (by assumption)|refine Ke.ite ?_ ?_|refine Ke.bind _ (tq _ _) λ_ _=>?_|refine Ke.bind _ (mD (by assumption)) λ_ _=>?_|refine Ke.bind _ (iZ (by assumption)) λ_ _=>?_|refine Ke.bind _ (jL (by assumption)) λ_ _=>?_|refine Ke.bind _ (jX (by assumption)) λ_ _=>?_|refine Ke.bind _ (qO (by assumption)) λ_ _=>?_))
theorem ZE(h:ne p=n):Ke (arm p l) (λx=>ne x.2.2) n:=by
 unfold arm;refine Ke.bind _ (jL h) λx hx=>Ke.ite ?_ (LW hx)
 (repeat' (first|exact Ke.no|exact Ke.ok (by assumption)|refine Ke.ite ?_ ?_|refine Ke.bind _ (tq _ _) λ_ _=>?_|refine Ke.bind _ (mD (by assumption)) λ_ _=>?_|refine Ke.bind _ (iZ (by assumption)) λ_ _=>?_|refine Ke.bind _ (jL (by assumption)) λ_ _=>?_|refine Ke.bind _ (jX (by assumption)) λ_ _=>?_|refine Ke.bind _ (qO (by assumption)) λ_ _=>?_))
theorem Gg:∀(k:Nat) {p:PS} {a t:List Int},ne p=n->Ke (jA lo hi nums k p a t) (λx=>ne x.2.2) n
 |0,_,_,_,_=>Ke.no
 |k+1,p,a,t,h=>by
  rw[jA];refine Ke.bind _ (mD h) λq hq=>Ke.bind _ (qO hq) λv hv=>Ke.bind _ (mD hv) λq hq=>Ke.ite (Gg k hq) (Ke.ok hq)
theorem Jr:∀(k:Nat) {p:PS} {ar:List Arm} {l:List By} {t:List Int},ne p=n->Ke (mO lo hi nums k p ar l t) (λx=>ne x.2.2) n
 |0,_,_,_,_,_=>Ke.no
 |k+1,p,ar,l,t,h=>by
  rw[mO];refine Ke.bind _ (Gg _ h) λc hc=>Ke.bind _ (ZE hc) λd hd=>Ke.ite (Jr k hd) (Ke.ok hd)
theorem Vt(h:ne p=n):Ke (side p) (λx=>ne x.2) n:=by
 unfold side;exact Ke.bind _ (jL h) λx hx=>Ke.ite (Ke.ok hx) (EY hx)
theorem y8(h:ne p=n):Ke (numbered p l) (λx=>ne x.2.2) n:=by
 unfold numbered
 (repeat' (first|exact Ke.no|exact Ke.ok (by assumption)|refine Ke.ite ?_ ?_|refine Ke.bind _ (tq _ _) λ_ _=>?_|refine Ke.bind _ (mD (by assumption)) λ_ _=>?_|refine Ke.bind _ (iZ (by assumption)) λ_ _=>?_|refine Ke.bind _ (jL (by assumption)) λ_ _=>?_|refine Ke.bind _ (jX (by assumption)) λ_ _=>?_|refine Ke.bind _ (qO (by assumption)) λ_ _=>?_))
theorem Gf:∀(k:Nat) {p:PS} {qs:List pG} {l:List By} {t:List Int},ne p=n->Ke (jW k p qs l t) (λx=>ne x.2) n
 |0,_,_,_,_,_=>Ke.no
 |k+1,p,qs,l,t,h=>by
  rw[jW];refine Ke.bind _ (Vt h) λr hr=>Ke.bind _ (jX hr) λm hm=>Ke.bind _ (mD hm) λq hq=>Ke.bind _ (Vt hq) λa ha=>Ke.bind _ (mD ha) λq hq=>Ke.bind _ (y8 hq) λv hv=>Ke.bind _ (jL hv) λx hx=>Ke.ite (Ke.ok hx) (Gf k hx)
theorem Ub(h:ne p=n):Ke (version p l t) (λx=>ne x.2.2.2) n:=by
 unfold version;refine Ke.bind _ (mD h) λq hq=>Ke.bind _ (jX hq) λm hm=>Ke.bind _ (mD hm) λq hq=>Ke.bind _ (Gf 8 hq) λx hx=>Ke.bind _ (y8 hx) λv hv=>Ke.ok hv
theorem F9:∀(k:Nat) {p:PS} {vs:List qw} {l:List By} {t:List Int},ne p=n->Ke (jR k p vs l t) (λx=>ne x.2) n
 |0,_,_,_,_,_=>Ke.no
 |k+1,p,vs,l,t,h=>by
  rw[jR];refine Ke.bind _ (Ub h) λv hv=>Ke.bind _ (jL hv) λx hx=>Ke.ite (Ke.ok hx) (F9 k hx)
theorem uC(h:own p=.ok x):x.1.s ∉ p.names/\ne x.2=(p.names++[x.1.s],p.enums):=by
 obtain⟨w,h1,h⟩:=Res.then_ok h;obtain⟨l,h2,h⟩:=Res.then_ok h;obtain⟨q,h3,h⟩:=Res.then_ok h;cases h;simp only[once]at h2;split at h2
 .cases h2
 .rename_i hc;cases h2;exact⟨by simpa using hc,(sS h3).trans rfl⟩
end Go.M
namespace Go.M
theorem aaU{σ:Type}{p:PS}{n:NE}{K:By->NE->Prop}{nm:PS->Res (Wd×σ×PS)}(hn:∀q,ne q=n->Yl (nm q) λx=>K x.1.s (ne x.2.2))(h:ne p=n):Yl (decl nm p) λx=>K x.2.1.s (ne x.2.2.2):=by
 unfold decl;refine Yl.ite (λ_=>?_) λ_=>?_
 .refine Yl.bind (iZ h) λq hq=>Yl.bind (hn q hq) λx hx=>Yl.ite (λ_=>Yl.no) λ_=>?_;refine Yl.bind (Dw (p:=x.2.2) (n:=ne x.2.2) rfl) λy hy=>Yl.ok ?_;show K x.1.s (ne y.2.2);rw[show ne y.2.2=ne x.2.2 from hy];exact hx
 .refine Yl.bind (EY h) λt ht=>Yl.bind (jL ht) λy hy=>Yl.ite (λ_=>?_) λ_=>?_
  .exact Yl.bind (hn _ hy) λx hx=>Yl.ok hx
  .refine Yl.bind (hn _ hy) λx hx=>Yl.ite (λ_=>?_) λ_=>Yl.ok hx;refine Yl.bind (Dw (p:=x.2.2) (n:=ne x.2.2) rfl) λy hy=>Yl.ok ?_;show K x.1.s (ne y.2.2);rw[show ne y.2.2=ne x.2.2 from hy];exact hx
structure Dfn (p:PS) (x:Def×PS):Prop where
 new:x.1.name ∉ p.names
 more:∀s,s∈p.names->s∈x.2.names
 its:x.1.name∈x.2.names
 enums:x.2.enums=p.enums\/∃ns nums,x.1.k=.enum ns nums/\x.2.enums=bK p.enums x.1.name nums
 ok:GL p.enums x.1.k
theorem Dq(h:ne q=ne p):q.names=p.names:=congrArg Prod.fst h
theorem vN(h:ne q=ne p):q.enums=p.enums:=congrArg Prod.snd h
theorem Dfn.mk'(e1:ne q1=ne p)(hn:d.name ∉ q1.names/\ne w=(q1.names++[d.name],q1.enums))(e2:ne r=ne w)(ok:GL p.enums d.k):Dfn p (d,r):=by
 have en:=Dq e1;have ee:=vN e1;have hr:ne r=(q1.names++[d.name],q1.enums):=e2.trans hn.2;have hr1:r.names=q1.names++[d.name]:=congrArg Prod.fst hr;have hr2:r.enums=q1.enums:=congrArg Prod.snd hr;refine⟨by rw[<- en];exact hn.1,λs hs=>?_,?_,Or.inl (hr2.trans ee),ok⟩
 .show s∈r.names;rw[hr1,en];exact List.mem_append_left _ hs
 .show d.name∈r.names;rw[hr1];exact List.mem_append_right _ (List.mem_singleton_self _)
theorem OC(h:constant p=.ok x):Dfn p x:=by
 obtain⟨_,_,h⟩:=Res.then_ok h;obtain⟨q1,h1,h⟩:=Res.then_ok h;obtain⟨q2,h2,h⟩:=Res.then_ok h;obtain⟨q3,h3,h⟩:=Res.then_ok h;obtain⟨q4,h4,h⟩:=Res.then_ok h;obtain⟨q5,h5,h⟩:=Res.then_ok h;cases h;exact Dfn.mk' (d:=⟨_,_,_⟩) (fJ h1) (uC h2) (r:={ q5 with n1:=q5.n1+1,consts:=_ }) ((fJ h5).trans ((Jj h4).trans (fJ h3))) trivial
theorem XF(h:alias p=.ok x):Dfn p x:=by
 obtain⟨q1,h1,h⟩:=Res.then_ok h;obtain⟨d,h2,h⟩:=Res.then_ok h;obtain⟨q3,h3,h⟩:=Res.then_ok h;cases h
 have hK:=aaU (K:=λs m=>s ∉ q1.names/\m=(q1.names++[s],q1.enums)) (nm:=Dn) (p:=q1) (n:=ne q1) (λq hq=>by
  unfold Dn;refine Yl.bind (P:=λx=>x.1.s ∉ q.names/\ne x.2=(q.names++[x.1.s],q.enums)) (λa ha=>uC ha) λa ha=>Yl.ok ?_;rw[Dq hq,vN hq]at ha
  exact ha) rfl _ h2
 exact Dfn.mk' (d:=⟨_,_,_⟩) (fJ h1) hK (fJ h3) (XV _ _ _ h2)
theorem Ul(h:jE p=.ok x):Dfn p x:=by
 obtain⟨q1,h1,h⟩:=Res.then_ok h;obtain⟨q2,h2,h⟩:=Res.then_ok h;obtain⟨q3,h3,h⟩:=Res.then_ok h;obtain⟨q4,h4,h⟩:=Res.then_ok h;obtain⟨q5,h5,h⟩:=Res.then_ok h;cases h;have hs:=BO 12 _ _ _ (λd hd=>by cases hd) _ h4;exact Dfn.mk' (d:=⟨_,_,_⟩) (fJ h1) (uC h2) ((fJ h5).trans ((AP 12 rfl _ h4).trans (fJ h3))) ⟨hs.1,hs.2.2,by have:=hs.2.1;simpa using this⟩
theorem XE(h:union p=.ok x):Dfn p x:=by
 obtain⟨q1,h1,h⟩:=Res.then_ok h;obtain⟨q2,h2,h⟩:=Res.then_ok h;obtain⟨q3,h3,h⟩:=Res.then_ok h;obtain⟨q4,h4,h⟩:=Res.then_ok h;obtain⟨q5,h5,h⟩:=Res.then_ok h;obtain⟨q6,h6,h⟩:=Res.then_ok h;obtain⟨q7,h7,h⟩:=Res.then_ok h;obtain⟨q8,h8,h⟩:=Res.then_ok h;obtain⟨q9,h9,h⟩:=Res.then_ok h;obtain⟨q10,h10,h⟩:=Res.then_ok h;cases h;have a8:ne q8.2=ne q2.2:=(jL rfl _ h8).trans ((Jr 13 rfl _ h7).trans ((fJ h6).trans ((jX rfl _ h5).trans ((Gz rfl _ h4).trans (fJ h3)))));have h9':(ne q9.2=ne q8.2)/\∀d,q9.1=some d->jU d.ty:=by
  split at h9
  .obtain⟨r1,g1,h9⟩:=Res.then_ok h9;obtain⟨r2,g2,h9⟩:=Res.then_ok h9;cases h9;exact⟨(ZE rfl _ g2).trans (fJ g1),λd hd=>by cases hd;exact y_arm _ _ _ g2⟩
  .cases h9;exact⟨rfl,λd hd=>by cases hd⟩
 have hd:=Hu _ _ h4;have he:q3.enums=p.enums:=by
  rw[vN (fJ h3)];rw[show q2.2.enums=q1.enums from congrArg Prod.snd (uC h2).2,vN (fJ h1)]
 have ha:=KC _ _ _ 13 _ _ _ _ (λa ha=>by cases ha) _ h7;exact Dfn.mk' (d:=⟨_,_,_⟩) (fJ h1) (uC h2) ((fJ h10).trans (h9'.1.trans a8)) ⟨by rw[<- he];exact hd,ha.1,by have:=ha.2;simpa using this,h9'.2⟩
theorem Rz(h:program p=.ok x):Dfn p x:=by
 obtain⟨_,_,h⟩:=Res.then_ok h;obtain⟨q1,h1,h⟩:=Res.then_ok h;obtain⟨q2,h2,h⟩:=Res.then_ok h;obtain⟨q3,h3,h⟩:=Res.then_ok h;obtain⟨q4,h4,h⟩:=Res.then_ok h;obtain⟨q5,h5,h⟩:=Res.then_ok h;cases h;have hv:=Hq 4 _ _ _ _ (λv hv=>by cases hv) _ h4;exact Dfn.mk' (d:=⟨_,_,_⟩) (w:=q2.2) (r:={ q5.2.2 with aj:=q5.2.1 }) ((fJ h1).trans rfl) (uC h2) ((show ne { q5.2.2 with aj:=q5.2.1 }=ne q5.2.2 from rfl).trans ((y8 rfl _ h5).trans ((F9 4 rfl _ h4).trans (fJ h3))))
  ⟨Bc _ _ _ h5,hv.1,by have:=hv.2;simpa using this⟩
theorem zi:∀(k:Nat) {p:PS} {ns:List By} {is:List Int} {x:List By×List Int×PS},jY k p ns is=.ok x->(∀s,s∈p.names->s∈x.2.2.names)/\x.2.2.enums=p.enums/\x.2.2.n0=p.n0
 |0,_,_,_,_,h=>by cases h
 |k+1,p,ns,is,x,h=>by
  rw[jY]at h;obtain⟨_,_,h⟩:=Res.then_ok h;obtain⟨q1,h1,h⟩:=Res.then_ok h;obtain⟨q2,h2,h⟩:=Res.then_ok h;obtain⟨q3,h3,h⟩:=Res.then_ok h;obtain⟨q4,h4,h⟩:=Res.then_ok h;have e1:=uC h1;have e3:ne q3.2.2=ne q1.2:=(Jj h3).trans (fJ h2);have e4:ne q4.2=ne { q3.2.2 with n1:=q3.2.2.n1+1,consts:=bK q3.2.2.consts q1.1.s q3.1 }:=jL rfl _ h4;have e5:ne q4.2=(p.names++[q1.1.s],p.enums):=e4.trans (e3.trans e1.2);have e0:q4.2.n0=p.n0:=by
   have a1:=(sN h3).trans ((gq h2).trans (sO h1));have a2:nn q4.2=nn { q3.2.2 with n1:=q3.2.2.n1+1,consts:=bK q3.2.2.consts q1.1.s q3.1 }:=iO rfl _ h4;have b1:q3.2.2.n0=p.n0:=congrArg Prod.fst a1;have b2:q4.2.n0=q3.2.2.n0:=congrArg Prod.fst a2;omega
  have en:q4.2.names=p.names++[q1.1.s]:=congrArg Prod.fst e5;have ee:q4.2.enums=p.enums:=congrArg Prod.snd e5;split at h
  .obtain⟨g1,g2,g3⟩:=zi k h;exact⟨λs hs=>g1 s (by rw[en];exact List.mem_append_left _ hs),g2.trans ee,g3.trans e0⟩
  .cases h;exact⟨λs hs=>by show s∈q4.2.names;rw[en];exact List.mem_append_left _ hs,ee,e0⟩
theorem RF(h:enum p=.ok x):Dfn p x/\x.2.n0=p.n0:=by
 obtain⟨q1,h1,h⟩:=Res.then_ok h;obtain⟨q2,h2,h⟩:=Res.then_ok h;obtain⟨q3,h3,h⟩:=Res.then_ok h;obtain⟨q4,h4,h⟩:=Res.then_ok h;obtain⟨q5,h5,h⟩:=Res.then_ok h;cases h;have hl:=Ht 12 _ [] [] rfl _ h4;obtain⟨g1,g2,g3⟩:=zi 12 h4;have e2:=uC h2;have e3:ne q3=(q1.names++[q2.1.s],q1.enums):=(fJ h3).trans e2.2;have en1:=Dq (fJ h1);have ee1:=vN (fJ h1);have en3:q3.names=q1.names++[q2.1.s]:=congrArg Prod.fst e3;have ee3:q3.enums=q1.enums:=congrArg Prod.snd e3;have en5:=Dq (fJ h5);have ee5:q5.enums=p.enums:=(vN (fJ h5)).trans (g2.trans (ee3.trans ee1));refine⟨⟨by show q2.1.s ∉ p.names;rw[<- en1];exact e2.1,λs hs=>?_,?_,Or.inr ⟨_,_,rfl,?_⟩,⟨hl.1,by have:=hl.2;simpa using this⟩⟩,?_⟩
 .show s∈q5.names;rw[en5];exact g1 s (by rw[en3,en1];exact List.mem_append_left _ hs)
 .show q2.1.s∈q5.names;rw[en5];exact g1 _ (by rw[en3];exact List.mem_append_right _ (List.mem_singleton_self _))
 .show bK q5.enums _ _=_;rw[ee5]
 .show q5.n0=p.n0;have a1:q5.n0=q4.2.2.n0:=congrArg Prod.fst (gq h5);have a2:q3.n0=p.n0:=congrArg Prod.fst ((gq h3).trans ((sO h2).trans (gq h1)));omega
def nest:Dk->Bool
 |.alias _=>true
 |.struct _=>true
 |.union _ _ _ _=>true
 |_=>false
theorem Qz(h:constant p=.ok x):nest x.1.k=false/\x.2.n0=p.n0:=by
 obtain⟨_,_,h⟩:=Res.then_ok h;obtain⟨q1,h1,h⟩:=Res.then_ok h;obtain⟨q2,h2,h⟩:=Res.then_ok h;obtain⟨q3,h3,h⟩:=Res.then_ok h;obtain⟨q4,h4,h⟩:=Res.then_ok h;obtain⟨q5,h5,h⟩:=Res.then_ok h;cases h;exact⟨rfl,(congrArg Prod.fst ((gq h5).trans ((sN h4).trans ((gq h3).trans ((sO h2).trans (gq h1))))):q5.n0=p.n0)⟩
theorem TY(h:program p=.ok x):nest x.1.k=false/\x.2.n0=p.n0:=by
 obtain⟨_,_,h⟩:=Res.then_ok h;obtain⟨q1,h1,h⟩:=Res.then_ok h;obtain⟨q2,h2,h⟩:=Res.then_ok h;obtain⟨q3,h3,h⟩:=Res.then_ok h;obtain⟨q4,h4,h⟩:=Res.then_ok h;obtain⟨q5,h5,h⟩:=Res.then_ok h;cases h;exact⟨rfl,(congrArg Prod.fst ((uJ rfl _ h5).trans ((y7 4 rfl _ h4).trans ((gq h3).trans ((sO h2).trans (gq h1))))):q5.2.2.n0=p.n0)⟩
theorem MM(h:definition p=.ok x):Dfn p x/\p.n0+(if nest x.1.k then 1 else 0)<=x.2.n0/\(nest x.1.k=true->p.n0<24):=by
 have up:∀{f:PS->Res (Def×PS)},((count p p.n0 24).andThen λ_=>f { p with n0:=p.n0+1 })=.ok x->p.n0<24/\f { p with n0:=p.n0+1 }=.ok x:=by
  intro f h;obtain⟨_,h1,h⟩:=Res.then_ok h;exact⟨jy h1,h⟩
 have same:Dfn { p with n0:=p.n0+1 } x->Dfn p x:=λd=>⟨d.new,d.more,d.its,d.enums,d.ok⟩;have one:(if nest x.1.k then 1 else 0)<=1:=by split<;>omega
 have fin:p.n0<24->Dfn { p with n0:=p.n0+1 } x->x.2.n0=p.n0+1->Dfn p x/\p.n0+(if nest x.1.k then 1 else 0)<=x.2.n0/\(nest x.1.k=true->p.n0<24):=λa b c=>⟨same b,omg,λ_=>a⟩;have fin0:Dfn p x->(nest x.1.k=false/\x.2.n0=p.n0)->Dfn p x/\p.n0+(if nest x.1.k then 1 else 0)<=x.2.n0/\(nest x.1.k=true->p.n0<24):=λa b=>⟨a,by rw[b.1,b.2];simp,λc=>by rw[b.1]at c;cases c⟩;unfold definition at h;split at h
 .exact fin0 (OC h) (Qz h)
 split at h
 .exact fin0 (Rz h) (TY h)
 simp only at h;split at h
 .obtain⟨a,h⟩:=up h;exact fin a (XF h) (congrArg Prod.fst (QV rfl _ h))
 split at h
 .obtain⟨a,h⟩:=up h;exact fin a (RF h).1 (RF h).2
 split at h
 .obtain⟨a,h⟩:=up h;exact fin a (Ul h) (congrArg Prod.fst (LQ rfl _ h))
 split at h
 .obtain⟨a,h⟩:=up h;exact fin a (XE h) (congrArg Prod.fst (QQ rfl _ h))
 cases h
end Go.M
namespace Go.M
def leads:Dk->List Ty
 |.alias t=>[t]
 |.struct ds=>ds.map (·.ty)
 |.union _ _ arms els=>arms.map (·.decl.ty)++(els.map (·.ty)).toList
 |_=>[]
def OA(d:Dk):Prop:=(∀t∈leads d,okT t=true)/\(leads d).length<=14
def unseen(defs:List (By×Def))(seen:List By):Nat:=defs.countP λe=>nest e.2.k&&!seen.contains e.1
theorem FD(defs:List (By×Def))(h:∀s∈a,s∈b):unseen defs b<=unseen defs a:=by
 unfold unseen;refine List.countP_mono_left λe _=>?_;simp only[Bool.and_eq_true,Bool.not_eq_true',List.contains_eq_mem,decide_eq_false_iff_not];exact λ⟨h1,h2⟩=>⟨h1,λh3=>h2 (h _ h3)⟩
theorem FH:∀{defs:List (By×Def)} {a:List By},defs.lookup s=some d->nest d.k=true->s ∉ a->unseen defs (a++[s])+1<=unseen defs a
 |[],a,h,_,_=>by cases h
 |e::r,a,h,hn,hs=>by
  obtain⟨k,v⟩:=e;rw[List.lookup_cons]at h;have hm:=FD r (a:=a) (b:=a++[s]) λx hx=>List.mem_append_left _ hx;cases hb:s==k with
  |true=>
   rw[hb]at h;cases h;have e:s=k:=eq_of_beq hb;subst e;have h1:unseen ((s,d)::r) (a++[s])=unseen r (a++[s]):=by
    unfold unseen;rw[List.countP_cons_of_neg];simp
   have h2:unseen ((s,d)::r) a=unseen r a+1:=by
    unfold unseen;rw[List.countP_cons_of_pos];simp[hn,hs]
   omega
  |false=>
   rw[hb]at h;have ih:=FH h hn hs;have hne:k≠s:=λe=>by rw[e]at hb;simp at hb
   have h1:unseen ((k,v)::r) (a++[s])=unseen r (a++[s])+(if(nest v.k&&!a.contains k)=true then 1 else 0):=by
    unfold unseen;rw[List.countP_cons];simp[hne]
   have h2:unseen ((k,v)::r) a=unseen r a+(if(nest v.k&&!a.contains k)=true then 1 else 0):=by
    unfold unseen;rw[List.countP_cons]
   omega
variable {defs:List (By×Def)} {goal:By}
def Thr(defs:List (By×Def))(goal:By)(U:Nat):Prop:=∀k x t,okT t=true->unseen defs x.seen<=U->18*U+4<=k->∃y,through defs goal k t x=some y/\∀s∈x.seen,s∈y.seen
theorem BJ(h:Thr defs goal U):∀(l:List Ty) (k:Nat) (x:Seen),(∀t∈l,okT t=true)->unseen defs x.seen<=U->18*U+4+l.length+1<=k->∃y,fQ defs goal k l x=some y/\∀s∈x.seen,s∈y.seen
 |[],0,x,_,_,hk=>by omega
 |[],k+1,x,_,_,hk=>⟨x,by rw[fQ],λs hs=>hs⟩
 |t::r,0,x,_,_,hk=>by omega
 |t::r,k+1,x,ht,hu,hk=>by
  rw[List.length_cons]at hk;obtain⟨y,hy,hs⟩:=h k x t (ht t (List.mem_cons_self ..)) hu omg;obtain⟨z,hz,hs'⟩:=BJ h r k y (λu hu=>ht u (List.mem_cons_of_mem _ hu)) (Nat.le_trans (FD defs hs) hu) omg;refine⟨z,?_,λs h=>hs' s (hs s h)⟩;rw[fQ,hy];exact hz
theorem Pj(hn:nest d.k=false):visit defs goal (k+1) (some d) x=some x:=by
 rw[visit];cases hd:d.k<;>rw[hd]at hn<;>first|rfl|cases hn
theorem BU(h:Thr defs goal U)(k:Nat)(d:Def)(x:Seen)(he:OA d.k)(hu:unseen defs x.seen<=U)(hk:18*U+20<=k):∃y,visit defs goal k (some d) x=some y/\∀s∈x.seen,s∈y.seen:=by
 obtain⟨k,rfl⟩:∃j,k=j+1:=⟨k - 1,omg⟩;rw[visit];obtain⟨h1,h2⟩:=he;cases hd:d.k with
 |alias t=>
  rw[hd]at h1;exact h k x t (h1 t (List.mem_singleton_self _)) hu omg
 |struct ds=>
  rw[hd]at h1 h2;have h2':(ds.map (·.ty)).length<=14:=h2;exact BJ h _ k x h1 hu omg
 |union o n ar els=>
  rw[hd]at h1 h2;have h2':(ar.map (·.decl.ty)++(els.map (·.ty)).toList).length<=14:=h2;exact BJ h _ k x h1 hu omg
 |_=>exact⟨x,rfl,λs hs=>hs⟩
theorem Dt(hd:∀s d,defs.lookup s=some d->OA d.k)(ih:∀V,V<U->Thr defs goal V)(k:Nat)(x:Seen)(s:By)(a:Nat)(hu:unseen defs x.seen<=U)(hk:18*U+3<=k):∃y,through defs goal k (.named s a) x=some y/\∀s∈x.seen,s∈y.seen:=by
 obtain⟨k,rfl⟩:∃j,k=j+2:=⟨k - 2,omg⟩;rw[through];have AQ:(if s==goal then { x with found:=true }else x:Seen).seen=x.seen:=by split<;>rfl
 generalize (if s==goal then { x with found:=true }else x:Seen)=x' at AQ
 by_cases hc:x'.seen.contains s=true
 .rw[if_pos hc];exact⟨x',rfl,λt ht=>by rw[AQ];exact ht⟩
 rw[if_neg hc];have hns:s ∉ x.seen:=by rw[<- AQ];simpa using hc
 have sub:∀t∈x.seen,t∈x'.seen++[s]:=λt ht=>by rw[AQ];exact List.mem_append_left _ ht
 cases hl:defs.lookup s with
 |none=>exact⟨{ x' with seen:=x'.seen++[s] },by rw[visit],sub⟩
 |some d=>
  cases hn:nest d.k with
  |false=>exact⟨{ x' with seen:=x'.seen++[s] },Pj hn,sub⟩
  |true=>
   have hless:=FH hl hn hns;rw[<- AQ]at hless;obtain⟨V,rfl⟩:∃V,U=V+1:=⟨U - 1,by rw[AQ]at hless;omega⟩;obtain⟨y,hy,hs⟩:=BU (ih V (Nat.lt_succ_self _)) (k+1) d { x' with seen:=x'.seen++[s] } (hd s d hl) (by show unseen defs (x'.seen++[s])<=V;rw[AQ]at hless ⊢;omega) omg;exact⟨y,hy,λt ht=>hs t (sub t ht)⟩
theorem thr(hd:∀s d,defs.lookup s=some d->OA d.k)(U:Nat):Thr defs goal U:=by
 induction U using Nat.strongRecOn with
 |_ U ih=>
  intro k x t ht hu hk;cases t with
  |named s a=>exact Dt hd ih k x s a hu omg
  |array t f n=>
   obtain⟨k,rfl⟩:∃j,k=j+2:=⟨k - 2,omg⟩;rw[through];cases f with
   |false=>exact⟨x,rfl,λs hs=>hs⟩
   |true=>
    rw[if_pos rfl];simp only[okT,Bool.and_eq_true]at ht;cases t with
    |named s a=>exact Dt hd ih (k+1) x s a hu omg
    |basic s=>exact⟨x,by rw[through]<;>simp,λs hs=>hs⟩
    |_=>cases ht.1
  |_=>
   obtain⟨k,rfl⟩:∃j,k=j+1:=⟨k - 1,omg⟩;exact⟨x,by rw[through]<;>simp,λs hs=>hs⟩
theorem Ox(hd:∀s d,defs.lookup s=some d->OA d.k)(hc:defs.countP (λe=>nest e.2.k)<=24)(d:Def)(he:OA d.k):(endless defs d).isSome=true:=by
 have h0:unseen defs []<=24:=by
  have:unseen defs []=defs.countP (λe=>nest e.2.k):=by unfold unseen;simp
  omega
 obtain⟨y,hy,_⟩:=BU (goal:=d.name) (thr hd 24) 1000 d ⟨[],false⟩ he h0 omg;unfold endless;rw[hy];rfl
end Go.M

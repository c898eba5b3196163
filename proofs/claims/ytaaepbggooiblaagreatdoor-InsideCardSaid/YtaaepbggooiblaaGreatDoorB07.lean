/- Texts of mine, one behind the other; nothing is assumed. -/
import Derived.Test.YtaaepbggooiblaaGreatDoorB06
set_option linter.unusedSimpArgs false
set_option linter.unusedVariables false
namespace Go.M
structure Rsv (L L':List Ins) (calls:List (Nat×By×Nat)) (start:List (By×Nat)):Prop where
 len:L'.length=L.length
 other:∀(p:Nat) (x:Ins),L[p]?=some x→x.op≠6→L'[p]?=some x
 call:∀x∈calls,∃t,start.lookup x.2.1=some t∧L'[x.1]?=some { ins 6 with to:=((t:Nat):Int) }
theorem oV{start:List (By×Nat)}:∀{calls:List (Nat×By×Nat)} {L L':List Ins},dY start L calls=.ok L'→L'.length=L.length∧∀p,(∀x∈calls,x.1≠p)→L'[p]?=L[p]?
 |[],L,L',h=>by cases h;exact⟨rfl,fun p _=>rfl⟩
 |(a,s,f)::r,L,L',h=>by
  rw[dY]at h
  split at h
  ·cases h
  ·obtain⟨h1,h2⟩:=oV h
   refine⟨h1.trans (List.length_modify ..),fun p hp=>?_⟩
   rw[h2 p fun x hx=>hp x (List.mem_cons_of_mem _ hx),List.getElem?_modify]
   have:a≠p:=hp (a,s,f) (List.mem_cons_self ..)
   simp only[this,if_false]
   cases L[p]?<;>rfl
theorem TR{start:List (By×Nat)}:∀{calls:List (Nat×By×Nat)} {L L':List Ins},dY start L calls=.ok L'→(∀x∈calls,L[x.1]?=some (ins 6))→calls.Pairwise (fun a b=>a.1<b.1) →
  ∀x∈calls,∃t,start.lookup x.2.1=some t∧L'[x.1]?=some { ins 6 with to:=((t:Nat):Int) }
 |[],L,L',h,_,_=>fun x hx=>by cases hx
 |(a,s,f)::r,L,L',h,hc,hp=>by
  rw[dY]at h
  cases ht:start.lookup s with
  |none=>rw[ht]at h;cases h
  |some t=>
   rw[ht]at h
   simp only at h
   obtain⟨hp1,hp2⟩:=List.pairwise_cons.mp hp
   intro x hx
   rcases List.mem_cons.mp hx with rfl|hx
   ·refine⟨t,ht,?_⟩
    rw[(oV h).2 a fun y hy=>by have:=hp1 y hy;simp only at this;omega,List.getElem?_modify,hc _ (List.mem_cons_self ..)]
    simp
   ·refine TR h ?_ hp2 x hx
    intro y hy
    have:=hp1 y hy
    simp only at this
    rw[List.getElem?_modify,hc y (List.mem_cons_of_mem _ hy)]
    simp only[show a≠y.1 by omega,if_false]
    rfl
theorem LI.rsv{c:CS}(h:LI c){L':List Ins}(hr:dY c.start c.L c.calls=.ok L'):Rsv c.L L' c.calls c.start:=by
 obtain⟨h1,h2⟩:=oV hr
 refine⟨h1,fun p x hx ho=>?_,TR hr h.calls h.sorted⟩
 rw[h2 p,hx]
 intro y hy e
 have:=h.calls y hy
 rw[e,hx]at this
 cases this
 exact ho rfl
def rC(L:List Ins)(start:List (By×Nat)):Ty→Nat→Prop
 |.basic s,p=>L[p]?=some (ins (dP s))
 |.named s _,p=>∃t,start.lookup s=some t∧L[p]?=some { ins 6 with to:=((t:Nat):Int) }
 |.bytes _ f n,p=>L[p]?=some { ins 5 with n:=n,fixed:=f }
 |.array t f n,p=>L[p]?=some { ins (if f then 8 else 9)with n:=n,to:=((p+tsz t+2:Nat):Int) }∧rC L start t (p+1)∧L[p+1+tsz t]?=some (ins 10)
 |.opt t,p=>L[p]?=some { ins 12 with to:=((p+tsz t+1:Nat):Int) }∧rC L start t (p+1)
 |.void,p=>L[p]?=some (ins 15)
theorem iw(s:By):dP s≤3:=by
 unfold dP
 split
 ·omega
 split
 ·omega
 split<;>omega
section
variable {L L':List Ins} {calls:List (Nat×By×Nat)} {start:List (By×Nat)}
theorem xh(r:Rsv L L' calls start):∀(t:Ty) (p:Nat),Seg L p (bG t p)→(∀x∈fA t p,x∈calls)→rC L' start t p
 |.basic s,p,h,_=>r.other p _ h.head (by have:=iw s;simp only[ins];omega)
 |.named s a,p,h,hc=>r.call (p,s,a) (hc _ (by simp[fA]))
 |.bytes _ f n,p,h,_=>r.other p _ h.head (by simp[ins])
 |.array t f n,p,h,hc=>by
  rw[bG]at h
  refine⟨r.other p _ h.head (by cases f<;>simp[ins]),xh r t (p+1) h.tail.left hc,?_⟩
  have:=h.tail.right
  rw[aS]at this
  exact r.other _ _ this.head (by simp[ins])
 |.opt t,p,h,hc=>by
  rw[bG]at h
  exact⟨r.other p _ h.head (by simp[ins]),xh r t (p+1) h.tail hc⟩
 |.void,p,h,_=>r.other p _ h.head (by simp[ins])
def JH(L:List Ins)(start:List (By×Nat)):List Decl→Nat→Prop
 |[],_=>True
 |d::r,p=>rC L start d.ty p∧JH L start r (p+tsz d.ty)
def JI(L:List Ins)(start:List (By×Nat))(e:Int):List Arm→Nat→Prop
 |[],_=>True
 |a::r,p=>rC L start a.decl.ty p∧L[p+tsz a.decl.ty]?=some (uK e)∧JI L start e r (p+tsz a.decl.ty+1)
def XX(L:List Ins)(start:List (By×Nat))(e:Int):Option Decl→Nat→Prop
 |none,_=>True
 |some d,p=>rC L start d.ty p∧L[p+tsz d.ty]?=some (uK e)
theorem Oe(r:Rsv L L' calls start):∀(l:List Decl) (p:Nat),Seg L p (qC l p)→(∀x∈jY l p,x∈calls)→JH L' start l p
 |[],_,_,_=>trivial
 |d::l,p,h,hc=>by
  rw[qC]at h
  have h2:=h.right
  rw[aS]at h2
  exact⟨xh r d.ty p h.left fun x hx=>hc x (List.mem_append_left _ hx),Oe r l _ h2 fun x hx=>hc x (List.mem_append_right _ hx)⟩
theorem Og(r:Rsv L L' calls start)(e:Int):∀(l:List Arm) (p:Nat),Seg L p (lK l p e)→(∀x∈jv l p,x∈calls)→JI L' start e l p
 |[],_,_,_=>trivial
 |d::l,p,h,hc=>by
  rw[lK]at h
  have h2:=h.right
  rw[aS]at h2
  exact⟨xh r d.decl.ty p h.left fun x hx=>hc x (List.mem_append_left _ hx),r.other _ _ h2.head (by simp[uK,ins]),Og r e l _ h2.tail fun x hx=>hc x (List.mem_append_right _ hx)⟩
theorem U1(r:Rsv L L' calls start)(e:Int)(l:Option Decl)(p:Nat)(h:Seg L p (CY l p e))(hc:∀x∈xg l p,x∈calls):XX L' start e l p:=by
 cases l with
 |none=>trivial
 |some d=>
  rw[CY]at h
  have h2:=h.right
  rw[aS]at h2
  exact⟨xh r d.ty p h.left hc,r.other _ _ h2.head (by simp[uK,ins])⟩
def IP(L:List Ins)(tabs:List Tab)(start:List (By×Nat))(defs:List (By×Def))(p tb:Nat):Dk→Prop
 |.alias t=>rC L start t p∧L[p+tsz t]?=some (ins 7)
 |.enum _ nums=>L[p]?=some { ins 4 with table:=some tb }∧tabs[tb]?=some (members nums)∧L[p+1]?=some (ins 7)
 |.struct ds=>L[p]?=some { ins 11 with n:=ds.length }∧JH L start ds (p+1)∧L[p+1+dD ds]?=some (ins 7)
 |.union of _ arms els=>L[p]?=some (gI defs of tb (mY els (p+1+aH arms)))∧tabs[tb]?=some (jr arms (p+1) [])∧Seg tabs (tb+1) (iP defs of) ∧
   JI L start ((p+1+aH arms+je els:Nat):Int) arms (p+1)∧XX L start ((p+1+aH arms+je els:Nat):Int) els (p+1+aH arms)∧L[p+1+aH arms+je els]?=some (ins 7)
 |_=>True
theorem U0(r:Rsv L L' calls start){tabs:List Tab}{defs:List (By×Def)}(p tb:Nat)(k:Dk)(h:Seg L p (gX defs p tb k))(hc:∀x∈iJ p k,x∈calls)(ht:Seg tabs tb (gB defs p k)):IP L' tabs start defs p tb k:=by
 cases k with
 |const n=>trivial
 |prog n vs=>trivial
 |alias t=>
  simp only[gX]at h
  have h2:=h.right
  rw[aS]at h2
  exact⟨xh r t p h.left hc,r.other _ _ h2.head (by simp[ins])⟩
 |enum ns is=>exact⟨r.other _ _ h.head (by simp[ins]),ht.head,r.other _ _ h.tail.head (by simp[ins])⟩
 |struct ds=>
  simp only[gX]at h
  have h2:=h.tail.right
  rw[Cj]at h2
  exact⟨r.other _ _ h.head (by simp[ins]),Oe r ds (p+1) h.tail.left hc,r.other _ _ h2.head (by simp[ins])⟩
 |union of n arms els=>
  simp only[gX,zg,List.cons_append]at h
  simp only[iJ,rW]at hc
  have h1:=h.tail.left
  have h2:=h1.right
  have h3:=h.tail.right
  rw[lJ]at h2
  rw[List.length_append,lJ,IB,← Nat.add_assoc]at h3
  exact⟨r.other _ _ h.head (by simp[gI,ins]),ht.head,ht.tail,Og r _ arms _ h1.left fun x hx=>hc x (List.mem_append_left _ hx),U1 r _ els _ h2 fun x hx=>hc x (List.mem_append_right _ hx),r.other _ _ h3.head (by simp[ins])⟩
end
structure Prg (L:List Ins) (tabs:List Tab) (start:List (By×Nat)) (defs:List (By×Def)):Prop where
 named:∀s p,start.lookup s=some p→∃d tb,defs.lookup s=some d∧isType d.k=true∧jZ defs d.k=true∧IP L tabs start defs p tb d.k
theorem LI.prg{c:CS}(h:LI c){L':List Ins}(hr:dY c.start c.L c.calls=.ok L'):Prg L' c.tabs c.start c.defs:=
 ⟨fun s p hs=>by
  obtain⟨d,tb,h1,h2,h3,h4,h5,h6⟩:=h.start s p hs
  exact⟨d,tb,h1,h2,h3,U0 (h.rsv hr) p tb d.k h4 h5 h6⟩⟩
def uV(op:Nat)(set:List Int)(n:Int):Bool:=
 if op==0 then n==BJ n
 else if op==1 then n==n % 4294967296
 else if op==3 then n==0||n==1
 else if op==4 then set.contains n
 else true
theorem uf:∀(l:List Int) (k:Nat) (m:Tab) (n:Int),((gW k m l).lookup n).isSome=((m.lookup n).isSome||l.contains n)
 |[],k,m,n=>by simp[gW]
 |a::r,k,m,n=>by
  rw[gW,uf r,bW,List.contains_cons]
  cases h:n==a with
  |true=>simp
  |false=>simp
theorem Aq(l:List Int)(n:Int):((members l).lookup n).isSome=l.contains n:=by rw[members,uf];simp
structure Jh (σ:Type) (L:List Ins) (tabs:List Tab) (io:Wy σ) (z:Wz σ):Prop where
 leaf:∀i set d,(i.op=4→∀n,fits 4 (jw tabs i.table) n=set.contains n)→io.leaf i d=z.leaf i.op i.fixed i.n set d
 list:∀i d,io.list i d=z.list (i.op==9) i.n d
 YS:∀v n d x,z.list v n d=.ok x→0≤n→0≤x.1
 option:∀d,io.option d=z.option d
 union:∀i set which d,(∀n,fits i.of_ (jw tabs i.set) n=uV i.of_ set n)→(∀n,uV i.of_ set n=true→which n=if target tabs i n<0 then none else some ((L[(target tabs i n).toNat]?).map (·.op)==some 15)) →
  io.union i d=(z.union i.of_ set which d).andThen fun x=>.ok (target tabs i x.1,x.2)
 arm:∀of_ set which d x,z.union of_ set which d=.ok x→uV of_ set x.1=true∧(which x.1).isSome=true
 place:∀d,io.place d=z.place d
theorem yJ(b:Nat):∀(l:List Int) (m:Tab) (n:Int),(jR b m l).lookup n=if l.contains n then some b else m.lookup n
 |[],m,n=>by simp[jR]
 |a::r,m,n=>by
  rw[jR,yJ b r,bW,List.contains_cons]
  cases h:n==a<;>cases h2:r.contains n<;>simp
theorem AO{L:List Ins}{start:List (By×Nat)}{e:Int}:∀(l:List Arm) (b:Nat) (m:Tab) (n:Int),JI L start e l b →
  (match BX l n with
   |some t=>∃p,(jr l b m).lookup n=some p∧rC L start t p∧L[p+tsz t]?=some (uK e)
   |none=>(jr l b m).lookup n=m.lookup n)
 |[],b,m,n,_=>rfl
 |a::r,b,m,n,h=>by
  have k:=AO r (b+tsz a.decl.ty+1) (jR b m a.nums) n h.2.2
  rw[BX,jr]
  cases hr:BX r n with
  |some t=>rw[hr]at k;exact k
  |none=>
   rw[hr]at k
   simp only at k ⊢
   rw[yJ]at k
   split
   ·rename_i t ht
    cases hc:a.nums.contains n with
    |true=>
     rw[hc,if_pos rfl]at ht k
     cases ht
     exact⟨b,k,h.1,h.2.1⟩
    |false=>rw[hc,if_neg (by simp)]at ht;cases ht
   ·rename_i ht
    cases hc:a.nums.contains n with
    |true=>rw[hc,if_pos rfl]at ht;cases ht
    |false=>rw[hc,if_neg (by simp)]at k;exact k
theorem UZ{L:List Ins}{start:List (By×Nat)}:∀{t:Ty} {p:Nat},rC L start t p→((L[p]?).map (·.op)==some 15)=(t==.void)
 |.basic s,p,h=>by
  rw[show L[p]?=_ from h]
  have:=iw s
  have h1:(dP s==15)=false:=by simp;omega
  show (some (dP s)==some 15)=_
  rw[show (some (dP s)==some 15)=(dP s==15)from rfl,h1]
  exact(beq_eq_false_iff_ne.mpr (by simp)).symm
 |.named s a,p,h=>by
  obtain⟨t,_,h⟩:=h
  rw[h]
  exact(beq_eq_false_iff_ne.mpr (by simp)).symm
 |.bytes a f n,p,h=>by rw[show L[p]?=_ from h];exact(beq_eq_false_iff_ne.mpr (by simp)).symm
 |.array t f n,p,h=>by rw[h.1];cases f<;>exact(beq_eq_false_iff_ne.mpr (by simp)).symm
 |.opt t,p,h=>by rw[h.1];exact(beq_eq_false_iff_ne.mpr (by simp)).symm
 |.void,p,h=>by rw[show L[p]?=_ from h];rfl
def QC:Ty→Bool
 |.basic _=>true
 |.named _ _=>true
 |_=>false
def okN(f:Bool)(n:Int):Bool:=if f then decide (1≤n∧n≤1000)else decide (0≤n∧n≤4294967295)
theorem EK{f:Bool}{n:Int}(h:okN f n=true):0≤n∧n≤4294967295∧(f=true→1≤n∧n≤1000):=by
 unfold okN at h
 cases f with
 |true=>simp only[if_true,decide_eq_true_eq]at h;exact⟨by omega,by omega,fun _=>h⟩
 |false=>simp only[Bool.false_eq_true,if_false,decide_eq_true_eq]at h;exact⟨h.1,h.2,fun h=>by cases h⟩
def okT:Ty→Bool
 |.array t f n=>QC t&&okN f n
 |.opt t=>QC t
 |.bytes _ f n=>okN f n
 |_=>true
def i32(n:Int):Bool:=decide (-2147483648≤n∧n≤2147483647)
def okK:Dk→Bool
 |.alias t=>okT t&&t != .void
 |.enum _ nums=>nums.all i32
 |.struct ds=>((!ds.isEmpty)&&decide (ds.length≤12))&&ds.all fun d=>okT d.ty&&d.ty != .void
 |.union of _ arms els=>((Jb of != 2)&&arms.all fun a=>okT a.decl.ty)&&els.all fun d=>okT d.ty
 |_=>true
theorem yl{t:Ty}(h:QC t=true):okT t=true:=by cases t<;>first|rfl|cases h
section
variable {σ:Type} {L:List Ins} {tabs:List Tab} {lim:Lim} {io:Wy σ} {z:Wz σ} {start:List (By×Nat)} {defs:List (By×Def)}
def dQ(L:List Ins)(lim:Lim)(io:Wy σ)(s:MS σ)(m:Res σ)(pc:Nat)(back:List Nat)(loops:List (Int×Nat)):Prop:=Comes L lim io s (m.andThen fun d=>.ok ⟨pc,back,loops,d⟩)
theorem dQ.MB{s:MS σ}{m:Res σ}{f:σ→Res σ}{pc pc':Nat}{back back':List Nat}{loops loops':List (Int×Nat)}(h:dQ L lim io s m pc back loops)(k:∀d,m=.ok d→dQ L lim io ⟨pc,back,loops,d⟩ (f d) pc' back' loops'):
  dQ L lim io s (m.andThen f) pc' back' loops':=by
 unfold dQ
 rw[Res.assoc]
 exact Comes.bind h k
theorem dQ.DF{s:MS σ}{i:Ins}{α:Type}{m:Res α}{f:α→MS σ}{r:α→Res σ}{pc:Nat}{back:List Nat}{loops:List (Int×Nat)}(hi:L[s.pc]?=some i)(h:bK lim io i s=some (m.andThen fun x=>.ok (true,f x)))
  (k:∀x,m=.ok x→dQ L lim io (f x) (r x) pc back loops):dQ L lim io s (m.andThen r) pc back loops:=by
 unfold dQ
 rw[Res.assoc]
 exact Comes.step hi h k
theorem dQ.go{s s':MS σ}{m:Res σ}{pc:Nat}{back:List Nat}{loops:List (Int×Nat)}{i:Ins}(hi:L[s.pc]?=some i)(h:bK lim io i s=some (.ok (true,s')))(k:dQ L lim io s' m pc back loops):dQ L lim io s m pc back loops:=
 (Goes.step hi h).comes k
theorem dQ.here{pc:Nat}{back:List Nat}{loops:List (Int×Nat)}{d:σ}:dQ L lim io ⟨pc,back,loops,d⟩ (.ok d) pc back loops:=Goes.refl _
def xu(L:List Ins)(lim:Lim)(io:Wy σ)(start:List (By×Nat))(nm:By→σ→Res σ)(r:Nat):Prop:=
 ∀s t,start.lookup s=some t→∀p back loops d,L[p]?=some { ins 6 with to:=((t:Nat):Int) }→(lim.depth - back.length).toNat=r→loops.length≤back.length+1→dQ L lim io ⟨p,back,loops,d⟩ (nm s d) (p+1) back loops
theorem EG(w:Jh σ L tabs io z){p:Nat}{i:Ins}{back:List Nat}{loops:List (Int×Nat)}{d:σ}{set:List Int}(hi:L[p]?=some i)(ho:i.op≤5)(hs:i.op=4→∀n,fits 4 (jw tabs i.table) n=set.contains n):dQ L lim io ⟨p,back,loops,d⟩ (z.leaf i.op i.fixed i.n set d) (p+1) back loops:=by
 have h:bK lim io i ⟨p,back,loops,d⟩=some ((io.leaf i d).andThen fun d=>.ok (true,⟨p+1,back,loops,d⟩)):=by
  have e:∀k,5<k→(i.op==k)=false:=fun k hk=>by simp;omega
  unfold bK
  simp only[e 16 (by omega),e 15 (by omega),e 14 (by omega),e 6 (by omega),e 7 (by omega),e 8 (by omega),e 9 (by omega),e 10 (by omega),e 11 (by omega),e 12 (by omega),e 13 (by omega),Bool.false_eq_true,if_false,Bool.or_self]
 rw[w.leaf i set d hs]at h
 have k:=dQ.DF (pc:=p+1) (back:=back) (loops:=loops) (r:=fun d=>Res.ok d) hi h fun x _=>dQ.here
 rw[show (z.leaf i.op i.fixed i.n set d).andThen (fun d=>Res.ok d)=z.leaf i.op i.fixed i.n set d by cases z.leaf i.op i.fixed i.n set d<;>rfl]at k
 exact k
theorem Hw(w:Jh σ L tabs io z){nm:By→σ→Res σ}{r:Nat}(hn:xu L lim io start nm r)(t:Ty)(hf:QC t=true)(p:Nat)(back:List Nat)(loops:List (Int×Nat))(d:σ)(h:rC L start t p)(hr:(lim.depth - back.length).toNat=r)(hl:loops.length≤back.length+1):
  dQ L lim io ⟨p,back,loops,d⟩ (sG z nm t d) (p+tsz t) back loops:=by
 cases t with
 |basic s=>
  have hb:=iw s
  exact EG (lim:=lim) (back:=back) (loops:=loops) (d:=d) (set:=[]) w (show L[p]?=some (ins (dP s))from h) (by simp only[ins];omega) (fun h4=>by simp only[ins]at h4;omega)
 |named s a=>
  obtain⟨t,h1,h2⟩:=h
  exact hn s t h1 p back loops d h2 hr hl
 |_=>cases hf
theorem KA(w:Jh σ L tabs io z){nm:By→σ→Res σ}{r:Nat}(hn:xu L lim io start nm r)(hd:lim.depth≤900)(t:Ty)(ht:okT t=true)(p:Nat)(back:List Nat)(loops:List (Int×Nat))(d:σ)(h:rC L start t p)(hr:(lim.depth - back.length).toNat=r)(hb:back.length≤901)(hl:loops.length≤back.length):
  dQ L lim io ⟨p,back,loops,d⟩ (sG z nm t d) (p+tsz t) back loops:=by
 cases t with
 |basic s=>exact Hw w hn _ rfl p back loops d h hr (by omega)
 |named s a=>exact Hw w hn _ rfl p back loops d h hr (by omega)
 |bytes a f n=>exact EG (lim:=lim) (back:=back) (loops:=loops) (d:=d) (set:=[]) w (show L[p]?=some { ins 5 with n:=n,fixed:=f }from h) (by simp[ins]) (fun h4=>by simp[ins]at h4)
 |void=>exact dQ.go (show L[p]?=some (ins 15)from h) rfl dQ.here
 |opt t=>
  obtain⟨h1,h2⟩:=h
  rw[sG]
  refine dQ.DF (m:=z.option d) (f:=fun x=>⟨if x.1 then p+1 else p+tsz t+1,back,loops,x.2⟩) (pc:=p+tsz (.opt t)) h1 (by rw[← w.option];rfl) ?_
  intro x _
  have e:p+tsz (.opt t)=p+1+tsz t:=by rw[tsz];omega
  cases hx:x.1 with
  |true=>
   simp only[if_true]
   have k:=Hw w hn t ht (p+1) back loops x.2 h2 hr (by omega)
   rw[e]
   exact k
  |false=>
   simp only[if_false,Bool.false_eq_true]
   rw[tsz,← Nat.add_assoc]
   exact dQ.here
 |array t f n=>
  obtain⟨h1,h2,h3⟩:=h
  rw[sG]
  rw[okT,Bool.and_eq_true]at ht
  have hex:bK lim io { ins (if f then 8 else 9)with n:=n,to:=((p+tsz t+2:Nat):Int) } ⟨p,back,loops,d⟩=some ((z.list (!f) n d).andThen fun x=>.ok (true,if x.1==0 then⟨p+tsz t+2,back,loops,x.2⟩else⟨p+1,back,(x.1 - 1,p+1)::loops,x.2⟩)):=by
   have hl':¬ 1000000≤loops.length:=by omega
   cases f<;>simp only[bK,ins,if_true,if_false,Bool.false_eq_true,hl',w.list] <;>
   ·simp only[show ∀a b:Nat,(a==b)=decide (a=b)from fun _ _=>rfl]
    simp only[decide_true,decide_false,Nat.reduceEqDiff,Bool.or_true,Bool.true_or,if_true,if_false,Bool.false_eq_true,Bool.not_true,Bool.not_false]
    congr 2
    funext x
    cases x.1==0<;>rfl
  refine dQ.DF (f:=fun x=>if x.1==0 then⟨p+tsz t+2,back,loops,x.2⟩else⟨p+1,back,(x.1 - 1,p+1)::loops,x.2⟩) (pc:=p+tsz (.array t f n)) h1 hex ?_
  intro x hx
  have hge:=w.YS (!f) n d x hx (EK ht.2).1
  rw[tsz,← Nat.add_assoc]
  by_cases h0:x.1=0
  ·rw[h0]
   simp only[beq_self_eq_true,if_true,Int.toNat_zero,iter]
   exact dQ.here
  ·have hb0:(x.1==0)=false:=by simpa using h0
   simp only[hb0,Bool.false_eq_true,if_false]
   -- the rounds
   have round:∀(k:Nat) (left:Int) (d:σ),left.toNat=k→dQ L lim io ⟨p+1,back,(left,p+1)::loops,d⟩ (iter (sG z nm t) (k+1) d) (p+tsz t+2) back loops:=by
    intro k
    induction k with
    |zero=>
     intro left d hk
     rw[iter]
     refine dQ.MB (Hw w hn t ht.1 (p+1) back ((left,p+1)::loops) d h2 hr (by simp only[List.length_cons];omega)) fun d' _=>?_
     refine dQ.go h3 (s':=⟨p+tsz t+2,back,loops,d'⟩) ?_ ?_
     ·have:¬ 0<left:=by omega
      simp only[bK,ins]
      simp only[show ∀a b:Nat,(a==b)=decide (a=b)from fun _ _=>rfl,decide_false,decide_true,Nat.reduceEqDiff,Bool.or_self,if_false,if_true,Bool.false_eq_true,this]
      rw[show p+1+tsz t+1=p+tsz t+2 by omega]
     ·rw[iter];exact dQ.here
    |succ k ih=>
     intro left d hk
     rw[iter]
     refine dQ.MB (Hw w hn t ht.1 (p+1) back ((left,p+1)::loops) d h2 hr (by simp only[List.length_cons];omega)) fun d' _=>?_
     refine dQ.go h3 (s':=⟨p+1,back,(left - 1,p+1)::loops,d'⟩) ?_ (ih (left - 1) d' (by omega))
     have:0<left:=by omega
     simp only[bK,ins]
     simp only[show ∀a b:Nat,(a==b)=decide (a=b)from fun _ _=>rfl,decide_false,decide_true,Nat.reduceEqDiff,Bool.or_self,if_false,if_true,Bool.false_eq_true,this]
   have:=round (x.1.toNat - 1) (x.1 - 1) x.2 (by omega)
   rw[show x.1.toNat - 1+1=x.1.toNat by omega]at this
   exact this
end
end Go.M
namespace Go.M
section
variable {σ:Type} {L:List Ins} {tabs:List Tab} {lim:Lim} {io:Wy σ} {z:Wz σ} {start:List (By×Nat)} {defs:List (By×Def)}
theorem TP(w:Jh σ L tabs io z){nm:By→σ→Res σ}{r:Nat}(hn:xu L lim io start nm r)(hd:lim.depth≤900){back:List Nat}{loops:List (Int×Nat)}(hr:(lim.depth - back.length).toNat=r)(hb:back.length≤901)(hl:loops.length≤back.length):
  ∀(ds:List Decl) (hk:ds.all (fun d=>okT d.ty&&d.ty != .void)=true) (p:Nat) (d:σ),JH L start ds p→dQ L lim io ⟨p,back,loops,d⟩ (O4 z nm ds d) (p+dD ds) back loops
 |[],_,p,d,_=>dQ.here
 |a::ds,hk,p,d,h=>by
  rw[List.all_cons,Bool.and_eq_true,Bool.and_eq_true]at hk
  rw[O4,dD,← Nat.add_assoc]
  exact dQ.MB (KA w hn hd a.ty hk.1.1 p back loops d h.1 hr hb hl) fun d' _=>TP w hn hd hr hb hl ds hk.2 _ d' h.2
theorem Fg:∀(l:List Arm) (n:Int) (t:Ty),BX l n=some t→∃a∈l,a.decl.ty=t∧a.nums.contains n=true
 |[],_,_,h=>by cases h
 |a::r,n,t,h=>by
  rw[BX]at h
  split at h
  ·rename_i t' ht
   cases h
   obtain⟨b,h1,h2⟩:=Fg r n t ht
   exact⟨b,List.mem_cons_of_mem _ h1,h2⟩
  ·split at h
   ·cases h;exact⟨a,List.mem_cons_self ..,rfl,by assumption⟩
   ·cases h
theorem VQ{i:Nat}{m:Tab}(h:tabs[i]?=some m):(jw tabs (some i)).getD []=m:=by simp[jw,h]
theorem UO{defs:List (By×Def)}{of:Ty}{tb:Nat}{n:By}{arms:List Arm}{els:Option Decl}(hg:jZ defs (.union of n arms els)=true)(hs:Seg tabs (tb+1) (iP defs of))(to:Int)(m:Int):
  fits (gI defs of tb to).of_ (jw tabs (gI defs of tb to).set) m=uV (Jb of) (DI defs of) m:=by
 cases of with
 |basic s=>
  have hb:=iw s
  have h4:(dP s==4)=false:=by simp;omega
  simp only[gI,Jb,fits,uV,h4,Bool.false_eq_true,if_false]
 |named s a=>
  simp only[jZ]at hg
  cases hl:defs.lookup s with
  |none=>rw[hl]at hg;cases hg
  |some d=>
   rw[hl]at hg
   obtain⟨x,y,k⟩:=d
   cases k with
   |enum ns is=>
    simp only[iP,hl]at hs
    have h1:=hs.head
    simp only[gI,Jb,iP,hl,fits,uV,DI,VQ h1,Aq]
   |_=>cases hg
 |_=>cases hg
theorem O5(w:Jh σ L tabs io z){nm:By→σ→Res σ}{r:Nat}(hn:xu L lim io start nm r)(hd:lim.depth≤900){back:List Nat}{loops:List (Int×Nat)}(hr:(lim.depth - back.length).toNat=r)(hb:back.length≤901)(hl:loops.length≤back.length)
  {of:Ty} {n:By} {arms:List Arm} {els:Option Decl} {p tb:Nat} (d:σ) (hg:jZ defs (.union of n arms els)=true) (hok:okK (.union of n arms els)=true) (h:IP L tabs start defs p tb (.union of n arms els)):
  dQ L lim io ⟨p,back,loops,d⟩ (I9 z nm defs (.union of n arms els) d) (p+1+aH arms+je els) back loops:=by
 obtain⟨h1,h2,h3,h4,h5,h6⟩:=h
 have hfit:=UO (tabs:=tabs) hg h3 (mY els (p+1+aH arms))
 generalize he:p+1+aH arms+je els=e at *
 -- where a number leads
 have lead:∀m,uV (Jb of) (DI defs of) m=true→(match AP arms els m with
   |some t=>∃q:Nat,target tabs (gI defs of tb (mY els (p+1+aH arms))) m=(q:Int)∧rC L start t q∧L[q+tsz t]?=some (uK (e:Nat))
   |none=>target tabs (gI defs of tb (mY els (p+1+aH arms))) m = -1):=by
  intro m hm
  have k:=AO arms (p+1) [] m h4
  have ht:target tabs (gI defs of tb (mY els (p+1+aH arms))) m=(match (jr arms (p+1) []).lookup m with|some t=>((t:Nat):Int)|none=>mY els (p+1+aH arms)):=by
   unfold target
   rw[hfit,hm]
   simp only[Bool.not_true,Bool.false_eq_true,if_false]
   rw[show (gI defs of tb (mY els (p+1+aH arms))).table=some tb from rfl,VQ h2]
   rfl
  rw[ht]
  unfold AP
  cases ha:BX arms m with
  |some t=>
   rw[ha]at k
   obtain⟨q,k1,k2,k3⟩:=k
   rw[k1]
   exact⟨q,rfl,k2,k3⟩
  |none=>
   rw[ha]at k
   simp only[List.lookup_nil]at k
   rw[k]
   cases els with
   |none=>exact rfl
   |some dd=>exact⟨_,rfl,h5.1,h5.2⟩
 have hu:=w.union (gI defs of tb (mY els (p+1+aH arms))) (DI defs of) (y9 arms els) d hfit (fun m hm=>by
  have k:=lead m hm
  unfold y9
  cases ha:AP arms els m with
  |none=>rw[ha]at k;simp only at k;rw[k];rfl
  |some t=>
   rw[ha]at k
   obtain⟨q,k1,k2,k3⟩:=k
   rw[k1,if_neg (by omega),Int.toNat_natCast,UZ k2]
   rfl)
 have hex:bK lim io (gI defs of tb (mY els (p+1+aH arms))) ⟨p,back,loops,d⟩=some ((z.union (Jb of) (DI defs of) (y9 arms els) d).andThen fun x=>.ok (true,⟨(target tabs (gI defs of tb (mY els (p+1+aH arms))) x.1).toNat,back,loops,x.2⟩)):=by
  simp only[bK,gI,ins]
  simp only[show ∀a b:Nat,(a==b)=decide (a=b)from fun _ _=>rfl,decide_false,decide_true,Nat.reduceEqDiff,Bool.or_self,if_false,if_true,Bool.false_eq_true]
  refine congrArg some ((congrArg (fun m=>Res.andThen m _) hu).trans ?_)
  rw[Res.assoc]
  rfl
 refine dQ.DF (f:=fun x=>⟨(target tabs (gI defs of tb (mY els (p+1+aH arms))) x.1).toNat,back,loops,x.2⟩) h1 hex fun x hx=>?_
 obtain⟨a1,a2⟩:=w.arm _ _ _ _ _ hx
 have k:=lead x.1 a1
 unfold y9 at a2
 cases ha:AP arms els x.1 with
 |none=>rw[ha]at a2;cases a2
 |some t=>
  rw[ha]at k
  obtain⟨q,k1,k2,k3⟩:=k
  simp only[k1,Int.toNat_natCast]
  have hkt:okT t=true:=by
   rw[okK,Bool.and_eq_true,Bool.and_eq_true]at hok
   unfold AP at ha
   cases ha':BX arms x.1 with
   |some t'=>
    rw[ha']at ha
    cases ha
    obtain⟨b,hb1,rfl,_⟩:=Fg _ _ _ ha'
    exact List.all_eq_true.mp hok.1.2 b hb1
   |none=>
    rw[ha']at ha
    cases els with
    |none=>cases ha
    |some dd=>cases ha;exact hok.2
  have hT:=KA w hn hd t hkt q back loops x.2 k2 hr hb hl
  have:dQ L lim io ⟨q,back,loops,x.2⟩ ((sG z nm t x.2).andThen fun d=>.ok d) e back loops:=by
   refine dQ.MB hT fun d' _=>?_
   exact dQ.go k3 (s':=⟨e,back,loops,d'⟩) (by simp[bK,uK,ins]) dQ.here
  rwa [show ∀m:Res σ,(m.andThen fun d=>.ok d)=m from fun m=>by cases m<;>rfl]at this
theorem YI(w:Jh σ L tabs io z){nm:By→σ→Res σ}{r:Nat}(hn:xu L lim io start nm r)(hd:lim.depth≤900){back:List Nat}{q:Nat}{loops:List (Int×Nat)}(hr:(lim.depth - (q::back).length).toNat=r)(hb:(q::back).length≤901)(hl:loops.length≤(q::back).length)
  {k:Dk} {p tb:Nat} (d:σ) (ht:isType k=true) (hg:jZ defs k=true) (hok:okK k=true) (h:IP L tabs start defs p tb k):
  dQ L lim io ⟨p,q::back,loops,d⟩ (I9 z nm defs k d) q back loops:=by
 have ret:∀(e:Nat) (m:Res σ),L[e]?=some (ins 7)→dQ L lim io ⟨p,q::back,loops,d⟩ m e (q::back) loops→dQ L lim io ⟨p,q::back,loops,d⟩ m q back loops:=by
  intro e m h7 hm
  have:=dQ.MB (f:=fun d=>.ok d) hm fun d' _=>dQ.go h7 (s':=⟨q,back,loops,d'⟩) (by simp[bK,ins]) dQ.here
  rwa [show (m.andThen fun d=>.ok d)=m by cases m<;>rfl]at this
 cases k with
 |const n=>cases ht
 |prog n vs=>cases ht
 |alias t=>
  rw[okK,Bool.and_eq_true]at hok
  exact ret _ _ h.2 (KA w hn hd t hok.1 p (q::back) loops d h.1 hr hb hl)
 |enum ns is=>
  refine ret _ _ h.2.2 ?_
  exact EG (lim:=lim) (back:=q::back) (loops:=loops) (d:=d) (set:=is) w h.1 (by simp[ins]) (fun _ n=>by
   simp only[fits,VQ h.2.1,Aq]
   rfl)
 |struct ds=>
  obtain⟨h1,h2,h3⟩:=h
  rw[okK,Bool.and_eq_true]at hok
  refine ret _ _ h3 ?_
  rw[I9]
  refine dQ.DF (m:=z.list false ds.length d) (f:=fun x=>⟨p+1,q::back,loops,x.2⟩) h1 ?_ fun x _=>TP w hn hd hr hb hl ds hok.2 (p+1) x.2 h2
  simp only[bK,ins]
  simp only[show ∀a b:Nat,(a==b)=decide (a=b)from fun _ _=>rfl,decide_false,decide_true,Nat.reduceEqDiff,Bool.or_self,if_false,if_true,Bool.false_eq_true,w.list]
 |union of n arms els=>exact ret _ _ h.2.2.2.2.2 (O5 w hn hd hr hb hl d hg hok h)
def vF(defs:List (By×Def)):Prop:=∀s d,defs.lookup s=some d→okK d.k=true
theorem Jp(w:Jh σ L tabs io z)(g:Prg L tabs start defs)(ho:vF defs)(hd:lim.depth≤900):∀r,xu L lim io start (sem z defs r) r
 |0,s,t,hs,p,back,loops,d,hp,hr,hl=>by
  rw[sem]
  refine Comes.fail hp ?_
  have:lim.depth≤back.length:=by omega
  simp only[bK,ins,this,if_true,w.place]
  simp only[show ∀a b:Nat,(a==b)=decide (a=b)from fun _ _=>rfl,decide_false,decide_true,Nat.reduceEqDiff,if_false,if_true,Bool.false_eq_true]
 |r+1,s,t,hs,p,back,loops,d,hp,hr,hl=>by
  obtain⟨x,tb,h1,h2,h3,h4⟩:=g.named s t hs
  rw[sem,h1]
  simp only
  refine dQ.go hp (s':=⟨t,(p+1)::back,loops,d⟩) ?_ (YI w (Jp w g ho hd r) hd (by simp only[List.length_cons];omega) (by simp only[List.length_cons];omega) (by simp only[List.length_cons];omega) d h2 h3 (ho s x h1) h4)
  have:¬ lim.depth≤back.length:=by omega
  simp only[bK,ins,this,if_false]
  simp only[show ∀a b:Nat,(a==b)=decide (a=b)from fun _ _=>rfl,decide_false,decide_true,Nat.reduceEqDiff,if_false,if_true,Bool.false_eq_true,Int.toNat_natCast]
theorem TQ(w:Jh σ L tabs io z)(g:Prg L tabs start defs)(ho:vF defs)(hd:lim.depth≤900){t:Ty}(ht:okT t=true){p:Nat}(d:σ)(h:rC L start t p)(hs:L[p+tsz t]?=some (ins 16)):
  ∃n,rH L lim io n ⟨p,[],[],d⟩=some ((sG z (sem z defs lim.depth.toNat) t d).andThen fun d=>.ok ⟨p+tsz t,[],[],d⟩):=
 Comes.stop (i:=ins 16) rfl (fun _=>hs) (KA w (Jp w g ho hd lim.depth.toNat) hd t ht p [] [] d h (by simp) (by simp) (by simp))
end
end Go.M
namespace Go.M
def DS.Lr(lim:Lim)(op:Nat)(fixed:Bool)(n:Int)(set:List Int)(d:DS):Res DS:=
 (d.fuel lim).andThen fun _=>
 if op==5 then
  (if fixed then .ok (n,d)else(d.count n).andThen fun x=>.ok ((x.1:Int),x.2)).andThen fun x=>
  if 2147483647<x.1 then .no 16 x.2.pos else
  (x.2.text x.1.toNat).andThen fun y=>.ok (y.2.add ⟨2,0,y.1,x.2.pos,0⟩)
 else if op==2 then
  if d.b.length<d.pos+8 then .no 16 d.pos else
  d.word.andThen fun x=>x.2.word.andThen fun y=>
  let n:Int:=x.1*4294967296+y.1
  .ok (y.2.add ⟨1,if n<9223372036854775808 then n else n - 18446744073709551616,[],0,0⟩)
 else
  d.word.andThen fun x=>if uV op set (numOf op x.1)then .ok (x.2.add ⟨1,numOf op x.1,[],0,0⟩)else .no 18 d.pos
def DS.Lm(lim:Lim)(v:Bool)(n:Int)(d:DS):Res (Int×DS):=
 (d.fuel lim).andThen fun _=>
 (if v then(d.count n).andThen fun x=>.ok ((x.1:Int),x.2)else .ok (n,d)).andThen fun x=>
 .ok (x.1,x.2.add ⟨3,0,[],0,x.1⟩)
def DS.Et(lim:Lim)(of_:Nat)(set:List Int)(which:Int→Option Bool)(d:DS):Res (Int×DS):=
 (d.fuel lim).andThen fun _=>d.word.andThen fun x=>
 if uV of_ set (numOf of_ x.1)then(match which (numOf of_ x.1)with
  |some v=>.ok (numOf of_ x.1,x.2.add ⟨4,numOf of_ x.1,[],0,if v then 0 else 1⟩)
  |none=>.no 18 d.pos)
 else .no 18 d.pos
def nz(lim:Lim):Wz DS:=⟨DS.Lr lim,DS.Lm lim,DS.option lim,DS.Et lim,fun d=>d.pos⟩
theorem Zr{op:Nat}{o:Option Tab}{set:List Int}(h:op=4→∀n,fits 4 o n=set.contains n)(n:Int):fits op o n=uV op set n:=by
 unfold uV
 by_cases h4:op=4
 ·subst h4
  rw[h rfl];simp
 ·have:(op==4)=false:=by simpa using h4
  simp only[fits,this,Bool.false_eq_true,if_false]
theorem Res.Me{α β:Type}{m:Res α}{f g:α→Res β}(h:∀a,m=.ok a→f a=g a):m.andThen f=m.andThen g:=by
 cases m with
 |ok a=>exact h a rfl
 |no e a=>rfl
theorem QZ(L:List Ins)(tabs:List Tab)(lim:Lim):Jh DS L tabs (Bc L tabs lim) (nz lim):=by
 refine⟨?_,fun i d=>rfl,?_,fun d=>rfl,?_,?_,fun d=>rfl⟩
 ·intro i set d h
  have hf:=Zr h
  simp only[Bc,nz,DS.leaf,DS.Lr,hf]
 ·intro v n d x h hn
  simp only[nz,DS.Lm]at h
  obtain⟨_,_,h⟩:=Res.then_ok h
  obtain⟨y,h1,h⟩:=Res.then_ok h
  cases h
  cases v with
  |true=>
   simp only[if_true]at h1
   obtain⟨u,_,h1⟩:=Res.then_ok h1
   cases h1
   show (0:Int)≤(u.1:Int)
   omega
  |false=>simp only[Bool.false_eq_true,if_false,Res.ok.injEq]at h1;rw[← h1];exact hn
 ·intro i set which d hf hw
  simp only[Bc,nz,DS.union,DS.Et,Res.assoc]
  refine Res.Me fun _ _=>Res.Me fun x _=>?_
  cases hz:uV i.of_ set (numOf i.of_ x.1)with
  |false=>
   have ht:target tabs i (numOf i.of_ x.1) = -1:=by
    unfold target
    rw[hf,hz];rfl
   rw[ht];rfl
  |true=>
   rw[hw _ hz]
   simp only[if_true]
   by_cases ht:target tabs i (numOf i.of_ x.1)<0
   ·rw[if_pos ht,if_pos ht];rfl
   ·rw[if_neg ht,if_neg ht];rfl
 ·intro of_ set which d x h
  simp only[nz,DS.Et]at h
  obtain⟨_,_,h⟩:=Res.then_ok h
  obtain⟨y,_,h⟩:=Res.then_ok h
  split at h
  ·rename_i hz
   split at h
   ·rename_i v hv
    cases h
    exact⟨hz,by rw[hv];rfl⟩
   ·cases h
  ·cases h
end Go.M
namespace Go.M
structure Each {σ:Type} (z:Wz σ) (Q:σ→σ→Prop):Prop where
 refl:∀d,Q d d
 trans:∀a b c,Q a b→Q b c→Q a c
 leaf:∀op f n set d d',(op≤5)→(op=5→okN f n=true)→z.leaf op f n set d=.ok d'→Q d d'
 list:∀v n d x,0≤n→z.list v n d=.ok x→Q d x.2
 option:∀d x,z.option d=.ok x→Q d x.2
 union:∀of_ set which d x,z.union of_ set which d=.ok x→Q d x.2
section
variable {σ:Type} {z:Wz σ} {Q:σ→σ→Prop}
theorem Each.iter(h:Each z Q){f:σ→Res σ}(hf:∀d d',f d=.ok d'→Q d d'):∀(n:Nat) {d d':σ},M.iter f n d=.ok d'→Q d d'
 |0,d,d',e=>by cases e;exact h.refl d
 |n+1,d,d',e=>by
  obtain⟨x,e1,e2⟩:=Res.then_ok e
  exact h.trans _ _ _ (hf _ _ e1) (h.iter hf n e2)
theorem Each.ty(h:Each z Q){nm:By→σ→Res σ}(hn:∀s d d',nm s d=.ok d'→Q d d'):∀(t:Ty),okT t=true→∀{d d':σ},sG z nm t d=.ok d'→Q d d'
 |.basic s,_,d,d',e=>h.leaf _ _ _ _ _ _ (by have:=iw s;omega) (by have:=iw s;omega) e
 |.named s a,_,d,d',e=>hn s d d' e
 |.bytes a f n,ho,d,d',e=>h.leaf _ _ _ _ _ _ (by omega) (fun _=>ho) e
 |.void,_,d,d',e=>by cases e;exact h.refl d
 |.opt t,ho,d,d',e=>by
  rw[sG]at e
  obtain⟨x,e1,e2⟩:=Res.then_ok e
  refine h.trans _ _ _ (h.option d x e1) ?_
  split at e2
  ·exact h.ty hn t (yl ho) e2
  ·cases e2;exact h.refl _
 |.array t f n,ho,d,d',e=>by
  rw[okT,Bool.and_eq_true]at ho
  rw[sG]at e
  obtain⟨x,e1,e2⟩:=Res.then_ok e
  exact h.trans _ _ _ (h.list _ _ _ x (EK ho.2).1 e1) (h.iter (fun d d' e=>h.ty hn t (yl ho.1) e) _ e2)
theorem Each.parts(h:Each z Q){nm:By→σ→Res σ}(hn:∀s d d',nm s d=.ok d'→Q d d'):∀(ds:List Decl),(ds.all fun d=>okT d.ty&&d.ty != .void)=true→∀{d d':σ},O4 z nm ds d=.ok d'→Q d d'
 |[],_,d,d',e=>by cases e;exact h.refl d
 |a::r,ho,d,d',e=>by
  rw[List.all_cons,Bool.and_eq_true,Bool.and_eq_true]at ho
  rw[O4]at e
  obtain⟨x,e1,e2⟩:=Res.then_ok e
  exact h.trans _ _ _ (h.ty hn a.ty ho.1.1 e1) (h.parts hn r ho.2 e2)
theorem Om{of:Ty}{n:By}{arms:List Arm}{els:Option Decl}{m:Int}{t:Ty}(hok:okK (.union of n arms els)=true)(ha:AP arms els m=some t):okT t=true:=by
 rw[okK,Bool.and_eq_true,Bool.and_eq_true]at hok
 unfold AP at ha
 cases ha':BX arms m with
 |some t'=>
  rw[ha']at ha
  cases ha
  obtain⟨b,hb1,rfl,_⟩:=Fg _ _ _ ha'
  exact List.all_eq_true.mp hok.1.2 b hb1
 |none=>
  rw[ha']at ha
  cases els with
  |none=>cases ha
  |some dd=>cases ha;exact hok.2
theorem Each.kind(h:Each z Q){nm:By→σ→Res σ}(hn:∀s d d',nm s d=.ok d'→Q d d'){defs:List (By×Def)}(k:Dk)(ho:okK k=true){d d':σ}(e:I9 z nm defs k d=.ok d'):Q d d':=by
 cases k with
 |const n=>cases e
 |prog n vs=>cases e
 |alias t=>rw[okK,Bool.and_eq_true]at ho;exact h.ty hn t ho.1 e
 |enum ns is=>exact h.leaf _ _ _ _ _ _ (by omega) (by omega) e
 |struct ds=>
  rw[okK,Bool.and_eq_true]at ho
  rw[I9]at e
  obtain⟨x,e1,e2⟩:=Res.then_ok e
  exact h.trans _ _ _ (h.list _ _ _ x (by omega) e1) (h.parts hn ds ho.2 e2)
 |union of n arms els=>
  rw[I9]at e
  obtain⟨x,e1,e2⟩:=Res.then_ok e
  refine h.trans _ _ _ (h.union _ _ _ _ x e1) ?_
  cases ha:AP arms els x.1 with
  |none=>rw[ha]at e2;cases e2
  |some t=>rw[ha]at e2;exact h.ty hn t (Om ho ha) e2
theorem Each.sem(h:Each z Q){defs:List (By×Def)}(ho:vF defs):∀(r:Nat) (s:By) (d d':σ),sem z defs r s d=.ok d'→Q d d'
 |0,s,d,d',e=>by cases e
 |r+1,s,d,d',e=>by
  rw[M.sem]at e
  cases hl:defs.lookup s with
  |none=>rw[hl]at e;cases e
  |some x=>rw[hl]at e;exact h.kind (h.sem ho r) x.k (ho s x hl) e
end
section
variable {σ τ:Type} {z:Wz σ} {y:Wz τ} {G:σ→Prop} {R:σ→τ→Prop}
end
end Go.M
namespace Go.M
theorem xB{d:DS}{x:Nat×DS}(h:d.word=.ok x):d.pos+4≤d.b.length∧x=(w32 (d.b.drop d.pos),{ d with pos:=d.pos+4 }):=by
 unfold DS.word at h
 split at h
 ·cases h
 ·cases h;exact⟨by omega,rfl⟩
theorem Jr{lim:Lim}{k:Nat}:∀{parts:List By} {out o:By},KC lim k out parts=.ok o→o=out++parts.flatten∧(parts=[]∨(o.length:Int)≤lim.size)
 |[],out,o,h=>by cases h;simp
 |s::r,out,o,h=>by
  rw[KC]at h
  split at h
  ·cases h
  ·obtain⟨h1,h2⟩:=Jr h
   refine⟨by rw[h1];simp,Or.inr ?_⟩
   rcases h2 with h2|h2
   ·subst h2;rw[h1];simp at *;omega
   ·exact h2
theorem Hr{b:By}:∀{k p q:Nat},uJ b k p=.ok q→q=p+k∧∀i,p≤i→i<p+k→b[i]?.getD 0=0
 |0,p,q,h=>by cases h;exact⟨rfl,fun i h1 h2=>by omega⟩
 |k+1,p,q,h=>by
  rw[uJ]at h
  split at h
  ·cases h
  ·rename_i hz
   obtain⟨h1,h2⟩:=Hr h
   refine⟨by omega,fun i a b=>?_⟩
   by_cases e:i=p
   ·subst e;simpa using hz
   ·exact h2 i (by omega) (by omega)
theorem VP{d:DS}{n:Nat}{x:By×DS}(h:d.text n=.ok x):d.pos+n+dC n≤d.b.length∧x=((d.b.drop d.pos).take n,{ d with pos:=d.pos+n+dC n })∧∀i,d.pos+n≤i→i<d.pos+n+dC n→d.b[i]?.getD 0=0:=by
 unfold DS.text at h
 split at h
 ·cases h
 ·obtain⟨q,h1,h2⟩:=Res.then_ok h
  obtain⟨h3,h4⟩:=Hr h1
  cases h2
  exact⟨by omega,by rw[h3],h4⟩
theorem Qp(n:Nat):4∣n+dC n:=by unfold dC;omega
theorem Gz{d:DS}{lim:Lim}{u:Unit}(h:d.fuel lim=.ok u):(d.l.length:Int)<lim.fuel:=by
 unfold DS.fuel at h
 split at h
 ·cases h
 ·omega
theorem Ob{d:DS}{n:Int}{x:Nat×DS}(h:d.count n=.ok x):d.word=.ok x∧(x.1:Int)≤n:=by
 unfold DS.count at h
 obtain⟨y,h1,h2⟩:=Res.then_ok h
 split at h2
 ·cases h2
 ·cases h2;exact⟨h1,by omega⟩
theorem MP{lim:Lim}{op:Nat}{f:Bool}{n:Int}{set:List Int}{d d':DS}(h:d.Lr lim op f n set=.ok d')(ho:op≤5):
  (d.l.length:Int)<lim.fuel∧d'.b=d.b∧((op=5∧f=true∧∃k:Nat,k=n.toNat∧n≤2147483647∧d.pos+k+dC k≤d.b.length∧(∀i,d.pos+k≤i→i<d.pos+k+dC k→d.b[i]?.getD 0=0)∧d'=⟨d.b,d.pos+k+dC k,d.l++[⟨2,0,(d.b.drop d.pos).take k,d.pos,0⟩]⟩) ∨
   (op=5∧f=false∧∃k:Nat,k=w32 (d.b.drop d.pos)∧(k:Int)≤n∧(k:Int)≤2147483647∧d.pos+4+k+dC k≤d.b.length∧(∀i,d.pos+4+k≤i→i<d.pos+4+k+dC k→d.b[i]?.getD 0=0)∧d'=⟨d.b,d.pos+4+k+dC k,d.l++[⟨2,0,(d.b.drop (d.pos+4)).take k,(d.pos+4:Nat),0⟩]⟩) ∨
   (op=2∧∃a b:Nat,a=w32 (d.b.drop d.pos)∧b=w32 (d.b.drop (d.pos+4))∧d.pos+8≤d.b.length∧d'=⟨d.b,d.pos+8,d.l++[⟨1,if(a*4294967296+b:Int)<9223372036854775808 then(a*4294967296+b:Int)else(a*4294967296+b:Int) - 18446744073709551616,[],0,0⟩]⟩) ∨
   (op≠5∧op≠2∧∃w:Nat,w=w32 (d.b.drop d.pos)∧d.pos+4≤d.b.length∧uV op set (numOf op w)=true∧d'=⟨d.b,d.pos+4,d.l++[⟨1,numOf op w,[],0,0⟩]⟩)):=by
 unfold DS.Lr at h
 obtain⟨_,h1,h⟩:=Res.then_ok h
 have hf:=Gz h1
 split at h
 ·rename_i h5
  have h5:op=5:=by simpa using h5
  obtain⟨x,h2,h⟩:=Res.then_ok h
  split at h
  ·cases h
  ·rename_i hle
   obtain⟨y,h3,h⟩:=Res.then_ok h
   obtain⟨t1,t2,t3⟩:=VP h3
   cases h
   cases f with
   |true=>
    simp only[if_true,Res.ok.injEq]at h2
    subst h2
    refine⟨hf,by rw[t2];rfl,Or.inl ⟨h5,rfl,_,rfl,by omega,t1,t3,by rw[t2];rfl⟩⟩
   |false=>
    simp only[Bool.false_eq_true,if_false]at h2
    obtain⟨u,h4,h2⟩:=Res.then_ok h2
    cases h2
    obtain⟨h6,h7⟩:=Ob h4
    obtain⟨h8,h9⟩:=xB h6
    subst h9
    simp only[Int.toNat_natCast]at t1 t2 t3 hle h7
    refine⟨hf,by rw[t2];rfl,Or.inr (Or.inl ⟨h5,rfl,_,rfl,h7,by omega,t1,t3,by rw[t2];rfl⟩)⟩
 ·rename_i h5
  have h5:op≠5:=by simpa using h5
  split at h
  ·rename_i h2
   have h2:op=2:=by simpa using h2
   split at h
   ·cases h
   ·obtain⟨x,h3,h⟩:=Res.then_ok h
    obtain⟨y,h4,h⟩:=Res.then_ok h
    obtain⟨w1,w2⟩:=xB h3
    subst w2
    obtain⟨w3,w4⟩:=xB h4
    subst w4
    cases h
    refine⟨hf,rfl,Or.inr (Or.inr (Or.inl ⟨h2,_,_,rfl,rfl,by omega,rfl⟩))⟩
  ·rename_i h2
   have h2:op≠2:=by simpa using h2
   obtain⟨x,h3,h⟩:=Res.then_ok h
   obtain⟨w1,w2⟩:=xB h3
   subst w2
   split at h
   ·rename_i hz
    cases h
    refine⟨hf,rfl,Or.inr (Or.inr (Or.inr ⟨h5,h2,_,rfl,w1,hz,rfl⟩))⟩
   ·cases h
theorem MO{lim:Lim}{v:Bool}{n:Int}{d:DS}{x:Int×DS}(h:d.Lm lim v n=.ok x):
  (d.l.length:Int)<lim.fuel∧((v=false∧x=(n,⟨d.b,d.pos,d.l++[⟨3,0,[],0,n⟩]⟩)) ∨
   (v=true∧∃w:Nat,w=w32 (d.b.drop d.pos)∧d.pos+4≤d.b.length∧(w:Int)≤n∧x=((w:Int),⟨d.b,d.pos+4,d.l++[⟨3,0,[],0,w⟩]⟩))):=by
 unfold DS.Lm at h
 obtain⟨_,h1,h⟩:=Res.then_ok h
 have hf:=Gz h1
 obtain⟨y,h2,h⟩:=Res.then_ok h
 cases h
 cases v with
 |true=>
  simp only[if_true]at h2
  obtain⟨u,h4,h2⟩:=Res.then_ok h2
  cases h2
  obtain⟨h6,h7⟩:=Ob h4
  obtain⟨h8,h9⟩:=xB h6
  subst h9
  exact⟨hf,Or.inr ⟨rfl,_,rfl,h8,h7,rfl⟩⟩
 |false=>
  simp only[Bool.false_eq_true,if_false,Res.ok.injEq]at h2
  subst h2
  exact⟨hf,Or.inl ⟨rfl,rfl⟩⟩
theorem Qn{lim:Lim}{d:DS}{x:Bool×DS}(h:d.option lim=.ok x):
  (d.l.length:Int)<lim.fuel∧∃w:Nat,w=w32 (d.b.drop d.pos)∧d.pos+4≤d.b.length∧w≤1∧x=(w==1,⟨d.b,d.pos+4,d.l++[⟨4,w,[],0,w⟩]⟩):=by
 unfold DS.option at h
 obtain⟨_,h1,h⟩:=Res.then_ok h
 have hf:=Gz h1
 obtain⟨y,h2,h⟩:=Res.then_ok h
 obtain⟨h8,h9⟩:=xB h2
 subst h9
 split at h
 ·cases h
 ·rename_i hle
  cases h
  exact⟨hf,_,rfl,h8,by simpa using hle,rfl⟩
theorem Jq{lim:Lim}{of_:Nat}{set:List Int}{which:Int→Option Bool}{d:DS}{x:Int×DS}(h:d.Et lim of_ set which=.ok x):
  (d.l.length:Int)<lim.fuel∧∃w:Nat,∃v,w=w32 (d.b.drop d.pos)∧d.pos+4≤d.b.length∧uV of_ set (numOf of_ w)=true∧which (numOf of_ w)=some v∧x=(numOf of_ w,⟨d.b,d.pos+4,d.l++[⟨4,numOf of_ w,[],0,if v then 0 else 1⟩]⟩):=by
 unfold DS.Et at h
 obtain⟨_,h1,h⟩:=Res.then_ok h
 have hf:=Gz h1
 obtain⟨y,h2,h⟩:=Res.then_ok h
 obtain⟨h8,h9⟩:=xB h2
 subst h9
 split at h
 ·rename_i hz
  split at h
  ·rename_i v hv
   cases h
   exact⟨hf,_,v,rfl,h8,hz,hv,rfl⟩
  ·cases h
 ·cases h
end Go.M
namespace Go.M
end Go.M
namespace Go.M
theorem YJ{lim:Lim}{e e':ES}{parts:List By}(h:e.put lim parts=.ok e'):e'={ e with out:=e.out++parts.flatten,k:=e.k+1 }∧(parts=[]∨((e.out++parts.flatten).length:Int)≤lim.size):=by
 unfold ES.put at h
 obtain⟨o,h1,h2⟩:=Res.then_ok h
 obtain⟨h3,h4⟩:=Jr h1
 cases h2
 rw[h3]at h4
 exact⟨by rw[h3],h4⟩
end Go.M
namespace Go.M
def Ord(b:By):Nat→List Nd→Nat→Prop
 |p,[],q=>p≤q
 |p,n::r,q=>if n.kind=2 then ∃a:Nat,n.at_=a∧p≤a∧a+n.s.length≤b.length∧n.s=(b.drop a).take n.s.length∧Ord b (a+n.s.length) r q else Ord b p r q
theorem Ord.lower{b:By}:∀{l:List Nd} {p p' q:Nat},Ord b p l q→p'≤p→Ord b p' l q
 |[],p,p',q,h,hp=>Nat.le_trans hp h
 |n::r,p,p',q,h,hp=>by
  rw[Ord]at h ⊢
  split at h
  ·rename_i hk
   rw[if_pos hk]
   obtain⟨a,h1,h2,h3⟩:=h
   exact⟨a,h1,by omega,h3⟩
  ·rename_i hk
   rw[if_neg hk]
   exact h.lower hp
theorem Ord.app{b:By}:∀{l m:List Nd} {p q r:Nat},Ord b p l q→Ord b q m r→Ord b p (l++m) r
 |[],m,p,q,r,h,k=>k.lower h
 |n::l,m,p,q,r,h,k=>by
  rw[List.cons_append,Ord]
  rw[Ord]at h
  split at h
  ·rename_i hk
   rw[if_pos hk]
   obtain⟨a,h1,h2,h3,h4,h5⟩:=h
   exact⟨a,h1,h2,h3,h4,h5.app k⟩
  ·rename_i hk
   rw[if_neg hk]
   exact h.app k
def texts(l:List Nd):List Nd:=l.filter fun n=>n.kind==2
structure Far (d d':DS):Prop where
 b:d'.b=d.b
 le:d.pos≤d'.pos
 in_:d.pos≤d.b.length→d'.pos≤d.b.length
 dvd:4∣d'.pos - d.pos
 ex:∃ns,d'.l=d.l++ns∧Ord d.b d.pos ns d'.pos∧4*(texts ns).length≤d'.pos - d.pos
theorem Far.refl(d:DS):Far d d:=⟨rfl,Nat.le_refl _,fun h=>h,by simp,[],by simp,Nat.le_refl _,by simp[texts]⟩
theorem Far.trans{a b c:DS}(h:Far a b)(k:Far b c):Far a c:=by
 obtain⟨n1,e1,e2,e3⟩:=h.ex
 obtain⟨n2,f1,f2,f3⟩:=k.ex
 have h1:=h.le
 have h2:=k.le
 rw[h.b]at f2
 refine⟨k.b.trans h.b,Nat.le_trans h1 h2,fun x=>?_,?_,n1++n2,?_,e2.app f2,?_⟩
 ·have:=k.in_ (by rw[h.b];exact h.in_ x);rw[h.b]at this;exact this
 ·have:=h.dvd;have:=k.dvd;omega
 ·rw[f1,e1,List.append_assoc]
 ·simp only[texts,List.filter_append,List.length_append]at *;omega
theorem Far.one{d:DS}{q:Nat}{n:Nd}(hq:q≤d.b.length∨q=d.pos)(hle:d.pos≤q)(hd:4∣q - d.pos)(hk:n.kind≠2):Far d ⟨d.b,q,d.l++[n]⟩:=
 ⟨rfl,hle,fun h=>by rcases hq with hq|hq<;>(simp only;omega),hd,[n],rfl,by simp[Ord,hk,hle],by simp[texts,hk]⟩
theorem DZ{lim:Lim}{op:Nat}{f:Bool}{n:Int}{set:List Int}{d d':DS}(ho:op≤5)(h5:op=5→okN f n=true)(h:d.Lr lim op f n set=.ok d'):Far d d'∧d.pos+4≤d'.pos∧d.l.length<d'.l.length:=by
 obtain⟨hf,_,h⟩:=MP h ho
 rcases h with⟨rfl,rfl,k,hk,hn,hl,hz,rfl⟩|⟨rfl,rfl,k,hk,hkn,hk2,hl,hz,rfl⟩|⟨rfl,a,b,hae,hbe,hl,rfl⟩|⟨h5',h2,w,hw,hl,hfit,rfl⟩
 ·have hge:=(EK (h5 rfl)).2.2 rfl
  have hp:=Qp k
  have h4:4≤k+dC k:=by
   have:0<k:=by omega
   obtain⟨c,hc⟩:=hp
   omega
  have hlen:((d.b.drop d.pos).take k).length=k:=by rw[List.length_take,List.length_drop];omega
  refine⟨⟨rfl,by simp only;omega,fun _=>hl,by simp only;omega,_,rfl,?_,?_⟩,by simp only;omega,by simp⟩
  ·rw[Ord,if_pos rfl]
   exact⟨d.pos,rfl,Nat.le_refl _,by simp only[hlen];omega,by rw[hlen],by simp only[Ord,hlen];omega⟩
  ·simp[texts];omega
 ·have hp:=Qp k
  have hlen:((d.b.drop (d.pos+4)).take k).length=k:=by rw[List.length_take,List.length_drop];omega
  refine⟨⟨rfl,by simp only;omega,fun _=>hl,by simp only;omega,_,rfl,?_,?_⟩,by simp only;omega,by simp⟩
  ·rw[Ord,if_pos rfl]
   exact⟨d.pos+4,rfl,by omega,by simp only[hlen];omega,by rw[hlen],by simp only[Ord,hlen];omega⟩
  ·simp[texts];omega
 ·exact⟨Far.one (Or.inl hl) (by omega) (by omega) (by simp),by simp only;omega,by simp⟩
 ·exact⟨Far.one (Or.inl hl) (by omega) (by omega) (by simp),by simp only;omega,by simp⟩
theorem Iy{lim:Lim}{v:Bool}{n:Int}{d:DS}{x:Int×DS}(h:d.Lm lim v n=.ok x):Far d x.2∧(v=true→d.pos+4≤x.2.pos)∧d.l.length<x.2.l.length∧(v=false→x.1=n):=by
 obtain⟨hf,h⟩:=MO h
 rcases h with⟨rfl,rfl⟩|⟨rfl,w,hw,hl,hwn,rfl⟩
 ·exact⟨Far.one (Or.inr rfl) (Nat.le_refl _) (by simp) (by simp),fun h=>by(cases h),by simp,fun _=>rfl⟩
 ·exact⟨Far.one (Or.inl hl) (by omega) (by omega) (by simp),fun _=>by simp,by simp,fun h=>by(cases h)⟩
theorem QD{lim:Lim}{d:DS}{x:Bool×DS}(h:d.option lim=.ok x):Far d x.2∧d.pos+4≤x.2.pos∧d.l.length<x.2.l.length:=by
 obtain⟨hf,w,hw,hl,hw1,rfl⟩:=Qn h
 exact⟨Far.one (Or.inl hl) (by omega) (by omega) (by simp),by simp,by simp⟩
theorem Jw{lim:Lim}{of_:Nat}{set:List Int}{which:Int→Option Bool}{d:DS}{x:Int×DS}(h:d.Et lim of_ set which=.ok x):Far d x.2∧d.pos+4≤x.2.pos∧d.l.length<x.2.l.length:=by
 obtain⟨hf,w,v,hw,hl,hfit,hwh,rfl⟩:=Jq h
 exact⟨Far.one (Or.inl hl) (by omega) (by omega) (by simp),by simp,by simp⟩
theorem jQ(lim:Lim):Each (nz lim) Far:=
 ⟨Far.refl,fun _ _ _ h k=>h.trans k,fun op f n set d d' ho h5 h=>(DZ ho h5 h).1,fun v n d x _ h=>(Iy h).1,fun d x h=>(QD h).1,fun of_ set which d x h=>(Jw h).1⟩
def Big(d d':DS):Prop:=d.pos+4≤d'.pos∧d.l.length<d'.l.length
theorem Far.len{d d':DS}(h:Far d d'):d.l.length≤d'.l.length:=by
 obtain⟨ns,e,_⟩:=h.ex
 rw[e,List.length_append];omega
theorem Big.far{a b c:DS}(h:Big a b)(k:Far b c):Big a c:=⟨Nat.le_trans h.1 k.le,Nat.lt_of_lt_of_le h.2 k.len⟩
theorem Far.big{a b c:DS}(h:Far a b)(k:Big b c):Big a c:=⟨by have:=h.le;have:=k.1;omega,Nat.lt_of_le_of_lt h.len k.2⟩
section
variable {lim:Lim}
theorem KZ{nm:By→DS→Res DS}(hf:∀s d d',nm s d=.ok d'→Far d d')(hn:∀s d d',nm s d=.ok d'→Big d d'):∀(t:Ty),okT t=true→t≠.void→∀{d d':DS},sG (nz lim) nm t d=.ok d'→Big d d'
 |.basic s,_,_,d,d',e=>(DZ (by have:=iw s;omega) (by have:=iw s;omega) e).2
 |.named s a,_,_,d,d',e=>hn s d d' e
 |.bytes a f n,ho,_,d,d',e=>(DZ (by omega) (fun _=>ho) e).2
 |.void,_,h,d,d',e=>absurd rfl h
 |.opt t,ho,_,d,d',e=>by
  rw[sG]at e
  obtain⟨x,e1,e2⟩:=Res.then_ok e
  refine Big.far (QD e1).2 ?_
  split at e2
  ·exact(jQ lim).ty hf t (yl ho) e2
  ·cases e2;exact Far.refl _
 |.array t f n,ho,_,d,d',e=>by
  rw[okT,Bool.and_eq_true]at ho
  rw[sG]at e
  obtain⟨x,e1,e2⟩:=Res.then_ok e
  obtain⟨k1,k2,k3,k4⟩:=Iy e1
  have hfl:∀d d',sG (nz lim) nm t d=.ok d'→Far d d':=fun d d' e=>(jQ lim).ty hf t (yl ho.1) e
  have k5:=(jQ lim).iter hfl _ e2
  refine⟨?_,Nat.lt_of_lt_of_le k3 k5.len⟩
  cases f with
  |false=>exact Nat.le_trans (k2 rfl) k5.le
  |true=>
   have h1:=(EK ho.2).2.2 rfl
   have hx:=k4 rfl
   rw[show x.1.toNat=(x.1.toNat - 1)+1 by omega,M.iter]at e2
   obtain⟨y,e3,e4⟩:=Res.then_ok e2
   have hv:t≠.void:=by rintro rfl;cases ho.1
   have b1:=KZ hf hn t (yl ho.1) hv e3
   have b2:=(jQ lim).iter hfl _ e4
   have:=k1.le;have:=b1.1;have:=b2.le
   omega
theorem U6{nm:By→DS→Res DS}(hf:∀s d d',nm s d=.ok d'→Far d d')(hn:∀s d d',nm s d=.ok d'→Big d d'){defs:List (By×Def)}(k:Dk)(ho:okK k=true){d d':DS}(e:I9 (nz lim) nm defs k d=.ok d'):Big d d':=by
 cases k with
 |const n=>cases e
 |prog n vs=>cases e
 |alias t=>rw[okK,Bool.and_eq_true,bne_iff_ne]at ho;exact KZ hf hn t ho.1 ho.2 e
 |enum ns is=>exact(DZ (by omega) (by omega) e).2
 |struct ds=>
  rw[okK,Bool.and_eq_true,Bool.and_eq_true]at ho
  rw[I9]at e
  obtain⟨x,e1,e2⟩:=Res.then_ok e
  cases ds with
  |nil=>simp at ho
  |cons a r=>
   have ho2:=ho.2
   rw[List.all_cons,Bool.and_eq_true,Bool.and_eq_true,bne_iff_ne]at ho2
   rw[O4]at e2
   obtain⟨y,e3,e4⟩:=Res.then_ok e2
   exact(Iy e1).1.big ((KZ hf hn a.ty ho2.1.1 ho2.1.2 e3).far ((jQ lim).parts hf r ho2.2 e4))
 |union of n arms els=>
  rw[I9]at e
  obtain⟨x,e1,e2⟩:=Res.then_ok e
  refine Big.far (Jw e1).2 ?_
  cases ha:AP arms els x.1 with
  |none=>rw[ha]at e2;cases e2
  |some t=>rw[ha]at e2;exact(jQ lim).ty hf t (Om ho ha) e2
theorem QI{defs:List (By×Def)}(ho:vF defs):∀(r:Nat) (s:By) (d d':DS),sem (nz lim) defs r s d=.ok d'→Big d d'
 |0,s,d,d',e=>by cases e
 |r+1,s,d,d',e=>by
  rw[sem]at e
  cases hl:defs.lookup s with
  |none=>rw[hl]at e;cases e
  |some x=>rw[hl]at e;exact U6 ((jQ lim).sem ho r) (QI ho r) x.k (ho s x hl) e
end
end Go.M
namespace Go.M
structure IOk (len:Nat) (tabs:List Tab) (i:Ins):Prop where
 n:0≤i.n∧i.n≤4294967295
 to:i.to<len
 ge:i.op=13∨0≤i.to
 tab:i.op=13→∃tb m,i.table=some tb∧tabs[tb]?=some m∧∀x∈m,x.2<len
theorem IOk.up{len len':Nat}{tabs t:List Tab}{i:Ins}(h:IOk len tabs i)(hl:len≤len'):IOk len' (tabs++t) i:=by
 refine⟨h.n,by have:=h.to;omega,h.ge,fun h13=>?_⟩
 obtain⟨tb,m,h1,h2,h3⟩:=h.tab h13
 exact⟨tb,m,h1,by rw[List.getElem?_append_left (mV h2)];exact h2,fun x hx=>by have:=h3 x hx;omega⟩
theorem IOk.wY{len:Nat}{tabs:List Tab}{i:Ins}(h:IOk len tabs i):M.wY len tabs i=true:=by
 unfold M.wY
 rw[Bool.and_eq_true,decide_eq_true_eq,List.all_eq_true]
 refine⟨⟨h.n.1,h.n.2,h.to,h.ge⟩,fun x hx=>?_⟩
 rw[decide_eq_true_eq]
 intro h13
 obtain⟨tb,m,h1,h2,h3⟩:=h.tab h13
 rw[h1,VQ h2]at hx
 exact h3 x hx
def xq(e:Nat)(i:Ins):Prop:=(0≤i.n∧i.n≤4294967295)∧0≤i.to∧i.to≤e∧i.op≠13
theorem xq.ok{e len:Nat}{tabs:List Tab}{i:Ins}(h:xq e i)(hl:e<len):IOk len tabs i:=⟨h.1,by have:=h.2.2.1;omega,Or.inr h.2.1,fun h13=>absurd h13 h.2.2.2⟩
theorem xq.up{e e':Nat}{i:Ins}(h:xq e i)(he:e≤e'):xq e' i:=⟨h.1,h.2.1,by have:=h.2.2.1;omega,h.2.2.2⟩
theorem Ph(e k:Nat)(hk:k≠13):xq e (ins k):=by
 simp only[xq,ins]
 omega
theorem tY:∀(t:Ty) (b:Nat),okT t=true→∀i∈bG t b,xq (b+tsz t) i
 |.basic s,b,_,i,hi=>by
  rw[bG,List.mem_singleton]at hi
  subst hi
  exact Ph _ _ (by have:=iw s;omega)
 |.named s a,b,_,i,hi=>by
  rw[bG,List.mem_singleton]at hi
  subst hi
  exact Ph _ _ (by omega)
 |.bytes a f n,b,h,i,hi=>by
  rw[bG,List.mem_singleton]at hi
  subst hi
  have:=EK h
  simp only[xq,ins];omega
 |.array t f n,b,h,i,hi=>by
  rw[okT,Bool.and_eq_true]at h
  have hn:=EK h.2
  rw[bG]at hi
  rcases List.mem_cons.mp hi with rfl|hi
  ·cases f<;>simp only[xq,ins,tsz]<;>simp<;>omega
  ·rcases List.mem_append.mp hi with hi|hi
   ·exact(tY t (b+1) (yl h.1) i hi).up (by simp only[tsz];omega)
   ·rw[List.mem_singleton]at hi
    subst hi
    exact Ph _ _ (by omega)
 |.opt t,b,h,i,hi=>by
  rw[bG]at hi
  rcases List.mem_cons.mp hi with rfl|hi
  ·simp only[xq,ins,tsz];omega
  ·exact(tY t (b+1) (yl h) i hi).up (by simp only[tsz];omega)
 |.void,b,_,i,hi=>by
  rw[bG,List.mem_singleton]at hi
  subst hi
  exact Ph _ _ (by omega)
theorem MW:∀(l:List Decl) (b:Nat),(l.all fun d=>okT d.ty&&d.ty != .void)=true→∀i∈qC l b,xq (b+dD l) i
 |[],_,_,i,hi=>by cases hi
 |d::r,b,h,i,hi=>by
  rw[List.all_cons,Bool.and_eq_true,Bool.and_eq_true]at h
  rw[qC]at hi
  rw[dD]
  rcases List.mem_append.mp hi with hi|hi
  ·exact(tY d.ty b h.1.1 i hi).up (by omega)
  ·exact(MW r _ h.2 i hi).up (by omega)
theorem TN{e m:Nat}(h:e≤m):xq m (uK (e:Nat)):=by
 simp only[xq,uK,ins];omega
theorem QJ:∀(l:List Arm) (b e m:Nat),(l.all fun a=>okT a.decl.ty)=true→e≤m→b+aH l≤m→∀i∈lK l b (e:Nat),xq m i
 |[],_,_,_,_,_,_,i,hi=>by cases hi
 |d::r,b,e,m,h,he,hm,i,hi=>by
  rw[List.all_cons,Bool.and_eq_true]at h
  rw[lK]at hi
  rw[aH]at hm
  rcases List.mem_append.mp hi with hi|hi
  ·exact(tY d.decl.ty b h.1 i hi).up (by omega)
  ·rcases List.mem_cons.mp hi with rfl|hi
   ·exact TN he
   ·exact QJ r _ e m h.2 he (by omega) i hi
theorem FZ(b m:Nat)(hb:b<m):∀(l:List Int) (t:Tab),(∀x∈t,x.2<m)→∀x∈jR b t l,x.2<m
 |[],t,h=>h
 |n::r,t,h=>FZ b m hb r _ fun x hx=>by
  rcases Ii hx with hx|rfl
  ·exact h x hx
  ·exact hb
theorem IJ(m:Nat):∀(l:List Arm) (b:Nat) (t:Tab),(b+aH l≤m)→(∀x∈t,x.2<m)→∀x∈jr l b t,x.2<m
 |[],b,t,_,h=>h
 |a::r,b,t,hb,h=>by
  rw[aH]at hb
  exact IJ m r _ _ (by omega) (FZ b m (by omega) a.nums t h)
theorem RQ(defs:List (By×Def))(b tb:Nat)(k:Dk):isType k=true→0<(gX defs b tb k).length:=by
 intro h
 cases k<;>first|(cases h;done)|(simp[gX,zg])
theorem Uh(defs:List (By×Def))(b:Nat)(tabs:List Tab)(k:Dk)(ho:okK k=true):∀i∈gX defs b tabs.length k,IOk (b+(gX defs b tabs.length k).length) (tabs++gB defs b k) i:=by
 intro i hi
 have ret:xq b (ins 7):=Ph _ _ (by omega)
 cases k with
 |const n=>cases hi
 |prog n vs=>cases hi
 |alias t=>
  rw[okK,Bool.and_eq_true]at ho
  simp only[gX,List.length_append,aS,List.length_singleton]at hi ⊢
  rcases List.mem_append.mp hi with hi|hi
  ·exact(tY t b ho.1 i hi).ok (by omega)
  ·rw[List.mem_singleton]at hi;subst hi;exact ret.ok (by omega)
 |enum ns is=>
  simp only[gX,List.mem_cons,List.not_mem_nil,or_false]at hi
  rcases hi with rfl|rfl
  ·refine xq.ok (e:=b) ?_ (by simp[gX])
   simp only[xq,ins];omega
  ·exact ret.ok (by simp[gX])
 |struct ds=>
  rw[okK,Bool.and_eq_true,Bool.and_eq_true,decide_eq_true_eq]at ho
  simp only[gX,List.length_cons,List.length_append,Cj,List.length_singleton]at hi ⊢
  rcases List.mem_cons.mp hi with rfl|hi
  ·refine xq.ok (e:=b) ?_ (by omega)
   simp only[xq,ins];omega
  ·rcases List.mem_append.mp hi with hi|hi
   ·exact(MW ds (b+1) ho.2 i hi).ok (by omega)
   ·rw[List.mem_singleton]at hi;subst hi;exact ret.ok (by omega)
 |union of n arms els=>
  rw[okK,Bool.and_eq_true,Bool.and_eq_true]at ho
  simp only[gX,zg,List.cons_append,List.length_cons,List.length_append,lJ,IB,List.length_singleton]at hi ⊢
  rcases List.mem_cons.mp hi with rfl|hi
  ·refine⟨⟨by simp[gI,ins],by simp[gI,ins]⟩,?_,Or.inl rfl,fun _=>⟨tabs.length,jr arms (b+1) [],rfl,?_,IJ _ arms (b+1) [] (by omega) (fun x hx=>by cases hx)⟩⟩
   ·simp only[gI,mY]
    cases els with
    |none=>simp only;omega
    |some d=>simp only[je];have:=Ql d.ty;omega
   ·rw[gB,List.getElem?_append_right (Nat.le_refl _),Nat.sub_self]
    rfl
  ·rcases List.mem_append.mp hi with hi|hi
   ·rcases List.mem_append.mp hi with hi|hi
    ·exact(QJ arms (b+1) _ (b+1+aH arms+je els) ho.1.2 (Nat.le_refl _) (by omega) i hi).ok (by omega)
    ·cases els with
     |none=>cases hi
     |some d=>
      simp only[CY,je]at hi ⊢
      rcases List.mem_append.mp hi with hi|hi
      ·exact(tY d.ty _ ho.2 i hi).ok (by omega)
      ·rw[List.mem_singleton]at hi;subst hi;exact(TN (m:=b+1+aH arms+(tsz d.ty+1)) (Nat.le_refl _)).ok (by omega)
   ·rw[List.mem_singleton]at hi;subst hi;exact ret.ok (by omega)
def okP:Dk→Bool
 |.prog _ vs=>vs.all fun v=>v.procs.all fun q=>okT q.arg&&okT q.res
 |_=>true
def gY(c:CS):Prop:=∀i∈c.L,IOk c.L.length c.tabs i
theorem gY.more{c:CS}(h:gY c){l:List Ins}{k:List (Nat×By×Nat)}{t:List Tab}(hl:∀i∈l,IOk (c.L.length+l.length) (c.tabs++t) i):gY (c.more l k t):=by
 intro i hi
 rw[Ub]
 rcases List.mem_append.mp hi with hi|hi
 ·exact(h i hi).up (by omega)
 ·exact hl i hi
theorem gY.side{c:CS}(h:gY c){t:Ty}(ht:okT t=true):gY (iD t c):=by
 rw[sF,rU]
 refine h.more fun i hi=>?_
 rw[List.length_append,aS,List.length_singleton]
 rcases List.mem_append.mp hi with hi|hi
 ·exact(tY t _ ht i hi).ok (by omega)
 ·rw[List.mem_singleton]at hi;subst hi;exact(Ph c.L.length 16 (by omega)).ok (by omega)
theorem gY.dB(g v:Int):∀(l:List rP) {c:CS},gY c→(l.all fun q=>okT q.arg&&okT q.res)=true→gY (dB g v c l)
 |[],c,h,_=>h
 |q::r,c,h,ho=>by
  rw[List.all_cons,Bool.and_eq_true,Bool.and_eq_true]at ho
  rw[M.dB]
  refine gY.dB g v r ?_ ho.2
  exact(h.side ho.1.2).side ho.1.1
theorem gY.fP(g:Int):∀(l:List uz) {c:CS},gY c→(l.all fun v=>v.procs.all fun q=>okT q.arg&&okT q.res)=true→gY (fP g c l)
 |[],c,h,_=>h
 |v::r,c,h,ho=>by
  rw[List.all_cons,Bool.and_eq_true]at ho
  rw[M.fP]
  exact gY.fP g r (gY.dB g v.n v.procs (c:={ c with bM:=aY c.bM g ((c.bM.lookup g).getD []++[v.n]) }) h ho.1) ho.2
theorem gY.oQ{c:CS}(h:gY c)(d:Def)(ho:okK d.k=true)(hp:okP d.k=true):gY (oQ c d):=by
 have h0:gY ({ c with defs:=aY c.defs d.name d }:CS):=h
 cases ht:isType d.k with
 |false=>
  unfold M.oQ
  cases hk:d.k with
  |prog n vs=>rw[hk]at hp;exact gY.fP n vs h0 hp
  |const n=>simp only;rw[uX _ _ ht];exact h0
  |_=>rw[hk]at ht;cases ht
 |true=>
  have e:M.oQ c d=eH d { c with defs:=aY c.defs d.name d }:=by
   unfold M.oQ
   cases hk:d.k with
   |prog n vs=>rw[hk]at ht;cases ht
   |_=>rfl
  rw[e,yx _ _ ht]
  exact gY.more (c:={ c with defs:=aY c.defs d.name d,start:=aY c.start d.name c.L.length }) h (Uh _ _ c.tabs d.k ho)
theorem gY.bg:∀(l:List Def) {c:CS},gY c→(∀d∈l,okK d.k=true∧okP d.k=true)→gY (bg c l)
 |[],c,h,_=>h
 |d::r,c,h,ho=>by
  obtain⟨h1,h2⟩:=ho d (List.mem_cons_self ..)
  exact gY.bg r (h.oQ d h1 h2) fun x hx=>ho x (List.mem_cons_of_mem _ hx)
theorem NZ{P:Def→Prop}:∀(l:List Def) {c:CS},(∀s d,c.defs.lookup s=some d→P d)→(∀d∈l,P d)→∀s d,(bg c l).defs.lookup s=some d→P d
 |[],c,h,_=>h
 |d::r,c,h,hr=>by
  rw[bg]
  refine NZ r ?_ fun x hx=>hr x (List.mem_cons_of_mem _ hx)
  have e:(oQ c d).defs=aY c.defs d.name d:=by
   have procs:∀(g v:Int) (l:List rP) (c:CS),(dB g v c l).defs=c.defs:=by
    intro g v l
    induction l with
    |nil=>intro c;rfl
    |cons q r ih=>
     intro c
     rw[dB,ih]
     show (iD q.arg (iD q.res c)).defs=c.defs
     rw[sF,sF];rfl
   have bM:∀(g:Int) (l:List uz) (c:CS),(fP g c l).defs=c.defs:=by
    intro g l
    induction l with
    |nil=>intro c;rfl
    |cons q r ih=>intro c;rw[fP,ih,procs]
   cases ht:isType d.k with
   |false=>
    unfold oQ
    cases hk:d.k with
    |prog n vs=>exact bM n vs _
    |const n=>simp only;rw[uX _ _ ht]
    |_=>rw[hk]at ht;cases ht
   |true=>
    have e:oQ c d=eH d { c with defs:=aY c.defs d.name d }:=by
     unfold oQ
     cases hk:d.k with
     |prog n vs=>rw[hk]at ht;cases ht
     |_=>rfl
    rw[e,yx _ _ ht];rfl
  intro s x hx
  rw[e,bW]at hx
  split at hx
  ·cases hx;exact hr _ (List.mem_cons_self ..)
  ·exact h s x hx
structure Tidy (ds:List Def):Prop where
 fine:fine ds=true
 ok:∀d∈ds,okK d.k=true∧okP d.k=true
structure Comp (ds:List Def) (c:CS):Prop where
 li:LI (bg CS.empty ds)
 start:c.start=(bg CS.empty ds).start
 defs:c.defs=(bg CS.empty ds).defs
 tabs:c.tabs=(bg CS.empty ds).tabs
 procs:c.procs=(bg CS.empty ds).procs
 bM:c.bM=(bg CS.empty ds).bM
 rsv:Rsv (bg CS.empty ds).L c.L (bg CS.empty ds).calls (bg CS.empty ds).start
 prg:Prg c.L c.tabs c.start c.defs
 UU:vF c.defs
 all:∀i∈c.L,IOk c.L.length c.tabs i
 len:c.L.length+2*c.start.length<1000000
theorem PM{ds:List Def}(h:fine ds=true):qA CS.empty ds=true∧(bg CS.empty ds).L.length+2*(bg CS.empty ds).start.length<1000000:=by
 simp only[fine,Bool.and_eq_true,decide_eq_true_eq]at h
 exact⟨h.1.1.1.1.1,h.1.1.1.1.2⟩
theorem LI.MH{c:CS}(h:LI c){s:By}{p:Nat}(hs:c.start.lookup s=some p):p<c.L.length:=by
 obtain⟨d,tb,h1,h2,h3,h4,h5,h6⟩:=h.start s p hs
 have:=RQ c.defs p tb d.k h2
 obtain⟨x,r,hx⟩:=List.exists_cons_of_ne_nil (List.length_pos_iff.mp this)
 rw[hx]at h4
 exact mV h4.head
theorem KU{ds:List Def}{c:CS}(ht:Tidy ds)(h:compile ds=.ok c):Comp ds c:=by
 unfold compile at h
 obtain⟨L,h1,h⟩:=Res.then_ok h
 obtain⟨_,_,h⟩:=Res.then_ok h
 obtain⟨hw,hlen⟩:=PM ht.fine
 have hli:=LI.bg ds LI.empty hw
 have hr:=hli.rsv h1
 have hall:=gY.bg ds (c:=CS.empty) (fun i hi=>by cases hi) ht.ok
 have hprg:=hli.prg h1
 have hdef:=NZ (P:=fun d=>okK d.k=true) ds (c:=CS.empty) (fun s d h=>by cases h) (fun d hd=>(ht.ok d hd).1)
 generalize he:bg CS.empty ds=e at *
 cases h
 refine⟨by rw[he];exact hli,by rw[he],by rw[he],by rw[he],by rw[he],by rw[he],by rw[he];exact hr,hprg,hdef,?_,?_⟩
 ·intro i hi
  obtain⟨p,hp,hpi⟩:=List.mem_iff_getElem.mp hi
  have NL:L[p]?=some i:=by rw[List.getElem?_eq_getElem hp,hpi]
  have hp2:p<e.L.length:=by rw[← hr.len];exact hp
  show IOk L.length e.tabs i
  rw[hr.len]
  have hx:=hall e.L[p] (List.getElem_mem hp2)
  by_cases hin:∃x∈e.calls,x.1=p
  ·obtain⟨x,hx1,rfl⟩:=hin
   obtain⟨t,ht1,ht2⟩:=hr.call x hx1
   have NL:L[x.1]?=some i:=NL
   rw[ht2]at NL
   cases NL
   have:=hli.MH ht1
   exact⟨by simp[ins],by simp only;omega,Or.inr (by simp),fun h=>by simp[ins]at h⟩
  ·have:=(oV h1).2 p fun x hx e=>hin ⟨x,hx,e⟩
   have NL:L[p]?=some i:=NL
   rw[this,List.getElem?_eq_getElem hp2]at NL
   cases NL
   exact hx
 ·show L.length+2*e.start.length<1000000
  rw[hr.len];exact hlen
theorem Hg:∀(l:List By) {c0 c:CS},(∀s p,c.types.lookup s=some p→c.L[p]?=some { ins 6 with to:=((c0.start.lookup s).getD 0:Nat) }∧c.L[p+1]?=some (ins 16))→c.start=c0.start →
  (bC c l).start=c.start∧(bC c l).defs=c.defs∧(bC c l).tabs=c.tabs∧(bC c l).procs=c.procs∧(bC c l).bM=c.bM∧(∃r,(bC c l).L=c.L++r) ∧
  (∀s p,(bC c l).types.lookup s=some p→(bC c l).L[p]?=some { ins 6 with to:=((c0.start.lookup s).getD 0:Nat) }∧(bC c l).L[p+1]?=some (ins 16)) ∧
  (∀s,((bC c l).types.lookup s).isSome=((c.types.lookup s).isSome||l.contains s))
 |[],c0,c,h,_=>⟨rfl,rfl,rfl,rfl,rfl,⟨[],by simp[bC]⟩,h,fun s=>by simp[bC]⟩
 |n::r,c0,c,h,hs=>by
  have k:=Hg r (c0:=c0) (c:={ c with types:=aY c.types n c.L.length,L:=c.L++[{ ins 6 with to:=((c.start.lookup n).getD 0:Nat) },ins 16] }) ?_ hs
  ·obtain⟨k1,k2,k3,k4,k5,⟨x,k6⟩,k7,k8⟩:=k
   rw[bC]
   refine⟨k1,k2,k3,k4,k5,⟨_,by rw[k6,List.append_assoc]⟩,k7,fun s=>?_⟩
   rw[k8,bW,List.contains_cons]
   cases hb:s==n<;>simp
  ·intro s p hp
   simp only[bW]at hp
   split at hp
   ·rename_i hb
    cases hp
    have hb:s=n:=eq_of_beq hb
    subst hb
    constructor
    ·rw[List.getElem?_append_right (Nat.le_refl _),Nat.sub_self,hs];rfl
    ·rw[List.getElem?_append_right (by omega),Nat.add_sub_cancel_left];rfl
   ·obtain⟨h1,h2⟩:=h s p hp
    exact⟨by simp only;rw[List.getElem?_append_left (mV h1)];exact h1,by simp only;rw[List.getElem?_append_left (mV h2)];exact h2⟩
theorem rC.app{L r:List Ins}{start:List (By×Nat)}:∀{t:Ty} {p:Nat},rC L start t p→rC (L++r) start t p:=by
 have g:∀{p:Nat} {x:Ins},L[p]?=some x→(L++r)[p]?=some x:=fun h=>by rw[List.getElem?_append_left (mV h)];exact h
 intro t
 induction t with
 |basic s=>intro p h;exact g h
 |named s a=>intro p h;obtain⟨t,h1,h2⟩:=h;exact⟨t,h1,g h2⟩
 |bytes a f n=>intro p h;exact g h
 |array t f n ih=>intro p h;exact⟨g h.1,ih h.2.1,g h.2.2⟩
 |opt t ih=>intro p h;exact⟨g h.1,ih h.2⟩
 |void=>intro p h;exact g h
theorem IP.app{L r:List Ins}{tabs:List Tab}{start:List (By×Nat)}{defs:List (By×Def)}{p tb:Nat}{k:Dk}(h:IP L tabs start defs p tb k):IP (L++r) tabs start defs p tb k:=by
 have g:∀{p:Nat} {x:Ins},L[p]?=some x→(L++r)[p]?=some x:=fun h=>by rw[List.getElem?_append_left (mV h)];exact h
 have gp:∀(l:List Decl) {p:Nat},JH L start l p→JH (L++r) start l p:=by
  intro l
  induction l with
  |nil=>intro p _;trivial
  |cons d l ih=>intro p h;exact⟨h.1.app,ih h.2⟩
 have ga:∀(l:List Arm) {p:Nat} {e:Int},JI L start e l p→JI (L++r) start e l p:=by
  intro l
  induction l with
  |nil=>intro p e _;trivial
  |cons d l ih=>intro p e h;exact⟨h.1.app,g h.2.1,ih h.2.2⟩
 cases k with
 |const n=>trivial
 |prog n vs=>trivial
 |alias t=>exact⟨h.1.app,g h.2⟩
 |enum ns is=>exact⟨g h.1,h.2.1,g h.2.2⟩
 |struct ds=>exact⟨g h.1,gp ds h.2.1,g h.2.2⟩
 |union of n arms els=>
  refine⟨g h.1,h.2.1,h.2.2.1,ga arms h.2.2.2.1,?_,g h.2.2.2.2.2⟩
  have he:=h.2.2.2.2.1
  cases els with
  |none=>trivial
  |some d=>exact⟨he.1.app,g he.2⟩
theorem Prg.app{L r:List Ins}{tabs:List Tab}{start:List (By×Nat)}{defs:List (By×Def)}(h:Prg L tabs start defs):Prg (L++r) tabs start defs:=
 ⟨fun s p hs=>by obtain⟨d,tb,h1,h2,h3,h4⟩:=h.named s p hs;exact⟨d,tb,h1,h2,h3,h4.app⟩⟩
structure Whole (ds:List Def) (c d:CS):Prop where
 comp:Comp ds c
 start:d.start=c.start
 defs:d.defs=c.defs
 tabs:d.tabs=c.tabs
 procs:d.procs=c.procs
 bM:d.bM=c.bM
 prg:Prg d.L d.tabs d.start d.defs
 all:∀i∈d.L,wY d.L.length d.tabs i=true
 len:d.L.length<1000000
 pre:∃r,d.L=c.L++r
 has:∀s,(d.types.lookup s).isSome=(d.start.lookup s).isSome
 ent:∀s p,d.types.lookup s=some p→∃t,d.start.lookup s=some t∧d.L[p]?=some { ins 6 with to:=((t:Nat):Int) }∧d.L[p+1]?=some (ins 16)
theorem Py{α β:Type}[BEq α][LawfulBEq α](l:List (α×β))(s:α):(l.lookup s).isSome=(l.map (·.1)).contains s:=by
 induction l with
 |nil=>rfl
 |cons x r ih=>
  rw[List.lookup_cons,List.map_cons,List.contains_cons,← ih]
  cases s==x.1<;>rfl
theorem Hl:∀(l:List By) {c:CS},(∀i∈c.L,IOk c.L.length c.tabs i)→(∀s p,c.start.lookup s=some p→p<c.L.length)→∀i∈(bC c l).L,IOk (bC c l).L.length (bC c l).tabs i
 |[],c,h,_=>h
 |n::r,c,h,hs=>by
  rw[bC]
  refine Hl r ?_ ?_
  ·intro i hi
   simp only[List.length_append,List.length_cons,List.length_nil]
   rcases List.mem_append.mp hi with hi|hi
   ·have:=(h i hi).up (t:=[]) (show c.L.length≤c.L.length+(0+1+1)by omega)
    rwa [List.append_nil]at this
   ·simp only[List.mem_cons,List.not_mem_nil,or_false]at hi
    rcases hi with rfl|rfl
    ·refine⟨by simp[ins],?_,Or.inr (by simp),fun h=>by simp[ins]at h⟩
     cases hn:c.start.lookup n with
     |none=>simp only[Option.getD_none];omega
     |some p=>have:=hs n p hn;simp only[Option.getD_some];omega
    ·exact(Ph 0 16 (by omega)).ok (by omega)
  ·intro s p hp
   have:=hs s p hp
   simp only[List.length_append];omega
theorem Jf{ds:List Def}{c:CS}{names:List By}(ht:Tidy ds)(h:compile ds=.ok c)(hp:names.Perm (c.start.map (·.1))):Whole ds c (bC c names):=by
 have hc:=KU ht h
 have ht0:c.types=[]:=by
  unfold compile at h
  obtain⟨L,h1,h⟩:=Res.then_ok h
  obtain⟨_,_,h⟩:=Res.then_ok h
  have:∀(l:List Def) (c:CS),c.types=[]→(bg c l).types=[]:=by
   have procs:∀(g v:Int) (l:List rP) (c:CS),(dB g v c l).types=c.types:=by
    intro g v l
    induction l with
    |nil=>intro c;rfl
    |cons q r ih=>
     intro c
     rw[dB,ih]
     show (iD q.arg (iD q.res c)).types=c.types
     rw[sF,sF];rfl
   have bM:∀(g:Int) (l:List uz) (c:CS),(fP g c l).types=c.types:=by
    intro g l
    induction l with
    |nil=>intro c;rfl
    |cons q r ih=>intro c;rw[fP,ih,procs]
   intro l
   induction l with
   |nil=>intro c h;exact h
   |cons d r ih=>
    intro c h
    rw[bg]
    refine ih _ ?_
    cases ht:isType d.k with
    |false=>
     unfold oQ
     cases hk:d.k with
     |prog n vs=>simp only;rw[bM];exact h
     |const n=>simp only;rw[uX _ _ ht];exact h
     |_=>rw[hk]at ht;cases ht
    |true=>
     have e:oQ c d=eH d { c with defs:=aY c.defs d.name d }:=by
      unfold oQ
      cases hk:d.k with
      |prog n vs=>rw[hk]at ht;cases ht
      |_=>rfl
     rw[e,yx _ _ ht];exact h
  cases h
  exact this ds _ rfl
 obtain⟨k1,k2,k3,k4,k5,⟨r,k6⟩,k7,k8⟩:=Hg names (c0:=c) (c:=c) (fun s p h=>by rw[ht0]at h;cases h) rfl
 have hlt:∀s p,c.start.lookup s=some p→p<c.L.length:=fun s p hs=>by
  rw[hc.start]at hs
  have:=hc.li.MH hs
  rw[hc.rsv.len];exact this
 have hhas:∀s,((bC c names).types.lookup s).isSome=(c.start.lookup s).isSome:=fun s=>by
  rw[k8,ht0,Py c.start]
  show (false||names.contains s)=_
  rw[Bool.false_or,Bool.eq_iff_iff,List.contains_iff_mem,List.contains_iff_mem]
  exact hp.mem_iff
 refine⟨hc,k1,k2,k3,k4,k5,?_,fun i hi=>(Hl names hc.all hlt i hi).wY,?_,⟨r,k6⟩,fun s=>by rw[hhas,k1],fun s p hs=>?_⟩
 ·rw[k1,k2,k3,k6];exact hc.prg.app
 ·rw[Cb,hp.length_eq,List.length_map];exact hc.len
 ·obtain⟨e1,e2⟩:=k7 s p hs
  have:=hhas s
  rw[hs,Option.isSome_some]at this
  cases hl:c.start.lookup s with
  |none=>rw[hl]at this;cases this
  |some t=>
   rw[hl]at e1
   exact⟨t,by rw[k1];exact hl,e1,e2⟩
theorem Whole.run{σ:Type}{ds:List Def}{c d:CS}(h:Whole ds c d){lim:Lim}{io:Wy σ}{z:Wz σ}(w:Jh σ d.L d.tabs io z)(hd:lim.depth≤900){s:By}{p:Nat}(hp:d.types.lookup s=some p)(x:σ):
  ∃n,rH d.L lim io n ⟨p,[],[],x⟩=some ((sem z d.defs lim.depth.toNat s x).andThen fun y=>.ok ⟨p+1,[],[],y⟩):=by
 obtain⟨t,h1,h2,h3⟩:=h.ent s p hp
 have ho:vF d.defs:=by rw[h.defs];exact h.comp.UU
 exact TQ w h.prg ho hd (t:=.named s 0) rfl (p:=p) x ⟨t,h1,h2⟩ h3
end Go.M
namespace Go.M
inductive Oc (α:Type) where
 |ok (a:α)
 |flt (e a:Nat)
 |num (e:Nat)
def Res.oc{α:Type}:Res α→Oc α
 |.ok a=>.ok a
 |.no e a=>.flt e a
def Lim.valid(l:Lim):Bool:=decide (0≤l.depth)&&decide (l.depth≤64)&&decide (0≤l.fuel)&&decide (l.fuel≤10000)&&decide (0≤l.size)&&decide (l.size≤100000)
theorem Lim.Ru{l:Lim}:l.valid=true↔(0≤l.depth∧l.depth≤64)∧(0≤l.fuel∧l.fuel≤10000)∧(0≤l.size∧l.size≤100000):=by
 simp only[Lim.valid,Bool.and_eq_true,decide_eq_true_eq]
 constructor
 ·rintro⟨⟨⟨⟨⟨a,b⟩,c⟩,d⟩,e⟩,f⟩;exact⟨⟨a,b⟩,⟨c,d⟩,e,f⟩
 ·rintro⟨⟨a,b⟩,⟨c,d⟩,e,f⟩;exact⟨⟨⟨⟨⟨a,b⟩,c⟩,d⟩,e⟩,f⟩
def IG(defs:List (By×Def))(lim:Lim)(t:Ty)(b:By):Res (List Nd):=
 (sG (nz lim) (sem (nz lim) defs lim.depth.toNat) t ⟨b,0,[]⟩).andThen fun d=>if d.pos<b.length then .no 20 d.pos else .ok d.l
def uD(c:CS)(lim:Lim)(name b:By):Oc (List Nd):=
 if(c.start.lookup name).isNone then .num 10 else if !lim.valid then .num 11 else if lim.size<b.length then .flt 14 0 else(IG c.defs lim (.named name 0) b).oc
end Go.M
set_option maxRecDepth 100000
namespace Go.M
def Au:By:=[99,111,110,115,116,32,87,73,68,69,32,61,32,55,59,32,101,110,117,109,32,75,105,110,100,32,123,32,65,32,61,32,48,44,32,66,32,61,32,45,51,44,32,67,32,61,32,55,48,48,48,48,32,125,59,32,115,116,114,117,99,116,32,80,97,105,114,32,123,32,105,110,116,32,120,59,32,117,110,115,105,103,110,101,100,32,104,121,112,101,114,32,121,59,32,117,110,115,105,103,110,101,100,32,122,59,32,125,59,32,117,110,105,111,110,32,83,111,109,101,32,115,119,105,116,99,104,32,40,75,105,110,100,32,107,41,32,123,32,99,97,115,101,32,65,58,32,118,111,105,100,59,32,99,97,115,101,32,66,58,32,80,97,105,114,32,112,59,32,100,101,102,97,117,108,116,58,32,111,112,97,113,117,101,32,111,60,57,62,59,32,125,59,32,116,121,112,101,100,101,102,32,83,111,109,101,32,70,101,119,60,51,62,59,32,115,116,114,117,99,116,32,84,114,101,101,32,123,32,115,116,114,105,110,103,32,110,97,109,101,60,49,50,62,59,32,84,114,101,101,32,42,108,101,102,116,59,32,84,114,101,101,32,42,114,105,103,104,116,59,32,98,111,111,108,32,108,101,97,102,59,32,70,101,119,32,102,101,119,59,32,111,112,97,113,117,101,32,115,117,109,91,53,93,59,32,125,59,32,117,110,105,111,110,32,70,108,97,103,32,115,119,105,116,99,104,32,40,98,111,111,108,32,98,41,32,123,32,99,97,115,101,32,84,82,85,69,58,32,70,108,97,103,32,42,110,101,120,116,59,32,99,97,115,101,32,70,65,76,83,69,58,32,104,121,112,101,114,32,104,91,50,93,59,32,125,59,32,115,116,114,117,99,116,32,82,111,119,32,123,32,80,97,105,114,32,97,108,108,60,87,73,68,69,62,59,32,70,108,97,103,32,102,108,97,103,115,91,51,93,59,32,125,59,32,117,110,105,111,110,32,87,111,114,100,32,115,119,105,116,99,104,32,40,117,110,115,105,103,110,101,100,32,117,41,32,123,32,99,97,115,101,32,52,50,57,52,57,54,55,50,57,53,58,32,75,105,110,100,32,107,59,32,99,97,115,101,32,48,58,32,115,116,114,105,110,103,32,115,60,62,59,32,125,59,32,112,114,111,103,114,97,109,32,80,32,123,32,118,101,114,115,105,111,110,32,86,32,123,32,84,114,101,101,32,115,119,97,112,40,84,114,101,101,41,32,61,32,49,59,32,118,111,105,100,32,100,114,111,112,40,80,97,105,114,41,32,61,32,50,59,32,80,97,105,114,32,109,97,107,101,40,118,111,105,100,41,32,61,32,51,59,32,125,32,61,32,49,59,32,118,101,114,115,105,111,110,32,87,32,123,32,87,111,114,100,32,115,97,121,40,87,111,114,100,41,32,61,32,49,59,32,125,32,61,32,51,59,32,125,32,61,32,55,55,59]
def TS{α:Type}(d:α):Res α→α
 |.ok a=>a
 |.no _ _=>d
def isOk{α:Type}:Res α→Bool
 |.ok _=>true
 |.no _ _=>false
theorem MQ{α:Type}{d:α}{r:Res α}(h:isOk r=true):r=.ok (TS d r):=by
 cases r with
 |ok a=>rfl
 |no e a=>cases h
def wW:List Def:=TS [] (parse Au)
def Um:CS:=TS CS.empty (compile wW)
theorem PG:parse Au=.ok wW:=MQ (by decide +kernel)
theorem KL:compile wW=.ok Um:=MQ (by decide +kernel)
theorem RV:Tidy wW:=by
 refine⟨by decide +kernel,?_⟩
 have:(wW.all fun d=>okK d.k&&okP d.k)=true:=by decide +kernel
 intro d hd
 have:=List.all_eq_true.mp this d hd
 rwa [Bool.and_eq_true]at this
def dI:List By:=[[75,105,110,100],[80,97,105,114],[83,111,109,101],[70,101,119],[84,114,101,101],[70,108,97,103],[82,111,119],[87,111,114,100]]
theorem Uk:(dI.all fun n=>(Um.start.lookup n).isSome)=true:=by decide +kernel
theorem KN:Au.length≤1200:=by decide +kernel
structure Keep (ds:List Def) (c:CS):Prop where
 parse:M.parse Au=.ok ds
 compile:M.compile ds=.ok c
 tidy:Tidy ds
 has:∀n∈dI,(c.start.lookup n).isSome=true
theorem Wu:∃ds c,Keep ds c:=⟨wW,Um,PG,KL,RV,fun n hn=>List.all_eq_true.mp Uk n hn⟩
end Go.M
namespace Go.M
section
variable {defs:List (By×Def)} {lim wl:Lim} {t:Ty} {b:By}
theorem Xi{v:List Nd}(h:IG defs lim t b=.ok v):∃d,sG (nz lim) (sem (nz lim) defs lim.depth.toNat) t ⟨b,0,[]⟩=.ok d∧b.length≤d.pos∧v=d.l:=by
 unfold IG at h
 obtain⟨d,h1,h2⟩:=Res.then_ok h
 split at h2
 ·cases h2
 ·cases h2;exact⟨d,h1,by omega,rfl⟩
theorem N8{v:List Nd}(ho:vF defs)(ht:okT t=true)(h:IG defs lim t b=.ok v):∃d,sG (nz lim) (sem (nz lim) defs lim.depth.toNat) t ⟨b,0,[]⟩=.ok d∧d=⟨b,b.length,v⟩∧Far ⟨b,0,[]⟩ d:=by
 obtain⟨d,h1,h2,rfl⟩:=Xi h
 have hf:=(jQ lim).ty ((jQ lim).sem ho _) t ht h1
 have h3:=hf.in_ (Nat.zero_le _)
 have h4:=hf.b
 refine⟨d,h1,?_,hf⟩
 obtain⟨x,y,z⟩:=d
 simp only at h2 h3 h4 ⊢
 subst h4
 rw[Nat.le_antisymm h3 h2]
theorem bigT{v:List Nd}(ho:vF defs)(ht:okT t=true)(hv:t≠.void)(h:IG defs lim t b=.ok v):4∣b.length∧4≤b.length∧v≠[]∧Ord b 0 v b.length∧4*(texts v).length≤b.length:=by
 obtain⟨d,h1,rfl,hf⟩:=N8 ho ht h
 have hb:=KZ ((jQ lim).sem ho _) (QI ho _) t ht hv h1
 obtain⟨ns,e1,e2,e3⟩:=hf.ex
 have hd:=hf.dvd
 have h4:=hb.1
 have h5:=hb.2
 simp only[List.nil_append]at e1
 subst e1
 refine⟨by simpa using hd,by simpa using h4,fun h=>?_,e2,by simpa using e3⟩
 rw[h]at h5
 simp at h5
end
end Go.M

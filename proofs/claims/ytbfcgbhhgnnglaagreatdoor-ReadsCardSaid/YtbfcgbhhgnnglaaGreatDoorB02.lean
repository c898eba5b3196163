/- Texts of mine, one behind the other; nothing is assumed. -/
import Derived.Test.YtbfcgbhhgnnglaaGreatDoorB01
set_option autoImplicit true
set_option relaxedAutoImplicit true
set_option linter.unusedSimpArgs false
set_option linter.unusedVariables false
namespace Go.M
theorem yZ[BEq α][LawfulBEq α]:∀{m:List (α×β)} {a:α} {v:β},m.lookup a=some v->(a,v)∈m
 |[],_,_,h=>by cases h
 |x::r,a,v,h=>by
  obtain⟨k,w⟩:=x;rw[List.lookup_cons]at h;cases hb:a==k with
  |true=>rw[hb]at h;cases h;rw[eq_of_beq hb];exact List.mem_cons_self ..
  |false=>rw[hb]at h;exact List.mem_cons_of_mem _ (yZ h)
theorem FZ[BEq α]:∀(m:List (α×β)) (a:α) (v:β),(bK m a v).length<=m.length+1
 |[],_,_=>Nat.le_refl _
 |x::r,a,v=>by
  rw[bK];split
  .simp
  .have:=FZ r a v;simp only[List.length_cons];omega
theorem uB(g v:Int):∀(l:List pG) (c:CS),(iW g v c l).defs=c.defs/\(iW g v c l).start=c.start
 |[],_=>⟨rfl,rfl⟩
 |q::r,c=>by
  rw[iW];refine⟨(uB g v r _).1.trans ?_,(uB g v r _).2.trans ?_⟩
  .show (jV q.arg (jV q.res c)).defs=c.defs;rw[sD,sD];rfl
  .show (jV q.arg (jV q.res c)).start=c.start;rw[sD,sD];rfl
theorem pU(g:Int):∀(l:List qw) (c:CS),(iU g c l).defs=c.defs/\(iU g c l).start=c.start
 |[],_=>⟨rfl,rfl⟩
 |v::r,c=>by
  rw[iU];exact⟨(pU g r _).1.trans (uB g v.n v.procs _).1,(pU g r _).2.trans (uB g v.n v.procs _).2⟩
theorem FB(g:Int):∀(l:List qw) (c:CS) (N:Nat),(∀x∈c.fA,x.2.length<=N)->∀x∈(iU g c l).fA,x.2.length<=N+l.length
 |[],c,N,h=>h
 |v::r,c,N,h=>by
  rw[iU];intro x hx
  have:=FB g r _ (N+1) (λy hy=>by
   rw[yN]at hy;rcases Du hy with hy|hy
   .exact Nat.le_succ_of_le (h y hy)
   .rw[hy];simp only[List.length_append,List.length_singleton];cases hl:c.fA.lookup g with
    |none=>simp
    |some l=>have:=h _ (yZ hl);simp only[Option.getD_some];simp only at this;omega) x hx
  rw[List.length_cons];omega
structure Step (c:CS) (d:Def):Prop where
 defs:(nV c d).defs=bK c.defs d.name d
 start:(nV c d).start=c.start\/∃n,(nV c d).start=bK c.start d.name n
 fA:(∃n vs,d.k=.prog n vs/\(nV c d).fA=(iU n { c with defs:=bK c.defs d.name d } vs).fA)\/(nV c d).fA=c.fA
theorem step(c:CS)(d:Def):Step c d:=by
 cases ht:isType d.k with
 |false=>
  cases hk:d.k with
  |prog n vs=>
   have e:nV c d=iU n { c with defs:=bK c.defs d.name d } vs:=by unfold nV;rw[hk]
   exact⟨by rw[e];exact(pU _ _ _).1,Or.inl (by rw[e];exact(pU _ _ _).2),Or.inl ⟨n,vs,hk,by rw[e]⟩⟩
  |const n=>
   have e:nV c d={ c with defs:=bK c.defs d.name d }:=by unfold nV;rw[hk];simp only;rw[Gj _ _ ht]
   exact⟨by rw[e],Or.inl (by rw[e]),Or.inr (by rw[e])⟩
  |_=>rw[hk]at ht;cases ht
 |true=>
  have e:nV c d=gy d { c with defs:=bK c.defs d.name d }:=by
   unfold nV;cases hk:d.k with
   |prog n vs=>rw[hk]at ht;cases ht
   |_=>rfl
  rw[lS _ _ ht]at e;exact⟨by rw[e];rfl,Or.inr ⟨_,by rw[e];rfl⟩,Or.inr (by rw[e];rfl)⟩
theorem MH:∀(l:List Arm),(∀a∈l,jU a.decl.ty/\a.nums.length<=12)->bD l<=4*l.length
 |[],_=>Nat.le_refl _
 |a::r,h=>by
  have h1:=(h a (List.mem_cons_self ..)).1.2;have:=MH r λx hx=>h x (List.mem_cons_of_mem _ hx);rw[bD,List.length_cons];omega
theorem IW:∀(l:List Decl),(∀d∈l,lh d.ty)->iD l<=3*l.length
 |[],_=>Nat.le_refl _
 |a::r,h=>by
  have h1:=(h a (List.mem_cons_self ..)).2.2;have:=IW r λx hx=>h x (List.mem_cons_of_mem _ hx);rw[iD,List.length_cons];omega
theorem IQ:∀(l:List pG),(∀q∈l,IU q)->je l<=8*l.length
 |[],_=>Nat.le_refl _
 |a::r,h=>by
  obtain⟨h1,h2,_⟩:=h a (List.mem_cons_self ..);have h1:=h1.2;have h2:=h2.2;have:=IQ r λx hx=>h x (List.mem_cons_of_mem _ hx);rw[je,List.length_cons,uX,uX];omega
theorem KJ:∀(l:List qw),(∀v∈l,wG v)->mP l<=64*l.length
 |[],_=>Nat.le_refl _
 |a::r,h=>by
  obtain⟨h1,h2,_⟩:=h a (List.mem_cons_self ..);have h1:=IQ _ h1;have:=KJ r λx hx=>h x (List.mem_cons_of_mem _ hx);rw[mP,List.length_cons];omega
theorem Um(c:CS)(d:Def)(h:GL E d.k):(nV c d).L.length<=c.L.length+300:=by
 unfold nV;obtain⟨nm,at_,k⟩:=d;cases k with
 |const n=>exact Nat.le_add_right _ _
 |alias t=>
  have h2:=(show lh t from h).2.2;show ((lower t _).put (ins 7)).L.length<=_;rw[dF,eG];simp only;omega
 |enum ns is=>simp[gy,CS.put,CS.kE]
 |struct ds=>
  obtain⟨h1,h2,h3⟩:=(show (∀d∈ds,lh d.ty)/\1<=ds.length/\ds.length<=12 from h);have:=IW _ h1;show ((nS _ ds).put (ins 7)).L.length<=_;rw[dF,sH,dF];simp only;omega
 |union o n ar els=>
  obtain⟨_,h1,h2,h3⟩:=(show I8 E o/\(∀a∈ar,jU a.decl.ty/\a.nums.length<=12)/\ar.length<=13/\(∀d,els=some d->jU d.ty)from h);have h4:=MH _ h1;have h5:lQ els<=4:=by
   cases els with
   |none=>simp[lQ]
   |some d=>have:=(h3 d rfl).2;rw[lQ];omega
  show ((rU o ar els _).put (ins 7)).L.length<=_;rw[dF,Bf];simp only;omega
 |prog n vs=>
  obtain⟨_,h1,h2⟩:=(show inRange n=true/\(∀v∈vs,wG v)/\vs.length<=4 from h);have:=KJ _ h1;show (iU n _ vs).L.length<=_;rw[vG];simp only;omega
theorem Sj{t:Ty}(h:t≠.void):(t != .void)=true:=by simpa using h
theorem GL.okK{E:List (By×List Int)}{k:Dk}(h:GL E k):okK k=true:=by
 cases k with
 |alias t=>exact Bool.and_eq_true _ _|>.mpr ⟨(show lh t from h).1,Sj (show lh t from h).2.1⟩
 |enum ns is=>exact h.1
 |struct ds=>
  obtain⟨h1,h2,h3⟩:=(show (∀d∈ds,lh d.ty)/\1<=ds.length/\ds.length<=12 from h);simp only[M.okK,Bool.and_eq_true,decide_eq_true_eq,List.all_eq_true];refine⟨⟨?_,h3⟩,λd hd=>⟨(h1 d hd).1,Sj (h1 d hd).2.1⟩⟩;cases ds with
  |nil=>simp at h2
  |cons a r=>rfl
 |union o n ar els=>
  obtain⟨h0,h1,h2,h3⟩:=(show I8 E o/\(∀a∈ar,jU a.decl.ty/\a.nums.length<=12)/\ar.length<=13/\(∀d,els=some d->jU d.ty)from h);simp only[M.okK,Bool.and_eq_true,List.all_eq_true];refine⟨⟨?_,λa ha=>(h1 a ha).1.1⟩,?_⟩
  .cases o with
   |basic s=>exact bne_iff_ne.mpr h0
   |named s a=>rfl
   |_=>exact h0.elim
  .cases els with
   |none=>rfl
   |some d=>exact(h3 d rfl).1
 |_=>rfl
theorem GL.okP(h:GL E k):okP k=true:=by
 cases k with
 |prog n vs=>
  obtain⟨_,h1,h2⟩:=(show inRange n=true/\(∀v∈vs,wG v)/\vs.length<=4 from h);simp only[M.okP,List.all_eq_true,Bool.and_eq_true];exact λv hv q hq=>⟨((h1 v hv).1 q hq).1.1,((h1 v hv).1 q hq).2.1.1⟩
 |_=>rfl
theorem GL.OA(h:GL E k):OA k:=by
 cases k with
 |alias t=>exact⟨λu hu=>by rw[List.mem_singleton.mp hu];exact(show lh t from h).1,by simp[leads]⟩
 |struct ds=>
  obtain⟨h1,h2,h3⟩:=(show (∀d∈ds,lh d.ty)/\1<=ds.length/\ds.length<=12 from h);refine⟨λu hu=>?_,by simp only[leads,List.length_map];omega⟩;obtain⟨d,hd,rfl⟩:=List.mem_map.mp hu;exact(h1 d hd).1
 |union o n ar els=>
  obtain⟨h0,h1,h2,h3⟩:=(show I8 E o/\(∀a∈ar,jU a.decl.ty/\a.nums.length<=12)/\ar.length<=13/\(∀d,els=some d->jU d.ty)from h);refine⟨λu hu=>?_,?_⟩
  .rcases List.mem_append.mp hu with hu|hu
   .obtain⟨d,hd,rfl⟩:=List.mem_map.mp hu;exact(h1 d hd).1.1
   .cases els with
    |none=>cases hu
    |some d=>
     have:u=d.ty:=by simpa using hu
     rw[this];exact(h3 d rfl).1
  .simp only[leads,List.length_append,List.length_map];cases els with
   |none=>simp;omega
   |some d=>simp;omega
 |_=>exact⟨λu hu=>(by cases hu),by simp[leads]⟩
theorem GL.small(h:GL E d.k):kV d=true:=by
 unfold kV;cases hk:d.k with
 |enum ns is=>rw[hk]at h;have:=h.2;simp only[decide_eq_true_eq];omega
 |struct ds=>rw[hk]at h;have:=h.2.2;simp only[decide_eq_true_eq];omega
 |union o n ar els=>
  rw[hk]at h;obtain⟨h0,h1,h2,h3⟩:=(show I8 E o/\(∀a∈ar,jU a.decl.ty/\a.nums.length<=12)/\ar.length<=13/\(∀d,els=some d->jU d.ty)from h);simp only[Bool.and_eq_true,decide_eq_true_eq,List.all_eq_true];exact⟨omg,λa ha=>by have:=(h1 a ha).2;omega⟩
 |prog n vs=>
  rw[hk]at h;obtain⟨h0,h1,h2⟩:=(show inRange n=true/\(∀v∈vs,wG v)/\vs.length<=4 from h);simp only[Bool.and_eq_true,decide_eq_true_eq,List.all_eq_true];exact⟨⟨omg,h0⟩,λv hv=>⟨⟨by have:=(h1 v hv).2.1;omega,(h1 v hv).2.2⟩,λq hq=>((h1 v hv).1 q hq).2.2⟩⟩
 |_=>rfl
structure PI (p:PS) (ds:List Def):Prop where
 names:∀s d,(aP CS.empty ds).defs.lookup s=some d->s∈p.names
 starts:∀s n,(aP CS.empty ds).start.lookup s=some n->s∈p.names
 enums:∀s nums,p.enums.lookup s=some nums->s∈p.names/\nums.length<=12/\∃nm a ns,(aP CS.empty ds).defs.lookup s=some ⟨nm,a,.enum ns nums⟩
 wf:kK CS.empty ds=true
 fA:∀x∈(aP CS.empty ds).fA,x.2.length<=4*ds.length
 len:(aP CS.empty ds).L.length<=300*ds.length
 slen:(aP CS.empty ds).start.length<=ds.length
 its:∀x∈(aP CS.empty ds).defs,x.2∈ds
 ok:∀d∈ds,∃E,GL E d.k
 cnt:(aP CS.empty ds).defs.countP (λe=>nest e.2.k)<=p.n0
 cnt':(aP CS.empty ds).defs.countP (λe=>nest e.2.k)<=24
theorem Fp:∀(l:List Def) (c:CS) (d:Def),kK c l=true->kK (aP c l) [d]=true->kK c (l++[d])=true
 |[],_,_,_,h=>h
 |a::r,c,d,h,h2=>by
  rw[kK,Bool.and_eq_true]at h;rw[List.cons_append,kK,Bool.and_eq_true];exact⟨h.1,Fp r _ d h.2 h2⟩
theorem PI.start(hn:p.names=[])(he:p.enums=[]):PI p []:=by
 refine⟨λs d h=>(by cases h),λs n h=>(by cases h),λs nums h=>(by rw[he]at h;cases h),rfl,λx h=>(by cases h),Nat.le_refl _,Nat.le_refl _,λx h=>(by cases h),λd h=>(by cases h),Nat.zero_le _,Nat.zero_le _⟩
theorem PI.next(h:PI p ds)(hl:ds.length<=69)(hx:definition p=.ok x):PI x.2 (ds++[x.1]):=by
 obtain⟨⟨n1,n2,n3,n4,n5⟩,m1,m2⟩:=MM hx;obtain⟨d,q⟩:=x;simp only at n1 n2 n3 n4 n5 m1 m2 ⊢;have hd:(aP CS.empty ds).defs.lookup d.name=none:=by
  cases hc:(aP CS.empty ds).defs.lookup d.name with
  |none=>rfl
  |some e=>exact absurd (h.names _ _ hc) n1
 have hs:(aP CS.empty ds).start.lookup d.name=none:=by
  cases hc:(aP CS.empty ds).start.lookup d.name with
  |none=>rfl
  |some e=>exact absurd (h.starts _ _ hc) n1
 obtain⟨s1,s2,s3⟩:=step (aP CS.empty ds) d;have hdef:∀s e,(bK (aP CS.empty ds).defs d.name d).lookup s=some e->(s=d.name/\e=d)\/(s≠d.name/\(aP CS.empty ds).defs.lookup s=some e):=λs e he=>by
  rw[bM]at he;cases hb:s==d.name with
  |true=>rw[hb]at he;cases he;exact Or.inl ⟨eq_of_beq hb,rfl⟩
  |false=>rw[hb]at he;exact Or.inr ⟨λe=>by rw[e]at hb;simp at hb,he⟩
 have hcnt:(bK (aP CS.empty ds).defs d.name d).countP (λe=>nest e.2.k)=(aP CS.empty ds).defs.countP (λe=>nest e.2.k)+(if nest d.k then 1 else 0):=by
  rw[QA hd,List.countP_append];simp[List.countP_cons]
 refine⟨?_,?_,?_,?_,?_,?_,?_,?_,?_,?_,?_⟩
 .rw[jb,s1];intro s e he;rcases hdef s e he with⟨rfl,_⟩|⟨_,he⟩
  .exact n3
  .exact n2 _ (h.names _ _ he)
 .rw[jb];intro s n he;rcases s2 with s2|⟨m,s2⟩
  .rw[s2]at he;exact n2 _ (h.starts _ _ he)
  .rw[s2,bM]at he;cases hb:s==d.name with
   |true=>rw[eq_of_beq hb];exact n3
   |false=>rw[hb]at he;exact n2 _ (h.starts _ _ he)
 .rw[jb,s1];have old:∀s nums,p.enums.lookup s=some nums->s∈q.names/\nums.length<=12/\∃nm a ns,(bK (aP CS.empty ds).defs d.name d).lookup s=some ⟨nm,a,.enum ns nums⟩:=λs nums he=>by
   obtain⟨e1,e2,nm,a,ns,e3⟩:=h.enums s nums he;refine⟨n2 _ e1,e2,nm,a,ns,?_⟩;rw[bM];cases hb:s==d.name with
   |true=>rw[eq_of_beq hb]at e1;exact absurd e1 n1
   |false=>exact e3
  intro s nums he;rcases n4 with n4|⟨ns,nums',e1,n4⟩
  .rw[n4]at he;exact old s nums he
  .rw[n4,bM]at he;cases hb:s==d.name with
   |true=>
    rw[hb]at he;cases he;have e:=eq_of_beq hb;subst e;refine⟨n3,?_,d.name,d.at_,ns,?_⟩
    .rw[e1]at n5;exact n5.2
    .rw[bM,hb,if_pos rfl,<- e1]
   |false=>rw[hb]at he;exact old s nums he
 .refine Fp _ _ _ h.wf ?_;rw[kK,kK,hs,n5.small];simp only[Bool.and_true,Option.isNone_none];cases hk:d.k with
  |union o n ar els=>
   rw[hk]at n5;have h0:=(show I8 p.enums o/\_ from n5).1;cases o with
   |basic s=>rfl
   |named s a=>
    obtain⟨nums,hl'⟩:=h0;obtain⟨e1,e2,nm,a,ns,e3⟩:=h.enums s nums hl';simp only[nH,bM];cases hb:s==d.name with
    |true=>rw[eq_of_beq hb]at e1;exact absurd e1 n1
    |false=>simp only[Bool.false_eq_true,if_false,e3,decide_eq_true_eq];omega
   |_=>exact h0.elim
  |prog n vs=>
   simp only[List.all_eq_true,decide_eq_true_eq];intro x hx;have:=h.fA x hx;omega
  |_=>rfl
 .rw[jb,List.length_append,List.length_singleton];rcases s3 with⟨n,vs,e1,s3⟩|s3
  .rw[s3];intro x hx;have:=FB n vs { aP CS.empty ds with defs:=bK (aP CS.empty ds).defs d.name d } _ h.fA x hx;rw[e1]at n5;have:=n5.2.2;omega
  .rw[s3];intro x hx;have:=h.fA x hx;omega
 .rw[jb,List.length_append,List.length_singleton];have:=Um (aP CS.empty ds) d n5;have:=h.len;omega
 .rw[jb,List.length_append,List.length_singleton];have:=h.slen;rcases s2 with s2|⟨m,s2⟩
  .rw[s2];omega
  .rw[s2];have:=FZ (aP CS.empty ds).start d.name m;omega
 .rw[jb,s1];intro x hx;rcases Du hx with hx|hx
  .exact List.mem_append_left _ (h.its x hx)
  .rw[hx];exact List.mem_append_right _ (List.mem_singleton_self _)
 .intro e he;rcases List.mem_append.mp he with he|he
  .exact h.ok e he
  .rw[List.mem_singleton.mp he];exact⟨_,n5⟩
 .rw[jb,s1,hcnt];have:=h.cnt;omega
 .rw[jb,s1,hcnt];have:=h.cnt;have:=h.cnt';cases hn:nest d.k with
  |true=>have:=m2 hn;simp only[if_true];omega
  |false=>simpa using h.cnt'
theorem Hw:∀(k:Nat) (p:PS) (ds:List Def),PI p ds->ds.length+k<=69->Yl (nD k p ds) λl=>∃q,PI q l/\l.length<=69
 |0,p,ds,h,hk=>by rw[nD];exact Yl.ok ⟨p,h,omg⟩
 |k+1,p,ds,h,hk=>by
  rw[nD];refine Yl.ite (λ_=>Yl.ok ⟨p,h,omg⟩) λ_=>?_;refine Yl.bind (P:=λx=>PI x.2 (ds++[x.1])) (λx hx=>h.next omg hx) λx hx=>?_;exact Hw k _ _ hx (by rw[List.length_append,List.length_singleton];omega)
theorem PI.tidy(h:PI p ds)(hl:ds.length<=69):Tidy ds:=by
 have hli:=LI.aP ds LI.empty h.wf;have hmem:∀s d,(aP CS.empty ds).defs.lookup s=some d->d∈ds:=λs d hd=>h.its _ (yZ hd);refine⟨?_,λd hd=>?_⟩
 .unfold fine;simp only[Bool.and_eq_true,decide_eq_true_eq,List.all_eq_true];refine⟨⟨⟨⟨⟨h.wf,?_⟩,λx hx=>vk (hli.calls x hx)⟩,λx hx=>?_⟩,?_⟩,omg⟩
  .have:=h.len;have:=h.slen;omega
  .obtain⟨E,hE⟩:=h.ok _ (h.its x hx);exact hE.small
  .unfold Jw;rw[List.all_eq_true];intro d hd;obtain⟨E,hE⟩:=h.ok d hd;exact Ox (λs e he=>by obtain⟨E,hE⟩:=h.ok e (hmem s e he);exact hE.OA) h.cnt' d hE.OA
 .obtain⟨E,hE⟩:=h.ok d hd;exact⟨hE.okK,hE.okP⟩
theorem IZ(h:parse txt=.ok ds):Tidy ds:=by
 unfold parse at h;obtain⟨p,h1,h⟩:=Res.then_ok h;have e:=sS h1;obtain⟨q,hq,hl⟩:=Hw 69 p [] (PI.start (congrArg Prod.fst e) (congrArg Prod.snd e)) smp ds h;exact hq.tidy hl
end Go.M

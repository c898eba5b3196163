/- Texts of mine, one behind the other; nothing is assumed. -/
import Derived.Test.YtaaepbggooiblaaGreatDoorB06
set_option linter.unusedSimpArgs false
set_option linter.unusedVariables false
namespace Go.M
def ne(p:PS):List By×List (By×List Int):=(p.names,p.enums)
abbrev NE:=List By×List (By×List Int)
theorem lT{p q:PS}(h:advance p=.ok q):ne q=ne p:=by
 obtain⟨x,_,h2⟩:=Res.then_ok h
 cases h2;rfl
theorem dR:∀{l:List By} {p q:PS},want p l=.ok q→ne q=ne p
 |[],p,q,h=>by cases h;rfl
 |s::r,p,q,h=>by
  rw[want]at h
  split at h
  ·obtain⟨x,h1,h2⟩:=Res.then_ok h
   exact(dR h2).trans (lT h1)
  ·cases h
theorem JS{σ:Type}{p:PS}{lo hi:Int}{keep:Int→Nat→Res σ}{x:Int×σ×PS}(h:value p lo hi keep=.ok x):ne x.2.2=ne p:=by
 obtain⟨n,h1,h⟩:=Res.then_ok h
 split at h
 ·cases h
 obtain⟨s,h2,h⟩:=Res.then_ok h
 obtain⟨q,h3,h⟩:=Res.then_ok h
 cases h
 exact lT h3
def Ke{α:Type}(m:Res α)(f:α→NE)(n:NE):Prop:=∀a,m=.ok a→f a=n
theorem Ke.ok{α:Type}{a:α}{f:α→NE}{n:NE}(h:f a=n):Ke (.ok a) f n:=fun b hb=>by cases hb;exact h
theorem Ke.no{α:Type}{e a:Nat}{f:α→NE}{n:NE}:Ke (.no e a) f n:=fun b hb=>by cases hb
theorem Ke.ite{α:Type}{c:Prop}[Decidable c]{A B:Res α}{f:α→NE}{n:NE}(h1:Ke A f n)(h2:Ke B f n):Ke (if c then A else B) f n:=by
 split
 ·exact h1
 ·exact h2
theorem Ke.bind{α β:Type}{m:Res α}{k:α→Res β}{f:β→NE}{n n1:NE}(g:α→NE)(h1:Ke m g n1)(h2:∀a,g a=n1→Ke (k a) f n):Ke (m.andThen k) f n:=fun b hb=>by
 obtain⟨a,ha,hk⟩:=Res.then_ok hb
 exact h2 a (h1 a ha) b hk
variable {n:NE} {p:PS}
theorem vG{q:PS}(a b:Nat):Ke (count q a b) (fun _=>n) n:=fun _ _=>rfl
theorem gQ(h:ne p=n):Ke (advance p) ne n:=fun q hq=>(lT hq).trans h
theorem kP{l:List By}(h:ne p=n):Ke (want p l) ne n:=fun q hq=>(dR hq).trans h
theorem sG{σ:Type}{lo hi:Int}{k:Int→Nat→Res σ}(h:ne p=n):Ke (value p lo hi k) (fun x=>ne x.2.2) n:=fun q hq=>(JS hq).trans h
theorem iV{s:By}(h:ne p=n):Ke (take p s) (fun x=>ne x.2) n:=by
 unfold take
 refine Ke.ite ?_ (Ke.ok h)
 exact Ke.bind _ (gQ h) fun q hq=>Ke.ok hq
theorem jf{l:List By}(h:ne p=n):Ke (called p l) (fun x=>ne x.2.2) n:=by
 unfold called
 refine Ke.bind (fun _=>n) (fun _ _=>rfl) fun w _=>Ke.bind (fun _=>n) (fun _ _=>rfl) fun l _=>?_
 (repeat' (first|exact Ke.no|exact Ke.ok (by assumption)|refine Ke.ite ?_ ?_|refine Ke.bind _ (vG _ _) fun _ _=>?_|refine Ke.bind _ (kP (by assumption)) fun _ _=>?_|refine Ke.bind _ (gQ (by assumption)) fun _ _=>?_|refine Ke.bind _ (iV (by assumption)) fun _ _=>?_|refine Ke.bind _ (jf (by assumption)) fun _ _=>?_|refine Ke.bind _ (sG (by assumption)) fun _ _=>?_))
theorem GL(h:ne p=n):Ke (kindOf p) (fun x=>ne x.2) n:=by
 unfold kindOf
 (repeat' (first|exact Ke.no|exact Ke.ok (by assumption)|refine Ke.ite ?_ ?_|refine Ke.bind _ (vG _ _) fun _ _=>?_|refine Ke.bind _ (kP (by assumption)) fun _ _=>?_|refine Ke.bind _ (gQ (by assumption)) fun _ _=>?_|refine Ke.bind _ (iV (by assumption)) fun _ _=>?_|refine Ke.bind _ (jf (by assumption)) fun _ _=>?_|refine Ke.bind _ (sG (by assumption)) fun _ _=>?_))
theorem FO(h:ne p=n):Ke (bound p) (fun x=>ne x.2.2) n:=by
 unfold bound
 (repeat' (first|exact Ke.no|exact Ke.ok (by assumption)|refine Ke.ite ?_ ?_|refine Ke.bind _ (vG _ _) fun _ _=>?_|refine Ke.bind _ (kP (by assumption)) fun _ _=>?_|refine Ke.bind _ (gQ (by assumption)) fun _ _=>?_|refine Ke.bind _ (iV (by assumption)) fun _ _=>?_|refine Ke.bind _ (jf (by assumption)) fun _ _=>?_|refine Ke.bind _ (sG (by assumption)) fun _ _=>?_))
theorem YH{σ:Type}{n':NE}{nm:PS→Res (Wd×σ×PS)}(hn:∀q,ne q=n→Ke (nm q) (fun x=>ne x.2.2) n')(h:ne p=n):Ke (decl nm p) (fun x=>ne x.2.2.2) n':=by
 unfold decl
 refine Ke.ite ?_ ?_
 ·refine Ke.bind _ (gQ h) fun q hq=>Ke.bind _ (hn q hq) fun x hx=>Ke.ite Ke.no ?_
  refine Ke.bind _ (FO hx) fun y hy=>Ke.ok hy
 ·refine Ke.bind _ (GL h) fun t ht=>Ke.bind _ (iV ht) fun y hy=>Ke.ite ?_ ?_
  ·refine Ke.bind _ (hn _ hy) fun x hx=>Ke.ok hx
  ·refine Ke.bind _ (hn _ hy) fun x hx=>Ke.ite ?_ (Ke.ok hx)
   refine Ke.bind _ (FO hx) fun y hy=>Ke.ok hy
theorem ML{l:List By}(h:ne p=n):Ke (member p l) (fun x=>ne x.2.2) n:=by
 unfold member
 refine Ke.bind _ (YH (fun q hq=>jf hq) h) fun x hx=>?_
 (repeat' (first|exact Ke.no|exact Ke.ok (by assumption)|refine Ke.ite ?_ ?_|refine Ke.bind _ (vG _ _) fun _ _=>?_|refine Ke.bind _ (kP (by assumption)) fun _ _=>?_|refine Ke.bind _ (gQ (by assumption)) fun _ _=>?_|refine Ke.bind _ (iV (by assumption)) fun _ _=>?_|refine Ke.bind _ (jf (by assumption)) fun _ _=>?_|refine Ke.bind _ (sG (by assumption)) fun _ _=>?_))
theorem DI:∀(k:Nat) {p:PS} {ds:List Decl} {l:List By},ne p=n→Ke (dB k p ds l) (fun x=>ne x.2) n
 |0,_,_,_,_=>Ke.no
 |k+1,p,ds,l,h=>by
  rw[dB]
  refine Ke.bind _ (ML h) fun d hd=>Ke.bind _ (iV hd) fun x hx=>Ke.ite (Ke.ok hx) (DI k hx)
theorem IA(h:ne p=n):Ke (aS p) (fun x=>ne x.2) n:=by
 unfold aS
 refine Ke.ite ?_ ?_
 ·cases p.enums.lookup p.w.s with
  |none=>exact Ke.no
  |some l=>exact Ke.bind _ (gQ h) fun q hq=>Ke.ok hq
 ·(repeat' (first|exact Ke.no|exact Ke.ok (by assumption)|refine Ke.ite ?_ ?_|refine Ke.bind _ (vG _ _) fun _ _=>?_|refine Ke.bind _ (kP (by assumption)) fun _ _=>?_|refine Ke.bind _ (gQ (by assumption)) fun _ _=>?_|refine Ke.bind _ (iV (by assumption)) fun _ _=>?_|refine Ke.bind _ (jf (by assumption)) fun _ _=>?_|refine Ke.bind _ (sG (by assumption)) fun _ _=>?_))
theorem WE{l:List By}(h:ne p=n):Ke (arm p l) (fun x=>ne x.2.2) n:=by
 unfold arm
 refine Ke.bind _ (iV h) fun x hx=>Ke.ite ?_ (ML hx)
 (repeat' (first|exact Ke.no|exact Ke.ok (by assumption)|refine Ke.ite ?_ ?_|refine Ke.bind _ (vG _ _) fun _ _=>?_|refine Ke.bind _ (kP (by assumption)) fun _ _=>?_|refine Ke.bind _ (gQ (by assumption)) fun _ _=>?_|refine Ke.bind _ (iV (by assumption)) fun _ _=>?_|refine Ke.bind _ (jf (by assumption)) fun _ _=>?_|refine Ke.bind _ (sG (by assumption)) fun _ _=>?_))
theorem Ie{lo hi:Int}{nums:Option (List Int)}:∀(k:Nat) {p:PS} {a t:List Int},ne p=n→Ke (dK lo hi nums k p a t) (fun x=>ne x.2.2) n
 |0,_,_,_,_=>Ke.no
 |k+1,p,a,t,h=>by
  rw[dK]
  refine Ke.bind _ (kP h) fun q hq=>Ke.bind _ (sG hq) fun v hv=>Ke.bind _ (kP hv) fun q hq=>Ke.ite (Ie k hq) (Ke.ok hq)
theorem KC{lo hi:Int}{nums:Option (List Int)}:∀(k:Nat) {p:PS} {ar:List Arm} {l:List By} {t:List Int},ne p=n→Ke (gG lo hi nums k p ar l t) (fun x=>ne x.2.2) n
 |0,_,_,_,_,_=>Ke.no
 |k+1,p,ar,l,t,h=>by
  rw[gG]
  refine Ke.bind _ (Ie _ h) fun c hc=>Ke.bind _ (WE hc) fun d hd=>Ke.ite (KC k hd) (Ke.ok hd)
theorem TM(h:ne p=n):Ke (side p) (fun x=>ne x.2) n:=by
 unfold side
 exact Ke.bind _ (iV h) fun x hx=>Ke.ite (Ke.ok hx) (GL hx)
theorem BL{l:List Int}(h:ne p=n):Ke (numbered p l) (fun x=>ne x.2.2) n:=by
 unfold numbered
 (repeat' (first|exact Ke.no|exact Ke.ok (by assumption)|refine Ke.ite ?_ ?_|refine Ke.bind _ (vG _ _) fun _ _=>?_|refine Ke.bind _ (kP (by assumption)) fun _ _=>?_|refine Ke.bind _ (gQ (by assumption)) fun _ _=>?_|refine Ke.bind _ (iV (by assumption)) fun _ _=>?_|refine Ke.bind _ (jf (by assumption)) fun _ _=>?_|refine Ke.bind _ (sG (by assumption)) fun _ _=>?_))
theorem Ic:∀(k:Nat) {p:PS} {qs:List gq} {l:List By} {t:List Int},ne p=n→Ke (dX k p qs l t) (fun x=>ne x.2) n
 |0,_,_,_,_,_=>Ke.no
 |k+1,p,qs,l,t,h=>by
  rw[dX]
  refine Ke.bind _ (TM h) fun r hr=>Ke.bind _ (jf hr) fun m hm=>Ke.bind _ (kP hm) fun q hq=>Ke.bind _ (TM hq) fun a ha=>Ke.bind _ (kP ha) fun q hq=>Ke.bind _ (BL hq) fun v hv=>Ke.bind _ (iV hv) fun x hx=>Ke.ite (Ke.ok hx) (Ic k hx)
theorem RZ{l:List By}{t:List Int}(h:ne p=n):Ke (version p l t) (fun x=>ne x.2.2.2) n:=by
 unfold version
 refine Ke.bind _ (kP h) fun q hq=>Ke.bind _ (jf hq) fun m hm=>Ke.bind _ (kP hm) fun q hq=>Ke.bind _ (Ic 8 hq) fun x hx=>Ke.bind _ (BL hx) fun v hv=>Ke.ok hv
theorem Ib:∀(k:Nat) {p:PS} {vs:List gI} {l:List By} {t:List Int},ne p=n→Ke (fE k p vs l t) (fun x=>ne x.2) n
 |0,_,_,_,_,_=>Ke.no
 |k+1,p,vs,l,t,h=>by
  rw[fE]
  refine Ke.bind _ (RZ h) fun v hv=>Ke.bind _ (iV hv) fun x hx=>Ke.ite (Ke.ok hx) (Ib k hx)
theorem wC{p:PS}{x:Wd×PS}(h:own p=.ok x):x.1.s ∉ p.names∧ne x.2=(p.names++[x.1.s],p.enums):=by
 obtain⟨w,h1,h⟩:=Res.then_ok h
 obtain⟨l,h2,h⟩:=Res.then_ok h
 obtain⟨q,h3,h⟩:=Res.then_ok h
 cases h
 simp only[once]at h2
 split at h2
 ·cases h2
 ·rename_i hc
  cases h2
  exact⟨by simpa using hc,(lT h3).trans rfl⟩
end Go.M
namespace Go.M
theorem XF{σ:Type}{p:PS}{n:NE}{K:By→NE→Prop}{nm:PS→Res (Wd×σ×PS)}(hn:∀q,ne q=n→Yl (nm q) fun x=>K x.1.s (ne x.2.2))(h:ne p=n):Yl (decl nm p) fun x=>K x.2.1.s (ne x.2.2.2):=by
 unfold decl
 refine Yl.ite (fun _=>?_) fun _=>?_
 ·refine Yl.bind (gQ h) fun q hq=>Yl.bind (hn q hq) fun x hx=>Yl.ite (fun _=>Yl.no) fun _=>?_
  refine Yl.bind (FO (p:=x.2.2) (n:=ne x.2.2) rfl) fun y hy=>Yl.ok ?_
  show K x.1.s (ne y.2.2)
  rw[show ne y.2.2=ne x.2.2 from hy];exact hx
 ·refine Yl.bind (GL h) fun t ht=>Yl.bind (iV ht) fun y hy=>Yl.ite (fun _=>?_) fun _=>?_
  ·exact Yl.bind (hn _ hy) fun x hx=>Yl.ok hx
  ·refine Yl.bind (hn _ hy) fun x hx=>Yl.ite (fun _=>?_) fun _=>Yl.ok hx
   refine Yl.bind (FO (p:=x.2.2) (n:=ne x.2.2) rfl) fun y hy=>Yl.ok ?_
   show K x.1.s (ne y.2.2)
   rw[show ne y.2.2=ne x.2.2 from hy];exact hx
structure Dfn (p:PS) (x:Def×PS):Prop where
 new:x.1.name ∉ p.names
 more:∀s,s∈p.names→s∈x.2.names
 its:x.1.name∈x.2.names
 enums:x.2.enums=p.enums∨∃ns nums,x.1.k=.enum ns nums∧x.2.enums=bg p.enums x.1.name nums
 ok:GV p.enums x.1.k
theorem Be{p q:PS}(h:ne q=ne p):q.names=p.names:=congrArg Prod.fst h
theorem vw{p q:PS}(h:ne q=ne p):q.enums=p.enums:=congrArg Prod.snd h
theorem Dfn.mk'{p q1 w r:PS}{d:Def}(e1:ne q1=ne p)(hn:d.name ∉ q1.names∧ne w=(q1.names++[d.name],q1.enums))(e2:ne r=ne w)(ok:GV p.enums d.k):Dfn p (d,r):=by
 have en:=Be e1
 have ee:=vw e1
 have hr:ne r=(q1.names++[d.name],q1.enums):=e2.trans hn.2
 have hr1:r.names=q1.names++[d.name]:=congrArg Prod.fst hr
 have hr2:r.enums=q1.enums:=congrArg Prod.snd hr
 refine⟨by rw[← en];exact hn.1,fun s hs=>?_,?_,Or.inl (hr2.trans ee),ok⟩
 ·show s∈r.names
  rw[hr1,en];exact List.mem_append_left _ hs
 ·show d.name∈r.names
  rw[hr1];exact List.mem_append_right _ (List.mem_singleton_self _)
theorem Ou{p:PS}{x:Def×PS}(h:constant p=.ok x):Dfn p x:=by
 obtain⟨_,_,h⟩:=Res.then_ok h
 obtain⟨q1,h1,h⟩:=Res.then_ok h
 obtain⟨q2,h2,h⟩:=Res.then_ok h
 obtain⟨q3,h3,h⟩:=Res.then_ok h
 obtain⟨q4,h4,h⟩:=Res.then_ok h
 obtain⟨q5,h5,h⟩:=Res.then_ok h
 cases h
 exact Dfn.mk' (d:=⟨_,_,_⟩) (dR h1) (wC h2) (r:={ q5 with n1:=q5.n1+1,consts:=_ }) ((dR h5).trans ((JS h4).trans (dR h3))) trivial
theorem U7{p:PS}{x:Def×PS}(h:alias p=.ok x):Dfn p x:=by
 obtain⟨q1,h1,h⟩:=Res.then_ok h
 obtain⟨d,h2,h⟩:=Res.then_ok h
 obtain⟨q3,h3,h⟩:=Res.then_ok h
 cases h
 have hK:=XF (K:=fun s m=>s ∉ q1.names∧m=(q1.names++[s],q1.enums)) (nm:=zi) (p:=q1) (n:=ne q1) (fun q hq=>by
  unfold zi
  refine Yl.bind (P:=fun x=>x.1.s ∉ q.names∧ne x.2=(q.names++[x.1.s],q.enums)) (fun a ha=>wC ha) fun a ha=>Yl.ok ?_
  rw[Be hq,vw hq]at ha
  exact ha) rfl _ h2
 exact Dfn.mk' (d:=⟨_,_,_⟩) (dR h1) hK (dR h3) (QU _ _ _ h2)
theorem Sv{p:PS}{x:Def×PS}(h:fJ p=.ok x):Dfn p x:=by
 obtain⟨q1,h1,h⟩:=Res.then_ok h
 obtain⟨q2,h2,h⟩:=Res.then_ok h
 obtain⟨q3,h3,h⟩:=Res.then_ok h
 obtain⟨q4,h4,h⟩:=Res.then_ok h
 obtain⟨q5,h5,h⟩:=Res.then_ok h
 cases h
 have hs:=EE 12 _ _ _ (fun d hd=>by cases hd) _ h4
 exact Dfn.mk' (d:=⟨_,_,_⟩) (dR h1) (wC h2) ((dR h5).trans ((DI 12 rfl _ h4).trans (dR h3))) ⟨hs.1,hs.2.2,by have:=hs.2.1;simpa using this⟩
theorem U6{p:PS}{x:Def×PS}(h:union p=.ok x):Dfn p x:=by
 obtain⟨q1,h1,h⟩:=Res.then_ok h
 obtain⟨q2,h2,h⟩:=Res.then_ok h
 obtain⟨q3,h3,h⟩:=Res.then_ok h
 obtain⟨q4,h4,h⟩:=Res.then_ok h
 obtain⟨q5,h5,h⟩:=Res.then_ok h
 obtain⟨q6,h6,h⟩:=Res.then_ok h
 obtain⟨q7,h7,h⟩:=Res.then_ok h
 obtain⟨q8,h8,h⟩:=Res.then_ok h
 obtain⟨q9,h9,h⟩:=Res.then_ok h
 obtain⟨q10,h10,h⟩:=Res.then_ok h
 cases h
 have a8:ne q8.2=ne q2.2:=(iV rfl _ h8).trans ((KC 13 rfl _ h7).trans ((dR h6).trans ((jf rfl _ h5).trans ((IA rfl _ h4).trans (dR h3)))))
 have h9':(ne q9.2=ne q8.2)∧∀d,q9.1=some d→ja d.ty:=by
  split at h9
  ·obtain⟨r1,g1,h9⟩:=Res.then_ok h9
   obtain⟨r2,g2,h9⟩:=Res.then_ok h9
   cases h9
   exact⟨(WE rfl _ g2).trans (dR g1),fun d hd=>by cases hd;exact Zt _ _ _ g2⟩
  ·cases h9
   exact⟨rfl,fun d hd=>by cases hd⟩
 have hd:=IW _ _ h4
 have he:q3.enums=p.enums:=by
  rw[vw (dR h3)]
  rw[show q2.2.enums=q1.enums from congrArg Prod.snd (wC h2).2,vw (dR h1)]
 have ha:=LV _ _ _ 13 _ _ _ _ (fun a ha=>by cases ha) _ h7
 exact Dfn.mk' (d:=⟨_,_,_⟩) (dR h1) (wC h2) ((dR h10).trans (h9'.1.trans a8)) ⟨by rw[← he];exact hd,ha.1,by have:=ha.2;simpa using this,h9'.2⟩
theorem QB{p:PS}{x:Def×PS}(h:program p=.ok x):Dfn p x:=by
 obtain⟨_,_,h⟩:=Res.then_ok h
 obtain⟨q1,h1,h⟩:=Res.then_ok h
 obtain⟨q2,h2,h⟩:=Res.then_ok h
 obtain⟨q3,h3,h⟩:=Res.then_ok h
 obtain⟨q4,h4,h⟩:=Res.then_ok h
 obtain⟨q5,h5,h⟩:=Res.then_ok h
 cases h
 have hv:=IQ 4 _ _ _ _ (fun v hv=>by cases hv) _ h4
 exact Dfn.mk' (d:=⟨_,_,_⟩) (w:=q2.2) (r:={ q5.2.2 with ik:=q5.2.1 }) ((dR h1).trans rfl) (wC h2) ((show ne { q5.2.2 with ik:=q5.2.1 }=ne q5.2.2 from rfl).trans ((BL rfl _ h5).trans ((Ib 4 rfl _ h4).trans (dR h3))))
  ⟨DT _ _ _ h5,hv.1,by have:=hv.2;simpa using this⟩
theorem BP:∀(k:Nat) {p:PS} {ns:List By} {is:List Int} {x:List By×List Int×PS},fG k p ns is=.ok x→(∀s,s∈p.names→s∈x.2.2.names)∧x.2.2.enums=p.enums∧x.2.2.n0=p.n0
 |0,_,_,_,_,h=>by cases h
 |k+1,p,ns,is,x,h=>by
  rw[fG]at h
  obtain⟨_,_,h⟩:=Res.then_ok h
  obtain⟨q1,h1,h⟩:=Res.then_ok h
  obtain⟨q2,h2,h⟩:=Res.then_ok h
  obtain⟨q3,h3,h⟩:=Res.then_ok h
  obtain⟨q4,h4,h⟩:=Res.then_ok h
  have e1:=wC h1
  have e3:ne q3.2.2=ne q1.2:=(JS h3).trans (dR h2)
  have e4:ne q4.2=ne { q3.2.2 with n1:=q3.2.2.n1+1,consts:=bg q3.2.2.consts q1.1.s q3.1 }:=iV rfl _ h4
  have e5:ne q4.2=(p.names++[q1.1.s],p.enums):=e4.trans (e3.trans e1.2)
  have e0:q4.2.n0=p.n0:=by
   have a1:=(uZ h3).trans ((dZ h2).trans (vg h1))
   have a2:nn q4.2=nn { q3.2.2 with n1:=q3.2.2.n1+1,consts:=bg q3.2.2.consts q1.1.s q3.1 }:=gz rfl _ h4
   have b1:q3.2.2.n0=p.n0:=congrArg Prod.fst a1
   have b2:q4.2.n0=q3.2.2.n0:=congrArg Prod.fst a2
   omega
  have en:q4.2.names=p.names++[q1.1.s]:=congrArg Prod.fst e5
  have ee:q4.2.enums=p.enums:=congrArg Prod.snd e5
  split at h
  ·obtain⟨g1,g2,g3⟩:=BP k h
   exact⟨fun s hs=>g1 s (by rw[en];exact List.mem_append_left _ hs),g2.trans ee,g3.trans e0⟩
  ·cases h
   exact⟨fun s hs=>by show s∈q4.2.names;rw[en];exact List.mem_append_left _ hs,ee,e0⟩
theorem QC{p:PS}{x:Def×PS}(h:enum p=.ok x):Dfn p x∧x.2.n0=p.n0:=by
 obtain⟨q1,h1,h⟩:=Res.then_ok h
 obtain⟨q2,h2,h⟩:=Res.then_ok h
 obtain⟨q3,h3,h⟩:=Res.then_ok h
 obtain⟨q4,h4,h⟩:=Res.then_ok h
 obtain⟨q5,h5,h⟩:=Res.then_ok h
 cases h
 have hl:=IV 12 _ [] [] rfl _ h4
 obtain⟨g1,g2,g3⟩:=BP 12 h4
 have e2:=wC h2
 have e3:ne q3=(q1.names++[q2.1.s],q1.enums):=(dR h3).trans e2.2
 have en1:=Be (dR h1)
 have ee1:=vw (dR h1)
 have en3:q3.names=q1.names++[q2.1.s]:=congrArg Prod.fst e3
 have ee3:q3.enums=q1.enums:=congrArg Prod.snd e3
 have en5:=Be (dR h5)
 have ee5:q5.enums=p.enums:=(vw (dR h5)).trans (g2.trans (ee3.trans ee1))
 refine⟨⟨by show q2.1.s ∉ p.names;rw[← en1];exact e2.1,fun s hs=>?_,?_,Or.inr ⟨_,_,rfl,?_⟩,⟨hl.1,by have:=hl.2;simpa using this⟩⟩,?_⟩
 ·show s∈q5.names
  rw[en5];exact g1 s (by rw[en3,en1];exact List.mem_append_left _ hs)
 ·show q2.1.s∈q5.names
  rw[en5];exact g1 _ (by rw[en3];exact List.mem_append_right _ (List.mem_singleton_self _))
 ·show bg q5.enums _ _=_
  rw[ee5]
 ·show q5.n0=p.n0
  have a1:q5.n0=q4.2.2.n0:=congrArg Prod.fst (dZ h5)
  have a2:q3.n0=p.n0:=congrArg Prod.fst ((dZ h3).trans ((vg h2).trans (dZ h1)))
  omega
def nest:Dk→Bool
 |.alias _=>true
 |.struct _=>true
 |.union _ _ _ _=>true
 |_=>false
theorem PQ{p:PS}{x:Def×PS}(h:constant p=.ok x):nest x.1.k=false∧x.2.n0=p.n0:=by
 obtain⟨_,_,h⟩:=Res.then_ok h
 obtain⟨q1,h1,h⟩:=Res.then_ok h
 obtain⟨q2,h2,h⟩:=Res.then_ok h
 obtain⟨q3,h3,h⟩:=Res.then_ok h
 obtain⟨q4,h4,h⟩:=Res.then_ok h
 obtain⟨q5,h5,h⟩:=Res.then_ok h
 cases h
 exact⟨rfl,(congrArg Prod.fst ((dZ h5).trans ((uZ h4).trans ((dZ h3).trans ((vg h2).trans (dZ h1))))):q5.n0=p.n0)⟩
theorem RP{p:PS}{x:Def×PS}(h:program p=.ok x):nest x.1.k=false∧x.2.n0=p.n0:=by
 obtain⟨_,_,h⟩:=Res.then_ok h
 obtain⟨q1,h1,h⟩:=Res.then_ok h
 obtain⟨q2,h2,h⟩:=Res.then_ok h
 obtain⟨q3,h3,h⟩:=Res.then_ok h
 obtain⟨q4,h4,h⟩:=Res.then_ok h
 obtain⟨q5,h5,h⟩:=Res.then_ok h
 cases h
 exact⟨rfl,(congrArg Prod.fst ((wJ rfl _ h5).trans ((BK 4 rfl _ h4).trans ((dZ h3).trans ((vg h2).trans (dZ h1))))):q5.2.2.n0=p.n0)⟩
theorem Nc{p:PS}{x:Def×PS}(h:definition p=.ok x):Dfn p x∧p.n0+(if nest x.1.k then 1 else 0)≤x.2.n0∧(nest x.1.k=true→p.n0<24):=by
 have up:∀{f:PS→Res (Def×PS)},((count p p.n0 24).andThen fun _=>f { p with n0:=p.n0+1 })=.ok x→p.n0<24∧f { p with n0:=p.n0+1 }=.ok x:=by
  intro f h
  obtain⟨_,h1,h⟩:=Res.then_ok h
  exact⟨gV h1,h⟩
 have same:Dfn { p with n0:=p.n0+1 } x→Dfn p x:=fun d=>⟨d.new,d.more,d.its,d.enums,d.ok⟩
 have one:(if nest x.1.k then 1 else 0)≤1:=by split<;>omega
 have fin:p.n0<24→Dfn { p with n0:=p.n0+1 } x→x.2.n0=p.n0+1→Dfn p x∧p.n0+(if nest x.1.k then 1 else 0)≤x.2.n0∧(nest x.1.k=true→p.n0<24):=fun a b c=>⟨same b,by omega,fun _=>a⟩
 have fin0:Dfn p x→(nest x.1.k=false∧x.2.n0=p.n0)→Dfn p x∧p.n0+(if nest x.1.k then 1 else 0)≤x.2.n0∧(nest x.1.k=true→p.n0<24):=fun a b=>⟨a,by rw[b.1,b.2];simp,fun c=>by rw[b.1]at c;cases c⟩
 unfold definition at h
 split at h
 ·exact fin0 (Ou h) (PQ h)
 split at h
 ·exact fin0 (QB h) (RP h)
 simp only at h
 split at h
 ·obtain⟨a,h⟩:=up h;exact fin a (U7 h) (congrArg Prod.fst (Ql rfl _ h))
 split at h
 ·obtain⟨a,h⟩:=up h;exact fin a (QC h).1 (QC h).2
 split at h
 ·obtain⟨a,h⟩:=up h;exact fin a (Sv h) (congrArg Prod.fst (MH rfl _ h))
 split at h
 ·obtain⟨a,h⟩:=up h;exact fin a (U6 h) (congrArg Prod.fst (Qj rfl _ h))
 cases h
end Go.M
namespace Go.M
def leads:Dk→List Ty
 |.alias t=>[t]
 |.struct ds=>ds.map (·.ty)
 |.union _ _ arms els=>arms.map (·.decl.ty)++(els.map (·.ty)).toList
 |_=>[]
def Oq(d:Dk):Prop:=(∀t∈leads d,okT t=true)∧(leads d).length≤14
def unseen(defs:List (By×Def))(seen:List By):Nat:=defs.countP fun e=>nest e.2.k&&!seen.contains e.1
theorem Hf(defs:List (By×Def)){a b:List By}(h:∀s∈a,s∈b):unseen defs b≤unseen defs a:=by
 unfold unseen
 refine List.countP_mono_left fun e _=>?_
 simp only[Bool.and_eq_true,Bool.not_eq_true',List.contains_eq_mem,decide_eq_false_iff_not]
 exact fun⟨h1,h2⟩=>⟨h1,fun h3=>h2 (h _ h3)⟩
theorem Hg{s:By}{d:Def}:∀{defs:List (By×Def)} {a:List By},defs.lookup s=some d→nest d.k=true→s ∉ a→unseen defs (a++[s])+1≤unseen defs a
 |[],a,h,_,_=>by cases h
 |e::r,a,h,hn,hs=>by
  obtain⟨k,v⟩:=e
  rw[List.lookup_cons]at h
  have hm:=Hf r (a:=a) (b:=a++[s]) fun x hx=>List.mem_append_left _ hx
  cases hb:s==k with
  |true=>
   rw[hb]at h
   cases h
   have e:s=k:=eq_of_beq hb
   subst e
   have h1:unseen ((s,d)::r) (a++[s])=unseen r (a++[s]):=by
    unfold unseen;rw[List.countP_cons_of_neg];simp
   have h2:unseen ((s,d)::r) a=unseen r a+1:=by
    unfold unseen;rw[List.countP_cons_of_pos];simp[hn,hs]
   omega
  |false=>
   rw[hb]at h
   have ih:=Hg h hn hs
   have hne:k≠s:=fun e=>by rw[e]at hb;simp at hb
   have h1:unseen ((k,v)::r) (a++[s])=unseen r (a++[s])+(if(nest v.k&&!a.contains k)=true then 1 else 0):=by
    unfold unseen;rw[List.countP_cons]
    simp[hne]
   have h2:unseen ((k,v)::r) a=unseen r a+(if(nest v.k&&!a.contains k)=true then 1 else 0):=by
    unfold unseen;rw[List.countP_cons]
   omega
variable {defs:List (By×Def)} {goal:By}
def Thr(defs:List (By×Def))(goal:By)(U:Nat):Prop:=∀k x t,okT t=true→unseen defs x.seen≤U→18*U+4≤k→∃y,through defs goal k t x=some y∧∀s∈x.seen,s∈y.seen
theorem Eu{U:Nat}(h:Thr defs goal U):∀(l:List Ty) (k:Nat) (x:Seen),(∀t∈l,okT t=true)→unseen defs x.seen≤U→18*U+4+l.length+1≤k→∃y,eH defs goal k l x=some y∧∀s∈x.seen,s∈y.seen
 |[],0,x,_,_,hk=>by omega
 |[],k+1,x,_,_,hk=>⟨x,by rw[eH],fun s hs=>hs⟩
 |t::r,0,x,_,_,hk=>by omega
 |t::r,k+1,x,ht,hu,hk=>by
  rw[List.length_cons]at hk
  obtain⟨y,hy,hs⟩:=h k x t (ht t (List.mem_cons_self ..)) hu (by omega)
  obtain⟨z,hz,hs'⟩:=Eu h r k y (fun u hu=>ht u (List.mem_cons_of_mem _ hu)) (Nat.le_trans (Hf defs hs) hu) (by omega)
  refine⟨z,?_,fun s h=>hs' s (hs s h)⟩
  rw[eH,hy];exact hz
theorem O1{k:Nat}{d:Def}{x:Seen}(hn:nest d.k=false):visit defs goal (k+1) (some d) x=some x:=by
 rw[visit]
 cases hd:d.k<;>rw[hd]at hn<;>first|rfl|cases hn
theorem EH{U:Nat}(h:Thr defs goal U)(k:Nat)(d:Def)(x:Seen)(he:Oq d.k)(hu:unseen defs x.seen≤U)(hk:18*U+20≤k):∃y,visit defs goal k (some d) x=some y∧∀s∈x.seen,s∈y.seen:=by
 obtain⟨k,rfl⟩:∃j,k=j+1:=⟨k - 1,by omega⟩
 rw[visit]
 obtain⟨h1,h2⟩:=he
 cases hd:d.k with
 |alias t=>
  rw[hd]at h1
  exact h k x t (h1 t (List.mem_singleton_self _)) hu (by omega)
 |struct ds=>
  rw[hd]at h1 h2
  have h2':(ds.map (·.ty)).length≤14:=h2
  exact Eu h _ k x h1 hu (by omega)
 |union o n ar els=>
  rw[hd]at h1 h2
  have h2':(ar.map (·.decl.ty)++(els.map (·.ty)).toList).length≤14:=h2
  exact Eu h _ k x h1 hu (by omega)
 |_=>exact⟨x,rfl,fun s hs=>hs⟩
theorem Fq(hd:∀s d,defs.lookup s=some d→Oq d.k){U:Nat}(ih:∀V,V<U→Thr defs goal V)(k:Nat)(x:Seen)(s:By)(a:Nat)(hu:unseen defs x.seen≤U)(hk:18*U+3≤k):∃y,through defs goal k (.named s a) x=some y∧∀s∈x.seen,s∈y.seen:=by
 obtain⟨k,rfl⟩:∃j,k=j+2:=⟨k - 2,by omega⟩
 rw[through]
 have DJ:(if s==goal then { x with found:=true }else x:Seen).seen=x.seen:=by split<;>rfl
 generalize (if s==goal then { x with found:=true }else x:Seen)=x' at DJ
 by_cases hc:x'.seen.contains s=true
 ·rw[if_pos hc];exact⟨x',rfl,fun t ht=>by rw[DJ];exact ht⟩
 rw[if_neg hc]
 have hns:s ∉ x.seen:=by rw[← DJ];simpa using hc
 have sub:∀t∈x.seen,t∈x'.seen++[s]:=fun t ht=>by rw[DJ];exact List.mem_append_left _ ht
 cases hl:defs.lookup s with
 |none=>exact⟨{ x' with seen:=x'.seen++[s] },by rw[visit],sub⟩
 |some d=>
  cases hn:nest d.k with
  |false=>exact⟨{ x' with seen:=x'.seen++[s] },O1 hn,sub⟩
  |true=>
   have hless:=Hg hl hn hns
   rw[← DJ]at hless
   obtain⟨V,rfl⟩:∃V,U=V+1:=⟨U - 1,by rw[DJ]at hless;omega⟩
   obtain⟨y,hy,hs⟩:=EH (ih V (Nat.lt_succ_self _)) (k+1) d { x' with seen:=x'.seen++[s] } (hd s d hl) (by show unseen defs (x'.seen++[s])≤V;rw[DJ]at hless ⊢;omega) (by omega)
   exact⟨y,hy,fun t ht=>hs t (sub t ht)⟩
theorem thr(hd:∀s d,defs.lookup s=some d→Oq d.k)(U:Nat):Thr defs goal U:=by
 induction U using Nat.strongRecOn with
 |_ U ih=>
  intro k x t ht hu hk
  cases t with
  |named s a=>exact Fq hd ih k x s a hu (by omega)
  |array t f n=>
   obtain⟨k,rfl⟩:∃j,k=j+2:=⟨k - 2,by omega⟩
   rw[through]
   cases f with
   |false=>exact⟨x,rfl,fun s hs=>hs⟩
   |true=>
    rw[if_pos rfl]
    simp only[okT,Bool.and_eq_true]at ht
    cases t with
    |named s a=>exact Fq hd ih (k+1) x s a hu (by omega)
    |basic s=>exact⟨x,by rw[through]<;>simp,fun s hs=>hs⟩
    |_=>cases ht.1
  |_=>
   obtain⟨k,rfl⟩:∃j,k=j+1:=⟨k - 1,by omega⟩
   exact⟨x,by rw[through]<;>simp,fun s hs=>hs⟩
theorem Oo(hd:∀s d,defs.lookup s=some d→Oq d.k)(hc:defs.countP (fun e=>nest e.2.k)≤24)(d:Def)(he:Oq d.k):(endless defs d).isSome=true:=by
 have h0:unseen defs []≤24:=by
  have:unseen defs []=defs.countP (fun e=>nest e.2.k):=by unfold unseen;simp
  omega
 obtain⟨y,hy,_⟩:=EH (goal:=d.name) (thr hd 24) 1000 d ⟨[],false⟩ he h0 (by omega)
 unfold endless
 rw[hy];rfl
end Go.M
namespace Go.M
theorem BI{α β:Type}[BEq α][LawfulBEq α]:∀{m:List (α×β)} {a:α} {v:β},m.lookup a=some v→(a,v)∈m
 |[],_,_,h=>by cases h
 |x::r,a,v,h=>by
  obtain⟨k,w⟩:=x
  rw[List.lookup_cons]at h
  cases hb:a==k with
  |true=>rw[hb]at h;cases h;rw[eq_of_beq hb];exact List.mem_cons_self ..
  |false=>rw[hb]at h;exact List.mem_cons_of_mem _ (BI h)
theorem HY{α β:Type}[BEq α]:∀(m:List (α×β)) (a:α) (v:β),(bg m a v).length≤m.length+1
 |[],_,_=>Nat.le_refl _
 |x::r,a,v=>by
  rw[bg]
  split
  ·simp
  ·have:=HY r a v
   simp only[List.length_cons];omega
theorem wz(g v:Int):∀(l:List gq) (c:CS),(gm g v c l).defs=c.defs∧(gm g v c l).start=c.start
 |[],_=>⟨rfl,rfl⟩
 |q::r,c=>by
  rw[gm]
  refine⟨(wz g v r _).1.trans ?_,(wz g v r _).2.trans ?_⟩
  ·show (jb q.arg (jb q.res c)).defs=c.defs
   rw[xx,xx];rfl
  ·show (jb q.arg (jb q.res c)).start=c.start
   rw[xx,xx];rfl
theorem yA(g:Int):∀(l:List gI) (c:CS),(gZ g c l).defs=c.defs∧(gZ g c l).start=c.start
 |[],_=>⟨rfl,rfl⟩
 |v::r,c=>by
  rw[gZ]
  exact⟨(yA g r _).1.trans (wz g v.n v.procs _).1,(yA g r _).2.trans (wz g v.n v.procs _).2⟩
theorem Ha(g:Int):∀(l:List gI) (c:CS) (N:Nat),(∀x∈c.dL,x.2.length≤N)→∀x∈(gZ g c l).dL,x.2.length≤N+l.length
 |[],c,N,h=>h
 |v::r,c,N,h=>by
  rw[gZ]
  intro x hx
  have:=Ha g r _ (N+1) (fun y hy=>by
   rw[Ak]at hy
   rcases FK hy with hy|hy
   ·exact Nat.le_succ_of_le (h y hy)
   ·rw[hy]
    simp only[List.length_append,List.length_singleton]
    cases hl:c.dL.lookup g with
    |none=>simp
    |some l=>have:=h _ (BI hl);simp only[Option.getD_some];simp only at this;omega) x hx
  rw[List.length_cons];omega
structure Step (c:CS) (d:Def):Prop where
 defs:(nN c d).defs=bg c.defs d.name d
 start:(nN c d).start=c.start∨∃n,(nN c d).start=bg c.start d.name n
 dL:(∃n vs,d.k=.prog n vs∧(nN c d).dL=(gZ n { c with defs:=bg c.defs d.name d } vs).dL)∨(nN c d).dL=c.dL
theorem step(c:CS)(d:Def):Step c d:=by
 cases ht:isType d.k with
 |false=>
  cases hk:d.k with
  |prog n vs=>
   have e:nN c d=gZ n { c with defs:=bg c.defs d.name d } vs:=by unfold nN;rw[hk]
   exact⟨by rw[e];exact(yA _ _ _).1,Or.inl (by rw[e];exact(yA _ _ _).2),Or.inl ⟨n,vs,hk,by rw[e]⟩⟩
  |const n=>
   have e:nN c d={ c with defs:=bg c.defs d.name d }:=by unfold nN;rw[hk];simp only;rw[Ii _ _ ht]
   exact⟨by rw[e],Or.inl (by rw[e]),Or.inr (by rw[e])⟩
  |_=>rw[hk]at ht;cases ht
 |true=>
  have e:nN c d=gB d { c with defs:=bg c.defs d.name d }:=by
   unfold nN
   cases hk:d.k with
   |prog n vs=>rw[hk]at ht;cases ht
   |_=>rfl
  rw[KU _ _ ht]at e
  exact⟨by rw[e];rfl,Or.inr ⟨_,by rw[e];rfl⟩,Or.inr (by rw[e];rfl)⟩
theorem MZ:∀(l:List Arm),(∀a∈l,ja a.decl.ty∧a.nums.length≤12)→bT l≤4*l.length
 |[],_=>Nat.le_refl _
 |a::r,h=>by
  have h1:=(h a (List.mem_cons_self ..)).1.2
  have:=MZ r fun x hx=>h x (List.mem_cons_of_mem _ hx)
  rw[bT,List.length_cons];omega
theorem JD:∀(l:List Decl),(∀d∈l,iC d.ty)→iU l≤3*l.length
 |[],_=>Nat.le_refl _
 |a::r,h=>by
  have h1:=(h a (List.mem_cons_self ..)).2.2
  have:=JD r fun x hx=>h x (List.mem_cons_of_mem _ hx)
  rw[iU,List.length_cons];omega
theorem Jy:∀(l:List gq),(∀q∈l,JA q)→gY l≤8*l.length
 |[],_=>Nat.le_refl _
 |a::r,h=>by
  obtain⟨h1,h2,_⟩:=h a (List.mem_cons_self ..)
  have h1:=h1.2
  have h2:=h2.2
  have:=Jy r fun x hx=>h x (List.mem_cons_of_mem _ hx)
  rw[gY,List.length_cons,wU,wU];omega
theorem L6:∀(l:List gI),(∀v∈l,yz v)→kT l≤64*l.length
 |[],_=>Nat.le_refl _
 |a::r,h=>by
  obtain⟨h1,h2,_⟩:=h a (List.mem_cons_self ..)
  have h1:=Jy _ h1
  have:=L6 r fun x hx=>h x (List.mem_cons_of_mem _ hx)
  rw[kT,List.length_cons];omega
theorem Sz(c:CS)(d:Def){E:List (By×List Int)}(h:GV E d.k):(nN c d).L.length≤c.L.length+300:=by
 unfold nN
 obtain⟨nm,at_,k⟩:=d
 cases k with
 |const n=>exact Nat.le_add_right _ _
 |alias t=>
  have h2:=(show iC t from h).2.2
  show ((lower t _).put (ins 7)).L.length≤_
  rw[bQ,dD];simp only;omega
 |enum ns is=>simp[gB,CS.put,CS.gW]
 |struct ds=>
  obtain⟨h1,h2,h3⟩:=(show (∀d∈ds,iC d.ty)∧1≤ds.length∧ds.length≤12 from h)
  have:=JD _ h1
  show ((iO _ ds).put (ins 7)).L.length≤_
  rw[bQ,uT,bQ];simp only;omega
 |union o n ar els=>
  obtain⟨_,h1,h2,h3⟩:=(show JH E o∧(∀a∈ar,ja a.decl.ty∧a.nums.length≤12)∧ar.length≤13∧(∀d,els=some d→ja d.ty)from h)
  have h4:=MZ _ h1
  have h5:lI els≤4:=by
   cases els with
   |none=>simp[lI]
   |some d=>have:=(h3 d rfl).2;rw[lI];omega
  show ((nP o ar els _).put (ins 7)).L.length≤_
  rw[bQ,DW];simp only;omega
 |prog n vs=>
  obtain⟨_,h1,h2⟩:=(show inRange n=true∧(∀v∈vs,yz v)∧vs.length≤4 from h)
  have:=L6 _ h1
  show (gZ n _ vs).L.length≤_
  rw[xq];simp only;omega
theorem QK{t:Ty}(h:t≠.void):(t != .void)=true:=by simpa using h
theorem GV.okK{E:List (By×List Int)}{k:Dk}(h:GV E k):okK k=true:=by
 cases k with
 |alias t=>exact Bool.and_eq_true _ _|>.mpr ⟨(show iC t from h).1,QK (show iC t from h).2.1⟩
 |enum ns is=>exact h.1
 |struct ds=>
  obtain⟨h1,h2,h3⟩:=(show (∀d∈ds,iC d.ty)∧1≤ds.length∧ds.length≤12 from h)
  simp only[M.okK,Bool.and_eq_true,decide_eq_true_eq,List.all_eq_true]
  refine⟨⟨?_,h3⟩,fun d hd=>⟨(h1 d hd).1,QK (h1 d hd).2.1⟩⟩
  cases ds with
  |nil=>simp at h2
  |cons a r=>rfl
 |union o n ar els=>
  obtain⟨h0,h1,h2,h3⟩:=(show JH E o∧(∀a∈ar,ja a.decl.ty∧a.nums.length≤12)∧ar.length≤13∧(∀d,els=some d→ja d.ty)from h)
  simp only[M.okK,Bool.and_eq_true,List.all_eq_true]
  refine⟨⟨?_,fun a ha=>(h1 a ha).1.1⟩,?_⟩
  ·cases o with
   |basic s=>exact bne_iff_ne.mpr h0
   |named s a=>rfl
   |_=>exact h0.elim
  ·cases els with
   |none=>rfl
   |some d=>exact(h3 d rfl).1
 |_=>rfl
theorem GV.okP{E:List (By×List Int)}{k:Dk}(h:GV E k):okP k=true:=by
 cases k with
 |prog n vs=>
  obtain⟨_,h1,h2⟩:=(show inRange n=true∧(∀v∈vs,yz v)∧vs.length≤4 from h)
  simp only[M.okP,List.all_eq_true,Bool.and_eq_true]
  exact fun v hv q hq=>⟨((h1 v hv).1 q hq).1.1,((h1 v hv).1 q hq).2.1.1⟩
 |_=>rfl
theorem GV.Oq{E:List (By×List Int)}{k:Dk}(h:GV E k):Oq k:=by
 cases k with
 |alias t=>exact⟨fun u hu=>by rw[List.mem_singleton.mp hu];exact(show iC t from h).1,by simp[leads]⟩
 |struct ds=>
  obtain⟨h1,h2,h3⟩:=(show (∀d∈ds,iC d.ty)∧1≤ds.length∧ds.length≤12 from h)
  refine⟨fun u hu=>?_,by simp only[leads,List.length_map];omega⟩
  obtain⟨d,hd,rfl⟩:=List.mem_map.mp hu
  exact(h1 d hd).1
 |union o n ar els=>
  obtain⟨h0,h1,h2,h3⟩:=(show JH E o∧(∀a∈ar,ja a.decl.ty∧a.nums.length≤12)∧ar.length≤13∧(∀d,els=some d→ja d.ty)from h)
  refine⟨fun u hu=>?_,?_⟩
  ·rcases List.mem_append.mp hu with hu|hu
   ·obtain⟨d,hd,rfl⟩:=List.mem_map.mp hu
    exact(h1 d hd).1.1
   ·cases els with
    |none=>cases hu
    |some d=>
     have:u=d.ty:=by simpa using hu
     rw[this];exact(h3 d rfl).1
  ·simp only[leads,List.length_append,List.length_map]
   cases els with
   |none=>simp;omega
   |some d=>simp;omega
 |_=>exact⟨fun u hu=>(by cases hu),by simp[leads]⟩
theorem GV.small{E:List (By×List Int)}{d:Def}(h:GV E d.k):jE d=true:=by
 unfold jE
 cases hk:d.k with
 |enum ns is=>rw[hk]at h;have:=h.2;simp only[decide_eq_true_eq];omega
 |struct ds=>rw[hk]at h;have:=h.2.2;simp only[decide_eq_true_eq];omega
 |union o n ar els=>
  rw[hk]at h
  obtain⟨h0,h1,h2,h3⟩:=(show JH E o∧(∀a∈ar,ja a.decl.ty∧a.nums.length≤12)∧ar.length≤13∧(∀d,els=some d→ja d.ty)from h)
  simp only[Bool.and_eq_true,decide_eq_true_eq,List.all_eq_true]
  exact⟨by omega,fun a ha=>by have:=(h1 a ha).2;omega⟩
 |prog n vs=>
  rw[hk]at h
  obtain⟨h0,h1,h2⟩:=(show inRange n=true∧(∀v∈vs,yz v)∧vs.length≤4 from h)
  simp only[Bool.and_eq_true,decide_eq_true_eq,List.all_eq_true]
  exact⟨⟨by omega,h0⟩,fun v hv=>⟨⟨by have:=(h1 v hv).2.1;omega,(h1 v hv).2.2⟩,fun q hq=>((h1 v hv).1 q hq).2.2⟩⟩
 |_=>rfl
structure PI (p:PS) (ds:List Def):Prop where
 names:∀s d,(aF CS.empty ds).defs.lookup s=some d→s∈p.names
 starts:∀s n,(aF CS.empty ds).start.lookup s=some n→s∈p.names
 enums:∀s nums,p.enums.lookup s=some nums→s∈p.names∧nums.length≤12∧∃nm a ns,(aF CS.empty ds).defs.lookup s=some ⟨nm,a,.enum ns nums⟩
 wf:jr CS.empty ds=true
 dL:∀x∈(aF CS.empty ds).dL,x.2.length≤4*ds.length
 len:(aF CS.empty ds).L.length≤300*ds.length
 slen:(aF CS.empty ds).start.length≤ds.length
 its:∀x∈(aF CS.empty ds).defs,x.2∈ds
 ok:∀d∈ds,∃E,GV E d.k
 cnt:(aF CS.empty ds).defs.countP (fun e=>nest e.2.k)≤p.n0
 cnt':(aF CS.empty ds).defs.countP (fun e=>nest e.2.k)≤24
theorem GY:∀(l:List Def) (c:CS) (d:Def),jr c l=true→jr (aF c l) [d]=true→jr c (l++[d])=true
 |[],_,_,_,h=>h
 |a::r,c,d,h,h2=>by
  rw[jr,Bool.and_eq_true]at h
  rw[List.cons_append,jr,Bool.and_eq_true]
  exact⟨h.1,GY r _ d h.2 h2⟩
theorem PI.start{p:PS}(hn:p.names=[])(he:p.enums=[]):PI p []:=by
 refine⟨fun s d h=>(by cases h),fun s n h=>(by cases h),fun s nums h=>(by rw[he]at h;cases h),rfl,fun x h=>(by cases h),Nat.le_refl _,Nat.le_refl _,fun x h=>(by cases h),fun d h=>(by cases h),Nat.zero_le _,Nat.zero_le _⟩
theorem PI.next{p:PS}{ds:List Def}{x:Def×PS}(h:PI p ds)(hl:ds.length≤69)(hx:definition p=.ok x):PI x.2 (ds++[x.1]):=by
 obtain⟨⟨n1,n2,n3,n4,n5⟩,m1,m2⟩:=Nc hx
 obtain⟨d,q⟩:=x
 simp only at n1 n2 n3 n4 n5 m1 m2 ⊢
 have hd:(aF CS.empty ds).defs.lookup d.name=none:=by
  cases hc:(aF CS.empty ds).defs.lookup d.name with
  |none=>rfl
  |some e=>exact absurd (h.names _ _ hc) n1
 have hs:(aF CS.empty ds).start.lookup d.name=none:=by
  cases hc:(aF CS.empty ds).start.lookup d.name with
  |none=>rfl
  |some e=>exact absurd (h.starts _ _ hc) n1
 obtain⟨s1,s2,s3⟩:=step (aF CS.empty ds) d
 have hdef:∀s e,(bg (aF CS.empty ds).defs d.name d).lookup s=some e→(s=d.name∧e=d)∨(s≠d.name∧(aF CS.empty ds).defs.lookup s=some e):=fun s e he=>by
  rw[dY]at he
  cases hb:s==d.name with
  |true=>rw[hb]at he;cases he;exact Or.inl ⟨eq_of_beq hb,rfl⟩
  |false=>rw[hb]at he;exact Or.inr ⟨fun e=>by rw[e]at hb;simp at hb,he⟩
 have hcnt:(bg (aF CS.empty ds).defs d.name d).countP (fun e=>nest e.2.k)=(aF CS.empty ds).defs.countP (fun e=>nest e.2.k)+(if nest d.k then 1 else 0):=by
  rw[PT hd,List.countP_append]
  simp[List.countP_cons]
 refine⟨?_,?_,?_,?_,?_,?_,?_,?_,?_,?_,?_⟩
 ·rw[gU,s1]
  intro s e he
  rcases hdef s e he with⟨rfl,_⟩|⟨_,he⟩
  ·exact n3
  ·exact n2 _ (h.names _ _ he)
 ·rw[gU]
  intro s n he
  rcases s2 with s2|⟨m,s2⟩
  ·rw[s2]at he;exact n2 _ (h.starts _ _ he)
  ·rw[s2,dY]at he
   cases hb:s==d.name with
   |true=>rw[eq_of_beq hb];exact n3
   |false=>rw[hb]at he;exact n2 _ (h.starts _ _ he)
 ·rw[gU,s1]
  have old:∀s nums,p.enums.lookup s=some nums→s∈q.names∧nums.length≤12∧∃nm a ns,(bg (aF CS.empty ds).defs d.name d).lookup s=some ⟨nm,a,.enum ns nums⟩:=fun s nums he=>by
   obtain⟨e1,e2,nm,a,ns,e3⟩:=h.enums s nums he
   refine⟨n2 _ e1,e2,nm,a,ns,?_⟩
   rw[dY]
   cases hb:s==d.name with
   |true=>rw[eq_of_beq hb]at e1;exact absurd e1 n1
   |false=>exact e3
  intro s nums he
  rcases n4 with n4|⟨ns,nums',e1,n4⟩
  ·rw[n4]at he;exact old s nums he
  ·rw[n4,dY]at he
   cases hb:s==d.name with
   |true=>
    rw[hb]at he
    cases he
    have e:=eq_of_beq hb
    subst e
    refine⟨n3,?_,d.name,d.at_,ns,?_⟩
    ·rw[e1]at n5;exact n5.2
    ·rw[dY,hb,if_pos rfl,← e1]
   |false=>rw[hb]at he;exact old s nums he
 ·refine GY _ _ _ h.wf ?_
  rw[jr,jr,hs,n5.small]
  simp only[Bool.and_true,Option.isNone_none]
  cases hk:d.k with
  |union o n ar els=>
   rw[hk]at n5
   have h0:=(show JH p.enums o∧_ from n5).1
   cases o with
   |basic s=>rfl
   |named s a=>
    obtain⟨nums,hl'⟩:=h0
    obtain⟨e1,e2,nm,a,ns,e3⟩:=h.enums s nums hl'
    simp only[lM,dY]
    cases hb:s==d.name with
    |true=>rw[eq_of_beq hb]at e1;exact absurd e1 n1
    |false=>simp only[Bool.false_eq_true,if_false,e3,decide_eq_true_eq];omega
   |_=>exact h0.elim
  |prog n vs=>
   simp only[List.all_eq_true,decide_eq_true_eq]
   intro x hx
   have:=h.dL x hx
   omega
  |_=>rfl
 ·rw[gU,List.length_append,List.length_singleton]
  rcases s3 with⟨n,vs,e1,s3⟩|s3
  ·rw[s3]
   intro x hx
   have:=Ha n vs { aF CS.empty ds with defs:=bg (aF CS.empty ds).defs d.name d } _ h.dL x hx
   rw[e1]at n5
   have:=n5.2.2
   omega
  ·rw[s3]
   intro x hx
   have:=h.dL x hx
   omega
 ·rw[gU,List.length_append,List.length_singleton]
  have:=Sz (aF CS.empty ds) d n5
  have:=h.len
  omega
 ·rw[gU,List.length_append,List.length_singleton]
  have:=h.slen
  rcases s2 with s2|⟨m,s2⟩
  ·rw[s2];omega
  ·rw[s2];have:=HY (aF CS.empty ds).start d.name m;omega
 ·rw[gU,s1]
  intro x hx
  rcases FK hx with hx|hx
  ·exact List.mem_append_left _ (h.its x hx)
  ·rw[hx];exact List.mem_append_right _ (List.mem_singleton_self _)
 ·intro e he
  rcases List.mem_append.mp he with he|he
  ·exact h.ok e he
  ·rw[List.mem_singleton.mp he];exact⟨_,n5⟩
 ·rw[gU,s1,hcnt]
  have:=h.cnt
  omega
 ·rw[gU,s1,hcnt]
  have:=h.cnt
  have:=h.cnt'
  cases hn:nest d.k with
  |true=>have:=m2 hn;simp only[if_true];omega
  |false=>simpa using h.cnt'
theorem DU:∀(k:Nat) (p:PS) (ds:List Def),PI p ds→ds.length+k≤69→Yl (fU k p ds) fun l=>∃q,PI q l∧l.length≤69
 |0,p,ds,h,hk=>by rw[fU];exact Yl.ok ⟨p,h,by omega⟩
 |k+1,p,ds,h,hk=>by
  rw[fU]
  refine Yl.ite (fun _=>Yl.ok ⟨p,h,by omega⟩) fun _=>?_
  refine Yl.bind (P:=fun x=>PI x.2 (ds++[x.1])) (fun x hx=>h.next (by omega) hx) fun x hx=>?_
  exact DU k _ _ hx (by rw[List.length_append,List.length_singleton];omega)
theorem PI.tidy{p:PS}{ds:List Def}(h:PI p ds)(hl:ds.length≤69):Tidy ds:=by
 have hli:=LI.aF ds LI.empty h.wf
 have hmem:∀s d,(aF CS.empty ds).defs.lookup s=some d→d∈ds:=fun s d hd=>h.its _ (BI hd)
 refine⟨?_,fun d hd=>?_⟩
 ·unfold fine
  simp only[Bool.and_eq_true,decide_eq_true_eq,List.all_eq_true]
  refine⟨⟨⟨⟨⟨h.wf,?_⟩,fun x hx=>BH (hli.calls x hx)⟩,fun x hx=>?_⟩,?_⟩,by omega⟩
  ·have:=h.len;have:=h.slen;omega
  ·obtain⟨E,hE⟩:=h.ok _ (h.its x hx);exact hE.small
  ·unfold Sr
   rw[List.all_eq_true]
   intro d hd
   obtain⟨E,hE⟩:=h.ok d hd
   exact Oo (fun s e he=>by obtain⟨E,hE⟩:=h.ok e (hmem s e he);exact hE.Oq) h.cnt' d hE.Oq
 ·obtain⟨E,hE⟩:=h.ok d hd
  exact⟨hE.okK,hE.okP⟩
theorem Eg{txt:By}{ds:List Def}(h:parse txt=.ok ds):Tidy ds:=by
 unfold parse at h
 obtain⟨p,h1,h⟩:=Res.then_ok h
 have e:=lT h1
 obtain⟨q,hq,hl⟩:=DU 69 p [] (PI.start (congrArg Prod.fst e) (congrArg Prod.snd e)) (by simp) ds h
 exact hq.tidy hl
#print axioms Eg
end Go.M
namespace Go.M
end Go.M
set_option maxRecDepth 100000
namespace Go.M
end Go.M
namespace Go.M
section
variable {defs:List (By×Def)} {lim wl:Lim} {t:Ty} {b:By}
end
end Go.M

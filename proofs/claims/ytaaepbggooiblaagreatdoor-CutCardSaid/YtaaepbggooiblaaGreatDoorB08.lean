/- Texts of mine, one behind the other; nothing is assumed. -/
import Derived.Test.YtaaepbggooiblaaGreatDoorB07
import Derived.Test.YtaaepbggooiblaaGreatDoorB06
set_option linter.unusedSimpArgs false
set_option linter.unusedVariables false
namespace Go.M
def Yl{α:Type}(m:Res α)(Q:α→Prop):Prop:=∀a,m=.ok a→Q a
theorem Yl.ok{α:Type}{a:α}{Q:α→Prop}(h:Q a):Yl (.ok a) Q:=fun b hb=>by cases hb;exact h
theorem Yl.no{α:Type}{e a:Nat}{Q:α→Prop}:Yl (.no e a:Res α) Q:=fun b hb=>by cases hb
theorem Yl.bind{α β:Type}{m:Res α}{k:α→Res β}{P:α→Prop}{Q:β→Prop}(h:Yl m P)(hk:∀a,P a→Yl (k a) Q):Yl (m.andThen k) Q:=fun b hb=>by
 obtain⟨a,ha,hb⟩:=Res.then_ok hb
 exact hk a (h a ha) b hb
theorem Yl.any{α:Type}{m:Res α}:Yl m (fun _=>True):=fun _ _=>trivial
theorem Yl.bP{α β:Type}{m:Res α}{k:α→Res β}{Q:β→Prop}(hk:∀a,Yl (k a) Q):Yl (m.andThen k) Q:=Yl.bind Yl.any fun a _=>hk a
theorem Yl.ite{α:Type}{c:Prop}[Decidable c]{A B:Res α}{Q:α→Prop}(h1:c→Yl A Q)(h2:¬ c→Yl B Q):Yl (if c then A else B) Q:=by
 split
 ·exact h1 (by assumption)
 ·exact h2 (by assumption)
theorem Yl.mono{α:Type}{m:Res α}{P Q:α→Prop}(h:Yl m P)(k:∀a,P a→Q a):Yl m Q:=fun a ha=>k a (h a ha)
def kindOk(t:Ty):Prop:=Us t=true∧t≠.void∧tsz t=1
theorem kindOk.basic(s:By):kindOk (.basic s):=⟨rfl,by simp,rfl⟩
theorem Sz(p:PS):Yl (kindOf p) fun x=>kindOk x.1:=by
 unfold kindOf
 refine Yl.ite (fun _=>Yl.bP fun _=>Yl.ok ⟨rfl,by simp,rfl⟩) fun _=>?_
 refine Yl.bP fun _=>Yl.ite (fun _=>Yl.ok (kindOk.basic _)) fun _=>Yl.bP fun _=>Yl.ite (fun _=>Yl.ok (kindOk.basic _)) fun _=>Yl.bP fun _=>Yl.ite (fun _=>Yl.ok (kindOk.basic _)) fun _=>Yl.bP fun _=>Yl.ite (fun _=>?_) fun _=>Yl.no
 exact Yl.bP fun _=>Yl.ite (fun _=>Yl.ok (kindOk.basic _)) fun _=>Yl.bP fun _=>Yl.ok (kindOk.basic _)
theorem Nq{σ:Type}(p:PS)(lo hi:Int)(keep:Int→Nat→Res σ):Yl (value p lo hi keep) fun x=>lo≤x.1∧x.1≤hi:=fun x hx=>DT hx
theorem Wn(p:PS):Yl (bound p) fun x=>okN x.1 x.2.1=true:=by
 unfold bound
 refine Yl.bP fun x=>Yl.ite (fun _=>?_) fun _=>Yl.bP fun p=>Yl.bP fun x=>Yl.ite (fun _=>Yl.ok rfl) fun _=>?_
 ·refine Yl.bind (Nq _ _ _ _) fun y hy=>Yl.bP fun p=>Yl.ok ?_
  simp only[okN,if_true,decide_eq_true_eq];exact hy
 ·refine Yl.bind (Nq _ _ _ _) fun y hy=>Yl.bP fun p=>Yl.ok ?_
  simp only[okN,Bool.false_eq_true,if_false,decide_eq_true_eq];exact hy
def l7(t:Ty):Prop:=okT t=true∧t≠.void∧tsz t≤3
theorem kindOk.decl{t:Ty}(h:kindOk t):l7 t:=⟨nz h.1,h.2.1,by have:=h.2.2;omega⟩
theorem Yt{σ:Type}(nm:PS→Res (Wd×σ×PS))(p:PS):Yl (decl nm p) fun x=>l7 x.1.ty:=by
 unfold decl
 refine Yl.ite (fun _=>?_) fun _=>?_
 ·refine Yl.bP fun p=>Yl.bP fun x=>Yl.ite (fun _=>Yl.no) fun _=>Yl.bind (Wn _) fun y hy=>Yl.ok ⟨hy,by simp,by simp[tsz]⟩
 ·refine Yl.bind (Sz p) fun t ht=>Yl.bP fun y=>Yl.ite (fun _=>?_) fun _=>?_
  ·exact Yl.bP fun x=>Yl.ok ⟨ht.1,by simp,by simp[tsz,ht.2.2]⟩
  ·refine Yl.bP fun x=>Yl.ite (fun _=>?_) fun _=>Yl.ok ht.decl
   refine Yl.bind (Wn _) fun z hz=>Yl.ok ⟨?_,by simp,by simp[tsz,ht.2.2]⟩
   simp only[okT,ht.1,hz,Bool.and_self]
theorem Sv(p:PS)(l:List By):Yl (member p l) fun x=>l7 x.1.ty:=by
 unfold member
 exact Yl.bind (Yt _ p) fun x hx=>Yl.bP fun _=>Yl.ok hx
def jR(t:Ty):Prop:=okT t=true∧tsz t≤3
theorem l7.side{t:Ty}(h:l7 t):jR t:=⟨h.1,h.2.2⟩
theorem y_arm(p:PS)(l:List By):Yl (arm p l) fun x=>jR x.1.ty:=by
 unfold arm
 refine Yl.bP fun x=>Yl.ite (fun _=>Yl.bP fun _=>Yl.ok ⟨rfl,by simp[tsz]⟩) fun _=>(Sv _ _).mono fun _ h=>h.side
theorem Yr(p:PS):Yl (side p) fun x=>jR x.1:=by
 unfold side
 exact Yl.bP fun x=>Yl.ite (fun _=>Yl.ok ⟨rfl,by simp[tsz]⟩) fun _=>(Sz _).mono fun _ h=>h.decl.side
theorem NH:∀(k:Nat) (p:PS) (ns:List By) (is:List Int),(is.all i32=true)→Yl (lg k p ns is) fun x=>x.2.1.all i32=true∧x.2.1.length≤is.length+k
 |0,_,_,_,_=>Yl.no
 |k+1,p,ns,is,h=>by
  rw[lg]
  refine Yl.bP fun _=>Yl.bP fun m=>Yl.bP fun p=>Yl.bind (Nq _ _ _ _) fun v hv=>Yl.bP fun x=>?_
  have h':(is++[v.1]).all i32=true:=by
   rw[List.all_append,h]
   simp only[List.all_cons,List.all_nil,Bool.and_true,Bool.true_and,i32,decide_eq_true_eq]
   exact hv
  refine Yl.ite (fun _=>?_) fun _=>Yl.ok ⟨h',by simp⟩
  exact(NH k _ _ _ h').mono fun a ha=>⟨ha.1,by have:=ha.2;simp at this;omega⟩
theorem IC:∀(k:Nat) (p:PS) (ds:List Decl) (l:List By),(∀d∈ds,l7 d.ty)→Yl (gU k p ds l) fun x=>(∀d∈x.1,l7 d.ty)∧x.1.length≤ds.length+k∧1≤x.1.length
 |0,_,_,_,_=>Yl.no
 |k+1,p,ds,l,h=>by
  rw[gU]
  refine Yl.bind (Sv p l) fun d hd=>Yl.bP fun x=>?_
  have h':∀a∈ds++[d.1],l7 a.ty:=fun a ha=>by
   rcases List.mem_append.mp ha with ha|ha
   ·exact h a ha
   ·rw[List.mem_singleton]at ha;subst ha;exact hd
  refine Yl.ite (fun _=>Yl.ok ⟨h',by simp,by simp⟩) fun _=>?_
  exact(IC k _ _ _ h').mono fun a ha=>⟨ha.1,by have:=ha.2.1;simp at this;omega,ha.2.2⟩
def Qv(enums:List (By×List Int)):Ty→Prop
 |.basic s=>dR s≠2
 |.named s _=>∃nums,enums.lookup s=some nums
 |_=>False
theorem NI(p:PS):Yl (gy p) fun x=>Qv p.enums x.1.1:=by
 unfold gy
 refine Yl.ite (fun _=>?_) fun _=>?_
 ·cases hl:p.enums.lookup p.w.s with
  |none=>exact Yl.no
  |some nums=>exact Yl.bP fun _=>Yl.ok ⟨nums,hl⟩
 ·refine Yl.bP fun _=>Yl.ite (fun _=>Yl.ok (by show dR _≠2;decide)) fun _=>Yl.bP fun _=>Yl.ite (fun _=>Yl.ok (by show dR _≠2;decide)) fun _=>Yl.bP fun _=>Yl.ite (fun _=>Yl.bP fun _=>Yl.ok (by show dR _≠2;decide)) fun _=>Yl.no
theorem NL(lo hi:Int)(nums:Option (List Int)):∀(k:Nat) (p:PS) (a there:List Int),Yl (lC lo hi nums k p a there) fun x=>x.1.length≤a.length+k∧a.length+1≤x.1.length∧x.2.1.length=there.length+(x.1.length - a.length)
 |0,_,_,_=>Yl.no
 |k+1,p,a,there=>by
  rw[lC]
  refine Yl.bP fun p=>Yl.bind (P:=fun v=>v.2.1=there++[v.1]) (fun v hv=>Oi hv) fun v hv=>Yl.bP fun p=>Yl.ite (fun _=>?_) fun _=>Yl.ok ?_
  ·refine(NL lo hi nums k _ _ _).mono fun x hx=>?_
   rw[hv]at hx
   simp only[List.length_append,List.length_singleton]at hx
   omega
  ·rw[hv];simp only[List.length_append,List.length_singleton];omega
theorem Ql(lo hi:Int)(nums:Option (List Int)):∀(k:Nat) (p:PS) (as:List Arm) (l:List By) (there:List Int),(∀a∈as,jR a.decl.ty∧a.nums.length≤12)→Yl (ug lo hi nums k p as l there) fun x=>(∀a∈x.1,jR a.decl.ty∧a.nums.length≤12)∧x.1.length≤as.length+k
 |0,_,_,_,_,_=>Yl.no
 |k+1,p,as,l,there,h=>by
  rw[ug]
  refine Yl.bind (NL lo hi nums _ p [] there) fun c hc=>Yl.bind (y_arm c.2.2 l) fun d hd=>?_
  have h':∀a∈as++[⟨c.1,d.1⟩],jR a.decl.ty∧a.nums.length≤12:=fun a ha=>by
   rcases List.mem_append.mp ha with ha|ha
   ·exact h a ha
   ·rw[List.mem_singleton]at ha;subst ha;exact⟨hd,by have:=hc.1;simp at this;show c.1.length≤12;omega⟩
  refine Yl.ite (fun _=>?_) fun _=>Yl.ok ⟨h',by simp⟩
  exact(Ql lo hi nums k _ _ _ _ h').mono fun a ha=>⟨ha.1,by have:=ha.2;simp at this;omega⟩
theorem Ho(p:PS)(l:List Int):Yl (numbered p l) fun x=>inRange x.1=true:=by
 unfold numbered
 refine Yl.bP fun p=>Yl.bind (Nq _ _ _ _) fun v hv=>Yl.bP fun p=>Yl.ok ?_
 simp only[inRange,decide_eq_true_eq];exact hv
def OG(q:kz):Prop:=jR q.arg∧jR q.res∧inRange q.n=true
theorem NF:∀(k:Nat) (p:PS) (qs:List kz) (l:List By) (ns:List Int),(∀q∈qs,OG q)→Yl (kR k p qs l ns) fun x=>(∀q∈x.1,OG q)∧x.1.length≤qs.length+k
 |0,_,_,_,_,_=>Yl.no
 |k+1,p,qs,l,ns,h=>by
  rw[kR]
  refine Yl.bind (Yr p) fun r hr=>Yl.bP fun nm=>Yl.bP fun p=>Yl.bind (Yr p) fun a ha=>Yl.bP fun p=>Yl.bind (Ho p ns) fun n hn=>Yl.bP fun x=>?_
  have h':∀q∈qs++[⟨nm.1.s,n.1,a.1,r.1⟩],OG q:=fun q hq=>by
   rcases List.mem_append.mp hq with hq|hq
   ·exact h q hq
   ·rw[List.mem_singleton]at hq;subst hq;exact⟨ha,hr,hn⟩
  refine Yl.ite (fun _=>Yl.ok ⟨h',by simp⟩) fun _=>?_
  exact(NF k _ _ _ _ h').mono fun a ha=>⟨ha.1,by have:=ha.2;simp at this;omega⟩
def DN(v:mZ):Prop:=(∀q∈v.procs,OG q)∧v.procs.length≤8∧inRange v.n=true
theorem Xm(p:PS)(names:List By)(nums:List Int):Yl (version p names nums) fun x=>DN x.1:=by
 unfold version
 refine Yl.bP fun p=>Yl.bP fun nm=>Yl.bP fun p=>Yl.bind (NF 8 p [] [] [] (fun q h=>by cases h)) fun x hx=>Yl.bind (Ho _ _) fun n hn=>Yl.ok ⟨hx.1,by have:=hx.2;simpa using this,hn⟩
theorem ND:∀(k:Nat) (p:PS) (vs:List mZ) (l:List By) (ns:List Int),(∀v∈vs,DN v)→Yl (kE k p vs l ns) fun x=>(∀v∈x.1,DN v)∧x.1.length≤vs.length+k
 |0,_,_,_,_,_=>Yl.no
 |k+1,p,vs,l,ns,h=>by
  rw[kE]
  refine Yl.bind (Xm p l ns) fun v hv=>Yl.bP fun x=>?_
  have h':∀a∈vs++[v.1],DN a:=fun a ha=>by
   rcases List.mem_append.mp ha with ha|ha
   ·exact h a ha
   ·rw[List.mem_singleton]at ha;subst ha;exact hv
  refine Yl.ite (fun _=>Yl.ok ⟨h',by simp⟩) fun _=>?_
  exact(ND k _ _ _ _ h').mono fun a ha=>⟨ha.1,by have:=ha.2;simp at this;omega⟩
def U0(enums:List (By×List Int)):Dk→Prop
 |.const _=>True
 |.alias t=>l7 t
 |.enum _ nums=>nums.all i32=true∧nums.length≤12
 |.struct ds=>(∀d∈ds,l7 d.ty)∧1≤ds.length∧ds.length≤12
 |.union of _ arms els=>Qv enums of∧(∀a∈arms,jR a.decl.ty∧a.nums.length≤12)∧arms.length≤13∧(∀d,els=some d→jR d.ty)
 |.prog n vs=>inRange n=true∧(∀v∈vs,DN v)∧vs.length≤4
end Go.M
namespace Go.M
def ne(p:PS):List By×List (By×List Int):=(p.names,p.enums)
abbrev NE:=List By×List (By×List Int)
theorem tN{p q:PS}(h:advance p=.ok q):ne q=ne p:=by
 obtain⟨x,_,h2⟩:=Res.then_ok h
 cases h2;rfl
theorem dF:∀{l:List By} {p q:PS},want p l=.ok q→ne q=ne p
 |[],p,q,h=>by cases h;rfl
 |s::r,p,q,h=>by
  rw[want]at h
  split at h
  ·obtain⟨x,h1,h2⟩:=Res.then_ok h
   exact(dF h2).trans (tN h1)
  ·cases h
theorem O0{σ:Type}{p:PS}{lo hi:Int}{keep:Int→Nat→Res σ}{x:Int×σ×PS}(h:value p lo hi keep=.ok x):ne x.2.2=ne p:=by
 obtain⟨n,h1,h⟩:=Res.then_ok h
 split at h
 ·cases h
 obtain⟨s,h2,h⟩:=Res.then_ok h
 obtain⟨q,h3,h⟩:=Res.then_ok h
 cases h
 exact tN h3
def Ke{α:Type}(m:Res α)(f:α→NE)(n:NE):Prop:=∀a,m=.ok a→f a=n
theorem Ke.ok{α:Type}{a:α}{f:α→NE}{n:NE}(h:f a=n):Ke (.ok a) f n:=fun b hb=>by cases hb;exact h
theorem Ke.no{α:Type}{e a:Nat}{f:α→NE}{n:NE}:Ke (.no e a) f n:=fun b hb=>by cases hb
theorem Ke.ite{α:Type}{c:Prop}[Decidable c]{A B:Res α}{f:α→NE}{n:NE}(h1:Ke A f n)(h2:Ke B f n):Ke (if c then A else B) f n:=by
 split
 ·exact h1
 ·exact h2
theorem Ke.bind{α β:Type}{m:Res α}{k:α→Res β}{f:β→NE}{n n1:NE}(g:α→NE)(h1:Ke m g n1)(h2:∀a,g a=n1→Ke (k a) f n):Ke (m.andThen k) f n:=fun b hb=>by
 obtain⟨a,ha,hk⟩:=Res.then_ok hb
 exact h2 a (h1 a ha) b hk
variable {n:NE} {p:PS}
theorem yu{q:PS}(a b:Nat):Ke (count q a b) (fun _=>n) n:=fun _ _=>rfl
theorem gW(h:ne p=n):Ke (advance p) ne n:=fun q hq=>(tN hq).trans h
theorem lL{l:List By}(h:ne p=n):Ke (want p l) ne n:=fun q hq=>(dF hq).trans h
theorem vk{σ:Type}{lo hi:Int}{k:Int→Nat→Res σ}(h:ne p=n):Ke (value p lo hi k) (fun x=>ne x.2.2) n:=fun q hq=>(O0 hq).trans h
theorem jc{s:By}(h:ne p=n):Ke (take p s) (fun x=>ne x.2) n:=by
 unfold take
 refine Ke.ite ?_ (Ke.ok h)
 exact Ke.bind _ (gW h) fun q hq=>Ke.ok hq
theorem jo{l:List By}(h:ne p=n):Ke (called p l) (fun x=>ne x.2.2) n:=by
 unfold called
 refine Ke.bind (fun _=>n) (fun _ _=>rfl) fun w _=>Ke.bind (fun _=>n) (fun _ _=>rfl) fun l _=>?_
 (repeat' (first|exact Ke.no|exact Ke.ok (by assumption)|refine Ke.ite ?_ ?_|refine Ke.bind _ (yu _ _) fun _ _=>?_|refine Ke.bind _ (lL (by assumption)) fun _ _=>?_|refine Ke.bind _ (gW (by assumption)) fun _ _=>?_|refine Ke.bind _ (jc (by assumption)) fun _ _=>?_|refine Ke.bind _ (jo (by assumption)) fun _ _=>?_|refine Ke.bind _ (vk (by assumption)) fun _ _=>?_))
theorem KJ(h:ne p=n):Ke (kindOf p) (fun x=>ne x.2) n:=by
 unfold kindOf
 (repeat' (first|exact Ke.no|exact Ke.ok (by assumption)|refine Ke.ite ?_ ?_|refine Ke.bind _ (yu _ _) fun _ _=>?_|refine Ke.bind _ (lL (by assumption)) fun _ _=>?_|refine Ke.bind _ (gW (by assumption)) fun _ _=>?_|refine Ke.bind _ (jc (by assumption)) fun _ _=>?_|refine Ke.bind _ (jo (by assumption)) fun _ _=>?_|refine Ke.bind _ (vk (by assumption)) fun _ _=>?_))
theorem Jw(h:ne p=n):Ke (bound p) (fun x=>ne x.2.2) n:=by
 unfold bound
 (repeat' (first|exact Ke.no|exact Ke.ok (by assumption)|refine Ke.ite ?_ ?_|refine Ke.bind _ (yu _ _) fun _ _=>?_|refine Ke.bind _ (lL (by assumption)) fun _ _=>?_|refine Ke.bind _ (gW (by assumption)) fun _ _=>?_|refine Ke.bind _ (jc (by assumption)) fun _ _=>?_|refine Ke.bind _ (jo (by assumption)) fun _ _=>?_|refine Ke.bind _ (vk (by assumption)) fun _ _=>?_))
theorem abL{σ:Type}{n':NE}{nm:PS→Res (Wd×σ×PS)}(hn:∀q,ne q=n→Ke (nm q) (fun x=>ne x.2.2) n')(h:ne p=n):Ke (decl nm p) (fun x=>ne x.2.2.2) n':=by
 unfold decl
 refine Ke.ite ?_ ?_
 ·refine Ke.bind _ (gW h) fun q hq=>Ke.bind _ (hn q hq) fun x hx=>Ke.ite Ke.no ?_
  refine Ke.bind _ (Jw hx) fun y hy=>Ke.ok hy
 ·refine Ke.bind _ (KJ h) fun t ht=>Ke.bind _ (jc ht) fun y hy=>Ke.ite ?_ ?_
  ·refine Ke.bind _ (hn _ hy) fun x hx=>Ke.ok hx
  ·refine Ke.bind _ (hn _ hy) fun x hx=>Ke.ite ?_ (Ke.ok hx)
   refine Ke.bind _ (Jw hx) fun y hy=>Ke.ok hy
theorem QA{l:List By}(h:ne p=n):Ke (member p l) (fun x=>ne x.2.2) n:=by
 unfold member
 refine Ke.bind _ (abL (fun q hq=>jo hq) h) fun x hx=>?_
 (repeat' (first|exact Ke.no|exact Ke.ok (by assumption)|refine Ke.ite ?_ ?_|refine Ke.bind _ (yu _ _) fun _ _=>?_|refine Ke.bind _ (lL (by assumption)) fun _ _=>?_|refine Ke.bind _ (gW (by assumption)) fun _ _=>?_|refine Ke.bind _ (jc (by assumption)) fun _ _=>?_|refine Ke.bind _ (jo (by assumption)) fun _ _=>?_|refine Ke.bind _ (vk (by assumption)) fun _ _=>?_))
theorem He:∀(k:Nat) {p:PS} {ds:List Decl} {l:List By},ne p=n→Ke (gU k p ds l) (fun x=>ne x.2) n
 |0,_,_,_,_=>Ke.no
 |k+1,p,ds,l,h=>by
  rw[gU]
  refine Ke.bind _ (QA h) fun d hd=>Ke.bind _ (jc hd) fun x hx=>Ke.ite (Ke.ok hx) (He k hx)
theorem Nj(h:ne p=n):Ke (gy p) (fun x=>ne x.2) n:=by
 unfold gy
 refine Ke.ite ?_ ?_
 ·cases p.enums.lookup p.w.s with
  |none=>exact Ke.no
  |some l=>exact Ke.bind _ (gW h) fun q hq=>Ke.ok hq
 ·(repeat' (first|exact Ke.no|exact Ke.ok (by assumption)|refine Ke.ite ?_ ?_|refine Ke.bind _ (yu _ _) fun _ _=>?_|refine Ke.bind _ (lL (by assumption)) fun _ _=>?_|refine Ke.bind _ (gW (by assumption)) fun _ _=>?_|refine Ke.bind _ (jc (by assumption)) fun _ _=>?_|refine Ke.bind _ (jo (by assumption)) fun _ _=>?_|refine Ke.bind _ (vk (by assumption)) fun _ _=>?_))
theorem Zy{l:List By}(h:ne p=n):Ke (arm p l) (fun x=>ne x.2.2) n:=by
 unfold arm
 refine Ke.bind _ (jc h) fun x hx=>Ke.ite ?_ (QA hx)
 (repeat' (first|exact Ke.no|exact Ke.ok (by assumption)|refine Ke.ite ?_ ?_|refine Ke.bind _ (yu _ _) fun _ _=>?_|refine Ke.bind _ (lL (by assumption)) fun _ _=>?_|refine Ke.bind _ (gW (by assumption)) fun _ _=>?_|refine Ke.bind _ (jc (by assumption)) fun _ _=>?_|refine Ke.bind _ (jo (by assumption)) fun _ _=>?_|refine Ke.bind _ (vk (by assumption)) fun _ _=>?_))
theorem Md{lo hi:Int}{nums:Option (List Int)}:∀(k:Nat) {p:PS} {a t:List Int},ne p=n→Ke (lC lo hi nums k p a t) (fun x=>ne x.2.2) n
 |0,_,_,_,_=>Ke.no
 |k+1,p,a,t,h=>by
  rw[lC]
  refine Ke.bind _ (lL h) fun q hq=>Ke.bind _ (vk hq) fun v hv=>Ke.bind _ (lL hv) fun q hq=>Ke.ite (Md k hq) (Ke.ok hq)
theorem O5{lo hi:Int}{nums:Option (List Int)}:∀(k:Nat) {p:PS} {ar:List Arm} {l:List By} {t:List Int},ne p=n→Ke (ug lo hi nums k p ar l t) (fun x=>ne x.2.2) n
 |0,_,_,_,_,_=>Ke.no
 |k+1,p,ar,l,t,h=>by
  rw[ug]
  refine Ke.bind _ (Md _ h) fun c hc=>Ke.bind _ (Zy hc) fun d hd=>Ke.ite (O5 k hd) (Ke.ok hd)
theorem WX(h:ne p=n):Ke (side p) (fun x=>ne x.2) n:=by
 unfold side
 exact Ke.bind _ (jc h) fun x hx=>Ke.ite (Ke.ok hx) (KJ hx)
theorem Ff{l:List Int}(h:ne p=n):Ke (numbered p l) (fun x=>ne x.2.2) n:=by
 unfold numbered
 (repeat' (first|exact Ke.no|exact Ke.ok (by assumption)|refine Ke.ite ?_ ?_|refine Ke.bind _ (yu _ _) fun _ _=>?_|refine Ke.bind _ (lL (by assumption)) fun _ _=>?_|refine Ke.bind _ (gW (by assumption)) fun _ _=>?_|refine Ke.bind _ (jc (by assumption)) fun _ _=>?_|refine Ke.bind _ (jo (by assumption)) fun _ _=>?_|refine Ke.bind _ (vk (by assumption)) fun _ _=>?_))
theorem Mc:∀(k:Nat) {p:PS} {qs:List kz} {l:List By} {t:List Int},ne p=n→Ke (kR k p qs l t) (fun x=>ne x.2) n
 |0,_,_,_,_,_=>Ke.no
 |k+1,p,qs,l,t,h=>by
  rw[kR]
  refine Ke.bind _ (WX h) fun r hr=>Ke.bind _ (jo hr) fun m hm=>Ke.bind _ (lL hm) fun q hq=>Ke.bind _ (WX hq) fun a ha=>Ke.bind _ (lL ha) fun q hq=>Ke.bind _ (Ff hq) fun v hv=>Ke.bind _ (jc hv) fun x hx=>Ke.ite (Ke.ok hx) (Mc k hx)
theorem VN{l:List By}{t:List Int}(h:ne p=n):Ke (version p l t) (fun x=>ne x.2.2.2) n:=by
 unfold version
 refine Ke.bind _ (lL h) fun q hq=>Ke.bind _ (jo hq) fun m hm=>Ke.bind _ (lL hm) fun q hq=>Ke.bind _ (Mc 8 hq) fun x hx=>Ke.bind _ (Ff hx) fun v hv=>Ke.ok hv
theorem L8:∀(k:Nat) {p:PS} {vs:List mZ} {l:List By} {t:List Int},ne p=n→Ke (kE k p vs l t) (fun x=>ne x.2) n
 |0,_,_,_,_,_=>Ke.no
 |k+1,p,vs,l,t,h=>by
  rw[kE]
  refine Ke.bind _ (VN h) fun v hv=>Ke.bind _ (jc hv) fun x hx=>Ke.ite (Ke.ok hx) (L8 k hx)
theorem yX{p:PS}{x:Wd×PS}(h:own p=.ok x):x.1.s ∉ p.names∧ne x.2=(p.names++[x.1.s],p.enums):=by
 obtain⟨w,h1,h⟩:=Res.then_ok h
 obtain⟨l,h2,h⟩:=Res.then_ok h
 obtain⟨q,h3,h⟩:=Res.then_ok h
 cases h
 simp only[once]at h2
 split at h2
 ·cases h2
 ·rename_i hc
  cases h2
  exact⟨by simpa using hc,(tN h3).trans rfl⟩
end Go.M
namespace Go.M
theorem aaG{σ:Type}{p:PS}{n:NE}{K:By→NE→Prop}{nm:PS→Res (Wd×σ×PS)}(hn:∀q,ne q=n→Yl (nm q) fun x=>K x.1.s (ne x.2.2))(h:ne p=n):Yl (decl nm p) fun x=>K x.2.1.s (ne x.2.2.2):=by
 unfold decl
 refine Yl.ite (fun _=>?_) fun _=>?_
 ·refine Yl.bind (gW h) fun q hq=>Yl.bind (hn q hq) fun x hx=>Yl.ite (fun _=>Yl.no) fun _=>?_
  refine Yl.bind (Jw (p:=x.2.2) (n:=ne x.2.2) rfl) fun y hy=>Yl.ok ?_
  show K x.1.s (ne y.2.2)
  rw[show ne y.2.2=ne x.2.2 from hy];exact hx
 ·refine Yl.bind (KJ h) fun t ht=>Yl.bind (jc ht) fun y hy=>Yl.ite (fun _=>?_) fun _=>?_
  ·exact Yl.bind (hn _ hy) fun x hx=>Yl.ok hx
  ·refine Yl.bind (hn _ hy) fun x hx=>Yl.ite (fun _=>?_) fun _=>Yl.ok hx
   refine Yl.bind (Jw (p:=x.2.2) (n:=ne x.2.2) rfl) fun y hy=>Yl.ok ?_
   show K x.1.s (ne y.2.2)
   rw[show ne y.2.2=ne x.2.2 from hy];exact hx
structure Dfn (p:PS) (x:Def×PS):Prop where
 new:x.1.name ∉ p.names
 more:∀s,s∈p.names→s∈x.2.names
 its:x.1.name∈x.2.names
 enums:x.2.enums=p.enums∨∃ns nums,x.1.k=.enum ns nums∧x.2.enums=aS p.enums x.1.name nums
 ok:U0 p.enums x.1.k
theorem EL{p q:PS}(h:ne q=ne p):q.names=p.names:=congrArg Prod.fst h
theorem xU{p q:PS}(h:ne q=ne p):q.enums=p.enums:=congrArg Prod.snd h
theorem Dfn.mk'{p q1 w r:PS}{d:Def}(e1:ne q1=ne p)(hn:d.name ∉ q1.names∧ne w=(q1.names++[d.name],q1.enums))(e2:ne r=ne w)(ok:U0 p.enums d.k):Dfn p (d,r):=by
 have en:=EL e1
 have ee:=xU e1
 have hr:ne r=(q1.names++[d.name],q1.enums):=e2.trans hn.2
 have hr1:r.names=q1.names++[d.name]:=congrArg Prod.fst hr
 have hr2:r.enums=q1.enums:=congrArg Prod.snd hr
 refine⟨by rw[← en];exact hn.1,fun s hs=>?_,?_,Or.inl (hr2.trans ee),ok⟩
 ·show s∈r.names
  rw[hr1,en];exact List.mem_append_left _ hs
 ·show d.name∈r.names
  rw[hr1];exact List.mem_append_right _ (List.mem_singleton_self _)
theorem RV{p:PS}{x:Def×PS}(h:constant p=.ok x):Dfn p x:=by
 obtain⟨_,_,h⟩:=Res.then_ok h
 obtain⟨q1,h1,h⟩:=Res.then_ok h
 obtain⟨q2,h2,h⟩:=Res.then_ok h
 obtain⟨q3,h3,h⟩:=Res.then_ok h
 obtain⟨q4,h4,h⟩:=Res.then_ok h
 obtain⟨q5,h5,h⟩:=Res.then_ok h
 cases h
 exact Dfn.mk' (d:=⟨_,_,_⟩) (dF h1) (yX h2) (r:={ q5 with n1:=q5.n1+1,consts:=_ }) ((dF h5).trans ((O0 h4).trans (dF h3))) trivial
theorem Yi{p:PS}{x:Def×PS}(h:alias p=.ok x):Dfn p x:=by
 obtain⟨q1,h1,h⟩:=Res.then_ok h
 obtain⟨d,h2,h⟩:=Res.then_ok h
 obtain⟨q3,h3,h⟩:=Res.then_ok h
 cases h
 have hK:=aaG (K:=fun s m=>s ∉ q1.names∧m=(q1.names++[s],q1.enums)) (nm:=OZ) (p:=q1) (n:=ne q1) (fun q hq=>by
  unfold OZ
  refine Yl.bind (P:=fun x=>x.1.s ∉ q.names∧ne x.2=(q.names++[x.1.s],q.enums)) (fun a ha=>yX ha) fun a ha=>Yl.ok ?_
  rw[EL hq,xU hq]at ha
  exact ha) rfl _ h2
 exact Dfn.mk' (d:=⟨_,_,_⟩) (dF h1) hK (dF h3) (Yt _ _ _ h2)
theorem VV{p:PS}{x:Def×PS}(h:nH p=.ok x):Dfn p x:=by
 obtain⟨q1,h1,h⟩:=Res.then_ok h
 obtain⟨q2,h2,h⟩:=Res.then_ok h
 obtain⟨q3,h3,h⟩:=Res.then_ok h
 obtain⟨q4,h4,h⟩:=Res.then_ok h
 obtain⟨q5,h5,h⟩:=Res.then_ok h
 cases h
 have hs:=IC 12 _ _ _ (fun d hd=>by cases hd) _ h4
 exact Dfn.mk' (d:=⟨_,_,_⟩) (dF h1) (yX h2) ((dF h5).trans ((He 12 rfl _ h4).trans (dF h3))) ⟨hs.1,hs.2.2,by have:=hs.2.1;simpa using this⟩
theorem Yh{p:PS}{x:Def×PS}(h:union p=.ok x):Dfn p x:=by
 obtain⟨q1,h1,h⟩:=Res.then_ok h
 obtain⟨q2,h2,h⟩:=Res.then_ok h
 obtain⟨q3,h3,h⟩:=Res.then_ok h
 obtain⟨q4,h4,h⟩:=Res.then_ok h
 obtain⟨q5,h5,h⟩:=Res.then_ok h
 obtain⟨q6,h6,h⟩:=Res.then_ok h
 obtain⟨q7,h7,h⟩:=Res.then_ok h
 obtain⟨q8,h8,h⟩:=Res.then_ok h
 obtain⟨q9,h9,h⟩:=Res.then_ok h
 obtain⟨q10,h10,h⟩:=Res.then_ok h
 cases h
 have a8:ne q8.2=ne q2.2:=(jc rfl _ h8).trans ((O5 13 rfl _ h7).trans ((dF h6).trans ((jo rfl _ h5).trans ((Nj rfl _ h4).trans (dF h3)))))
 have h9':(ne q9.2=ne q8.2)∧∀d,q9.1=some d→jR d.ty:=by
  split at h9
  ·obtain⟨r1,g1,h9⟩:=Res.then_ok h9
   obtain⟨r2,g2,h9⟩:=Res.then_ok h9
   cases h9
   exact⟨(Zy rfl _ g2).trans (dF g1),fun d hd=>by cases hd;exact y_arm _ _ _ g2⟩
  ·cases h9
   exact⟨rfl,fun d hd=>by cases hd⟩
 have hd:=NI _ _ h4
 have he:q3.enums=p.enums:=by
  rw[xU (dF h3)]
  rw[show q2.2.enums=q1.enums from congrArg Prod.snd (yX h2).2,xU (dF h1)]
 have ha:=Ql _ _ _ 13 _ _ _ _ (fun a ha=>by cases ha) _ h7
 exact Dfn.mk' (d:=⟨_,_,_⟩) (dF h1) (yX h2) ((dF h10).trans (h9'.1.trans a8)) ⟨by rw[← he];exact hd,ha.1,by have:=ha.2;simpa using this,h9'.2⟩
theorem UA{p:PS}{x:Def×PS}(h:program p=.ok x):Dfn p x:=by
 obtain⟨_,_,h⟩:=Res.then_ok h
 obtain⟨q1,h1,h⟩:=Res.then_ok h
 obtain⟨q2,h2,h⟩:=Res.then_ok h
 obtain⟨q3,h3,h⟩:=Res.then_ok h
 obtain⟨q4,h4,h⟩:=Res.then_ok h
 obtain⟨q5,h5,h⟩:=Res.then_ok h
 cases h
 have hv:=ND 4 _ _ _ _ (fun v hv=>by cases hv) _ h4
 exact Dfn.mk' (d:=⟨_,_,_⟩) (w:=q2.2) (r:={ q5.2.2 with jy:=q5.2.1 }) ((dF h1).trans rfl) (yX h2) ((show ne { q5.2.2 with jy:=q5.2.1 }=ne q5.2.2 from rfl).trans ((Ff rfl _ h5).trans ((L8 4 rfl _ h4).trans (dF h3))))
  ⟨Ho _ _ _ h5,hv.1,by have:=hv.2;simpa using this⟩
theorem Fg:∀(k:Nat) {p:PS} {ns:List By} {is:List Int} {x:List By×List Int×PS},lg k p ns is=.ok x→(∀s,s∈p.names→s∈x.2.2.names)∧x.2.2.enums=p.enums∧x.2.2.n0=p.n0
 |0,_,_,_,_,h=>by cases h
 |k+1,p,ns,is,x,h=>by
  rw[lg]at h
  obtain⟨_,_,h⟩:=Res.then_ok h
  obtain⟨q1,h1,h⟩:=Res.then_ok h
  obtain⟨q2,h2,h⟩:=Res.then_ok h
  obtain⟨q3,h3,h⟩:=Res.then_ok h
  obtain⟨q4,h4,h⟩:=Res.then_ok h
  have e1:=yX h1
  have e3:ne q3.2.2=ne q1.2:=(O0 h3).trans (dF h2)
  have e4:ne q4.2=ne { q3.2.2 with n1:=q3.2.2.n1+1,consts:=aS q3.2.2.consts q1.1.s q3.1 }:=jc rfl _ h4
  have e5:ne q4.2=(p.names++[q1.1.s],p.enums):=e4.trans (e3.trans e1.2)
  have e0:q4.2.n0=p.n0:=by
   have a1:=(xQ h3).trans ((dI h2).trans (xR h1))
   have a2:nn q4.2=nn { q3.2.2 with n1:=q3.2.2.n1+1,consts:=aS q3.2.2.consts q1.1.s q3.1 }:=gu rfl _ h4
   have b1:q3.2.2.n0=p.n0:=congrArg Prod.fst a1
   have b2:q4.2.n0=q3.2.2.n0:=congrArg Prod.fst a2
   omega
  have en:q4.2.names=p.names++[q1.1.s]:=congrArg Prod.fst e5
  have ee:q4.2.enums=p.enums:=congrArg Prod.snd e5
  split at h
  ·obtain⟨g1,g2,g3⟩:=Fg k h
   exact⟨fun s hs=>g1 s (by rw[en];exact List.mem_append_left _ hs),g2.trans ee,g3.trans e0⟩
  ·cases h
   exact⟨fun s hs=>by show s∈q4.2.names;rw[en];exact List.mem_append_left _ hs,ee,e0⟩
theorem UB{p:PS}{x:Def×PS}(h:enum p=.ok x):Dfn p x∧x.2.n0=p.n0:=by
 obtain⟨q1,h1,h⟩:=Res.then_ok h
 obtain⟨q2,h2,h⟩:=Res.then_ok h
 obtain⟨q3,h3,h⟩:=Res.then_ok h
 obtain⟨q4,h4,h⟩:=Res.then_ok h
 obtain⟨q5,h5,h⟩:=Res.then_ok h
 cases h
 have hl:=NH 12 _ [] [] rfl _ h4
 obtain⟨g1,g2,g3⟩:=Fg 12 h4
 have e2:=yX h2
 have e3:ne q3=(q1.names++[q2.1.s],q1.enums):=(dF h3).trans e2.2
 have en1:=EL (dF h1)
 have ee1:=xU (dF h1)
 have en3:q3.names=q1.names++[q2.1.s]:=congrArg Prod.fst e3
 have ee3:q3.enums=q1.enums:=congrArg Prod.snd e3
 have en5:=EL (dF h5)
 have ee5:q5.enums=p.enums:=(xU (dF h5)).trans (g2.trans (ee3.trans ee1))
 refine⟨⟨by show q2.1.s ∉ p.names;rw[← en1];exact e2.1,fun s hs=>?_,?_,Or.inr ⟨_,_,rfl,?_⟩,⟨hl.1,by have:=hl.2;simpa using this⟩⟩,?_⟩
 ·show s∈q5.names
  rw[en5];exact g1 s (by rw[en3,en1];exact List.mem_append_left _ hs)
 ·show q2.1.s∈q5.names
  rw[en5];exact g1 _ (by rw[en3];exact List.mem_append_right _ (List.mem_singleton_self _))
 ·show aS q5.enums _ _=_
  rw[ee5]
 ·show q5.n0=p.n0
  have a1:q5.n0=q4.2.2.n0:=congrArg Prod.fst (dI h5)
  have a2:q3.n0=p.n0:=congrArg Prod.fst ((dI h3).trans ((xR h2).trans (dI h1)))
  omega
def nest:Dk→Bool
 |.alias _=>true
 |.struct _=>true
 |.union _ _ _ _=>true
 |_=>false
theorem TS{p:PS}{x:Def×PS}(h:constant p=.ok x):nest x.1.k=false∧x.2.n0=p.n0:=by
 obtain⟨_,_,h⟩:=Res.then_ok h
 obtain⟨q1,h1,h⟩:=Res.then_ok h
 obtain⟨q2,h2,h⟩:=Res.then_ok h
 obtain⟨q3,h3,h⟩:=Res.then_ok h
 obtain⟨q4,h4,h⟩:=Res.then_ok h
 obtain⟨q5,h5,h⟩:=Res.then_ok h
 cases h
 exact⟨rfl,(congrArg Prod.fst ((dI h5).trans ((xQ h4).trans ((dI h3).trans ((xR h2).trans (dI h1))))):q5.n0=p.n0)⟩
theorem VF{p:PS}{x:Def×PS}(h:program p=.ok x):nest x.1.k=false∧x.2.n0=p.n0:=by
 obtain⟨_,_,h⟩:=Res.then_ok h
 obtain⟨q1,h1,h⟩:=Res.then_ok h
 obtain⟨q2,h2,h⟩:=Res.then_ok h
 obtain⟨q3,h3,h⟩:=Res.then_ok h
 obtain⟨q4,h4,h⟩:=Res.then_ok h
 obtain⟨q5,h5,h⟩:=Res.then_ok h
 cases h
 exact⟨rfl,(congrArg Prod.fst ((y8 rfl _ h5).trans ((Fb 4 rfl _ h4).trans ((dI h3).trans ((xR h2).trans (dI h1))))):q5.2.2.n0=p.n0)⟩
theorem QN{p:PS}{x:Def×PS}(h:definition p=.ok x):Dfn p x∧p.n0+(if nest x.1.k then 1 else 0)≤x.2.n0∧(nest x.1.k=true→p.n0<24):=by
 have up:∀{f:PS→Res (Def×PS)},((count p p.n0 24).andThen fun _=>f { p with n0:=p.n0+1 })=.ok x→p.n0<24∧f { p with n0:=p.n0+1 }=.ok x:=by
  intro f h
  obtain⟨_,h1,h⟩:=Res.then_ok h
  exact⟨iQ h1,h⟩
 have same:Dfn { p with n0:=p.n0+1 } x→Dfn p x:=fun d=>⟨d.new,d.more,d.its,d.enums,d.ok⟩
 have one:(if nest x.1.k then 1 else 0)≤1:=by split<;>omega
 have fin:p.n0<24→Dfn { p with n0:=p.n0+1 } x→x.2.n0=p.n0+1→Dfn p x∧p.n0+(if nest x.1.k then 1 else 0)≤x.2.n0∧(nest x.1.k=true→p.n0<24):=fun a b c=>⟨same b,by omega,fun _=>a⟩
 have fin0:Dfn p x→(nest x.1.k=false∧x.2.n0=p.n0)→Dfn p x∧p.n0+(if nest x.1.k then 1 else 0)≤x.2.n0∧(nest x.1.k=true→p.n0<24):=fun a b=>⟨a,by rw[b.1,b.2];simp,fun c=>by rw[b.1]at c;cases c⟩
 unfold definition at h
 split at h
 ·exact fin0 (RV h) (TS h)
 split at h
 ·exact fin0 (UA h) (VF h)
 simp only at h
 split at h
 ·obtain⟨a,h⟩:=up h;exact fin a (Yi h) (congrArg Prod.fst (Ue rfl _ h))
 split at h
 ·obtain⟨a,h⟩:=up h;exact fin a (UB h).1 (UB h).2
 split at h
 ·obtain⟨a,h⟩:=up h;exact fin a (VV h) (congrArg Prod.fst (Qw rfl _ h))
 split at h
 ·obtain⟨a,h⟩:=up h;exact fin a (Yh h) (congrArg Prod.fst (Uc rfl _ h))
 cases h
end Go.M
namespace Go.M
def leads:Dk→List Ty
 |.alias t=>[t]
 |.struct ds=>ds.map (·.ty)
 |.union _ _ arms els=>arms.map (·.decl.ty)++(els.map (·.ty)).toList
 |_=>[]
variable {defs:List (By×Def)} {goal:By}
end Go.M
namespace Go.M
theorem vg{α β:Type}[BEq α][LawfulBEq α]:∀{m:List (α×β)} {a:α} {v:β},m.lookup a=some v→(a,v)∈m
 |[],_,_,h=>by cases h
 |x::r,a,v,h=>by
  obtain⟨k,w⟩:=x
  rw[List.lookup_cons]at h
  cases hb:a==k with
  |true=>rw[hb]at h;cases h;rw[eq_of_beq hb];exact List.mem_cons_self ..
  |false=>rw[hb]at h;exact List.mem_cons_of_mem _ (vg h)
theorem LV{α β:Type}[BEq α]:∀(m:List (α×β)) (a:α) (v:β),(aS m a v).length≤m.length+1
 |[],_,_=>Nat.le_refl _
 |x::r,a,v=>by
  rw[aS]
  split
  ·simp
  ·have:=LV r a v
   simp only[List.length_cons];omega
theorem yV(g v:Int):∀(l:List kz) (c:CS),(cu g v c l).defs=c.defs∧(cu g v c l).start=c.start
 |[],_=>⟨rfl,rfl⟩
 |q::r,c=>by
  rw[cu]
  refine⟨(yV g v r _).1.trans ?_,(yV g v r _).2.trans ?_⟩
  ·show (dO q.arg (dO q.res c)).defs=c.defs
   rw[iI,iI];rfl
  ·show (dO q.arg (dO q.res c)).start=c.start
   rw[iI,iI];rfl
theorem Bj(g:Int):∀(l:List mZ) (c:CS),(dh g c l).defs=c.defs∧(dh g c l).start=c.start
 |[],_=>⟨rfl,rfl⟩
 |v::r,c=>by
  rw[dh]
  exact⟨(Bj g r _).1.trans (yV g v.n v.procs _).1,(Bj g r _).2.trans (yV g v.n v.procs _).2⟩
theorem Lr(g:Int):∀(l:List mZ) (c:CS) (N:Nat),(∀x∈c.aV,x.2.length≤N)→∀x∈(dh g c l).aV,x.2.length≤N+l.length
 |[],c,N,h=>h
 |v::r,c,N,h=>by
  rw[dh]
  intro x hx
  have:=Lr g r _ (N+1) (fun y hy=>by
   rw[yU]at hy
   rcases AQ hy with hy|hy
   ·exact Nat.le_succ_of_le (h y hy)
   ·rw[hy]
    simp only[List.length_append,List.length_singleton]
    cases hl:c.aV.lookup g with
    |none=>simp
    |some l=>have:=h _ (vg hl);simp only[Option.getD_some];simp only at this;omega) x hx
  rw[List.length_cons];omega
structure Step (c:CS) (d:Def):Prop where
 defs:(fA c d).defs=aS c.defs d.name d
 start:(fA c d).start=c.start∨∃n,(fA c d).start=aS c.start d.name n
 aV:(∃n vs,d.k=.prog n vs∧(fA c d).aV=(dh n { c with defs:=aS c.defs d.name d } vs).aV)∨(fA c d).aV=c.aV
theorem step(c:CS)(d:Def):Step c d:=by
 cases ht:isType d.k with
 |false=>
  cases hk:d.k with
  |prog n vs=>
   have e:fA c d=dh n { c with defs:=aS c.defs d.name d } vs:=by unfold fA;rw[hk]
   exact⟨by rw[e];exact(Bj _ _ _).1,Or.inl (by rw[e];exact(Bj _ _ _).2),Or.inl ⟨n,vs,hk,by rw[e]⟩⟩
  |const n=>
   have e:fA c d={ c with defs:=aS c.defs d.name d }:=by unfold fA;rw[hk];simp only;rw[lq _ _ ht]
   exact⟨by rw[e],Or.inl (by rw[e]),Or.inr (by rw[e])⟩
  |_=>rw[hk]at ht;cases ht
 |true=>
  have e:fA c d=dY d { c with defs:=aS c.defs d.name d }:=by
   unfold fA
   cases hk:d.k with
   |prog n vs=>rw[hk]at ht;cases ht
   |_=>rfl
  rw[nT _ _ ht]at e
  exact⟨by rw[e];rfl,Or.inr ⟨_,by rw[e];rfl⟩,Or.inr (by rw[e];rfl)⟩
theorem QI:∀(l:List Arm),(∀a∈l,jR a.decl.ty∧a.nums.length≤12)→aJ l≤4*l.length
 |[],_=>Nat.le_refl _
 |a::r,h=>by
  have h1:=(h a (List.mem_cons_self ..)).1.2
  have:=QI r fun x hx=>h x (List.mem_cons_of_mem _ hx)
  rw[aJ,List.length_cons];omega
theorem OH:∀(l:List Decl),(∀d∈l,l7 d.ty)→dX l≤3*l.length
 |[],_=>Nat.le_refl _
 |a::r,h=>by
  have h1:=(h a (List.mem_cons_self ..)).2.2
  have:=OH r fun x hx=>h x (List.mem_cons_of_mem _ hx)
  rw[dX,List.length_cons];omega
theorem OE:∀(l:List kz),(∀q∈l,OG q)→ik l≤8*l.length
 |[],_=>Nat.le_refl _
 |a::r,h=>by
  obtain⟨h1,h2,_⟩:=h a (List.mem_cons_self ..)
  have h1:=h1.2
  have h2:=h2.2
  have:=OE r fun x hx=>h x (List.mem_cons_of_mem _ hx)
  rw[ik,List.length_cons,zl,zl];omega
theorem Qq:∀(l:List mZ),(∀v∈l,DN v)→lW l≤64*l.length
 |[],_=>Nat.le_refl _
 |a::r,h=>by
  obtain⟨h1,h2,_⟩:=h a (List.mem_cons_self ..)
  have h1:=OE _ h1
  have:=Qq r fun x hx=>h x (List.mem_cons_of_mem _ hx)
  rw[lW,List.length_cons];omega
theorem VX(c:CS)(d:Def){E:List (By×List Int)}(h:U0 E d.k):(fA c d).L.length≤c.L.length+300:=by
 unfold fA
 obtain⟨nm,at_,k⟩:=d
 cases k with
 |const n=>exact Nat.le_add_right _ _
 |alias t=>
  have h2:=(show l7 t from h).2.2
  show ((lower t _).put (ins 7)).L.length≤_
  rw[aT,bV];simp only;omega
 |enum ns is=>simp[dY,CS.put,CS.jv]
 |struct ds=>
  obtain⟨h1,h2,h3⟩:=(show (∀d∈ds,l7 d.ty)∧1≤ds.length∧ds.length≤12 from h)
  have:=OH _ h1
  show ((nO _ ds).put (ins 7)).L.length≤_
  rw[aT,xN,aT];simp only;omega
 |union o n ar els=>
  obtain⟨_,h1,h2,h3⟩:=(show Qv E o∧(∀a∈ar,jR a.decl.ty∧a.nums.length≤12)∧ar.length≤13∧(∀d,els=some d→jR d.ty)from h)
  have h4:=QI _ h1
  have h5:jC els≤4:=by
   cases els with
   |none=>simp[jC]
   |some d=>have:=(h3 d rfl).2;rw[jC];omega
  show ((xB o ar els _).put (ins 7)).L.length≤_
  rw[aT,Hz];simp only;omega
 |prog n vs=>
  obtain⟨_,h1,h2⟩:=(show inRange n=true∧(∀v∈vs,DN v)∧vs.length≤4 from h)
  have:=Qq _ h1
  show (dh n _ vs).L.length≤_
  rw[zS];simp only;omega
theorem UM{t:Ty}(h:t≠.void):(t != .void)=true:=by simpa using h
theorem U0.okK{E:List (By×List Int)}{k:Dk}(h:U0 E k):okK k=true:=by
 cases k with
 |alias t=>exact Bool.and_eq_true _ _|>.mpr ⟨(show l7 t from h).1,UM (show l7 t from h).2.1⟩
 |enum ns is=>exact h.1
 |struct ds=>
  obtain⟨h1,h2,h3⟩:=(show (∀d∈ds,l7 d.ty)∧1≤ds.length∧ds.length≤12 from h)
  simp only[M.okK,Bool.and_eq_true,decide_eq_true_eq,List.all_eq_true]
  refine⟨⟨?_,h3⟩,fun d hd=>⟨(h1 d hd).1,UM (h1 d hd).2.1⟩⟩
  cases ds with
  |nil=>simp at h2
  |cons a r=>rfl
 |union o n ar els=>
  obtain⟨h0,h1,h2,h3⟩:=(show Qv E o∧(∀a∈ar,jR a.decl.ty∧a.nums.length≤12)∧ar.length≤13∧(∀d,els=some d→jR d.ty)from h)
  simp only[M.okK,Bool.and_eq_true,List.all_eq_true]
  refine⟨⟨?_,fun a ha=>(h1 a ha).1.1⟩,?_⟩
  ·cases o with
   |basic s=>exact bne_iff_ne.mpr h0
   |named s a=>rfl
   |_=>exact h0.elim
  ·cases els with
   |none=>rfl
   |some d=>exact(h3 d rfl).1
 |_=>rfl
theorem U0.small{E:List (By×List Int)}{d:Def}(h:U0 E d.k):iH d=true:=by
 unfold iH
 cases hk:d.k with
 |enum ns is=>rw[hk]at h;have:=h.2;simp only[decide_eq_true_eq];omega
 |struct ds=>rw[hk]at h;have:=h.2.2;simp only[decide_eq_true_eq];omega
 |union o n ar els=>
  rw[hk]at h
  obtain⟨h0,h1,h2,h3⟩:=(show Qv E o∧(∀a∈ar,jR a.decl.ty∧a.nums.length≤12)∧ar.length≤13∧(∀d,els=some d→jR d.ty)from h)
  simp only[Bool.and_eq_true,decide_eq_true_eq,List.all_eq_true]
  exact⟨by omega,fun a ha=>by have:=(h1 a ha).2;omega⟩
 |prog n vs=>
  rw[hk]at h
  obtain⟨h0,h1,h2⟩:=(show inRange n=true∧(∀v∈vs,DN v)∧vs.length≤4 from h)
  simp only[Bool.and_eq_true,decide_eq_true_eq,List.all_eq_true]
  exact⟨⟨by omega,h0⟩,fun v hv=>⟨⟨by have:=(h1 v hv).2.1;omega,(h1 v hv).2.2⟩,fun q hq=>((h1 v hv).1 q hq).2.2⟩⟩
 |_=>rfl
structure PI (p:PS) (ds:List Def):Prop where
 names:∀s d,(aC CS.empty ds).defs.lookup s=some d→s∈p.names
 starts:∀s n,(aC CS.empty ds).start.lookup s=some n→s∈p.names
 enums:∀s nums,p.enums.lookup s=some nums→s∈p.names∧nums.length≤12∧∃nm a ns,(aC CS.empty ds).defs.lookup s=some ⟨nm,a,.enum ns nums⟩
 wf:iD CS.empty ds=true
 aV:∀x∈(aC CS.empty ds).aV,x.2.length≤4*ds.length
 len:(aC CS.empty ds).L.length≤300*ds.length
 slen:(aC CS.empty ds).start.length≤ds.length
 its:∀x∈(aC CS.empty ds).defs,x.2∈ds
 ok:∀d∈ds,∃E,U0 E d.k
 cnt:(aC CS.empty ds).defs.countP (fun e=>nest e.2.k)≤p.n0
 cnt':(aC CS.empty ds).defs.countP (fun e=>nest e.2.k)≤24
theorem Le:∀(l:List Def) (c:CS) (d:Def),iD c l=true→iD (aC c l) [d]=true→iD c (l++[d])=true
 |[],_,_,_,h=>h
 |a::r,c,d,h,h2=>by
  rw[iD,Bool.and_eq_true]at h
  rw[List.cons_append,iD,Bool.and_eq_true]
  exact⟨h.1,Le r _ d h.2 h2⟩
theorem PI.start{p:PS}(hn:p.names=[])(he:p.enums=[]):PI p []:=by
 refine⟨fun s d h=>(by cases h),fun s n h=>(by cases h),fun s nums h=>(by rw[he]at h;cases h),rfl,fun x h=>(by cases h),Nat.le_refl _,Nat.le_refl _,fun x h=>(by cases h),fun d h=>(by cases h),Nat.zero_le _,Nat.zero_le _⟩
theorem PI.next{p:PS}{ds:List Def}{x:Def×PS}(h:PI p ds)(hl:ds.length≤69)(hx:definition p=.ok x):PI x.2 (ds++[x.1]):=by
 obtain⟨⟨n1,n2,n3,n4,n5⟩,m1,m2⟩:=QN hx
 obtain⟨d,q⟩:=x
 simp only at n1 n2 n3 n4 n5 m1 m2 ⊢
 have hd:(aC CS.empty ds).defs.lookup d.name=none:=by
  cases hc:(aC CS.empty ds).defs.lookup d.name with
  |none=>rfl
  |some e=>exact absurd (h.names _ _ hc) n1
 have hs:(aC CS.empty ds).start.lookup d.name=none:=by
  cases hc:(aC CS.empty ds).start.lookup d.name with
  |none=>rfl
  |some e=>exact absurd (h.starts _ _ hc) n1
 obtain⟨s1,s2,s3⟩:=step (aC CS.empty ds) d
 have hdef:∀s e,(aS (aC CS.empty ds).defs d.name d).lookup s=some e→(s=d.name∧e=d)∨(s≠d.name∧(aC CS.empty ds).defs.lookup s=some e):=fun s e he=>by
  rw[bu]at he
  cases hb:s==d.name with
  |true=>rw[hb]at he;cases he;exact Or.inl ⟨eq_of_beq hb,rfl⟩
  |false=>rw[hb]at he;exact Or.inr ⟨fun e=>by rw[e]at hb;simp at hb,he⟩
 have hcnt:(aS (aC CS.empty ds).defs d.name d).countP (fun e=>nest e.2.k)=(aC CS.empty ds).defs.countP (fun e=>nest e.2.k)+(if nest d.k then 1 else 0):=by
  rw[TT hd,List.countP_append]
  simp[List.countP_cons]
 refine⟨?_,?_,?_,?_,?_,?_,?_,?_,?_,?_,?_⟩
 ·rw[gY,s1]
  intro s e he
  rcases hdef s e he with⟨rfl,_⟩|⟨_,he⟩
  ·exact n3
  ·exact n2 _ (h.names _ _ he)
 ·rw[gY]
  intro s n he
  rcases s2 with s2|⟨m,s2⟩
  ·rw[s2]at he;exact n2 _ (h.starts _ _ he)
  ·rw[s2,bu]at he
   cases hb:s==d.name with
   |true=>rw[eq_of_beq hb];exact n3
   |false=>rw[hb]at he;exact n2 _ (h.starts _ _ he)
 ·rw[gY,s1]
  have old:∀s nums,p.enums.lookup s=some nums→s∈q.names∧nums.length≤12∧∃nm a ns,(aS (aC CS.empty ds).defs d.name d).lookup s=some ⟨nm,a,.enum ns nums⟩:=fun s nums he=>by
   obtain⟨e1,e2,nm,a,ns,e3⟩:=h.enums s nums he
   refine⟨n2 _ e1,e2,nm,a,ns,?_⟩
   rw[bu]
   cases hb:s==d.name with
   |true=>rw[eq_of_beq hb]at e1;exact absurd e1 n1
   |false=>exact e3
  intro s nums he
  rcases n4 with n4|⟨ns,nums',e1,n4⟩
  ·rw[n4]at he;exact old s nums he
  ·rw[n4,bu]at he
   cases hb:s==d.name with
   |true=>
    rw[hb]at he
    cases he
    have e:=eq_of_beq hb
    subst e
    refine⟨n3,?_,d.name,d.at_,ns,?_⟩
    ·rw[e1]at n5;exact n5.2
    ·rw[bu,hb,if_pos rfl,← e1]
   |false=>rw[hb]at he;exact old s nums he
 ·refine Le _ _ _ h.wf ?_
  rw[iD,iD,hs,n5.small]
  simp only[Bool.and_true,Option.isNone_none]
  cases hk:d.k with
  |union o n ar els=>
   rw[hk]at n5
   have h0:=(show Qv p.enums o∧_ from n5).1
   cases o with
   |basic s=>rfl
   |named s a=>
    obtain⟨nums,hl'⟩:=h0
    obtain⟨e1,e2,nm,a,ns,e3⟩:=h.enums s nums hl'
    simp only[ni,bu]
    cases hb:s==d.name with
    |true=>rw[eq_of_beq hb]at e1;exact absurd e1 n1
    |false=>simp only[Bool.false_eq_true,if_false,e3,decide_eq_true_eq];omega
   |_=>exact h0.elim
  |prog n vs=>
   simp only[List.all_eq_true,decide_eq_true_eq]
   intro x hx
   have:=h.aV x hx
   omega
  |_=>rfl
 ·rw[gY,List.length_append,List.length_singleton]
  rcases s3 with⟨n,vs,e1,s3⟩|s3
  ·rw[s3]
   intro x hx
   have:=Lr n vs { aC CS.empty ds with defs:=aS (aC CS.empty ds).defs d.name d } _ h.aV x hx
   rw[e1]at n5
   have:=n5.2.2
   omega
  ·rw[s3]
   intro x hx
   have:=h.aV x hx
   omega
 ·rw[gY,List.length_append,List.length_singleton]
  have:=VX (aC CS.empty ds) d n5
  have:=h.len
  omega
 ·rw[gY,List.length_append,List.length_singleton]
  have:=h.slen
  rcases s2 with s2|⟨m,s2⟩
  ·rw[s2];omega
  ·rw[s2];have:=LV (aC CS.empty ds).start d.name m;omega
 ·rw[gY,s1]
  intro x hx
  rcases AQ hx with hx|hx
  ·exact List.mem_append_left _ (h.its x hx)
  ·rw[hx];exact List.mem_append_right _ (List.mem_singleton_self _)
 ·intro e he
  rcases List.mem_append.mp he with he|he
  ·exact h.ok e he
  ·rw[List.mem_singleton.mp he];exact⟨_,n5⟩
 ·rw[gY,s1,hcnt]
  have:=h.cnt
  omega
 ·rw[gY,s1,hcnt]
  have:=h.cnt
  have:=h.cnt'
  cases hn:nest d.k with
  |true=>have:=m2 hn;simp only[if_true];omega
  |false=>simpa using h.cnt'
theorem NJ:∀(k:Nat) (p:PS) (ds:List Def),PI p ds→ds.length+k≤69→Yl (vC k p ds) fun l=>∃q,PI q l∧l.length≤69
 |0,p,ds,h,hk=>by rw[vC];exact Yl.ok ⟨p,h,by omega⟩
 |k+1,p,ds,h,hk=>by
  rw[vC]
  refine Yl.ite (fun _=>Yl.ok ⟨p,h,by omega⟩) fun _=>?_
  refine Yl.bind (P:=fun x=>PI x.2 (ds++[x.1])) (fun x hx=>h.next (by omega) hx) fun x hx=>?_
  exact NJ k _ _ hx (by rw[List.length_append,List.length_singleton];omega)
end Go.M
namespace Go.M
abbrev Np:=Int×Int×Int
abbrev GH:=List (Np×kz)
def Vy(g v:Int)(m:GH):List kz→GH
 |[]=>m
 |q::r=>Vy g v (aS m (g,v,q.n) q) r
def WB(g:Int)(m:GH):List mZ→GH
 |[]=>m
 |v::r=>WB g (Vy g v.n m v.procs) r
def lh(m:GH):List Def→GH
 |[]=>m
 |d::r=>lh (match d.k with
  |.prog n vs=>WB n m vs
  |_=>m) r
def PM(c:CS)(m:GH):Prop:=∀key,(c.procs.lookup key=none∧m.lookup key=none)∨∃v q,c.procs.lookup key=some v∧m.lookup key=some q∧(dV c q.arg v.1∧dV c q.res v.2.1)∧okT q.arg=true∧okT q.res=true
theorem PM.to{c c':CS}{m:GH}(h:PM c m)(hp:c'.procs=c.procs)(hs:∀t p,dV c t p→dV c' t p):PM c' m:=fun key=>by
 rw[hp]
 rcases h key with h|⟨v,q,h1,h2,⟨h3,h4⟩,h5,h6⟩
 ·exact Or.inl h
 ·exact Or.inr ⟨v,q,h1,h2,⟨hs _ _ h3,hs _ _ h4⟩,h5,h6⟩
theorem PM.more{c:CS}{m:GH}(h:PM c m)(l:List Ins)(k:List (Nat×By×Nat))(t:List Tab):PM (c.more l k t) m:=h.to rfl fun _ _ hs=>hs.more l k t
theorem PM.side{c:CS}{m:GH}(h:PM c m)(t:Ty):PM (dO t c) m:=by
 rw[iI,lN]
 exact h.more _ _ _
theorem WJ(t:Ty)(c:CS):dV (dO t c) t c.L.length:=by
 rw[iI,lN]
 exact⟨Seg.last _ _,fun x hx=>List.mem_append_right _ hx⟩
theorem dV.side{c:CS}{t u:Ty}{p:Nat}(h:dV c t p):dV (dO u c) t p:=by
 rw[iI,lN]
 exact h.more _ _ _
theorem PM.GV{c:CS}{m:GH}(h:PM c m)(g v:Int)(q:kz)(ha:okT q.arg=true)(hr:okT q.res=true):PM (GV g v c q) (aS m (g,v,q.n) q):=fun key=>by
 have h2:=(h.side q.res).side q.arg key
 have e1:dV (dO q.arg (dO q.res c)) q.res c.L.length:=(WJ q.res c).side
 have e2:dV (dO q.arg (dO q.res c)) q.arg (dO q.res c).L.length:=WJ q.arg _
 show (((aS (dO q.arg (dO q.res c)).procs (g,v,q.n) _).lookup key=none∧_)∨_)
 unfold M.GV
 simp only[bu]
 split
 ·exact Or.inr ⟨_,q,rfl,rfl,⟨e2,e1⟩,ha,hr⟩
 ·exact h2
theorem PM.cu(g v:Int):∀(l:List kz) {c:CS} {m:GH},PM c m→(l.all fun q=>okT q.arg&&okT q.res)=true→PM (cu g v c l) (Vy g v m l)
 |[],_,_,h,_=>h
 |q::r,c,m,h,ho=>by
  rw[List.all_cons,Bool.and_eq_true,Bool.and_eq_true]at ho
  exact PM.cu g v r (h.GV g v q ho.1.1 ho.1.2) ho.2
theorem PM.dh(g:Int):∀(l:List mZ) {c:CS} {m:GH},PM c m→(l.all fun v=>v.procs.all fun q=>okT q.arg&&okT q.res)=true→PM (dh g c l) (WB g m l)
 |[],_,_,h,_=>h
 |v::r,c,m,h,ho=>by
  rw[List.all_cons,Bool.and_eq_true]at ho
  exact PM.dh g r (PM.cu g v.n v.procs (c:={ c with aV:=aS c.aV g ((c.aV.lookup g).getD []++[v.n]) }) h ho.1) ho.2
theorem PM.fA{c:CS}{m:GH}(h:PM c m)(d:Def)(ho:okP d.k=true):PM (fA c d) (match d.k with|.prog n vs=>WB n m vs|_=>m):=by
 have h':PM { c with defs:=aS c.defs d.name d } m:=h
 cases ht:isType d.k with
 |false=>
  unfold M.fA
  cases hk:d.k with
  |prog n vs=>
   rw[hk]at ho
   exact PM.dh n vs h' ho
  |const n=>simp only;rw[lq _ _ ht];exact h'
  |_=>rw[hk]at ht;cases ht
 |true=>
  have e:M.fA c d=dY d { c with defs:=aS c.defs d.name d }:=by
   unfold M.fA
   cases hk:d.k with
   |prog n vs=>rw[hk]at ht;cases ht
   |_=>rfl
  rw[e,nT _ _ ht]
  have h2:=PM.more (c:=({ { c with defs:=aS c.defs d.name d }with start:=aS c.start d.name c.L.length }:CS)) (m:=m) h (ji (aS c.defs d.name d) c.L.length c.tabs.length d.k) (jl c.L.length d.k) (iP (aS c.defs d.name d) c.L.length d.k)
  cases hk:d.k with
  |prog n vs=>rw[hk]at ht;cases ht
  |_=>rw[hk]at h2;exact h2
theorem PM.aC:∀(l:List Def) {c:CS} {m:GH},PM c m→(∀d∈l,okP d.k=true)→PM (aC c l) (lh m l)
 |[],_,_,h,_=>h
 |d::r,c,m,h,ho=>by
  rw[M.aC,M.lh]
  exact PM.aC r (h.fA d (ho d (List.mem_cons_self ..))) fun x hx=>ho x (List.mem_cons_of_mem _ hx)
theorem PM.empty:PM CS.empty []:=fun key=>Or.inl ⟨rfl,rfl⟩
theorem Whole.side{σ:Type}{ds:List Def}{c d:CS}(h:Whole ds c d){lim:Lim}{io:Wy σ}{z:Wz σ}(w:PQ σ d.L d.tabs io z)(hd:lim.depth≤900){t:Ty}(ht:okT t=true){p:Nat}(hs:dV (M.aC CS.empty ds) t p)(x:σ):
  ∃n,vS d.L lim io n ⟨p,[],[],x⟩=some ((kJ z (sem z d.defs lim.depth.toNat) t x).andThen fun y=>.ok ⟨p+tsz t,[],[],y⟩):=by
 have ho:qF d.defs:=by rw[h.defs];exact h.comp.VW
 obtain⟨r,hr⟩:=h.pre
 have hc:=yB h.comp.rsv t p hs.1.left hs.2
 have h16:(M.aC CS.empty ds).L[p+tsz t]?=some (ins 16):=by
  have:=hs.1.right.head
  rw[aX]at this;exact this
 have hc':vG d.L d.start t p:=by
  rw[h.start,h.comp.start,hr];exact hc.app
 have hL:c.L[p+tsz t]?=some (ins 16):=h.comp.rsv.other _ _ h16 (by simp[ins])
 have hL':d.L[p+tsz t]?=some (ins 16):=by
  rw[hr,List.getElem?_append_left (nR hL)];exact hL
 exact Zd w h.prg ho hd ht x hc' hL'
end Go.M
namespace Go.M
def dN:List Nat→By
 |[]=>[]
 |n::r=>cZ n++dN r
def AZ(b:By):Option By:=
 if b.length<8 then none
 else
  let n:=w32 (b.drop 4)
  if 400<n then none
  else
   let e:=n+bn n
   if(b.drop 8).length<e then none
   else if(((b.drop 8).drop n).take (e - n)).all (·==0)then some ((b.drop 8).drop e)else none
def minL:List Int→Int
 |[]=>0
 |a::r=>r.foldl min a
def maxL:List Int→Int
 |[]=>0
 |a::r=>r.foldl max a
def Yo(n:Int)(l:List Nd):Option (List Nd):=
 if n=0 then some l else if n=1 then some []else if n=2 then none else if n=3 then none else some [⟨1,n,[],0,0⟩]
def TG(d:CS)(lim:Lim)(n:Int)(q:kz)(b:By):By:=
 if lim.size<b.length then dN [4]else match KU d.defs lim q.arg b with
  |.no _ _=>dN [4]
  |.ok l=>match Yo n l with
   |none=>dN [5]
   |some r=>match Uz d.defs lim q.res r with
    |.no _ _=>dN [5]
    |.ok s=>dN [0]++s
def fG(d:CS)(m:GH)(lim:Lim)(n:Int)(key:Np)(b:By):By:=
 let vs:=(d.aV.lookup key.1).getD []
 if vs.isEmpty then dN [1]
 else if !vs.contains key.2.1 then dN [2,(minL vs).toNat,(maxL vs).toNat]
 else match m.lookup key with
  |none=>dN [3]
  |some q=>TG d lim n q b
def kQ(call:Np→By→By)(b:By):By:=
 if b.length<12 then[]else if w32 (b.drop 4)≠0 then[]
 else if w32 (b.drop 8)≠2 then dN [w32 b,1,1,0,2,2]
 else if b.length<24 then[]
 else match AZ (b.drop 24)with
  |none=>[]
  |some r=>match AZ r with
   |none=>[]
   |some r=>dN [w32 b,1,0,0,0]++call (w32 (b.drop 12),w32 (b.drop 16),w32 (b.drop 20)) r
structure Srv where
 head:By
 left:Nat
 last:Bool
 bz:By
 closed:Bool deriving DecidableEq
def Srv.new:Srv:=⟨[],0,false,[],false⟩
def TL(s:By):By:=if s=[]then[]else dN [2147483648|||s.length % 4294967296]++s
section
variable (rep:By→By) (most:Nat)
def nC(s:Srv):Srv×By:=if s.last then({ s with head:=[],bz:=[] },TL (rep s.bz))else({ s with head:=[] },[])
def Ce(s:Srv):Srv×By:=
 let h:=w32 s.head
 let t:Srv:={ s with last:=h / 2147483648==1,left:=h % 2147483648 }
 if most<t.bz.length+t.left then({ t with closed:=true },[])
 else if t.left=0 then nC rep t else(t,[])
def yL(s:Srv)(c:UInt8):Srv×By:=
 if s.closed then(s,[])
 else if s.head.length<4 then
  let t:Srv:={ s with head:=s.head++[c] }
  if t.head.length<4 then(t,[])else Ce rep most t
 else
  let t:Srv:={ s with bz:=s.bz++[c],left:=s.left - 1 }
  if t.left=0 then nC rep t else(t,[])
def aQ:Srv→By→Srv×By
 |s,[]=>(s,[])
 |s,c::r=>((aQ (yL rep most s c).1 r).1,(yL rep most s c).2++(aQ (yL rep most s c).1 r).2)
theorem qY:∀(a b:By) (s:Srv),aQ rep most s (a++b)=((aQ rep most (aQ rep most s a).1 b).1,(aQ rep most s a).2++(aQ rep most (aQ rep most s a).1 b).2)
 |[],b,s=>by simp[aQ]
 |c::r,b,s=>by
  rw[List.cons_append,aQ,aQ,qY r b]
  simp only[List.append_assoc]
theorem Cb:∀(a:By) (s:Srv),s.closed=true→aQ rep most s a=(s,[])
 |[],s,_=>rfl
 |c::r,s,h=>by
  have:yL rep most s c=(s,[]):=by rw[yL,if_pos h]
  rw[aQ,this]
  simp only[Cb r s h,List.nil_append]
theorem KQ:∀(a:By) (s:Srv),s.closed=false→a≠[]→s.head.length+a.length≤4 →
  aQ rep most s a=if s.head.length+a.length<4 then({ s with head:=s.head++a },[])else Ce rep most { s with head:=s.head++a }
 |[],s,_,h,_=>absurd rfl h
 |[c],s,hc,_,hl=>by
  have hl:s.head.length+1≤4:=hl
  rw[aQ,aQ]
  unfold yL
  rw[if_neg (by simp[hc]),if_pos (by omega)]
  simp only[List.length_append,List.length_cons,List.length_nil,List.append_nil]
 |c::d::r,s,hc,_,hl=>by
  have hl:s.head.length+(r.length+2)≤4:=hl
  have e:yL rep most s c=({ s with head:=s.head++[c] },[]):=by
   unfold yL
   rw[if_neg (by simp[hc]),if_pos (by omega)]
   simp only[List.length_append,List.length_cons,List.length_nil]
   rw[if_pos (by omega)]
  rw[aQ,e]
  have:=KQ (d::r) { s with head:=s.head++[c] } hc (by simp) (by simp;omega)
  rw[this]
  simp only[List.length_append,List.length_cons,List.length_nil,List.append_assoc,List.singleton_append,List.nil_append]
  rw[show s.head.length+(0+1)+(r.length+1)=s.head.length+(r.length+1+1)by omega]
theorem Pm:∀(a:By) (s:Srv),s.closed=false→s.head.length=4→a≠[]→a.length≤s.left →
  aQ rep most s a=if a.length<s.left then({ s with bz:=s.bz++a,left:=s.left - a.length },[])else nC rep { s with bz:=s.bz++a,left:=0 }
 |[],s,_,_,h,_=>absurd rfl h
 |[c],s,hc,hh,_,hl=>by
  have hl:1≤s.left:=hl
  rw[aQ,aQ]
  unfold yL
  rw[if_neg (by simp[hc]),if_neg (by omega)]
  simp only[List.length_cons,List.length_nil,List.append_nil]
  by_cases h1:s.left - 1=0
  ·rw[if_pos h1,if_neg (by omega),h1]
  ·rw[if_neg h1,if_pos (by omega)]
 |c::d::r,s,hc,hh,_,hl=>by
  have hl:r.length+2≤s.left:=hl
  have e:yL rep most s c=({ s with bz:=s.bz++[c],left:=s.left - 1 },[]):=by
   unfold yL
   rw[if_neg (by simp[hc]),if_neg (by omega)]
   simp only
   rw[if_neg (by omega)]
  rw[aQ,e]
  have:=Pm (d::r) { s with bz:=s.bz++[c],left:=s.left - 1 } hc hh (by simp) (by simp;omega)
  rw[this]
  simp only[List.length_cons,List.append_assoc,List.singleton_append,List.nil_append]
  by_cases h1:r.length+1<s.left - 1
  ·rw[if_pos h1,if_pos (by omega),show s.left - 1 - (r.length+1)=s.left - (r.length+1+1)by omega]
  ·rw[if_neg h1,if_neg (by omega)]
theorem Yk(s:Srv)(b:By)(k:Nat):(aQ rep most s b).2=(aQ rep most s (b.take k)).2++(aQ rep most (aQ rep most s (b.take k)).1 (b.drop k)).2∧(aQ rep most s b).1=(aQ rep most (aQ rep most s (b.take k)).1 (b.drop k)).1:=by
 have:=qY rep most (b.take k) (b.drop k) s
 rw[List.take_append_drop]at this
 rw[this]
 exact⟨rfl,rfl⟩
end
end Go.M
namespace Go.M
def VR(c:CS):Prop:=∀x∈c.aV,∀n∈x.2,0≤n∧n≤4294967295
theorem VR.dh(g:Int):∀(l:List mZ) {c:CS},VR c→(∀v∈l,inRange v.n=true)→VR (dh g c l)
 |[],_,h,_=>h
 |v::r,c,h,hv=>by
  rw[M.dh]
  refine VR.dh g r ?_ fun x hx=>hv x (List.mem_cons_of_mem _ hx)
  have hp:(cu g v.n { c with aV:=aS c.aV g ((c.aV.lookup g).getD []++[v.n]) } v.procs).aV=aS c.aV g ((c.aV.lookup g).getD []++[v.n]):=yU g v.n v.procs _
  intro x hx n hn
  rw[hp]at hx
  rcases AQ hx with hx|rfl
  ·exact h x hx n hn
  ·have hn:n∈(c.aV.lookup g).getD []++[v.n]:=hn
   rcases List.mem_append.mp hn with hn|hn
   ·cases hl:c.aV.lookup g with
    |none=>rw[hl]at hn;cases hn
    |some l=>rw[hl]at hn;exact h (g,l) (vg hl) n hn
   ·rw[List.mem_singleton]at hn
    subst hn
    have:=hv v (List.mem_cons_self ..)
    simpa [inRange] using this
theorem VR.fA{c:CS}(h:VR c)(d:Def)(hs:iH d=true):VR (fA c d):=by
 cases ht:isType d.k with
 |false=>
  unfold M.fA
  cases hk:d.k with
  |prog n vs=>
   simp only[iH,hk,Bool.and_eq_true,List.all_eq_true]at hs
   exact VR.dh n vs (c:={ c with defs:=aS c.defs d.name d }) h fun v hv=>(hs.2 v hv).1.2
  |const n=>simp only;rw[lq _ _ ht];exact h
  |_=>rw[hk]at ht;cases ht
 |true=>
  have e:M.fA c d=dY d { c with defs:=aS c.defs d.name d }:=by
   unfold M.fA
   cases hk:d.k with
   |prog n vs=>rw[hk]at ht;cases ht
   |_=>rfl
  rw[e,nT _ _ ht]
  exact h
theorem VR.aC:∀(l:List Def) {c:CS},VR c→iD c l=true→VR (aC c l)
 |[],_,h,_=>h
 |d::r,c,h,hw=>by
  rw[iD]at hw
  simp only[Bool.and_eq_true]at hw
  rw[M.aC]
  exact VR.aC r (h.fA d hw.1.1.2) hw.2
theorem Whole.vr{ds:List Def}{c d:CS}(h:Whole ds c d)(ht:Tidy ds):VR d:=by
 have:=VR.aC ds (c:=CS.empty) (fun x hx=>by cases hx) (Ph ht.fine).1
 unfold VR at this ⊢
 rw[h.aV,h.comp.aV];exact this
theorem Whole.pm{ds:List Def}{c d:CS}(h:Whole ds c d)(ht:Tidy ds)(key:Np):(d.procs.lookup key=none∧(lh [] ds).lookup key=none)∨∃v q,d.procs.lookup key=some v∧(lh [] ds).lookup key=some q∧(dV (aC CS.empty ds) q.arg v.1∧dV (aC CS.empty ds) q.res v.2.1)∧okT q.arg=true∧okT q.res=true:=by
 rw[h.procs,h.comp.procs]
 exact PM.aC ds PM.empty (fun d hd=>(ht.ok d hd).2) key
theorem foldl_min:∀(l:List Int) (a:Int),0≤a→(∀n∈l,0≤n)→0≤l.foldl min a∧l.foldl min a≤a
 |[],a,h,_=>⟨h,Int.le_refl _⟩
 |b::r,a,h,hl=>by
  have hb:=hl b (List.mem_cons_self ..)
  have:=foldl_min r (min a b) (by omega) fun n hn=>hl n (List.mem_cons_of_mem _ hn)
  rw[List.foldl_cons];omega
theorem foldl_max:∀(l:List Int) (a m:Int),0≤a→a≤m→(∀n∈l,0≤n∧n≤m)→0≤l.foldl max a∧l.foldl max a≤m
 |[],a,m,h,h2,_=>⟨h,h2⟩
 |b::r,a,m,h,h2,hl=>by
  have hb:=hl b (List.mem_cons_self ..)
  have:=foldl_max r (max a b) m (by omega) (by omega) fun n hn=>hl n (List.mem_cons_of_mem _ hn)
  rw[List.foldl_cons];omega
end Go.M

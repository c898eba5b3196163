/- Texts of mine, one behind the other; nothing is assumed. -/
import Derived.Test.YtaaepbggooiblaaGreatDoorB07
import Derived.Lib.ItoaNum
import Derived.Lib.Join
import Derived.Lib.Strings
set_option linter.unusedSimpArgs false
set_option linter.unusedVariables false
namespace Go.M
def uY(n:Int):By:=Go.Lib.itoa n
def ji(f:Bool)(n:Int):By:=if f then[91]++uY n++[93]else[60]++uY n++[62]
def dU:Ty→By
 |.basic s=>s++[32]
 |.named s _=>s++[32]
 |.bytes t _ _=>if t then[115,116,114,105,110,103,32]else[111,112,97,113,117,101,32]
 |.array t _ _=>dU t
 |.opt t=>dU t++[42]
 |.void=>[118,111,105,100]
def wK:Ty→By
 |.bytes _ f n=>ji f n
 |.array _ f n=>ji f n
 |_=>[]
def oP(d:Decl):By:=dU d.ty++d.name++wK d.ty
def bW:List By→List Int→List By
 |s::r,n::q=>(s++[32,61,32]++uY n)::bW r q
 |_,_=>[]
def jd:List Decl→By
 |[]=>[]
 |d::r=>oP d++[59,32]++jd r
def lW:List Int→By
 |[]=>[]
 |n::r=>[99,97,115,101,32]++uY n++[58,32]++lW r
def nG:List Arm→By
 |[]=>[]
 |a::r=>lW a.nums++(oP a.decl++[59,32])++nG r
def FY:Option Decl→By
 |none=>[]
 |some d=>[100,101,102,97,117,108,116,58,32]++oP d++[59,32]
def sW(t:Ty):By:=Go.Lib.trimSuffix (dU t) [32]
def iM:List gq→By
 |[]=>[]
 |q::r=>sW q.res++[32]++q.name++[40]++sW q.arg++[41,32,61,32]++uY q.n++[59,32]++iM r
def kX:List gI→By
 |[]=>[]
 |v::r=>[118,101,114,115,105,111,110,32]++v.name++[32,123,32]++iM v.procs++([125,32,61,32]++uY v.n++[59,32])++kX r
def lV(d:Def):By:=match d.k with
 |.const n=>[99,111,110,115,116,32]++d.name++[32,61,32]++uY n++[59]
 |.alias t=>[116,121,112,101,100,101,102,32]++oP ⟨d.name,t⟩++[59]
 |.enum ns is=>[101,110,117,109,32]++d.name++[32,123,32]++Go.Lib.join (bW ns is) [44,32]++[32,125,59]
 |.struct ds=>[115,116,114,117,99,116,32]++d.name++[32,123,32]++jd ds++[125,59]
 |.union of nm ar els=>[117,110,105,111,110,32]++d.name++[32,115,119,105,116,99,104,32,40]++dU of++nm++[41,32,123,32]++nG ar++FY els++[125,59]
 |.prog n vs=>[112,114,111,103,114,97,109,32]++d.name++[32,123,32]++kX vs++[125,32,61,32]++uY n++[59]
def fK:List Def→By
 |[]=>[]
 |d::r=>lV d++[10]++fK r
end Go.M
namespace Go.M
def dV(s:By):Prop:=(∃c r,s=c::r∧(c != 95&&dH c)=true∧(c==45||digit c)=false)∧s.all dH=true∧s.length≤16∧contains keys (32::s++[32])=false
theorem Tq:∀(l:By),(l.take (bf l)).all dH=true
 |[]=>rfl
 |c::r=>by
  rw[bf]
  split
  ·rename_i h
   rw[List.take_succ_cons,List.all_cons,h,Tq r];rfl
  ·rfl
def WOk(p:PS):Prop:=p.w.kind=1→dV p.w.s
theorem UJ{txt:By}{f:Nat}{x:Wd×Nat}(h:next txt f=.ok x)(hk:x.1.kind=1):dV x.1.s:=by
 unfold next at h
 simp only at h
 split at h
 ·cases h;cases hk
 rename_i c r hr
 split at h
 ·split at h
  ·cases h
  ·cases h;cases hk
 rename_i h1
 split at h
 ·rename_i h2
  split at h
  ·cases h;cases hk
  rename_i h3
  split at h
  ·cases h
  rename_i h4
  cases h
  refine⟨?_,Tq _,Nat.le_of_not_lt h4,by simpa using h3⟩
  have hp:dH c=true:=by
   rw[Bool.and_eq_true]at h2;exact h2.2
  refine⟨c,(r.take (bf r)),?_,h2,by simpa using h1⟩
  show ((txt.drop _).take (bf (txt.drop _)))=_
  rw[hr,bf,if_pos hp,List.take_succ_cons]
 split at h
 ·cases h;cases hk
 ·cases h
theorem jU{p q:PS}(h:advance p=.ok q):WOk q:=by
 obtain⟨x,h1,h2⟩:=Res.then_ok h
 cases h2
 exact fun hk=>UJ h1 hk
end Go.M
namespace Go.M
def Kw{α:Type}(m:Res α)(f:α→PS):Prop:=∀a,m=.ok a→WOk (f a)
theorem Kw.ok{α:Type}{a:α}{f:α→PS}(h:WOk (f a)):Kw (.ok a) f:=fun b hb=>by cases hb;exact h
theorem Kw.no{α:Type}{e a:Nat}{f:α→PS}:Kw (.no e a) f:=fun b hb=>by cases hb
theorem Kw.ite{α:Type}{c:Prop}[Decidable c]{A B:Res α}{f:α→PS}(h1:Kw A f)(h2:Kw B f):Kw (if c then A else B) f:=by
 split
 ·exact h1
 ·exact h2
theorem Kw.bind{α β:Type}{m:Res α}{k:α→Res β}{f:β→PS}(g:α→PS)(h1:Kw m g)(h2:∀a,WOk (g a)→Kw (k a) f):Kw (m.andThen k) f:=fun b hb=>by
 obtain⟨a,ha,hk⟩:=Res.then_ok hb
 exact h2 a (h1 a ha) b hk
theorem Kw.pass{α β:Type}{m:Res α}{k:α→Res β}{f:β→PS}(h2:∀a,Kw (k a) f):Kw (m.andThen k) f:=fun b hb=>by
 obtain⟨a,ha,hk⟩:=Res.then_ok hb
 exact h2 a b hk
variable {p:PS}
theorem kF(h:WOk p):Kw (advance p) id:=fun q hq=>jU hq
theorem aQ:∀{l:List By} {p:PS},WOk p→Kw (want p l) id
 |[],p,h=>Kw.ok h
 |s::r,p,h=>by
  rw[want]
  exact Kw.ite (Kw.bind id (kF h) fun q hq=>aQ hq) Kw.no
theorem GK(h:WOk p):Kw (own p) (fun x=>x.2):=fun x hx=>by
 obtain⟨w,h1,hx⟩:=Res.then_ok hx
 obtain⟨l,h2,hx⟩:=Res.then_ok hx
 obtain⟨q,h3,hx⟩:=Res.then_ok hx
 cases hx
 exact jU h3
theorem oL{σ:Type}{lo hi:Int}{k:Int→Nat→Res σ}(h:WOk p):Kw (value p lo hi k) (fun x=>x.2.2):=fun x hx=>by
 obtain⟨n,h1,hx⟩:=Res.then_ok hx
 split at hx
 ·cases hx
 obtain⟨s,h2,hx⟩:=Res.then_ok hx
 obtain⟨q,h3,hx⟩:=Res.then_ok hx
 cases hx
 exact jU h3
theorem fC{s:By}(h:WOk p):Kw (take p s) (fun x=>x.2):=by
 unfold take
 refine Kw.ite ?_ (Kw.ok h)
 exact Kw.bind _ (kF h) fun q hq=>Kw.ok hq
theorem uH{l:List By}(h:WOk p):Kw (called p l) (fun x=>x.2.2):=by
 unfold called
 refine Kw.pass fun w=>Kw.pass fun l=>?_
 (repeat' (first|exact Kw.no|exact Kw.ok (by assumption)|refine Kw.ite ?_ ?_|refine Kw.bind _ (aQ (by assumption)) fun _ _=>?_|refine Kw.bind _ (kF (by assumption)) fun _ _=>?_|refine Kw.bind _ (fC (by assumption)) fun _ _=>?_|refine Kw.bind _ (GK (by assumption)) fun _ _=>?_|refine Kw.bind _ (uH (by assumption)) fun _ _=>?_|refine Kw.bind _ (oL (by assumption)) fun _ _=>?_))
theorem UN(h:WOk p):Kw (kindOf p) (fun x=>x.2):=by
 unfold kindOf
 (repeat' (first|exact Kw.no|exact Kw.ok (by assumption)|refine Kw.ite ?_ ?_|refine Kw.bind _ (aQ (by assumption)) fun _ _=>?_|refine Kw.bind _ (kF (by assumption)) fun _ _=>?_|refine Kw.bind _ (fC (by assumption)) fun _ _=>?_|refine Kw.bind _ (GK (by assumption)) fun _ _=>?_|refine Kw.bind _ (uH (by assumption)) fun _ _=>?_|refine Kw.bind _ (oL (by assumption)) fun _ _=>?_))
theorem Qi(h:WOk p):Kw (bound p) (fun x=>x.2.2):=by
 unfold bound
 (repeat' (first|exact Kw.no|exact Kw.ok (by assumption)|refine Kw.ite ?_ ?_|refine Kw.bind _ (aQ (by assumption)) fun _ _=>?_|refine Kw.bind _ (kF (by assumption)) fun _ _=>?_|refine Kw.bind _ (fC (by assumption)) fun _ _=>?_|refine Kw.bind _ (GK (by assumption)) fun _ _=>?_|refine Kw.bind _ (uH (by assumption)) fun _ _=>?_|refine Kw.bind _ (oL (by assumption)) fun _ _=>?_))
theorem zl(h:WOk p):Kw (aS p) (fun x=>x.2):=by
 unfold aS
 refine Kw.ite ?_ ?_
 ·cases p.enums.lookup p.w.s with
  |none=>exact Kw.no
  |some l=>exact Kw.bind _ (kF h) fun q hq=>Kw.ok hq
 ·(repeat' (first|exact Kw.no|exact Kw.ok (by assumption)|refine Kw.ite ?_ ?_|refine Kw.bind _ (aQ (by assumption)) fun _ _=>?_|refine Kw.bind _ (kF (by assumption)) fun _ _=>?_|refine Kw.bind _ (fC (by assumption)) fun _ _=>?_|refine Kw.bind _ (GK (by assumption)) fun _ _=>?_|refine Kw.bind _ (uH (by assumption)) fun _ _=>?_|refine Kw.bind _ (oL (by assumption)) fun _ _=>?_))
theorem BJ{lo hi:Int}{nums:Option (List Int)}:∀(k:Nat) {p:PS} {a t:List Int},WOk p→Kw (dK lo hi nums k p a t) (fun x=>x.2.2)
 |0,_,_,_,_=>Kw.no
 |k+1,p,a,t,h=>by
  rw[dK]
  refine Kw.bind _ (aQ h) fun q hq=>Kw.bind _ (oL hq) fun v hv=>Kw.bind _ (aQ hv) fun q hq=>Kw.ite (BJ k hq) (Kw.ok hq)
theorem wH{l:List Int}(h:WOk p):Kw (numbered p l) (fun x=>x.2.2):=by
 unfold numbered
 (repeat' (first|exact Kw.no|exact Kw.ok (by assumption)|refine Kw.ite ?_ ?_|refine Kw.bind _ (aQ (by assumption)) fun _ _=>?_|refine Kw.bind _ (kF (by assumption)) fun _ _=>?_|refine Kw.bind _ (fC (by assumption)) fun _ _=>?_|refine Kw.bind _ (GK (by assumption)) fun _ _=>?_|refine Kw.bind _ (uH (by assumption)) fun _ _=>?_|refine Kw.bind _ (oL (by assumption)) fun _ _=>?_))
end Go.M
namespace Go.M
theorem Wl{p:PS}(h:WOk p):Yl (name p) fun w=>dV w.s∧w=p.w:=fun w hw=>by
 unfold name at hw
 split at hw
 ·rename_i hk
  cases hw
  exact⟨h (by simpa using hk),rfl⟩
 ·cases hw
theorem xU{p:PS}(h:WOk p):Yl (own p) fun x=>dV x.1.s∧WOk x.2:=fun x hx=>by
 have h1:=GK h x hx
 obtain⟨w,e1,hx⟩:=Res.then_ok hx
 obtain⟨l,e2,hx⟩:=Res.then_ok hx
 obtain⟨q,e3,hx⟩:=Res.then_ok hx
 cases hx
 exact⟨(Wl h _ e1).1,h1⟩
theorem sD{p:PS}(l:List By)(h:WOk p):Yl (called p l) fun x=>dV x.1.s∧WOk x.2.2:=fun x hx=>by
 have h1:=uH h x hx
 obtain⟨w,e1,hx⟩:=Res.then_ok hx
 obtain⟨l,e2,hx⟩:=Res.then_ok hx
 obtain⟨q,e3,hx⟩:=Res.then_ok hx
 cases hx
 exact⟨(Wl h _ e1).1,h1⟩
def NB:Ty→Prop
 |.basic s=>s∈[[105,110,116],[104,121,112,101,114],[98,111,111,108],[117,110,115,105,103,110,101,100,32,104,121,112,101,114],[117,110,115,105,103,110,101,100]]
 |.named s _=>dV s
 |_=>False
def NT:Ty→Prop
 |.array t _ _=>NB t
 |.opt t=>NB t
 |.bytes text fixed _=>text=true→fixed=false
 |.void=>False
 |t=>NB t
theorem NB.nt{t:Ty}(h:NB t):NT t:=by cases t<;>first|exact h|exact h.elim
theorem BA{p:PS}(h:WOk p):Yl (kindOf p) fun x=>NB x.1∧WOk x.2:=by
 intro x hx
 refine⟨?_,UN h x hx⟩
 revert x
 show Yl (kindOf p) fun x=>NB x.1
 unfold kindOf
 refine Yl.ite (fun hk=>Yl.bn fun _=>Yl.ok (h (by simpa using hk))) fun _=>?_
 refine Yl.bn fun _=>Yl.ite (fun _=>Yl.ok (by simp[NB])) fun _=>Yl.bn fun _=>Yl.ite (fun _=>Yl.ok (by simp[NB])) fun _=>Yl.bn fun _=>Yl.ite (fun _=>Yl.ok (by simp[NB])) fun _=>Yl.bn fun _=>Yl.ite (fun _=>?_) fun _=>Yl.no
 exact Yl.bn fun _=>Yl.ite (fun _=>Yl.ok (by simp[NB])) fun _=>Yl.bn fun _=>Yl.ok (by simp[NB])
theorem is_other{w:Wd}{a b:By}(h:w.is a=true)(hab:a≠b):w.is b=false:=by
 unfold Wd.is at h ⊢
 simp only[Bool.and_eq_true,beq_iff_eq]at h
 rw[h.1,h.2,Bool.true_and,beq_eq_false_iff_ne]
 exact hab
theorem Yz{p:PS}:Yl (bound p) fun x=>p.w.is [60]=true→x.1=false:=by
 unfold bound take
 by_cases hb:p.w.is [60]=true
 ·have:=is_other (b:=[91]) hb (by decide)
  rw[this]
  simp only[Bool.false_eq_true,if_false,Res.ak]
  refine Yl.bn fun _=>Yl.bn fun _=>Yl.ite (fun _=>Yl.ok fun _=>rfl) fun _=>?_
  exact Yl.bn fun _=>Yl.bn fun _=>Yl.ok fun _=>rfl
 ·intro x _ h;exact absurd h hb
def ND(d:Decl):Prop:=dV d.name∧NT d.ty
theorem Oc{σ:Type}{nm:PS→Res (Wd×σ×PS)}{p:PS}(hn:∀q,WOk q→Yl (nm q) fun x=>dV x.1.s∧WOk x.2.2)(h:WOk p):Yl (decl nm p) fun x=>ND x.1∧WOk x.2.2.2∧x.2.1.s=x.1.name:=by
 unfold decl
 refine Yl.ite (fun _=>?_) fun _=>?_
 ·refine Yl.bind (fun q hq=>jU hq) fun q hq=>Yl.bind (hn q hq) fun x hx=>Yl.ite (fun _=>Yl.no) fun hlt=>?_
  refine Yl.bind (P:=fun y=>(x.2.2.w.is [60]=true→y.1=false)∧WOk y.2.2) (fun y hy=>⟨Yz y hy,Qi hx.2 y hy⟩) fun y hy=>Yl.ok ⟨⟨hx.1,fun ht=>?_⟩,hy.2,rfl⟩
  refine hy.1 ?_
  have ht':p.w.is [115,116,114,105,110,103]=true:=ht
  simpa [ht'] using hlt
 ·refine Yl.bind (BA h) fun t ht=>Yl.bind (fC ht.2) fun y hy=>Yl.ite (fun _=>?_) fun _=>?_
  ·exact Yl.bind (hn _ hy) fun x hx=>Yl.ok ⟨⟨hx.1,ht.1⟩,hx.2,rfl⟩
  ·refine Yl.bind (hn _ hy) fun x hx=>Yl.ite (fun _=>?_) fun _=>Yl.ok ⟨⟨hx.1,ht.1.nt⟩,hx.2,rfl⟩
   exact Yl.bind (Qi hx.2) fun z hz=>Yl.ok ⟨⟨hx.1,ht.1⟩,hz,rfl⟩
theorem FD{p:PS}{l:List By}(h:WOk p):Yl (member p l) fun x=>ND x.1∧WOk x.2.2:=by
 unfold member
 refine Yl.bind (Oc (fun q hq=>sD l hq) h) fun x hx=>Yl.bind (aQ hx.2.1) fun q hq=>Yl.ok ⟨hx.1,hq⟩
def NA(d:Decl):Prop:=ND d∨d=⟨[],.void⟩
theorem Wn{p:PS}{l:List By}(h:WOk p):Yl (arm p l) fun x=>NA x.1∧WOk x.2.2:=by
 unfold arm
 refine Yl.bind (fC h) fun x hx=>Yl.ite (fun _=>Yl.bind (aQ hx) fun q hq=>Yl.ok ⟨Or.inr rfl,hq⟩) fun _=>?_
 exact(FD hx).mono fun a ha=>⟨Or.inl ha.1,ha.2⟩
def NS(t:Ty):Prop:=NB t∨t=.void
theorem Ob{p:PS}(h:WOk p):Yl (side p) fun x=>NS x.1∧WOk x.2:=by
 unfold side
 refine Yl.bind (fC h) fun x hx=>Yl.ite (fun _=>Yl.ok ⟨Or.inr rfl,hx⟩) fun _=>?_
 exact(BA hx).mono fun a ha=>⟨Or.inl ha.1,ha.2⟩
theorem lJ{α:Type}{Q:α→Prop}{l:List α}{a:α}(h:∀x∈l,Q x)(ha:Q a):∀x∈l++[a],Q x:=fun x hx=>by
 rcases List.mem_append.mp hx with hx|hx
 ·exact h x hx
 ·rw[List.mem_singleton.mp hx];exact ha
theorem JX:∀(k:Nat) (p:PS) (ns:List By) (is:List Int),WOk p→(∀s∈ns,dV s)→ns.length=is.length→Yl (fG k p ns is) fun x=>(∀s∈x.1,dV s)∧x.1.length=x.2.1.length∧ns.length<x.1.length∧WOk x.2.2
 |0,_,_,_,_,_,_=>Yl.no
 |k+1,p,ns,is,h,h1,h2=>by
  rw[fG]
  refine Yl.bn fun _=>Yl.bind (xU h) fun m hm=>Yl.bind (aQ hm.2) fun q hq=>Yl.bind (oL hq) fun v hv=>?_
  refine Yl.bind (fC (p:={ v.2.2 with n1:=v.2.2.n1+1,consts:=bg v.2.2.consts m.1.s v.1 }) (show WOk v.2.2 from hv)) fun x hx=>?_
  have a1:=lJ h1 hm.1
  have a2:(ns++[m.1.s]).length=(is++[v.1]).length:=by simp[h2]
  refine Yl.ite (fun _=>?_) fun _=>Yl.ok ⟨a1,a2,by simp,hx⟩
  exact(JX k _ _ _ hx a1 a2).mono fun a ha=>⟨ha.1,ha.2.1,by have:=ha.2.2.1;simp at this;omega,ha.2.2.2⟩
theorem FB:∀(k:Nat) (p:PS) (ds:List Decl) (l:List By),WOk p→(∀d∈ds,ND d)→Yl (dB k p ds l) fun x=>(∀d∈x.1,ND d)∧WOk x.2
 |0,_,_,_,_,_=>Yl.no
 |k+1,p,ds,l,h,h1=>by
  rw[dB]
  refine Yl.bind (FD h) fun d hd=>Yl.bind (fC hd.2) fun x hx=>?_
  exact Yl.ite (fun _=>Yl.ok ⟨lJ h1 hd.1,hx⟩) fun _=>FB k _ _ _ hx (lJ h1 hd.1)
theorem GG(lo hi:Int)(nums:Option (List Int)):∀(k:Nat) (p:PS) (as:List Arm) (l:List By) (there:List Int),WOk p→(∀a∈as,NA a.decl)→Yl (gG lo hi nums k p as l there) fun x=>(∀a∈x.1,NA a.decl)∧WOk x.2.2
 |0,_,_,_,_,_,_=>Yl.no
 |k+1,p,as,l,there,h,h1=>by
  rw[gG]
  refine Yl.bind (BJ _ h) fun c hc=>Yl.bind (Wn hc) fun d hd=>?_
  have a1:∀a∈as++[(⟨c.1,d.1⟩:Arm)],NA a.decl:=lJ h1 hd.1
  exact Yl.ite (fun _=>GG lo hi nums k _ _ _ _ hd.2 a1) fun _=>Yl.ok ⟨a1,hd.2⟩
def NQ(q:gq):Prop:=dV q.name∧NS q.arg∧NS q.res
def NV(v:gI):Prop:=dV v.name∧(∀q∈v.procs,NQ q)∧v.procs≠[]
theorem JV:∀(k:Nat) (p:PS) (qs:List gq) (l:List By) (ns:List Int),WOk p→(∀q∈qs,NQ q)→Yl (dX k p qs l ns) fun x=>(∀q∈x.1,NQ q)∧x.1≠[]∧WOk x.2
 |0,_,_,_,_,_,_=>Yl.no
 |k+1,p,qs,l,ns,h,h1=>by
  rw[dX]
  refine Yl.bind (Ob h) fun r hr=>Yl.bind (sD l hr.2) fun nm hnm=>Yl.bind (aQ hnm.2) fun p1 hp1=>Yl.bind (Ob hp1) fun a ha=>Yl.bind (aQ ha.2) fun p2 hp2=>Yl.bind (wH hp2) fun n hn=>Yl.bind (fC hn) fun x hx=>?_
  have a1:∀q∈qs++[(⟨nm.1.s,n.1,a.1,r.1⟩:gq)],NQ q:=lJ h1 ⟨hnm.1,ha.1,hr.1⟩
  exact Yl.ite (fun _=>Yl.ok ⟨a1,by simp,hx⟩) fun _=>JV k _ _ _ _ hx a1
theorem MF{p:PS}{names:List By}{nums:List Int}(h:WOk p):Yl (version p names nums) fun x=>NV x.1∧WOk x.2.2.2:=by
 unfold version
 refine Yl.bind (aQ h) fun q hq=>Yl.bind (sD _ hq) fun nm hnm=>Yl.bind (aQ hnm.2) fun p1 hp1=>Yl.bind (JV 8 p1 [] [] [] hp1 (fun q hq=>by cases hq)) fun x hx=>Yl.bind (wH hx.2.2) fun n hn=>Yl.ok ⟨⟨hnm.1,hx.1,hx.2.1⟩,hn⟩
theorem JU:∀(k:Nat) (p:PS) (vs:List gI) (l:List By) (ns:List Int),WOk p→(∀v∈vs,NV v)→Yl (fE k p vs l ns) fun x=>(∀v∈x.1,NV v)∧x.1≠[]∧WOk x.2
 |0,_,_,_,_,_,_=>Yl.no
 |k+1,p,vs,l,ns,h,h1=>by
  rw[fE]
  refine Yl.bind (MF h) fun v hv=>Yl.bind (fC hv.2) fun x hx=>?_
  exact Yl.ite (fun _=>Yl.ok ⟨lJ h1 hv.1,by simp,hx⟩) fun _=>JU k _ _ _ _ hx (lJ h1 hv.1)
end Go.M
namespace Go.M
structure Tk where
 kind:Nat
 s:By
 n:Int deriving DecidableEq
def Wd.tk(w:Wd):Tk:=⟨w.kind,w.s,w.n⟩
def Lx(txt:By):Nat→List Tk→Prop
 |pos,[]=>∃w e,next txt pos=.ok (w,e)∧w.kind=0
 |pos,t::r=>∃w e,next txt pos=.ok (w,e)∧w.tk=t∧Lx txt e r
def Ln(l:By)(t:List Tk):Prop:=∀(txt:By) (pos:Nat),txt.drop pos=l→Lx txt pos t
def tN(s:By):Tk:=⟨1,s,0⟩
def tK(s:By):Tk:=⟨2,s,0⟩
def tI(n:Int):Tk:=⟨3,uY n,n⟩
def tS(c:UInt8):Tk:=⟨4,[c],0⟩
theorem Ro(n:Nat){c:UInt8}(l:By)(h:iH c=true):skip (n+1) (c::l)=skip (n+1) l+1:=by
 have hb:blanks (c::l)=blanks l+1:=by rw[blanks,if_pos h]
 rw[skip,skip]
 simp only[hb,List.drop_succ_cons]
 split
 ·split<;>omega
 ·omega
theorem JR{txt:By}{pos:Nat}{c:UInt8}{l:By}(h:txt.drop pos=c::l)(hc:iH c=true):next txt pos=next txt (pos+1):=by
 have h1:txt.drop (pos+1)=l:=by rw[← List.drop_drop,h];rfl
 unfold next
 rw[h,h1,Ro _ _ hc,show pos+(skip (txt.length+1) l+1)=pos+1+skip (txt.length+1) l by omega]
theorem skip_none(n:Nat){c:UInt8}(l:By)(h:iH c=false)(h2:c≠47):skip (n+1) (c::l)=0:=by
 have hb:blanks (c::l)=0:=by rw[blanks,h];rfl
 rw[skip]
 simp only[hb,List.drop_zero]
 have:starts [47,42] (c::l)=false:=by
  simp only[starts]
  rw[show ((47:UInt8)==c)=false by rw[beq_eq_false_iff_ne];exact fun e=>h2 e.symm]
  rfl
 rw[this];rfl
def Hd(l:By):Prop:=bf l=0
theorem NP:∀{s:By} (l:By),s.all dH=true→bf (s++l)=s.length+bf l
 |[],l,_=>by simp
 |c::s,l,h=>by
  rw[List.all_cons,Bool.and_eq_true]at h
  rw[List.cons_append,bf,if_pos h.1,NP l h.2,List.length_cons];omega
theorem CV{txt:By}{pos:Nat}{s l:By}(h:txt.drop pos=s++l):txt.drop (pos+s.length)=l:=by
 rw[← List.drop_drop,h,List.drop_left]
theorem ln_end:Ln [] []:=fun txt pos h=>by
 refine⟨⟨0,[],pos+skip (txt.length+1) [],0⟩,pos+skip (txt.length+1) [],?_,rfl⟩
 unfold next
 rw[h]
 have:txt.drop (pos+skip (txt.length+1) [])=[]:=by rw[← List.drop_drop,h,List.drop_nil]
 simp only[this]
theorem aB{c:UInt8}{l:By}{t:List Tk}(hc:iH c=true)(h:Ln l t):Ln (c::l) t:=fun txt pos e=>by
 have h1:txt.drop (pos+1)=l:=by rw[← List.drop_drop,e];rfl
 have:=h txt _ h1
 cases t with
 |nil=>obtain⟨w,q,a,b⟩:=this;exact⟨w,q,(JR e hc).trans a,b⟩
 |cons x r=>obtain⟨w,q,a,b⟩:=this;exact⟨w,q,(JR e hc).trans a,b⟩
theorem yR{txt:By}{pos:Nat}{c:UInt8}{r:By}(h:txt.drop pos=c::r)(hc:iH c=false)(h2:c≠47):next txt pos =
  if c==45||digit c then
   match number ((c::r).take (1+bf r))with
   |none=>.no 4 pos
   |some v=>.ok (⟨3,(c::r).take (1+bf r),pos,v⟩,pos+(1+bf r))
  else if c != 95&&dH c then
   if contains keys (32::(c::r).take (bf (c::r))++[32])then .ok (⟨2,(c::r).take (bf (c::r)),pos,0⟩,pos+((c::r).take (bf (c::r))).length)
   else if 16<((c::r).take (bf (c::r))).length then .no 7 pos
   else .ok (⟨1,(c::r).take (bf (c::r)),pos,0⟩,pos+((c::r).take (bf (c::r))).length)
  else if signs.contains c then .ok (⟨4,[c],pos,0⟩,pos+1)
  else .no 2 pos:=by
 unfold next
 simp only[h,skip_none _ _ hc h2,Nat.add_zero]
 rfl
theorem Ef{c:UInt8}(h:dH c=true):iH c=false:=by
 unfold iH
 simp only[Bool.or_eq_false_iff,beq_eq_false_iff_ne]
 refine⟨⟨?_,?_⟩,?_⟩<;>(rintro rfl;exact absurd h (by decide))
theorem Ee{c:UInt8}(h:dH c=true):c≠47:=by rintro rfl;exact absurd h (by decide)
theorem O8{s l:By}(hs:s.all dH=true)(hl:Hd l):(s++l).take (bf (s++l))=s:=by
 rw[NP l hs,show bf l=0 from hl,Nat.add_zero,List.take_left]
theorem bF{s l:By}{t:List Tk}(hs:dV s)(hl:Hd l)(h:Ln l t):Ln (s++l) (tN s::t):=fun txt pos e=>by
 obtain⟨⟨c,r,rfl,h1,h2⟩,h3,h4,h5⟩:=hs
 have hp:dH c=true:=by rw[Bool.and_eq_true]at h1;exact h1.2
 have e':txt.drop pos=c::(r++l):=e
 refine⟨⟨1,c::r,pos,0⟩,pos+(c::r).length,?_,rfl,h _ _ (CV e)⟩
 have tr:(c::(r++l)).take (bf (c::(r++l)))=c::r:=O8 (s:=c::r) h3 hl
 rw[yR e' (Ef hp) (Ee hp),h2,h1,tr,h5,if_neg (show ¬ 16<(c::r).length by omega)]
 rfl
def oW(s:By):Bool:=(match s with|[]=>false|c::_=>(c != 95&&dH c)&&!(c==45||digit c))&&s.all dH&&contains keys (32::s++[32])
theorem af{s l:By}{t:List Tk}(hs:oW s=true)(hl:Hd l)(h:Ln l t):Ln (s++l) (tK s::t):=fun txt pos e=>by
 unfold oW at hs
 simp only[Bool.and_eq_true]at hs
 obtain⟨⟨h1,h3⟩,h5⟩:=hs
 cases s with
 |nil=>cases h1
 |cons c r=>
  simp only[Bool.and_eq_true,Bool.not_eq_true']at h1
  obtain⟨⟨h0,h1⟩,h2⟩:=h1
  have e':txt.drop pos=c::(r++l):=e
  refine⟨⟨2,c::r,pos,0⟩,pos+(c::r).length,?_,rfl,h _ _ (CV e)⟩
  have tr:(c::(r++l)).take (bf (c::(r++l)))=c::r:=O8 (s:=c::r) h3 hl
  rw[yR e' (Ef h1) (Ee h1),h2,h0,h1,tr,h5]
  rfl
def Xy(c:UInt8):Bool:=!iH c&&c != 47&&!(c==45||digit c)&&!(c != 95&&dH c)&&signs.contains c
theorem bu{c:UInt8}{l:By}{t:List Tk}(hs:Xy c=true)(h:Ln l t):Ln (c::l) (tS c::t):=fun txt pos e=>by
 unfold Xy at hs
 simp only[Bool.and_eq_true,Bool.not_eq_true',bne_iff_ne]at hs
 obtain⟨⟨⟨⟨h1,h2⟩,h3⟩,h4⟩,h5⟩:=hs
 refine⟨⟨4,[c],pos,0⟩,pos+1,?_,rfl,h _ _ (CV (s:=[c]) e)⟩
 have h4':(c != 95&&dH c)=false:=h4
 rw[yR e h1 h2,h3,h4',h5]
 rfl
open Go.Lib in
theorem L8(b:Nat):∀(a:By) (c:UInt8) (v:Nat),uint b (a++[c]) v=(uint b a v).bind fun v=>if dig c<b then(if v*b+dig c<4294967296 then some (v*b+dig c)else none)else none
 |[],c,v=>by simp[uint]
 |x::a,c,v=>by
  rw[List.cons_append,uint,uint]
  split
  ·split
   ·exact L8 b a c _
   ·rfl
  ·rfl
theorem IK:∀i:Fin 10,digit (UInt8.ofNat (48+i.val))=true∧dig (UInt8.ofNat (48+i.val))=i.val∧(1≤i.val→UInt8.ofNat (48+i.val)≠48):=by decide +kernel
open Go.Lib in
theorem F5(u:Nat):∃c r,decDigits u=c::r∧digit c=true∧r.all digit=true∧(1≤u→c≠48)∧(r≠[]→1≤u):=by
 induction u using Nat.strongRecOn with
 |_ u ih=>
  rw[decDigits]
  split
  ·rename_i h
   have:=IK ⟨u,h⟩
   exact⟨_,[],rfl,this.1,rfl,this.2.2,fun h=>absurd rfl h⟩
  ·rename_i h
   obtain⟨c,r,h1,h2,h3,h4,h5⟩:=ih (u / 10) (by omega)
   have:=IK ⟨u % 10,by omega⟩
   refine⟨c,r++[UInt8.ofNat (48+u % 10)],by rw[h1];rfl,h2,?_,fun _=>h4 (by omega),fun _=>by omega⟩
   rw[List.all_append,h3];simpa using this.1
open Go.Lib in
theorem QD(u:Nat)(hu:u<4294967296):uint 10 (decDigits u) 0=some u:=by
 induction u using Nat.strongRecOn with
 |_ u ih=>
  rw[decDigits]
  split
  ·rename_i h
   have:=(IK ⟨u,h⟩).2.1
   simp only at this
   rw[uint,this,if_pos h,if_pos (by omega),uint];simp
  ·rename_i h
   rw[L8,ih (u / 10) (by omega) (by omega)]
   have:=(IK ⟨u % 10,by omega⟩).2.1
   simp only at this
   simp only[Option.bind_some,this]
   rw[if_pos (by omega),if_pos (by omega)]
   congr 1;omega
theorem Es{c:UInt8}(h:digit c=true):dH c=true:=by
 unfold dH;rw[h];simp
theorem Lc:∀{l:By},l.all digit=true→l.all dH=true
 |[],_=>rfl
 |c::r,h=>by
  rw[List.all_cons,Bool.and_eq_true]at h
  rw[List.all_cons,Es h.1,Lc h.2];rfl
theorem JQ:∀{l:By},l.all digit=true→l.contains 95=false
 |[],_=>rfl
 |c::r,h=>by
  rw[List.all_cons,Bool.and_eq_true]at h
  rw[List.contains_cons,JQ h.2,Bool.or_false,beq_eq_false_iff_ne]
  rintro rfl;exact absurd h.1 (by decide)
theorem no_hex{c:UInt8}:∀{r:By},r.all digit=true→starts [48,120] (c::r)=false
 |[],_=>by simp[starts]
 |d::r,h=>by
  rw[List.all_cons,Bool.and_eq_true]at h
  simp only[starts]
  have:((120:UInt8)==d)=false:=by rw[beq_eq_false_iff_ne];rintro rfl;exact absurd h.1 (by decide)
  rw[this];simp
theorem QA{c:UInt8}(h:digit c=true):c≠45:=by rintro rfl;exact absurd h (by decide)
theorem Yr{r:By}:starts [48,120] (45::r)=false:=by simp[starts]
open Go.Lib in
theorem RI(u:Nat)(hu:u<4294967296):number (decDigits u)=some (u:Int):=by
 obtain⟨c,r,h1,h2,h3,h4,h5⟩:=F5 u
 have hx:=QD u hu
 rw[h1]at hx ⊢
 have hc:=QA h2
 have e:dJ (c::r)=c::r:=by
  unfold dJ
  split
  ·rename_i r' he;cases he;exact absurd rfl hc
  ·rfl
 unfold number
 simp only[no_hex h3,Bool.false_eq_true,if_false,e]
 have g1:(decide (1<(c::r).length)&&(c::r).head?==some 48)=false:=by
  cases r with
  |nil=>simp
  |cons d r=>have:c≠48:=h4 (h5 (by simp));simp[this]
 have g2:(c::r).contains 95=false:=JQ (by rw[List.all_cons,h2,h3];rfl)
 rw[g1,g2]
 simp only[Bool.false_eq_true,if_false,oq,List.isEmpty_cons,hx]
 have g3:((c::r).head?==some 45)=false:=by simp[hc]
 rw[g3];rfl
open Go.Lib in
theorem RH(u:Nat)(h0:1≤u)(hu:u≤2147483648):number (45::decDigits u)=some (-(u:Int)):=by
 obtain⟨c,r,h1,h2,h3,h4,h5⟩:=F5 u
 have hx:=QD u (by omega)
 rw[h1]at hx ⊢
 unfold number
 simp only[Yr,Bool.false_eq_true,if_false,dJ]
 have g1:(decide (1<(c::r).length)&&(c::r).head?==some 48)=false:=by
  have:c≠48:=h4 h0
  simp[this]
 have g2:(c::r).contains 95=false:=JQ (by rw[List.all_cons,h2,h3];rfl)
 rw[g1,g2]
 simp only[Bool.false_eq_true,if_false,oq,List.isEmpty_cons,hx]
 have g3:(((45:UInt8)::c::r).head?==some 45)=true:=by simp
 rw[g3];simp[hu]
theorem VW{n:Int}(h1 : -2147483648≤n)(h2:n≤4294967295):number (uY n)=some n:=by
 unfold uY
 unfold Go.Lib.itoa
 split
 ·rw[RH _ (by omega) (by omega)];congr 1;omega
 ·rw[RI _ (by omega)];congr 1;omega
theorem VX(n:Int):∃c r,uY n=c::r∧(c==45||digit c)=true∧r.all dH=true∧iH c=false∧c≠47:=by
 unfold uY
 unfold Go.Lib.itoa
 split
 ·obtain⟨c,r,h1,h2,h3,h4,h5⟩:=F5 n.natAbs
  exact⟨45,_,rfl,rfl,by rw[h1];exact Lc (by rw[List.all_cons,h2,h3];rfl),rfl,by decide⟩
 ·obtain⟨c,r,h1,h2,h3,h4,h5⟩:=F5 n.toNat
  exact⟨c,r,h1,by rw[h2];simp,Lc h3,Ef (Es h2),Ee (Es h2)⟩
theorem eu{n:Int}{l:By}{t:List Tk}(h1 : -2147483648≤n)(h2:n≤4294967295)(hl:Hd l)(h:Ln l t):Ln (uY n++l) (tI n::t):=fun txt pos e=>by
 obtain⟨c,r,f1,f2,f3,f4,f5⟩:=VX n
 have f6:=VW h1 h2
 refine⟨⟨3,uY n,pos,n⟩,pos+(uY n).length,?_,rfl,h _ _ (CV e)⟩
 rw[f1]at e f6 ⊢
 have e':txt.drop pos=c::(r++l):=e
 have rr:bf (r++l)=r.length:=by rw[NP l f3,show bf l=0 from hl];rfl
 have tr:(c::(r++l)).take (1+r.length)=c::r:=by rw[Nat.add_comm,List.take_succ_cons,List.take_left]
 rw[yR e' f4 f5,f2,rr,tr,f6]
 simp only[if_true,List.length_cons]
 rw[Nat.add_comm 1 r.length]
end Go.M
namespace Go.M
def NO:Ty→Prop
 |.basic s=>s∈[[105,110,116],[98,111,111,108],[117,110,115,105,103,110,101,100]]
 |.named s _=>dV s
 |_=>False
theorem JY{p:PS}(h:WOk p):Yl (aS p) fun x=>NO x.1.1∧least≤x.1.2.1∧x.1.2.2.1≤top∧WOk x.2:=by
 intro x hx
 refine(fun(A:NO x.1.1∧least≤x.1.2.1∧x.1.2.2.1≤top)=>⟨A.1,A.2.1,A.2.2,zl h x hx⟩) ?_
 revert x
 show Yl (aS p) fun x=>NO x.1.1∧least≤x.1.2.1∧x.1.2.2.1≤top
 unfold aS
 refine Yl.ite (fun hk=>?_) fun _=>?_
 ·cases hl:p.enums.lookup p.w.s with
  |none=>exact Yl.no
  |some nums=>exact Yl.bn fun _=>Yl.ok ⟨h (by simpa using hk),by simp[least],by simp[J6,top]⟩
 ·refine Yl.bn fun _=>Yl.ite (fun _=>Yl.ok ⟨by simp[NO],by simp[least],by simp[J6,top]⟩) fun _=>Yl.bn fun _=>Yl.ite (fun _=>Yl.ok ⟨by simp[NO],by simp[least],by simp[top]⟩) fun _=>Yl.bn fun _=>Yl.ite (fun _=>Yl.bn fun _=>Yl.ok ⟨by simp[NO],by simp[least],by simp[top]⟩) fun _=>Yl.no
theorem J5(lo hi:Int)(nums:Option (List Int)):∀(k:Nat) (p:PS) (a there:List Int),(∀n∈a,lo≤n∧n≤hi)→Yl (dK lo hi nums k p a there) fun x=>(∀n∈x.1,lo≤n∧n≤hi)∧a.length<x.1.length
 |0,_,_,_,_=>Yl.no
 |k+1,p,a,there,h=>by
  rw[dK]
  refine Yl.bn fun p=>Yl.bind (Cc _ _ _ _) fun v hv=>Yl.bn fun p=>?_
  have h':=lJ h hv
  refine Yl.ite (fun _=>?_) fun _=>Yl.ok ⟨h',by simp⟩
  exact(J5 lo hi nums k _ _ _ h').mono fun x hx=>⟨hx.1,by have:=hx.2;simp at this;omega⟩
theorem MG(lo hi:Int)(nums:Option (List Int)):∀(k:Nat) (p:PS) (as:List Arm) (l:List By) (there:List Int),(∀a∈as,∀n∈a.nums,lo≤n∧n≤hi)→Yl (gG lo hi nums k p as l there) fun x=>(∀a∈x.1,∀n∈a.nums,lo≤n∧n≤hi)
 |0,_,_,_,_,_=>Yl.no
 |k+1,p,as,l,there,h=>by
  rw[gG]
  refine Yl.bind (J5 lo hi nums _ p [] there (fun _ h=>by cases h)) fun c hc=>Yl.bn fun d=>?_
  have h':∀a∈as++[(⟨c.1,d.1⟩:Arm)],∀n∈a.nums,lo≤n∧n≤hi:=lJ h hc.1
  exact Yl.ite (fun _=>MG lo hi nums k _ _ _ _ h') fun _=>Yl.ok h'
def NK:Dk→Prop
 |.const n=>least≤n∧n≤top
 |.alias t=>NT t
 |.enum ns is=>(∀s∈ns,dV s)∧ns.length=is.length∧0<ns.length
 |.struct ds=>∀d∈ds,ND d
 |.union of nm arms els=>NO of∧dV nm∧(∀a∈arms,NA a.decl∧∀n∈a.nums,least≤n∧n≤top)∧∀d,els=some d→NA d
 |.prog _ vs=>∀v∈vs,NV v
def NF(x:Def×PS):Prop:=dV x.1.name∧NK x.1.k∧WOk x.2
theorem RN{p:PS}(h:WOk p):Yl (constant p) NF:=by
 unfold constant
 refine Yl.bn fun _=>Yl.bind (aQ h) fun p1 h1=>Yl.bind (xU h1) fun w hw=>Yl.bind (aQ hw.2) fun p2 h2=>?_
 refine Yl.bind (P:=fun(v:Int×Unit×PS)=>(least≤v.1∧v.1≤top)∧WOk v.2.2) (fun v hv=>⟨Cc _ _ _ _ v hv,oL h2 v hv⟩) fun v hv=>Yl.bind (aQ hv.2) fun p3 h3=>Yl.ok ⟨hw.1,(show NK (.const v.1)from hv.1),h3⟩
theorem YA{p:PS}(h:WOk p):Yl (alias p) NF:=by
 unfold alias
 refine Yl.bind (aQ h) fun p1 h1=>Yl.bind (Oc (nm:=zi) (fun q hq=>?_) h1) fun d hd=>Yl.bind (aQ hd.2.1) fun p2 h2=>Yl.ok ⟨?_,hd.1.2,h2⟩
 ·unfold zi
  exact Yl.bind (xU hq) fun x hx=>Yl.ok hx
 ·show dV d.2.1.s
  rw[hd.2.2];exact hd.1.1
theorem n_enum{p:PS}(h:WOk p):Yl (enum p) NF:=by
 unfold enum
 refine Yl.bind (aQ h) fun p1 h1=>Yl.bind (xU h1) fun w hw=>Yl.bind (aQ hw.2) fun p2 h2=>?_
 refine Yl.bind (JX 12 p2 [] [] h2 (fun _ h=>by cases h) rfl) fun x hx=>Yl.bind (aQ hx.2.2.2) fun p3 h3=>Yl.ok ⟨hw.1,⟨hx.1,hx.2.1,hx.2.2.1⟩,h3⟩
theorem Wj{p:PS}(h:WOk p):Yl (fJ p) NF:=by
 unfold fJ
 refine Yl.bind (aQ h) fun p1 h1=>Yl.bind (xU h1) fun w hw=>Yl.bind (aQ hw.2) fun p2 h2=>?_
 refine Yl.bind (FB 12 p2 [] [] h2 (fun _ h=>by cases h)) fun x hx=>Yl.bind (aQ hx.2) fun p3 h3=>Yl.ok ⟨hw.1,hx.1,h3⟩
theorem Yy{p:PS}(h:WOk p):Yl (union p) NF:=by
 unfold union
 refine Yl.bind (aQ h) fun p1 h1=>Yl.bind (xU h1) fun w hw=>Yl.bind (aQ hw.2) fun p2 h2=>?_
 refine Yl.bind (JY h2) fun d hd=>Yl.bind (sD _ hd.2.2.2) fun nm hnm=>Yl.bind (aQ hnm.2) fun p3 h3=>?_
 refine Yl.bind (P:=fun x=>((∀a∈x.1,NA a.decl)∧WOk x.2.2)∧(∀a∈x.1,∀n∈a.nums,d.1.2.1≤n∧n≤d.1.2.2.1)) (fun x hx=>⟨GG _ _ _ 13 p3 [] _ [] h3 (fun _ h=>by cases h) x hx,MG _ _ _ 13 p3 [] _ [] (fun _ h=>by cases h) x hx⟩) fun as has=>?_
 refine Yl.bind (fC has.1.2) fun x hx=>?_
 refine Yl.bind (P:=fun(e:Option Decl×PS)=>(∀d,e.1=some d→NA d)∧WOk e.2) (Yl.ite (fun _=>?_) (fun _=>?_)) fun e he=>?_
 ·refine Yl.bind (aQ hx) fun p4 h4=>Yl.bind (Wn h4) fun e he=>Yl.ok ⟨fun d hd=>by cases hd;exact he.1,he.2⟩
 ·exact Yl.ok ⟨fun d hd=>(by cases hd),hx⟩
 ·refine Yl.bind (aQ he.2) fun p5 h5=>Yl.ok ⟨hw.1,⟨hd.1,hnm.1,fun a ha=>⟨has.1.1 a ha,fun n hn=>?_⟩,he.1⟩,h5⟩
  have:=has.2 a ha n hn
  have a1:=hd.2.1
  have a2:=hd.2.2.1
  exact⟨Int.le_trans a1 this.1,Int.le_trans this.2 a2⟩
theorem UK{p:PS}(h:WOk p):Yl (program p) NF:=by
 unfold program
 refine Yl.bn fun _=>Yl.bind (aQ (p:={ p with n2:=p.n2+1 }) h) fun p1 h1=>Yl.bind (xU h1) fun w hw=>Yl.bind (aQ hw.2) fun p2 h2=>?_
 refine Yl.bind (JU 4 p2 [] [] [] h2 (fun _ h=>by cases h)) fun x hx=>Yl.bind (wH hx.2.2) fun n hn=>Yl.ok ⟨hw.1,hx.1,hn⟩
theorem FH{p:PS}(h:WOk p):Yl (definition p) NF:=by
 unfold definition
 refine Yl.ite (fun _=>RN h) fun _=>Yl.ite (fun _=>UK h) fun _=>?_
 have h':WOk { p with n0:=p.n0+1 }:=h
 refine Yl.ite (fun _=>Yl.bn fun _=>YA h') fun _=>Yl.ite (fun _=>Yl.bn fun _=>n_enum h') fun _=>Yl.ite (fun _=>Yl.bn fun _=>Wj h') fun _=>Yl.ite (fun _=>Yl.bn fun _=>Yy h') fun _=>Yl.no
theorem JZ:∀(k:Nat) (p:PS) (ds:List Def),WOk p→(∀d∈ds,dV d.name∧NK d.k)→Yl (fU k p ds) fun l=>∀d∈l,dV d.name∧NK d.k
 |0,p,ds,_,h=>by rw[fU];exact Yl.ok h
 |k+1,p,ds,hp,h=>by
  rw[fU]
  refine Yl.ite (fun _=>Yl.ok h) fun _=>Yl.bind (FH hp) fun x hx=>?_
  exact JZ k _ _ hx.2.2 (lJ h ⟨hx.1,hx.2.1⟩)
def PK(d:Def):Prop:=dV d.name∧NK d.k∧∃E,GV E d.k
theorem JF{txt:By}{ds:List Def}(h:parse txt=.ok ds):(∀d∈ds,PK d)∧ds.length≤69:=by
 unfold parse at h
 obtain⟨p,h1,h2⟩:=Res.then_ok h
 have hn:=JZ 69 p [] (jU h1) (fun _ h=>by cases h) ds h2
 have hp:PI p []:=PI.start (Be (p:=⟨txt,0,⟨0,[],0,0⟩,[],[],[],[],0,0,0⟩) (lT h1)) (vw (p:=⟨txt,0,⟨0,[],0,0⟩,[],[],[],[],0,0,0⟩) (lT h1))
 obtain⟨q,hq,hl⟩:=DU 69 p [] hp (by decide) ds h2
 exact⟨fun d hd=>⟨(hn d hd).1,(hn d hd).2,hq.ok d hd⟩,hl⟩
end Go.M
namespace Go.M
theorem bI:oW [99,111,110,115,116]=true:=by decide +kernel
theorem aN:oW [116,121,112,101,100,101,102]=true:=by decide +kernel
theorem cO:oW [101,110,117,109]=true:=by decide +kernel
theorem aW:oW [115,116,114,117,99,116]=true:=by decide +kernel
theorem bH:oW [117,110,105,111,110]=true:=by decide +kernel
theorem aV:oW [115,119,105,116,99,104]=true:=by decide +kernel
theorem dh:oW [99,97,115,101]=true:=by decide +kernel
theorem aP:oW [100,101,102,97,117,108,116]=true:=by decide +kernel
theorem df:oW [118,111,105,100]=true:=by decide +kernel
theorem eG:oW [105,110,116]=true:=by decide +kernel
theorem aC:oW [117,110,115,105,103,110,101,100]=true:=by decide +kernel
theorem bK:oW [104,121,112,101,114]=true:=by decide +kernel
theorem dw:oW [98,111,111,108]=true:=by decide +kernel
theorem aZ:oW [111,112,97,113,117,101]=true:=by decide +kernel
theorem aY:oW [115,116,114,105,110,103]=true:=by decide +kernel
theorem aO:oW [112,114,111,103,114,97,109]=true:=by decide +kernel
theorem aK:oW [118,101,114,115,105,111,110]=true:=by decide +kernel
def Rn(f:Bool)(n:Int):List Tk:=if f then[tS 91,tI n,tS 93]else[tS 60,tI n,tS 62]
def X9(s:By):List Tk:=if s==[117,110,115,105,103,110,101,100,32,104,121,112,101,114]then[tK [117,110,115,105,103,110,101,100],tK [104,121,112,101,114]]else[tK s]
def bU:Ty→List Tk
 |.basic s=>X9 s
 |.named s _=>[tN s]
 |.bytes t _ _=>[if t then tK [115,116,114,105,110,103]else tK [111,112,97,113,117,101]]
 |.array t _ _=>bU t
 |.opt t=>bU t++[tS 42]
 |.void=>[tK [118,111,105,100]]
def Jj:Ty→List Tk
 |.bytes _ f n=>Rn f n
 |.array _ f n=>Rn f n
 |_=>[]
def iZ(d:Decl):List Tk:=bU d.ty++(if d.name.isEmpty then[]else[tN d.name])++Jj d.ty
def O7:List By→List Int→List Tk
 |s::r,n::q=>tS 44::tN s::tS 61::tI n::O7 r q
 |_,_=>[]
def kK:List By→List Int→List Tk
 |s::r,n::q=>tN s::tS 61::tI n::O7 r q
 |_,_=>[]
def qF:List Decl→List Tk
 |[]=>[]
 |d::r=>iZ d++(tS 59::qF r)
def yF:List Int→List Tk
 |[]=>[]
 |n::r=>tK [99,97,115,101]::tI n::tS 58::yF r
def sN:List Arm→List Tk
 |[]=>[]
 |a::r=>yF a.nums++(iZ a.decl++(tS 59::sN r))
def Hm:Option Decl→List Tk
 |none=>[]
 |some d=>tK [100,101,102,97,117,108,116]::tS 58::(iZ d++[tS 59])
def kJ:List gq→List Tk
 |[]=>[]
 |q::r=>bU q.res++(tN q.name::tS 40::(bU q.arg++(tS 41::tS 61::tI q.n::tS 59::kJ r)))
def yE:List gI→List Tk
 |[]=>[]
 |v::r=>tK [118,101,114,115,105,111,110]::tN v.name::tS 123::(kJ v.procs++(tS 125::tS 61::tI v.n::tS 59::yE r))
def qI(d:Def):List Tk:=match d.k with
 |.const n=>[tK [99,111,110,115,116],tN d.name,tS 61,tI n,tS 59]
 |.alias t=>tK [116,121,112,101,100,101,102]::(iZ ⟨d.name,t⟩++[tS 59])
 |.enum ns is=>tK [101,110,117,109]::tN d.name::tS 123::(kK ns is++[tS 125,tS 59])
 |.struct ds=>tK [115,116,114,117,99,116]::tN d.name::tS 123::(qF ds++[tS 125,tS 59])
 |.union of nm ar els=>tK [117,110,105,111,110]::tN d.name::tK [115,119,105,116,99,104]::tS 40::(bU of++(tN nm::tS 41::tS 123::(sN ar++(Hm els++[tS 125,tS 59]))))
 |.prog n vs=>tK [112,114,111,103,114,97,109]::tN d.name::tS 123::(yE vs++[tS 125,tS 61,tI n,tS 59])
def DX:List Def→List Tk
 |[]=>[]
 |d::r=>qI d++DX r
theorem Zy{f:Bool}{n:Int}{l:By}{t:List Tk}(h1:0≤n)(h2:n≤4294967295)(h:Ln l t):Ln (ji f n++l) (Rn f n++t):=by
 unfold ji Rn
 cases f<;>(simp only[if_true,if_false,Bool.false_eq_true,List.append_assoc,List.cons_append,List.nil_append];(repeat' (first|assumption|exact rfl|refine aB rfl ?_|refine bu rfl ?_|(refine bF ?_ ?_ ?_;rotate_left 2)|refine eu (by omega) (by omega) ?_ ?_|refine af (s:=[99,111,110,115,116]) bI ?_ ?_|refine af (s:=[116,121,112,101,100,101,102]) aN ?_ ?_|refine af (s:=[101,110,117,109]) cO ?_ ?_|refine af (s:=[115,116,114,117,99,116]) aW ?_ ?_|refine af (s:=[117,110,105,111,110]) bH ?_ ?_|refine af (s:=[115,119,105,116,99,104]) aV ?_ ?_|refine af (s:=[99,97,115,101]) dh ?_ ?_|refine af (s:=[100,101,102,97,117,108,116]) aP ?_ ?_|refine af (s:=[118,111,105,100]) df ?_ ?_|refine af (s:=[105,110,116]) eG ?_ ?_|refine af (s:=[117,110,115,105,103,110,101,100]) aC ?_ ?_|refine af (s:=[104,121,112,101,114]) bK ?_ ?_|refine af (s:=[98,111,111,108]) dw ?_ ?_|refine af (s:=[111,112,97,113,117,101]) aZ ?_ ?_|refine af (s:=[115,116,114,105,110,103]) aY ?_ ?_|refine af (s:=[112,114,111,103,114,97,109]) aO ?_ ?_|refine af (s:=[118,101,114,115,105,111,110]) aK ?_ ?_)))
theorem ZG{f:Bool}{n:Int}{l:By}:Hd (ji f n++l):=by
 unfold ji
 cases f<;>rfl
theorem Qa{ty:Ty}{l:By}{t:List Tk}(hn:NB ty)(h:Ln l t):Ln (dU ty++l) (bU ty++t):=by
 cases ty with
 |basic s=>
  simp only[NB,List.mem_cons,List.not_mem_nil,or_false]at hn
  rcases hn with rfl|rfl|rfl|rfl|rfl
  ·show Ln ([105,110,116]++32::l) (tK [105,110,116]::t);(repeat' (first|assumption|exact rfl|refine aB rfl ?_|refine bu rfl ?_|(refine bF ?_ ?_ ?_;rotate_left 2)|refine eu (by omega) (by omega) ?_ ?_|refine af (s:=[99,111,110,115,116]) bI ?_ ?_|refine af (s:=[116,121,112,101,100,101,102]) aN ?_ ?_|refine af (s:=[101,110,117,109]) cO ?_ ?_|refine af (s:=[115,116,114,117,99,116]) aW ?_ ?_|refine af (s:=[117,110,105,111,110]) bH ?_ ?_|refine af (s:=[115,119,105,116,99,104]) aV ?_ ?_|refine af (s:=[99,97,115,101]) dh ?_ ?_|refine af (s:=[100,101,102,97,117,108,116]) aP ?_ ?_|refine af (s:=[118,111,105,100]) df ?_ ?_|refine af (s:=[105,110,116]) eG ?_ ?_|refine af (s:=[117,110,115,105,103,110,101,100]) aC ?_ ?_|refine af (s:=[104,121,112,101,114]) bK ?_ ?_|refine af (s:=[98,111,111,108]) dw ?_ ?_|refine af (s:=[111,112,97,113,117,101]) aZ ?_ ?_|refine af (s:=[115,116,114,105,110,103]) aY ?_ ?_|refine af (s:=[112,114,111,103,114,97,109]) aO ?_ ?_|refine af (s:=[118,101,114,115,105,111,110]) aK ?_ ?_))
  ·show Ln ([104,121,112,101,114]++32::l) (tK [104,121,112,101,114]::t);(repeat' (first|assumption|exact rfl|refine aB rfl ?_|refine bu rfl ?_|(refine bF ?_ ?_ ?_;rotate_left 2)|refine eu (by omega) (by omega) ?_ ?_|refine af (s:=[99,111,110,115,116]) bI ?_ ?_|refine af (s:=[116,121,112,101,100,101,102]) aN ?_ ?_|refine af (s:=[101,110,117,109]) cO ?_ ?_|refine af (s:=[115,116,114,117,99,116]) aW ?_ ?_|refine af (s:=[117,110,105,111,110]) bH ?_ ?_|refine af (s:=[115,119,105,116,99,104]) aV ?_ ?_|refine af (s:=[99,97,115,101]) dh ?_ ?_|refine af (s:=[100,101,102,97,117,108,116]) aP ?_ ?_|refine af (s:=[118,111,105,100]) df ?_ ?_|refine af (s:=[105,110,116]) eG ?_ ?_|refine af (s:=[117,110,115,105,103,110,101,100]) aC ?_ ?_|refine af (s:=[104,121,112,101,114]) bK ?_ ?_|refine af (s:=[98,111,111,108]) dw ?_ ?_|refine af (s:=[111,112,97,113,117,101]) aZ ?_ ?_|refine af (s:=[115,116,114,105,110,103]) aY ?_ ?_|refine af (s:=[112,114,111,103,114,97,109]) aO ?_ ?_|refine af (s:=[118,101,114,115,105,111,110]) aK ?_ ?_))
  ·show Ln ([98,111,111,108]++32::l) (tK [98,111,111,108]::t);(repeat' (first|assumption|exact rfl|refine aB rfl ?_|refine bu rfl ?_|(refine bF ?_ ?_ ?_;rotate_left 2)|refine eu (by omega) (by omega) ?_ ?_|refine af (s:=[99,111,110,115,116]) bI ?_ ?_|refine af (s:=[116,121,112,101,100,101,102]) aN ?_ ?_|refine af (s:=[101,110,117,109]) cO ?_ ?_|refine af (s:=[115,116,114,117,99,116]) aW ?_ ?_|refine af (s:=[117,110,105,111,110]) bH ?_ ?_|refine af (s:=[115,119,105,116,99,104]) aV ?_ ?_|refine af (s:=[99,97,115,101]) dh ?_ ?_|refine af (s:=[100,101,102,97,117,108,116]) aP ?_ ?_|refine af (s:=[118,111,105,100]) df ?_ ?_|refine af (s:=[105,110,116]) eG ?_ ?_|refine af (s:=[117,110,115,105,103,110,101,100]) aC ?_ ?_|refine af (s:=[104,121,112,101,114]) bK ?_ ?_|refine af (s:=[98,111,111,108]) dw ?_ ?_|refine af (s:=[111,112,97,113,117,101]) aZ ?_ ?_|refine af (s:=[115,116,114,105,110,103]) aY ?_ ?_|refine af (s:=[112,114,111,103,114,97,109]) aO ?_ ?_|refine af (s:=[118,101,114,115,105,111,110]) aK ?_ ?_))
  ·show Ln ([117,110,115,105,103,110,101,100]++32::([104,121,112,101,114]++32::l)) (tK [117,110,115,105,103,110,101,100]::tK [104,121,112,101,114]::t);(repeat' (first|assumption|exact rfl|refine aB rfl ?_|refine bu rfl ?_|(refine bF ?_ ?_ ?_;rotate_left 2)|refine eu (by omega) (by omega) ?_ ?_|refine af (s:=[99,111,110,115,116]) bI ?_ ?_|refine af (s:=[116,121,112,101,100,101,102]) aN ?_ ?_|refine af (s:=[101,110,117,109]) cO ?_ ?_|refine af (s:=[115,116,114,117,99,116]) aW ?_ ?_|refine af (s:=[117,110,105,111,110]) bH ?_ ?_|refine af (s:=[115,119,105,116,99,104]) aV ?_ ?_|refine af (s:=[99,97,115,101]) dh ?_ ?_|refine af (s:=[100,101,102,97,117,108,116]) aP ?_ ?_|refine af (s:=[118,111,105,100]) df ?_ ?_|refine af (s:=[105,110,116]) eG ?_ ?_|refine af (s:=[117,110,115,105,103,110,101,100]) aC ?_ ?_|refine af (s:=[104,121,112,101,114]) bK ?_ ?_|refine af (s:=[98,111,111,108]) dw ?_ ?_|refine af (s:=[111,112,97,113,117,101]) aZ ?_ ?_|refine af (s:=[115,116,114,105,110,103]) aY ?_ ?_|refine af (s:=[112,114,111,103,114,97,109]) aO ?_ ?_|refine af (s:=[118,101,114,115,105,111,110]) aK ?_ ?_))
  ·show Ln ([117,110,115,105,103,110,101,100]++32::l) (tK [117,110,115,105,103,110,101,100]::t);(repeat' (first|assumption|exact rfl|refine aB rfl ?_|refine bu rfl ?_|(refine bF ?_ ?_ ?_;rotate_left 2)|refine eu (by omega) (by omega) ?_ ?_|refine af (s:=[99,111,110,115,116]) bI ?_ ?_|refine af (s:=[116,121,112,101,100,101,102]) aN ?_ ?_|refine af (s:=[101,110,117,109]) cO ?_ ?_|refine af (s:=[115,116,114,117,99,116]) aW ?_ ?_|refine af (s:=[117,110,105,111,110]) bH ?_ ?_|refine af (s:=[115,119,105,116,99,104]) aV ?_ ?_|refine af (s:=[99,97,115,101]) dh ?_ ?_|refine af (s:=[100,101,102,97,117,108,116]) aP ?_ ?_|refine af (s:=[118,111,105,100]) df ?_ ?_|refine af (s:=[105,110,116]) eG ?_ ?_|refine af (s:=[117,110,115,105,103,110,101,100]) aC ?_ ?_|refine af (s:=[104,121,112,101,114]) bK ?_ ?_|refine af (s:=[98,111,111,108]) dw ?_ ?_|refine af (s:=[111,112,97,113,117,101]) aZ ?_ ?_|refine af (s:=[115,116,114,105,110,103]) aY ?_ ?_|refine af (s:=[112,114,111,103,114,97,109]) aO ?_ ?_|refine af (s:=[118,101,114,115,105,111,110]) aK ?_ ?_))
 |named s a=>
  have hn:dV s:=hn
  simp only[dU,bU,List.append_assoc,List.cons_append,List.nil_append]
  (repeat' (first|assumption|exact rfl|refine aB rfl ?_|refine bu rfl ?_|(refine bF ?_ ?_ ?_;rotate_left 2)|refine eu (by omega) (by omega) ?_ ?_|refine af (s:=[99,111,110,115,116]) bI ?_ ?_|refine af (s:=[116,121,112,101,100,101,102]) aN ?_ ?_|refine af (s:=[101,110,117,109]) cO ?_ ?_|refine af (s:=[115,116,114,117,99,116]) aW ?_ ?_|refine af (s:=[117,110,105,111,110]) bH ?_ ?_|refine af (s:=[115,119,105,116,99,104]) aV ?_ ?_|refine af (s:=[99,97,115,101]) dh ?_ ?_|refine af (s:=[100,101,102,97,117,108,116]) aP ?_ ?_|refine af (s:=[118,111,105,100]) df ?_ ?_|refine af (s:=[105,110,116]) eG ?_ ?_|refine af (s:=[117,110,115,105,103,110,101,100]) aC ?_ ?_|refine af (s:=[104,121,112,101,114]) bK ?_ ?_|refine af (s:=[98,111,111,108]) dw ?_ ?_|refine af (s:=[111,112,97,113,117,101]) aZ ?_ ?_|refine af (s:=[115,116,114,105,110,103]) aY ?_ ?_|refine af (s:=[112,114,111,103,114,97,109]) aO ?_ ?_|refine af (s:=[118,101,114,115,105,111,110]) aK ?_ ?_))
 |_=>exact hn.elim
theorem Ws{ty:Ty}{l:By}{t:List Tk}(hn:NT ty)(h:Ln l t):Ln (dU ty++l) (bU ty++t):=by
 cases ty with
 |basic s=>exact Qa hn h
 |named s a=>exact Qa hn h
 |bytes x f n=>
  cases x
  ·show Ln ([111,112,97,113,117,101]++32::l) (tK [111,112,97,113,117,101]::t);(repeat' (first|assumption|exact rfl|refine aB rfl ?_|refine bu rfl ?_|(refine bF ?_ ?_ ?_;rotate_left 2)|refine eu (by omega) (by omega) ?_ ?_|refine af (s:=[99,111,110,115,116]) bI ?_ ?_|refine af (s:=[116,121,112,101,100,101,102]) aN ?_ ?_|refine af (s:=[101,110,117,109]) cO ?_ ?_|refine af (s:=[115,116,114,117,99,116]) aW ?_ ?_|refine af (s:=[117,110,105,111,110]) bH ?_ ?_|refine af (s:=[115,119,105,116,99,104]) aV ?_ ?_|refine af (s:=[99,97,115,101]) dh ?_ ?_|refine af (s:=[100,101,102,97,117,108,116]) aP ?_ ?_|refine af (s:=[118,111,105,100]) df ?_ ?_|refine af (s:=[105,110,116]) eG ?_ ?_|refine af (s:=[117,110,115,105,103,110,101,100]) aC ?_ ?_|refine af (s:=[104,121,112,101,114]) bK ?_ ?_|refine af (s:=[98,111,111,108]) dw ?_ ?_|refine af (s:=[111,112,97,113,117,101]) aZ ?_ ?_|refine af (s:=[115,116,114,105,110,103]) aY ?_ ?_|refine af (s:=[112,114,111,103,114,97,109]) aO ?_ ?_|refine af (s:=[118,101,114,115,105,111,110]) aK ?_ ?_))
  ·show Ln ([115,116,114,105,110,103]++32::l) (tK [115,116,114,105,110,103]::t);(repeat' (first|assumption|exact rfl|refine aB rfl ?_|refine bu rfl ?_|(refine bF ?_ ?_ ?_;rotate_left 2)|refine eu (by omega) (by omega) ?_ ?_|refine af (s:=[99,111,110,115,116]) bI ?_ ?_|refine af (s:=[116,121,112,101,100,101,102]) aN ?_ ?_|refine af (s:=[101,110,117,109]) cO ?_ ?_|refine af (s:=[115,116,114,117,99,116]) aW ?_ ?_|refine af (s:=[117,110,105,111,110]) bH ?_ ?_|refine af (s:=[115,119,105,116,99,104]) aV ?_ ?_|refine af (s:=[99,97,115,101]) dh ?_ ?_|refine af (s:=[100,101,102,97,117,108,116]) aP ?_ ?_|refine af (s:=[118,111,105,100]) df ?_ ?_|refine af (s:=[105,110,116]) eG ?_ ?_|refine af (s:=[117,110,115,105,103,110,101,100]) aC ?_ ?_|refine af (s:=[104,121,112,101,114]) bK ?_ ?_|refine af (s:=[98,111,111,108]) dw ?_ ?_|refine af (s:=[111,112,97,113,117,101]) aZ ?_ ?_|refine af (s:=[115,116,114,105,110,103]) aY ?_ ?_|refine af (s:=[112,114,111,103,114,97,109]) aO ?_ ?_|refine af (s:=[118,101,114,115,105,111,110]) aK ?_ ?_))
 |array u f n=>exact Qa (ty:=u) hn h
 |opt u=>
  simp only[dU,bU,List.append_assoc,List.cons_append,List.nil_append]
  exact Qa hn (bu rfl h)
 |void=>exact hn.elim
theorem UM{ty:Ty}{l:By}{t:List Tk}(ho:okT ty=true)(h:Ln l t):Ln (wK ty++l) (Jj ty++t):=by
 cases ty with
 |bytes x f n=>have:=JG (show okN f n=true from ho);exact Zy this.1 this.2.1 h
 |array u f n=>
  have ho:(FU u&&okN f n)=true:=ho
  rw[Bool.and_eq_true]at ho
  have:=JG ho.2;exact Zy this.1 this.2.1 h
 |_=>exact h
theorem UY{ty:Ty}{l:By}(h:Hd l):Hd (wK ty++l):=by
 cases ty with
 |bytes x f n=>exact ZG
 |array u f n=>exact ZG
 |_=>exact h
theorem dV.ne{s:By}(h:dV s):s.isEmpty=false:=by
 obtain⟨⟨c,r,rfl,_⟩,_⟩:=h;rfl
theorem Oi{d:Decl}{l:By}{t:List Tk}(hn:ND d)(ho:okT d.ty=true)(hl:Hd l)(h:Ln l t):Ln (oP d++l) (iZ d++t):=by
 unfold oP iZ
 rw[hn.1.ne]
 simp only[Bool.false_eq_true,if_false,List.append_assoc,List.cons_append,List.nil_append]
 exact Ws hn.2 (bF hn.1 (UY hl) (UM ho h))
theorem Kv{d:Decl}{l:By}{t:List Tk}(hn:NA d)(ho:okT d.ty=true)(hl:Hd l)(h:Ln l t):Ln (oP d++l) (iZ d++t):=by
 rcases hn with hn|rfl
 ·exact Oi hn ho hl h
 ·show Ln ([118,111,105,100]++l) (tK [118,111,105,100]::t);(repeat' (first|assumption|exact rfl|refine aB rfl ?_|refine bu rfl ?_|(refine bF ?_ ?_ ?_;rotate_left 2)|refine eu (by omega) (by omega) ?_ ?_|refine af (s:=[99,111,110,115,116]) bI ?_ ?_|refine af (s:=[116,121,112,101,100,101,102]) aN ?_ ?_|refine af (s:=[101,110,117,109]) cO ?_ ?_|refine af (s:=[115,116,114,117,99,116]) aW ?_ ?_|refine af (s:=[117,110,105,111,110]) bH ?_ ?_|refine af (s:=[115,119,105,116,99,104]) aV ?_ ?_|refine af (s:=[99,97,115,101]) dh ?_ ?_|refine af (s:=[100,101,102,97,117,108,116]) aP ?_ ?_|refine af (s:=[118,111,105,100]) df ?_ ?_|refine af (s:=[105,110,116]) eG ?_ ?_|refine af (s:=[117,110,115,105,103,110,101,100]) aC ?_ ?_|refine af (s:=[104,121,112,101,114]) bK ?_ ?_|refine af (s:=[98,111,111,108]) dw ?_ ?_|refine af (s:=[111,112,97,113,117,101]) aZ ?_ ?_|refine af (s:=[115,116,114,105,110,103]) aY ?_ ?_|refine af (s:=[112,114,111,103,114,97,109]) aO ?_ ?_|refine af (s:=[118,101,114,115,105,111,110]) aK ?_ ?_))
theorem Wq:∀{ns:List By} {is:List Int} {l:By} {t:List Tk},(∀s∈ns,dV s)→(∀n∈is,least≤n∧n≤top)→Hd l→Ln l t→Ln (Go.Lib.joinTail [44,32] (bW ns is)++l) (O7 ns is++t)∧Hd (Go.Lib.joinTail [44,32] (bW ns is)++l)
 |[],is,l,t,_,_,hl,h=>⟨h,hl⟩
 |s::r,[],l,t,_,_,hl,h=>⟨h,hl⟩
 |s::r,n::q,l,t,h1,h2,hl,h=>by
  have ih:=Wq (ns:=r) (is:=q) (fun s hs=>h1 s (List.mem_cons_of_mem _ hs)) (fun s hs=>h2 s (List.mem_cons_of_mem _ hs)) hl h
  have hs:=h1 s (List.mem_cons_self ..)
  have hn:=h2 n (List.mem_cons_self ..)
  unfold least top at hn
  have i1:=ih.1
  have i2:=ih.2
  unfold Go.Lib.joinTail at i1 i2 ⊢
  simp only[bW,O7,List.map_cons,List.flatten_cons,List.append_assoc,List.cons_append,List.nil_append]
  refine⟨?_,rfl⟩
  (repeat' (first|assumption|exact rfl|refine aB rfl ?_|refine bu rfl ?_|(refine bF ?_ ?_ ?_;rotate_left 2)|refine eu (by omega) (by omega) ?_ ?_|refine af (s:=[99,111,110,115,116]) bI ?_ ?_|refine af (s:=[116,121,112,101,100,101,102]) aN ?_ ?_|refine af (s:=[101,110,117,109]) cO ?_ ?_|refine af (s:=[115,116,114,117,99,116]) aW ?_ ?_|refine af (s:=[117,110,105,111,110]) bH ?_ ?_|refine af (s:=[115,119,105,116,99,104]) aV ?_ ?_|refine af (s:=[99,97,115,101]) dh ?_ ?_|refine af (s:=[100,101,102,97,117,108,116]) aP ?_ ?_|refine af (s:=[118,111,105,100]) df ?_ ?_|refine af (s:=[105,110,116]) eG ?_ ?_|refine af (s:=[117,110,115,105,103,110,101,100]) aC ?_ ?_|refine af (s:=[104,121,112,101,114]) bK ?_ ?_|refine af (s:=[98,111,111,108]) dw ?_ ?_|refine af (s:=[111,112,97,113,117,101]) aZ ?_ ?_|refine af (s:=[115,116,114,105,110,103]) aY ?_ ?_|refine af (s:=[112,114,111,103,114,97,109]) aO ?_ ?_|refine af (s:=[118,101,114,115,105,111,110]) aK ?_ ?_))
theorem RV{ns:List By}{is:List Int}{l:By}{t:List Tk}(h1:∀s∈ns,dV s)(h2:∀n∈is,least≤n∧n≤top)(hl:Hd l)(h:Ln l t):Ln (Go.Lib.join (bW ns is) [44,32]++l) (kK ns is++t):=by
 cases ns with
 |nil=>exact h
 |cons s r=>
  cases is with
  |nil=>exact h
  |cons n q=>
   have ih:=Wq (ns:=r) (is:=q) (fun s hs=>h1 s (List.mem_cons_of_mem _ hs)) (fun s hs=>h2 s (List.mem_cons_of_mem _ hs)) hl h
   have hs:=h1 s (List.mem_cons_self ..)
   have hn:=h2 n (List.mem_cons_self ..)
   unfold least top at hn
   have i1:=ih.1
   have i2:=ih.2
   rw[bW,Go.Lib.join_cons]
   simp only[kK,List.append_assoc,List.cons_append,List.nil_append]
   (repeat' (first|assumption|exact rfl|refine aB rfl ?_|refine bu rfl ?_|(refine bF ?_ ?_ ?_;rotate_left 2)|refine eu (by omega) (by omega) ?_ ?_|refine af (s:=[99,111,110,115,116]) bI ?_ ?_|refine af (s:=[116,121,112,101,100,101,102]) aN ?_ ?_|refine af (s:=[101,110,117,109]) cO ?_ ?_|refine af (s:=[115,116,114,117,99,116]) aW ?_ ?_|refine af (s:=[117,110,105,111,110]) bH ?_ ?_|refine af (s:=[115,119,105,116,99,104]) aV ?_ ?_|refine af (s:=[99,97,115,101]) dh ?_ ?_|refine af (s:=[100,101,102,97,117,108,116]) aP ?_ ?_|refine af (s:=[118,111,105,100]) df ?_ ?_|refine af (s:=[105,110,116]) eG ?_ ?_|refine af (s:=[117,110,115,105,103,110,101,100]) aC ?_ ?_|refine af (s:=[104,121,112,101,114]) bK ?_ ?_|refine af (s:=[98,111,111,108]) dw ?_ ?_|refine af (s:=[111,112,97,113,117,101]) aZ ?_ ?_|refine af (s:=[115,116,114,105,110,103]) aY ?_ ?_|refine af (s:=[112,114,111,103,114,97,109]) aO ?_ ?_|refine af (s:=[118,101,114,115,105,111,110]) aK ?_ ?_))
theorem P9:∀{ds:List Decl} {l:By} {t:List Tk},(∀d∈ds,ND d∧okT d.ty=true)→Ln l t→Ln (jd ds++l) (qF ds++t)
 |[],l,t,_,h=>h
 |d::r,l,t,h1,h=>by
  have ih:=P9 (ds:=r) (fun s hs=>h1 s (List.mem_cons_of_mem _ hs)) h
  have hd:=h1 d (List.mem_cons_self ..)
  simp only[jd,qF,List.append_assoc,List.cons_append,List.nil_append]
  refine Oi hd.1 hd.2 rfl ?_
  (repeat' (first|assumption|exact rfl|refine aB rfl ?_|refine bu rfl ?_|(refine bF ?_ ?_ ?_;rotate_left 2)|refine eu (by omega) (by omega) ?_ ?_|refine af (s:=[99,111,110,115,116]) bI ?_ ?_|refine af (s:=[116,121,112,101,100,101,102]) aN ?_ ?_|refine af (s:=[101,110,117,109]) cO ?_ ?_|refine af (s:=[115,116,114,117,99,116]) aW ?_ ?_|refine af (s:=[117,110,105,111,110]) bH ?_ ?_|refine af (s:=[115,119,105,116,99,104]) aV ?_ ?_|refine af (s:=[99,97,115,101]) dh ?_ ?_|refine af (s:=[100,101,102,97,117,108,116]) aP ?_ ?_|refine af (s:=[118,111,105,100]) df ?_ ?_|refine af (s:=[105,110,116]) eG ?_ ?_|refine af (s:=[117,110,115,105,103,110,101,100]) aC ?_ ?_|refine af (s:=[104,121,112,101,114]) bK ?_ ?_|refine af (s:=[98,111,111,108]) dw ?_ ?_|refine af (s:=[111,112,97,113,117,101]) aZ ?_ ?_|refine af (s:=[115,116,114,105,110,103]) aY ?_ ?_|refine af (s:=[112,114,111,103,114,97,109]) aO ?_ ?_|refine af (s:=[118,101,114,115,105,111,110]) aK ?_ ?_))
theorem Qb:∀{is:List Int} {l:By} {t:List Tk},(∀n∈is,least≤n∧n≤top)→Ln l t→Ln (lW is++l) (yF is++t)
 |[],l,t,_,h=>h
 |n::r,l,t,h1,h=>by
  have ih:=Qb (is:=r) (fun s hs=>h1 s (List.mem_cons_of_mem _ hs)) h
  have hn:=h1 n (List.mem_cons_self ..)
  unfold least top at hn
  simp only[lW,yF,List.append_assoc,List.cons_append,List.nil_append]
  (repeat' (first|assumption|exact rfl|refine aB rfl ?_|refine bu rfl ?_|(refine bF ?_ ?_ ?_;rotate_left 2)|refine eu (by omega) (by omega) ?_ ?_|refine af (s:=[99,111,110,115,116]) bI ?_ ?_|refine af (s:=[116,121,112,101,100,101,102]) aN ?_ ?_|refine af (s:=[101,110,117,109]) cO ?_ ?_|refine af (s:=[115,116,114,117,99,116]) aW ?_ ?_|refine af (s:=[117,110,105,111,110]) bH ?_ ?_|refine af (s:=[115,119,105,116,99,104]) aV ?_ ?_|refine af (s:=[99,97,115,101]) dh ?_ ?_|refine af (s:=[100,101,102,97,117,108,116]) aP ?_ ?_|refine af (s:=[118,111,105,100]) df ?_ ?_|refine af (s:=[105,110,116]) eG ?_ ?_|refine af (s:=[117,110,115,105,103,110,101,100]) aC ?_ ?_|refine af (s:=[104,121,112,101,114]) bK ?_ ?_|refine af (s:=[98,111,111,108]) dw ?_ ?_|refine af (s:=[111,112,97,113,117,101]) aZ ?_ ?_|refine af (s:=[115,116,114,105,110,103]) aY ?_ ?_|refine af (s:=[112,114,111,103,114,97,109]) aO ?_ ?_|refine af (s:=[118,101,114,115,105,111,110]) aK ?_ ?_))
theorem TF:∀{ar:List Arm} {l:By} {t:List Tk},(∀a∈ar,(NA a.decl∧okT a.decl.ty=true)∧∀n∈a.nums,least≤n∧n≤top)→Ln l t→Ln (nG ar++l) (sN ar++t)
 |[],l,t,_,h=>h
 |a::r,l,t,h1,h=>by
  have ih:=TF (ar:=r) (fun s hs=>h1 s (List.mem_cons_of_mem _ hs)) h
  have ha:=h1 a (List.mem_cons_self ..)
  simp only[nG,sN,List.append_assoc,List.cons_append,List.nil_append]
  refine Qb ha.2 (Kv ha.1.1 ha.1.2 rfl ?_)
  (repeat' (first|assumption|exact rfl|refine aB rfl ?_|refine bu rfl ?_|(refine bF ?_ ?_ ?_;rotate_left 2)|refine eu (by omega) (by omega) ?_ ?_|refine af (s:=[99,111,110,115,116]) bI ?_ ?_|refine af (s:=[116,121,112,101,100,101,102]) aN ?_ ?_|refine af (s:=[101,110,117,109]) cO ?_ ?_|refine af (s:=[115,116,114,117,99,116]) aW ?_ ?_|refine af (s:=[117,110,105,111,110]) bH ?_ ?_|refine af (s:=[115,119,105,116,99,104]) aV ?_ ?_|refine af (s:=[99,97,115,101]) dh ?_ ?_|refine af (s:=[100,101,102,97,117,108,116]) aP ?_ ?_|refine af (s:=[118,111,105,100]) df ?_ ?_|refine af (s:=[105,110,116]) eG ?_ ?_|refine af (s:=[117,110,115,105,103,110,101,100]) aC ?_ ?_|refine af (s:=[104,121,112,101,114]) bK ?_ ?_|refine af (s:=[98,111,111,108]) dw ?_ ?_|refine af (s:=[111,112,97,113,117,101]) aZ ?_ ?_|refine af (s:=[115,116,114,105,110,103]) aY ?_ ?_|refine af (s:=[112,114,111,103,114,97,109]) aO ?_ ?_|refine af (s:=[118,101,114,115,105,111,110]) aK ?_ ?_))
theorem ln_els{e:Option Decl}{l:By}{t:List Tk}(h1:∀d,e=some d→NA d∧okT d.ty=true)(h:Ln l t):Ln (FY e++l) (Hm e++t):=by
 cases e with
 |none=>exact h
 |some d=>
  have hd:=h1 d rfl
  simp only[FY,Hm,List.append_assoc,List.cons_append,List.nil_append]
  refine af (s:=[100,101,102,97,117,108,116]) aP rfl (bu rfl (aB rfl (Kv hd.1 hd.2 rfl ?_)))
  (repeat' (first|assumption|exact rfl|refine aB rfl ?_|refine bu rfl ?_|(refine bF ?_ ?_ ?_;rotate_left 2)|refine eu (by omega) (by omega) ?_ ?_|refine af (s:=[99,111,110,115,116]) bI ?_ ?_|refine af (s:=[116,121,112,101,100,101,102]) aN ?_ ?_|refine af (s:=[101,110,117,109]) cO ?_ ?_|refine af (s:=[115,116,114,117,99,116]) aW ?_ ?_|refine af (s:=[117,110,105,111,110]) bH ?_ ?_|refine af (s:=[115,119,105,116,99,104]) aV ?_ ?_|refine af (s:=[99,97,115,101]) dh ?_ ?_|refine af (s:=[100,101,102,97,117,108,116]) aP ?_ ?_|refine af (s:=[118,111,105,100]) df ?_ ?_|refine af (s:=[105,110,116]) eG ?_ ?_|refine af (s:=[117,110,115,105,103,110,101,100]) aC ?_ ?_|refine af (s:=[104,121,112,101,114]) bK ?_ ?_|refine af (s:=[98,111,111,108]) dw ?_ ?_|refine af (s:=[111,112,97,113,117,101]) aZ ?_ ?_|refine af (s:=[115,116,114,105,110,103]) aY ?_ ?_|refine af (s:=[112,114,111,103,114,97,109]) aO ?_ ?_|refine af (s:=[118,101,114,115,105,111,110]) aK ?_ ?_))
theorem Ji(s:By):Go.Lib.trimSuffix (s++[32]) [32]=s:=by
 unfold Go.Lib.trimSuffix Go.Lib.hasSuffix
 have:([32]).isSuffixOf (s++[32])=true:=by rw[List.isSuffixOf_iff_suffix];exact List.suffix_append _ _
 rw[this]
 simp
theorem TD{ty:Ty}{l:By}{t:List Tk}(hn:NS ty)(hl:Hd l)(h:Ln l t):Ln (sW ty++l) (bU ty++t):=by
 rcases hn with hn|rfl
 ·cases ty with
  |basic s=>
   simp only[NB,List.mem_cons,List.not_mem_nil,or_false]at hn
   unfold sW
   rw[dU,Ji]
   rcases hn with rfl|rfl|rfl|rfl|rfl
   ·show Ln ([105,110,116]++l) (tK [105,110,116]::t);(repeat' (first|assumption|exact rfl|refine aB rfl ?_|refine bu rfl ?_|(refine bF ?_ ?_ ?_;rotate_left 2)|refine eu (by omega) (by omega) ?_ ?_|refine af (s:=[99,111,110,115,116]) bI ?_ ?_|refine af (s:=[116,121,112,101,100,101,102]) aN ?_ ?_|refine af (s:=[101,110,117,109]) cO ?_ ?_|refine af (s:=[115,116,114,117,99,116]) aW ?_ ?_|refine af (s:=[117,110,105,111,110]) bH ?_ ?_|refine af (s:=[115,119,105,116,99,104]) aV ?_ ?_|refine af (s:=[99,97,115,101]) dh ?_ ?_|refine af (s:=[100,101,102,97,117,108,116]) aP ?_ ?_|refine af (s:=[118,111,105,100]) df ?_ ?_|refine af (s:=[105,110,116]) eG ?_ ?_|refine af (s:=[117,110,115,105,103,110,101,100]) aC ?_ ?_|refine af (s:=[104,121,112,101,114]) bK ?_ ?_|refine af (s:=[98,111,111,108]) dw ?_ ?_|refine af (s:=[111,112,97,113,117,101]) aZ ?_ ?_|refine af (s:=[115,116,114,105,110,103]) aY ?_ ?_|refine af (s:=[112,114,111,103,114,97,109]) aO ?_ ?_|refine af (s:=[118,101,114,115,105,111,110]) aK ?_ ?_))
   ·show Ln ([104,121,112,101,114]++l) (tK [104,121,112,101,114]::t);(repeat' (first|assumption|exact rfl|refine aB rfl ?_|refine bu rfl ?_|(refine bF ?_ ?_ ?_;rotate_left 2)|refine eu (by omega) (by omega) ?_ ?_|refine af (s:=[99,111,110,115,116]) bI ?_ ?_|refine af (s:=[116,121,112,101,100,101,102]) aN ?_ ?_|refine af (s:=[101,110,117,109]) cO ?_ ?_|refine af (s:=[115,116,114,117,99,116]) aW ?_ ?_|refine af (s:=[117,110,105,111,110]) bH ?_ ?_|refine af (s:=[115,119,105,116,99,104]) aV ?_ ?_|refine af (s:=[99,97,115,101]) dh ?_ ?_|refine af (s:=[100,101,102,97,117,108,116]) aP ?_ ?_|refine af (s:=[118,111,105,100]) df ?_ ?_|refine af (s:=[105,110,116]) eG ?_ ?_|refine af (s:=[117,110,115,105,103,110,101,100]) aC ?_ ?_|refine af (s:=[104,121,112,101,114]) bK ?_ ?_|refine af (s:=[98,111,111,108]) dw ?_ ?_|refine af (s:=[111,112,97,113,117,101]) aZ ?_ ?_|refine af (s:=[115,116,114,105,110,103]) aY ?_ ?_|refine af (s:=[112,114,111,103,114,97,109]) aO ?_ ?_|refine af (s:=[118,101,114,115,105,111,110]) aK ?_ ?_))
   ·show Ln ([98,111,111,108]++l) (tK [98,111,111,108]::t);(repeat' (first|assumption|exact rfl|refine aB rfl ?_|refine bu rfl ?_|(refine bF ?_ ?_ ?_;rotate_left 2)|refine eu (by omega) (by omega) ?_ ?_|refine af (s:=[99,111,110,115,116]) bI ?_ ?_|refine af (s:=[116,121,112,101,100,101,102]) aN ?_ ?_|refine af (s:=[101,110,117,109]) cO ?_ ?_|refine af (s:=[115,116,114,117,99,116]) aW ?_ ?_|refine af (s:=[117,110,105,111,110]) bH ?_ ?_|refine af (s:=[115,119,105,116,99,104]) aV ?_ ?_|refine af (s:=[99,97,115,101]) dh ?_ ?_|refine af (s:=[100,101,102,97,117,108,116]) aP ?_ ?_|refine af (s:=[118,111,105,100]) df ?_ ?_|refine af (s:=[105,110,116]) eG ?_ ?_|refine af (s:=[117,110,115,105,103,110,101,100]) aC ?_ ?_|refine af (s:=[104,121,112,101,114]) bK ?_ ?_|refine af (s:=[98,111,111,108]) dw ?_ ?_|refine af (s:=[111,112,97,113,117,101]) aZ ?_ ?_|refine af (s:=[115,116,114,105,110,103]) aY ?_ ?_|refine af (s:=[112,114,111,103,114,97,109]) aO ?_ ?_|refine af (s:=[118,101,114,115,105,111,110]) aK ?_ ?_))
   ·show Ln ([117,110,115,105,103,110,101,100]++32::([104,121,112,101,114]++l)) (tK [117,110,115,105,103,110,101,100]::tK [104,121,112,101,114]::t);(repeat' (first|assumption|exact rfl|refine aB rfl ?_|refine bu rfl ?_|(refine bF ?_ ?_ ?_;rotate_left 2)|refine eu (by omega) (by omega) ?_ ?_|refine af (s:=[99,111,110,115,116]) bI ?_ ?_|refine af (s:=[116,121,112,101,100,101,102]) aN ?_ ?_|refine af (s:=[101,110,117,109]) cO ?_ ?_|refine af (s:=[115,116,114,117,99,116]) aW ?_ ?_|refine af (s:=[117,110,105,111,110]) bH ?_ ?_|refine af (s:=[115,119,105,116,99,104]) aV ?_ ?_|refine af (s:=[99,97,115,101]) dh ?_ ?_|refine af (s:=[100,101,102,97,117,108,116]) aP ?_ ?_|refine af (s:=[118,111,105,100]) df ?_ ?_|refine af (s:=[105,110,116]) eG ?_ ?_|refine af (s:=[117,110,115,105,103,110,101,100]) aC ?_ ?_|refine af (s:=[104,121,112,101,114]) bK ?_ ?_|refine af (s:=[98,111,111,108]) dw ?_ ?_|refine af (s:=[111,112,97,113,117,101]) aZ ?_ ?_|refine af (s:=[115,116,114,105,110,103]) aY ?_ ?_|refine af (s:=[112,114,111,103,114,97,109]) aO ?_ ?_|refine af (s:=[118,101,114,115,105,111,110]) aK ?_ ?_))
   ·show Ln ([117,110,115,105,103,110,101,100]++l) (tK [117,110,115,105,103,110,101,100]::t);(repeat' (first|assumption|exact rfl|refine aB rfl ?_|refine bu rfl ?_|(refine bF ?_ ?_ ?_;rotate_left 2)|refine eu (by omega) (by omega) ?_ ?_|refine af (s:=[99,111,110,115,116]) bI ?_ ?_|refine af (s:=[116,121,112,101,100,101,102]) aN ?_ ?_|refine af (s:=[101,110,117,109]) cO ?_ ?_|refine af (s:=[115,116,114,117,99,116]) aW ?_ ?_|refine af (s:=[117,110,105,111,110]) bH ?_ ?_|refine af (s:=[115,119,105,116,99,104]) aV ?_ ?_|refine af (s:=[99,97,115,101]) dh ?_ ?_|refine af (s:=[100,101,102,97,117,108,116]) aP ?_ ?_|refine af (s:=[118,111,105,100]) df ?_ ?_|refine af (s:=[105,110,116]) eG ?_ ?_|refine af (s:=[117,110,115,105,103,110,101,100]) aC ?_ ?_|refine af (s:=[104,121,112,101,114]) bK ?_ ?_|refine af (s:=[98,111,111,108]) dw ?_ ?_|refine af (s:=[111,112,97,113,117,101]) aZ ?_ ?_|refine af (s:=[115,116,114,105,110,103]) aY ?_ ?_|refine af (s:=[112,114,111,103,114,97,109]) aO ?_ ?_|refine af (s:=[118,101,114,115,105,111,110]) aK ?_ ?_))
  |named s a=>
   have hn:dV s:=hn
   unfold sW
   rw[dU,Ji]
   simp only[bU,List.cons_append,List.nil_append]
   (repeat' (first|assumption|exact rfl|refine aB rfl ?_|refine bu rfl ?_|(refine bF ?_ ?_ ?_;rotate_left 2)|refine eu (by omega) (by omega) ?_ ?_|refine af (s:=[99,111,110,115,116]) bI ?_ ?_|refine af (s:=[116,121,112,101,100,101,102]) aN ?_ ?_|refine af (s:=[101,110,117,109]) cO ?_ ?_|refine af (s:=[115,116,114,117,99,116]) aW ?_ ?_|refine af (s:=[117,110,105,111,110]) bH ?_ ?_|refine af (s:=[115,119,105,116,99,104]) aV ?_ ?_|refine af (s:=[99,97,115,101]) dh ?_ ?_|refine af (s:=[100,101,102,97,117,108,116]) aP ?_ ?_|refine af (s:=[118,111,105,100]) df ?_ ?_|refine af (s:=[105,110,116]) eG ?_ ?_|refine af (s:=[117,110,115,105,103,110,101,100]) aC ?_ ?_|refine af (s:=[104,121,112,101,114]) bK ?_ ?_|refine af (s:=[98,111,111,108]) dw ?_ ?_|refine af (s:=[111,112,97,113,117,101]) aZ ?_ ?_|refine af (s:=[115,116,114,105,110,103]) aY ?_ ?_|refine af (s:=[112,114,111,103,114,97,109]) aO ?_ ?_|refine af (s:=[118,101,114,115,105,111,110]) aK ?_ ?_))
  |_=>exact hn.elim
 ·show Ln ([118,111,105,100]++l) (tK [118,111,105,100]::t);(repeat' (first|assumption|exact rfl|refine aB rfl ?_|refine bu rfl ?_|(refine bF ?_ ?_ ?_;rotate_left 2)|refine eu (by omega) (by omega) ?_ ?_|refine af (s:=[99,111,110,115,116]) bI ?_ ?_|refine af (s:=[116,121,112,101,100,101,102]) aN ?_ ?_|refine af (s:=[101,110,117,109]) cO ?_ ?_|refine af (s:=[115,116,114,117,99,116]) aW ?_ ?_|refine af (s:=[117,110,105,111,110]) bH ?_ ?_|refine af (s:=[115,119,105,116,99,104]) aV ?_ ?_|refine af (s:=[99,97,115,101]) dh ?_ ?_|refine af (s:=[100,101,102,97,117,108,116]) aP ?_ ?_|refine af (s:=[118,111,105,100]) df ?_ ?_|refine af (s:=[105,110,116]) eG ?_ ?_|refine af (s:=[117,110,115,105,103,110,101,100]) aC ?_ ?_|refine af (s:=[104,121,112,101,114]) bK ?_ ?_|refine af (s:=[98,111,111,108]) dw ?_ ?_|refine af (s:=[111,112,97,113,117,101]) aZ ?_ ?_|refine af (s:=[115,116,114,105,110,103]) aY ?_ ?_|refine af (s:=[112,114,111,103,114,97,109]) aO ?_ ?_|refine af (s:=[118,101,114,115,105,111,110]) aK ?_ ?_))
theorem P8:∀{qs:List gq} {l:By} {t:List Tk},(∀q∈qs,NQ q∧inRange q.n=true)→Ln l t→Ln (iM qs++l) (kJ qs++t)
 |[],l,t,_,h=>h
 |q::r,l,t,h1,h=>by
  have ih:=P8 (qs:=r) (fun s hs=>h1 s (List.mem_cons_of_mem _ hs)) h
  obtain⟨⟨hn,ha,hr⟩,hi⟩:=h1 q (List.mem_cons_self ..)
  have hi:0≤q.n∧q.n≤4294967295:=by simpa [inRange] using hi
  simp only[iM,kJ,List.append_assoc,List.cons_append,List.nil_append]
  refine TD hr rfl (aB rfl (bF hn rfl (bu rfl (TD ha rfl ?_))))
  (repeat' (first|assumption|exact rfl|refine aB rfl ?_|refine bu rfl ?_|(refine bF ?_ ?_ ?_;rotate_left 2)|refine eu (by omega) (by omega) ?_ ?_|refine af (s:=[99,111,110,115,116]) bI ?_ ?_|refine af (s:=[116,121,112,101,100,101,102]) aN ?_ ?_|refine af (s:=[101,110,117,109]) cO ?_ ?_|refine af (s:=[115,116,114,117,99,116]) aW ?_ ?_|refine af (s:=[117,110,105,111,110]) bH ?_ ?_|refine af (s:=[115,119,105,116,99,104]) aV ?_ ?_|refine af (s:=[99,97,115,101]) dh ?_ ?_|refine af (s:=[100,101,102,97,117,108,116]) aP ?_ ?_|refine af (s:=[118,111,105,100]) df ?_ ?_|refine af (s:=[105,110,116]) eG ?_ ?_|refine af (s:=[117,110,115,105,103,110,101,100]) aC ?_ ?_|refine af (s:=[104,121,112,101,114]) bK ?_ ?_|refine af (s:=[98,111,111,108]) dw ?_ ?_|refine af (s:=[111,112,97,113,117,101]) aZ ?_ ?_|refine af (s:=[115,116,114,105,110,103]) aY ?_ ?_|refine af (s:=[112,114,111,103,114,97,109]) aO ?_ ?_|refine af (s:=[118,101,114,115,105,111,110]) aK ?_ ?_))
theorem TC:∀{vs:List gI} {l:By} {t:List Tk},(∀v∈vs,(dV v.name∧∀q∈v.procs,NQ q∧inRange q.n=true)∧inRange v.n=true)→Ln l t→Ln (kX vs++l) (yE vs++t)
 |[],l,t,_,h=>h
 |v::r,l,t,h1,h=>by
  have ih:=TC (vs:=r) (fun s hs=>h1 s (List.mem_cons_of_mem _ hs)) h
  obtain⟨⟨hn,hq⟩,hi⟩:=h1 v (List.mem_cons_self ..)
  have hi:0≤v.n∧v.n≤4294967295:=by simpa [inRange] using hi
  simp only[kX,yE,List.append_assoc,List.cons_append,List.nil_append]
  refine af (s:=[118,101,114,115,105,111,110]) aK rfl (aB rfl (bF hn rfl (aB rfl (bu rfl (aB rfl (P8 hq ?_))))))
  (repeat' (first|assumption|exact rfl|refine aB rfl ?_|refine bu rfl ?_|(refine bF ?_ ?_ ?_;rotate_left 2)|refine eu (by omega) (by omega) ?_ ?_|refine af (s:=[99,111,110,115,116]) bI ?_ ?_|refine af (s:=[116,121,112,101,100,101,102]) aN ?_ ?_|refine af (s:=[101,110,117,109]) cO ?_ ?_|refine af (s:=[115,116,114,117,99,116]) aW ?_ ?_|refine af (s:=[117,110,105,111,110]) bH ?_ ?_|refine af (s:=[115,119,105,116,99,104]) aV ?_ ?_|refine af (s:=[99,97,115,101]) dh ?_ ?_|refine af (s:=[100,101,102,97,117,108,116]) aP ?_ ?_|refine af (s:=[118,111,105,100]) df ?_ ?_|refine af (s:=[105,110,116]) eG ?_ ?_|refine af (s:=[117,110,115,105,103,110,101,100]) aC ?_ ?_|refine af (s:=[104,121,112,101,114]) bK ?_ ?_|refine af (s:=[98,111,111,108]) dw ?_ ?_|refine af (s:=[111,112,97,113,117,101]) aZ ?_ ?_|refine af (s:=[115,116,114,105,110,103]) aY ?_ ?_|refine af (s:=[112,114,111,103,114,97,109]) aO ?_ ?_|refine af (s:=[118,101,114,115,105,111,110]) aK ?_ ?_))
theorem ln_of{ty:Ty}{l:By}{t:List Tk}(hn:NO ty)(h:Ln l t):Ln (dU ty++l) (bU ty++t):=by
 refine Qa ?_ h
 cases ty with
 |basic s=>simp only[NO,NB,List.mem_cons,List.not_mem_nil,or_false]at hn ⊢;rcases hn with rfl|rfl|rfl<;>simp
 |named s a=>exact hn
 |_=>exact hn.elim
theorem MO{is:List Int}(h:is.all i32=true):∀n∈is,least≤n∧n≤top:=fun n hn=>by
 have:=List.all_eq_true.mp h n hn
 simp only[i32,decide_eq_true_eq]at this
 unfold least top;omega
theorem ln_def{d:Def}{l:By}{t:List Tk}(hd:PK d)(h:Ln l t):Ln (lV d++l) (qI d++t):=by
 obtain⟨nm,at_,k⟩:=d
 obtain⟨hn,hk,E,he⟩:=hd
 have hn:dV nm:=hn
 cases k with
 |const n=>
  have hk : -2147483648≤n∧n≤4294967295:=hk
  simp only[lV,qI,List.append_assoc,List.cons_append,List.nil_append]
  refine af (s:=[99,111,110,115,116]) bI rfl ?_
  (repeat' (first|assumption|exact rfl|refine aB rfl ?_|refine bu rfl ?_|(refine bF ?_ ?_ ?_;rotate_left 2)|refine eu (by omega) (by omega) ?_ ?_|refine af (s:=[99,111,110,115,116]) bI ?_ ?_|refine af (s:=[116,121,112,101,100,101,102]) aN ?_ ?_|refine af (s:=[101,110,117,109]) cO ?_ ?_|refine af (s:=[115,116,114,117,99,116]) aW ?_ ?_|refine af (s:=[117,110,105,111,110]) bH ?_ ?_|refine af (s:=[115,119,105,116,99,104]) aV ?_ ?_|refine af (s:=[99,97,115,101]) dh ?_ ?_|refine af (s:=[100,101,102,97,117,108,116]) aP ?_ ?_|refine af (s:=[118,111,105,100]) df ?_ ?_|refine af (s:=[105,110,116]) eG ?_ ?_|refine af (s:=[117,110,115,105,103,110,101,100]) aC ?_ ?_|refine af (s:=[104,121,112,101,114]) bK ?_ ?_|refine af (s:=[98,111,111,108]) dw ?_ ?_|refine af (s:=[111,112,97,113,117,101]) aZ ?_ ?_|refine af (s:=[115,116,114,105,110,103]) aY ?_ ?_|refine af (s:=[112,114,111,103,114,97,109]) aO ?_ ?_|refine af (s:=[118,101,114,115,105,111,110]) aK ?_ ?_))
 |alias u=>
  have he:iC u:=he
  simp only[lV,qI,List.append_assoc,List.cons_append,List.nil_append]
  refine af (s:=[116,121,112,101,100,101,102]) aN rfl (aB rfl (Oi (d:=⟨nm,u⟩) ⟨hn,hk⟩ he.1 rfl (bu rfl h)))
 |enum ns is=>
  obtain⟨k1,k2,k3⟩:=hk
  simp only[lV,qI,List.append_assoc,List.cons_append,List.nil_append]
  refine af (s:=[101,110,117,109]) cO rfl (aB rfl (bF hn rfl (aB rfl (bu rfl (aB rfl (RV k1 (MO he.1) rfl ?_))))))
  (repeat' (first|assumption|exact rfl|refine aB rfl ?_|refine bu rfl ?_|(refine bF ?_ ?_ ?_;rotate_left 2)|refine eu (by omega) (by omega) ?_ ?_|refine af (s:=[99,111,110,115,116]) bI ?_ ?_|refine af (s:=[116,121,112,101,100,101,102]) aN ?_ ?_|refine af (s:=[101,110,117,109]) cO ?_ ?_|refine af (s:=[115,116,114,117,99,116]) aW ?_ ?_|refine af (s:=[117,110,105,111,110]) bH ?_ ?_|refine af (s:=[115,119,105,116,99,104]) aV ?_ ?_|refine af (s:=[99,97,115,101]) dh ?_ ?_|refine af (s:=[100,101,102,97,117,108,116]) aP ?_ ?_|refine af (s:=[118,111,105,100]) df ?_ ?_|refine af (s:=[105,110,116]) eG ?_ ?_|refine af (s:=[117,110,115,105,103,110,101,100]) aC ?_ ?_|refine af (s:=[104,121,112,101,114]) bK ?_ ?_|refine af (s:=[98,111,111,108]) dw ?_ ?_|refine af (s:=[111,112,97,113,117,101]) aZ ?_ ?_|refine af (s:=[115,116,114,105,110,103]) aY ?_ ?_|refine af (s:=[112,114,111,103,114,97,109]) aO ?_ ?_|refine af (s:=[118,101,114,115,105,111,110]) aK ?_ ?_))
 |struct ds=>
  have hk:∀d∈ds,ND d:=hk
  have he:∀d∈ds,iC d.ty:=he.1
  simp only[lV,qI,List.append_assoc,List.cons_append,List.nil_append]
  refine af (s:=[115,116,114,117,99,116]) aW rfl (aB rfl (bF hn rfl (aB rfl (bu rfl (aB rfl (P9 (fun d hd=>⟨hk d hd,(he d hd).1⟩) ?_))))))
  (repeat' (first|assumption|exact rfl|refine aB rfl ?_|refine bu rfl ?_|(refine bF ?_ ?_ ?_;rotate_left 2)|refine eu (by omega) (by omega) ?_ ?_|refine af (s:=[99,111,110,115,116]) bI ?_ ?_|refine af (s:=[116,121,112,101,100,101,102]) aN ?_ ?_|refine af (s:=[101,110,117,109]) cO ?_ ?_|refine af (s:=[115,116,114,117,99,116]) aW ?_ ?_|refine af (s:=[117,110,105,111,110]) bH ?_ ?_|refine af (s:=[115,119,105,116,99,104]) aV ?_ ?_|refine af (s:=[99,97,115,101]) dh ?_ ?_|refine af (s:=[100,101,102,97,117,108,116]) aP ?_ ?_|refine af (s:=[118,111,105,100]) df ?_ ?_|refine af (s:=[105,110,116]) eG ?_ ?_|refine af (s:=[117,110,115,105,103,110,101,100]) aC ?_ ?_|refine af (s:=[104,121,112,101,114]) bK ?_ ?_|refine af (s:=[98,111,111,108]) dw ?_ ?_|refine af (s:=[111,112,97,113,117,101]) aZ ?_ ?_|refine af (s:=[115,116,114,105,110,103]) aY ?_ ?_|refine af (s:=[112,114,111,103,114,97,109]) aO ?_ ?_|refine af (s:=[118,101,114,115,105,111,110]) aK ?_ ?_))
 |union of m ar els=>
  obtain⟨k1,k2,k3,k4⟩:=hk
  obtain⟨e1,e2,e3,e4⟩:=he
  simp only[lV,qI,List.append_assoc,List.cons_append,List.nil_append]
  refine af (s:=[117,110,105,111,110]) bH rfl (aB rfl (bF hn rfl (aB rfl (af (s:=[115,119,105,116,99,104]) aV rfl (aB rfl (bu rfl (ln_of k1 (bF k2 rfl (bu rfl (aB rfl (bu rfl (aB rfl (TF (fun a ha=>⟨⟨(k3 a ha).1,(e2 a ha).1.1⟩,(k3 a ha).2⟩) (ln_els (fun d hd=>⟨k4 d hd,(e4 d hd).1⟩) ?_))))))))))))))
  (repeat' (first|assumption|exact rfl|refine aB rfl ?_|refine bu rfl ?_|(refine bF ?_ ?_ ?_;rotate_left 2)|refine eu (by omega) (by omega) ?_ ?_|refine af (s:=[99,111,110,115,116]) bI ?_ ?_|refine af (s:=[116,121,112,101,100,101,102]) aN ?_ ?_|refine af (s:=[101,110,117,109]) cO ?_ ?_|refine af (s:=[115,116,114,117,99,116]) aW ?_ ?_|refine af (s:=[117,110,105,111,110]) bH ?_ ?_|refine af (s:=[115,119,105,116,99,104]) aV ?_ ?_|refine af (s:=[99,97,115,101]) dh ?_ ?_|refine af (s:=[100,101,102,97,117,108,116]) aP ?_ ?_|refine af (s:=[118,111,105,100]) df ?_ ?_|refine af (s:=[105,110,116]) eG ?_ ?_|refine af (s:=[117,110,115,105,103,110,101,100]) aC ?_ ?_|refine af (s:=[104,121,112,101,114]) bK ?_ ?_|refine af (s:=[98,111,111,108]) dw ?_ ?_|refine af (s:=[111,112,97,113,117,101]) aZ ?_ ?_|refine af (s:=[115,116,114,105,110,103]) aY ?_ ?_|refine af (s:=[112,114,111,103,114,97,109]) aO ?_ ?_|refine af (s:=[118,101,114,115,105,111,110]) aK ?_ ?_))
 |prog n vs=>
  have hk:∀v∈vs,NV v:=hk
  obtain⟨e1,e2,e3⟩:=he
  have hi:0≤n∧n≤4294967295:=by simpa [inRange] using e1
  simp only[lV,qI,List.append_assoc,List.cons_append,List.nil_append]
  refine af (s:=[112,114,111,103,114,97,109]) aO rfl (aB rfl (bF hn rfl (aB rfl (bu rfl (aB rfl (TC (fun v hv=>⟨⟨(hk v hv).1,fun q hq=>⟨(hk v hv).2.1 q hq,((e2 v hv).1 q hq).2.2⟩⟩,(e2 v hv).2.2⟩) ?_))))))
  (repeat' (first|assumption|exact rfl|refine aB rfl ?_|refine bu rfl ?_|(refine bF ?_ ?_ ?_;rotate_left 2)|refine eu (by omega) (by omega) ?_ ?_|refine af (s:=[99,111,110,115,116]) bI ?_ ?_|refine af (s:=[116,121,112,101,100,101,102]) aN ?_ ?_|refine af (s:=[101,110,117,109]) cO ?_ ?_|refine af (s:=[115,116,114,117,99,116]) aW ?_ ?_|refine af (s:=[117,110,105,111,110]) bH ?_ ?_|refine af (s:=[115,119,105,116,99,104]) aV ?_ ?_|refine af (s:=[99,97,115,101]) dh ?_ ?_|refine af (s:=[100,101,102,97,117,108,116]) aP ?_ ?_|refine af (s:=[118,111,105,100]) df ?_ ?_|refine af (s:=[105,110,116]) eG ?_ ?_|refine af (s:=[117,110,115,105,103,110,101,100]) aC ?_ ?_|refine af (s:=[104,121,112,101,114]) bK ?_ ?_|refine af (s:=[98,111,111,108]) dw ?_ ?_|refine af (s:=[111,112,97,113,117,101]) aZ ?_ ?_|refine af (s:=[115,116,114,105,110,103]) aY ?_ ?_|refine af (s:=[112,114,111,103,114,97,109]) aO ?_ ?_|refine af (s:=[118,101,114,115,105,111,110]) aK ?_ ?_))
theorem TE:∀{ds:List Def},(∀d∈ds,PK d)→Ln (fK ds) (DX ds)
 |[],_=>ln_end
 |d::r,h=>by
  have ih:=TE (ds:=r) fun s hs=>h s (List.mem_cons_of_mem _ hs)
  simp only[fK,DX,List.append_assoc,List.cons_append,List.nil_append]
  exact ln_def (h d (List.mem_cons_self ..)) (aB rfl ih)
end Go.M
namespace Go.M
abbrev CQ:=List By×List (By×List Int)×List Int×Nat×Nat×Nat
def cq(p:PS):CQ:=(p.names,p.enums,p.ik,p.n0,p.n1,p.n2)
theorem qE{p q:PS}(h:advance p=.ok q):cq q=cq p:=by
 obtain⟨x,_,h2⟩:=Res.then_ok h
 cases h2;rfl
theorem dO:∀{l:List By} {p q:PS},want p l=.ok q→cq q=cq p
 |[],p,q,h=>by cases h;rfl
 |s::r,p,q,h=>by
  rw[want]at h
  split at h
  ·obtain⟨x,h1,h2⟩:=Res.then_ok h
   exact(dO h2).trans (qE h1)
  ·cases h
theorem QE{σ:Type}{p:PS}{lo hi:Int}{keep:Int→Nat→Res σ}{x:Int×σ×PS}(h:value p lo hi keep=.ok x):cq x.2.2=cq p:=by
 obtain⟨n,h1,h⟩:=Res.then_ok h
 split at h
 ·cases h
 obtain⟨s,h2,h⟩:=Res.then_ok h
 obtain⟨q,h3,h⟩:=Res.then_ok h
 cases h
 exact qE h3
def Kc{α:Type}(m:Res α)(f:α→CQ)(n:CQ):Prop:=∀a,m=.ok a→f a=n
theorem Kc.ok{α:Type}{a:α}{f:α→CQ}{n:CQ}(h:f a=n):Kc (.ok a) f n:=fun b hb=>by cases hb;exact h
theorem Kc.no{α:Type}{e a:Nat}{f:α→CQ}{n:CQ}:Kc (.no e a) f n:=fun b hb=>by cases hb
theorem Kc.ite{α:Type}{c:Prop}[Decidable c]{A B:Res α}{f:α→CQ}{n:CQ}(h1:Kc A f n)(h2:Kc B f n):Kc (if c then A else B) f n:=by
 split
 ·exact h1
 ·exact h2
theorem Kc.bind{α β:Type}{m:Res α}{k:α→Res β}{f:β→CQ}{n n1:CQ}(g:α→CQ)(h1:Kc m g n1)(h2:∀a,g a=n1→Kc (k a) f n):Kc (m.andThen k) f n:=fun b hb=>by
 obtain⟨a,ha,hk⟩:=Res.then_ok hb
 exact h2 a (h1 a ha) b hk
variable {n:CQ} {p:PS}
theorem BN{q:PS}(a b:Nat):Kc (count q a b) (fun _=>n) n:=fun _ _=>rfl
theorem lU(h:cq p=n):Kc (advance p) cq n:=fun q hq=>(qE hq).trans h
theorem oM{l:List By}(h:cq p=n):Kc (want p l) cq n:=fun q hq=>(dO hq).trans h
theorem xW{σ:Type}{lo hi:Int}{k:Int→Nat→Res σ}(h:cq p=n):Kc (value p lo hi k) (fun x=>cq x.2.2) n:=fun q hq=>(QE hq).trans h
theorem jS{s:By}(h:cq p=n):Kc (take p s) (fun x=>cq x.2) n:=by
 unfold take
 refine Kc.ite ?_ (Kc.ok h)
 exact Kc.bind _ (lU h) fun q hq=>Kc.ok hq
theorem jK{l:List By}(h:cq p=n):Kc (called p l) (fun x=>cq x.2.2) n:=by
 unfold called
 refine Kc.bind (fun _=>n) (fun _ _=>rfl) fun w _=>Kc.bind (fun _=>n) (fun _ _=>rfl) fun l _=>?_
 (repeat' (first|exact Kc.no|exact Kc.ok (by assumption)|refine Kc.ite ?_ ?_|refine Kc.bind _ (BN _ _) fun _ _=>?_|refine Kc.bind _ (oM (by assumption)) fun _ _=>?_|refine Kc.bind _ (lU (by assumption)) fun _ _=>?_|refine Kc.bind _ (jS (by assumption)) fun _ _=>?_|refine Kc.bind _ (jK (by assumption)) fun _ _=>?_|refine Kc.bind _ (xW (by assumption)) fun _ _=>?_))
theorem MM(h:cq p=n):Kc (kindOf p) (fun x=>cq x.2) n:=by
 unfold kindOf
 (repeat' (first|exact Kc.no|exact Kc.ok (by assumption)|refine Kc.ite ?_ ?_|refine Kc.bind _ (BN _ _) fun _ _=>?_|refine Kc.bind _ (oM (by assumption)) fun _ _=>?_|refine Kc.bind _ (lU (by assumption)) fun _ _=>?_|refine Kc.bind _ (jS (by assumption)) fun _ _=>?_|refine Kc.bind _ (jK (by assumption)) fun _ _=>?_|refine Kc.bind _ (xW (by assumption)) fun _ _=>?_))
theorem Qo(h:cq p=n):Kc (bound p) (fun x=>cq x.2.2) n:=by
 unfold bound
 (repeat' (first|exact Kc.no|exact Kc.ok (by assumption)|refine Kc.ite ?_ ?_|refine Kc.bind _ (BN _ _) fun _ _=>?_|refine Kc.bind _ (oM (by assumption)) fun _ _=>?_|refine Kc.bind _ (lU (by assumption)) fun _ _=>?_|refine Kc.bind _ (jS (by assumption)) fun _ _=>?_|refine Kc.bind _ (jK (by assumption)) fun _ _=>?_|refine Kc.bind _ (xW (by assumption)) fun _ _=>?_))
theorem IB(h:cq p=n):Kc (aS p) (fun x=>cq x.2) n:=by
 unfold aS
 refine Kc.ite ?_ ?_
 ·cases p.enums.lookup p.w.s with
  |none=>exact Kc.no
  |some l=>exact Kc.bind _ (lU h) fun q hq=>Kc.ok hq
 ·(repeat' (first|exact Kc.no|exact Kc.ok (by assumption)|refine Kc.ite ?_ ?_|refine Kc.bind _ (BN _ _) fun _ _=>?_|refine Kc.bind _ (oM (by assumption)) fun _ _=>?_|refine Kc.bind _ (lU (by assumption)) fun _ _=>?_|refine Kc.bind _ (jS (by assumption)) fun _ _=>?_|refine Kc.bind _ (jK (by assumption)) fun _ _=>?_|refine Kc.bind _ (xW (by assumption)) fun _ _=>?_))
theorem Ig{lo hi:Int}{nums:Option (List Int)}:∀(k:Nat) {p:PS} {a t:List Int},cq p=n→Kc (dK lo hi nums k p a t) (fun x=>cq x.2.2) n
 |0,_,_,_,_=>Kc.no
 |k+1,p,a,t,h=>by
  rw[dK]
  refine Kc.bind _ (oM h) fun q hq=>Kc.bind _ (xW hq) fun v hv=>Kc.bind _ (oM hv) fun q hq=>Kc.ite (Ig k hq) (Kc.ok hq)
theorem TN(h:cq p=n):Kc (side p) (fun x=>cq x.2) n:=by
 unfold side
 exact Kc.bind _ (jS h) fun x hx=>Kc.ite (Kc.ok hx) (MM hx)
theorem BM{l:List Int}(h:cq p=n):Kc (numbered p l) (fun x=>cq x.2.2) n:=by
 unfold numbered
 (repeat' (first|exact Kc.no|exact Kc.ok (by assumption)|refine Kc.ite ?_ ?_|refine Kc.bind _ (BN _ _) fun _ _=>?_|refine Kc.bind _ (oM (by assumption)) fun _ _=>?_|refine Kc.bind _ (lU (by assumption)) fun _ _=>?_|refine Kc.bind _ (jS (by assumption)) fun _ _=>?_|refine Kc.bind _ (jK (by assumption)) fun _ _=>?_|refine Kc.bind _ (xW (by assumption)) fun _ _=>?_))
theorem sH:∀(k:Nat) {p:PS} {qs:List gq} {l:List By} {t:List Int},cq p=n→Kc (dX k p qs l t) (fun x=>cq x.2) n
 |0,_,_,_,_,_=>Kc.no
 |k+1,p,qs,l,t,h=>by
  rw[dX]
  refine Kc.bind _ (TN h) fun r hr=>Kc.bind _ (jK hr) fun m hm=>Kc.bind _ (oM hm) fun q hq=>Kc.bind _ (TN hq) fun a ha=>Kc.bind _ (oM ha) fun q hq=>Kc.bind _ (BM hq) fun v hv=>Kc.bind _ (jS hv) fun x hx=>Kc.ite (Kc.ok hx) (sH k hx)
theorem Si{l:List By}{t:List Int}(h:cq p=n):Kc (version p l t) (fun x=>cq x.2.2.2) n:=by
 unfold version
 refine Kc.bind _ (oM h) fun q hq=>Kc.bind _ (jK hq) fun m hm=>Kc.bind _ (oM hm) fun q hq=>Kc.bind _ (sH 8 hq) fun x hx=>Kc.bind _ (BM hx) fun v hv=>Kc.ok hv
end Go.M

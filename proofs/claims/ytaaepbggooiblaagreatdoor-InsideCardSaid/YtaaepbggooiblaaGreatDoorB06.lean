/- Texts of mine, one behind the other; nothing is assumed. -/

namespace Go.M
abbrev By:=List UInt8
inductive Res (α:Type) where
 |ok (a:α)
 |no (e at_:Nat) deriving DecidableEq
def Res.andThen{α β:Type}:Res α→(α→Res β)→Res β
 |.ok a,f=>f a
 |.no e p,_=>.no e p
theorem Res.dw{α β:Type}(a:α)(f:α→Res β):(Res.ok a).andThen f=f a:=rfl
structure Wd where
 kind:Nat
 s:By
 at_:Nat
 n:Int deriving DecidableEq
def uU(c:UInt8):Bool:=c==32||c==9||c==10
def digit(c:UInt8):Bool:=48≤c&&c≤57
def letter(c:UInt8):Bool:=(97≤c&&c≤122)||(65≤c&&c≤90)
def jd(c:UInt8):Bool:=letter c||digit c||c==95
def bP:By→Nat
 |[]=>0
 |c::r=>if jd c then bP r+1 else 0
def starts:By→By→Bool
 |[],_=>true
 |_::_,[]=>false
 |a::x,b::y=>a==b&&starts x y
def find(x:By):By→Option Nat
 |[]=>if x.isEmpty then some 0 else none
 |c::r=>if starts x (c::r)then some 0 else(find x r).map (·+1)
def blanks:By→Nat
 |[]=>0
 |c::r=>if uU c then blanks r+1 else 0
def skip:Nat→By→Nat
 |0,_=>0
 |n+1,l=>
  let k:=blanks l
  let r:=l.drop k
  if starts [47,42] r then
   match find [42,47] (r.drop 2)with
   |some e=>k+(e+4)+skip n (r.drop (e+4))
   |none=>k
  else k
def dig(c:UInt8):Nat:=
 if 48≤c&&c≤57 then c.toNat - 48 else if 97≤c&&c≤122 then c.toNat - 87 else if 65≤c&&c≤90 then c.toNat - 55 else 99
def uint(base:Nat):By→Nat→Option Nat
 |[],v=>some v
 |c::r,v=>if dig c<base then(if v*base+dig c<4294967296 then uint base r (v*base+dig c)else none)else none
def qE(base:Nat)(l:By):Option Nat:=if l.isEmpty then none else uint base l 0
def bU:By→By
 |45::r=>r
 |l=>l
def number(s:By):Option Int:=
 let hex:=starts [48,120] s
 let ds:=if hex then s.drop 2 else bU s
 if(if hex then decide (8<ds.length)else decide (1<ds.length)&&ds.head?==some 48)then none
 else if ds.contains 95 then none
 else match qE (if hex then 16 else 10) ds with
  |none=>none
  |some v=>if s.head?==some 45 then(if v≤2147483648 then some (-(v:Int))else none)else some v
def keys:By:=[32,99,111,110,115,116,32,116,121,112,101,100,101,102,32,101,110,117,109,32,115,116,114,117,99,116,32,117,110,105,111,110,32,115,119,105,116,99,104,32,99,97,115,101,32,100,101,102,97,117,108,116,32,118,111,105,100,32,105,110,116,32,117,110,115,105,103,110,101,100,32,104,121,112,101,114,32,98,111,111,108,32,111,112,97,113,117,101,32,115,116,114,105,110,103,32,112,114,111,103,114,97,109,32,118,101,114,115,105,111,110,32,84,82,85,69,32,70,65,76,83,69,32]
def signs:By:=[123,125,40,41,91,93,60,62,42,44,59,58,61]
def contains(l x:By):Bool:=(find x l).isSome
def next(txt:By)(from_:Nat):Res (Wd×Nat):=
 let at_:=from_+skip (txt.length+1) (txt.drop from_)
 let rest:=txt.drop at_
 match rest with
 |[]=>.ok (⟨0,[],at_,0⟩,at_)
 |c::r=>
  if c==45||digit c then
   let n:=1+bP r
   match number (rest.take n)with
   |none=>.no 4 at_
   |some v=>.ok (⟨3,rest.take n,at_,v⟩,at_+n)
  else if c != 95&&jd c then
   let s:=rest.take (bP rest)
   if contains keys (32::s++[32])then .ok (⟨2,s,at_,0⟩,at_+s.length)
   else if 16<s.length then .no 7 at_
   else .ok (⟨1,s,at_,0⟩,at_+s.length)
  else if signs.contains c then .ok (⟨4,[c],at_,0⟩,at_+1)
  else .no 2 at_
def Wd.is(w:Wd)(s:By):Bool:=(w.kind==2||w.kind==4)&&w.s==s
inductive Ty where
 |basic (s:By)
 |named (s:By) (at_:Nat)
 |bytes (text fixed:Bool) (n:Int)
 |array (of:Ty) (fixed:Bool) (n:Int)
 |opt (of:Ty)
 |void deriving DecidableEq
structure Decl where
 name:By
 ty:Ty deriving DecidableEq
structure Arm where
 nums:List Int
 decl:Decl deriving DecidableEq
structure rP where
 name:By
 n:Int
 arg:Ty
 res:Ty deriving DecidableEq
structure uz where
 name:By
 n:Int
 procs:List rP deriving DecidableEq
inductive Dk where
 |const (n:Int)
 |alias (t:Ty)
 |enum (names:List By) (nums:List Int)
 |struct (parts:List Decl)
 |union (of:Ty) (name:By) (arms:List Arm) (els:Option Decl)
 |prog (n:Int) (vs:List uz) deriving DecidableEq
structure Def where
 name:By
 at_:Nat
 k:Dk deriving DecidableEq
structure PS where
 txt:By
 pos:Nat
 w:Wd
 names:List By
 consts:List (By×Int)
 enums:List (By×List Int)
 iQ:List Int
 n0:Nat
 n1:Nat
 n2:Nat deriving DecidableEq
def aY{α β:Type}[BEq α](m:List (α×β))(a:α)(v:β):List (α×β):=
 match m with
 |[]=>[(a,v)]
 |x::r=>if a==x.1 then(a,v)::r else x::aY r a v
def advance(p:PS):Res PS:=(next p.txt p.pos).andThen fun x=>.ok { p with w:=x.1,pos:=x.2 }
def bad{α:Type}(p:PS):Res α:=.no 3 p.w.at_
def want(p:PS):List By→Res PS
 |[]=>.ok p
 |s::r=>if p.w.is s then(advance p).andThen fun p=>want p r else bad p
def take(p:PS)(s:By):Res (Bool×PS):=if p.w.is s then(advance p).andThen fun p=>.ok (true,p)else .ok (false,p)
def name(p:PS):Res Wd:=if p.w.kind==1 then .ok p.w else bad p
def once{α:Type}[BEq α](l:List α)(a:α)(at_:Nat):Res (List α):=if l.contains a then .no 6 at_ else .ok (l++[a])
def own(p:PS):Res (Wd×PS):=
 (name p).andThen fun w=>(once p.names w.s w.at_).andThen fun l=>(advance { p with names:=l }).andThen fun p=>.ok (w,p)
def called(p:PS)(l:List By):Res (Wd×List By×PS):=
 (name p).andThen fun w=>(once l w.s w.at_).andThen fun l=>(advance p).andThen fun p=>.ok (w,l,p)
def zG(p:PS):Res Int:=
 let w:=p.w
 if w.kind==3 then .ok w.n
 else if w.is [84,82,85,69]then .ok 1
 else if w.is [70,65,76,83,69]then .ok 0
 else if w.kind==1 then(match p.consts.lookup w.s with|some v=>.ok v|none=>.no 7 w.at_)
 else bad p
def value{σ:Type}(p:PS)(lo hi:Int)(keep:Int→Nat→Res σ):Res (Int×σ×PS):=
 (zG p).andThen fun n=>if n<lo∨hi<n then .no 8 p.w.at_ else
  (keep n p.w.at_).andThen fun s=>(advance p).andThen fun p=>.ok (n,s,p)
def wU(_:Int)(_:Nat):Res Unit:=.ok ()
def kindOf(p:PS):Res (Ty×PS):=
 let w:=p.w
 if w.kind==1 then(advance p).andThen fun p=>.ok (.named w.s w.at_,p)
 else(take p [105,110,116]).andThen fun x=>if x.1 then .ok (.basic [105,110,116],x.2)
 else(take x.2 [104,121,112,101,114]).andThen fun x=>if x.1 then .ok (.basic [104,121,112,101,114],x.2)
 else(take x.2 [98,111,111,108]).andThen fun x=>if x.1 then .ok (.basic [98,111,111,108],x.2)
 else(take x.2 [117,110,115,105,103,110,101,100]).andThen fun x=>if x.1 then
   (take x.2 [104,121,112,101,114]).andThen fun x=>if x.1 then .ok (.basic [117,110,115,105,103,110,101,100,32,104,121,112,101,114],x.2)
   else(take x.2 [105,110,116]).andThen fun x=>.ok (.basic [117,110,115,105,103,110,101,100],x.2)
 else bad x.2
def bound(p:PS):Res (Bool×Int×PS):=
 (take p [91]).andThen fun x=>
  if x.1 then(value x.2 1 1000 wU).andThen fun y=>(want y.2.2 [[93]]).andThen fun p=>.ok (true,y.1,p)
  else(want x.2 [[60]]).andThen fun p=>(take p [62]).andThen fun x=>
   if x.1 then .ok (false,4294967295,x.2)
   else(value x.2 0 4294967295 wU).andThen fun y=>(want y.2.2 [[62]]).andThen fun p=>.ok (false,y.1,p)
def decl{σ:Type}(nm:PS→Res (Wd×σ×PS))(p:PS):Res (Decl×Wd×σ×PS):=
 let text:=p.w.is [115,116,114,105,110,103]
 if text||p.w.is [111,112,97,113,117,101]then
  (advance p).andThen fun p=>(nm p).andThen fun x=>
   if text&&!x.2.2.w.is [60]then bad x.2.2 else
   (bound x.2.2).andThen fun y=>.ok (⟨x.1.s,.bytes text y.1 y.2.1⟩,x.1,x.2.1,y.2.2)
 else(kindOf p).andThen fun t=>(take t.2 [42]).andThen fun y=>
  if y.1 then(nm y.2).andThen fun x=>.ok (⟨x.1.s,.opt t.1⟩,x.1,x.2.1,x.2.2)
  else(nm y.2).andThen fun x=>
   if x.2.2.w.is [91]||x.2.2.w.is [60]then(bound x.2.2).andThen fun z=>.ok (⟨x.1.s,.array t.1 z.1 z.2.1⟩,x.1,x.2.1,z.2.2)
   else .ok (⟨x.1.s,t.1⟩,x.1,x.2.1,x.2.2)
def XD(l:List By)(p:PS):Res (Wd×List By×PS):=called p l
def Nl(p:PS):Res (Wd×Unit×PS):=(own p).andThen fun x=>.ok (x.1,(),x.2)
def member(p:PS)(l:List By):Res (Decl×List By×PS):=
 (decl (XD l) p).andThen fun x=>(want x.2.2.2 [[59]]).andThen fun p=>.ok (x.1,x.2.2.1,p)
def count(p:PS)(n most:Nat):Res Unit:=if most≤n then .no 5 p.w.at_ else .ok ()
def least:Int := -2147483648
def Qs:Int:=2147483647
def top:Int:=4294967295
def constant(p:PS):Res (Def×PS):=
 (count p p.n1 40).andThen fun _=>(want p [[99,111,110,115,116]]).andThen fun p=>(own p).andThen fun w=>(want w.2 [[61]]).andThen fun p=>
 (value p least top wU).andThen fun v=>(want v.2.2 [[59]]).andThen fun p=>
 .ok (⟨w.1.s,w.1.at_,.const v.1⟩,{ p with n1:=p.n1+1,consts:=aY p.consts w.1.s v.1 })
def alias(p:PS):Res (Def×PS):=
 (want p [[116,121,112,101,100,101,102]]).andThen fun p=>(decl Nl p).andThen fun d=>(want d.2.2.2 [[59]]).andThen fun p=>
 .ok (⟨d.2.1.s,d.2.1.at_,.alias d.1.ty⟩,p)
def um:Nat→PS→List By→List Int→Res (List By×List Int×PS)
 |0,p,_,_=>.no 5 p.w.at_
 |k+1,p,ns,is=>
  (count p p.n1 40).andThen fun _=>(own p).andThen fun m=>(want m.2 [[61]]).andThen fun p=>
  (value p least Qs fun n at_=>once is n at_).andThen fun v=>
  let p:=v.2.2
  let p:={ p with n1:=p.n1+1,consts:=aY p.consts m.1.s v.1 }
  (take p [44]).andThen fun x=>if x.1 then um k x.2 (ns++[m.1.s]) (is++[v.1])else .ok (ns++[m.1.s],is++[v.1],x.2)
def enum(p:PS):Res (Def×PS):=
 (want p [[101,110,117,109]]).andThen fun p=>(own p).andThen fun w=>(want w.2 [[123]]).andThen fun p=>
 (um 12 p [] []).andThen fun x=>(want x.2.2 [[125],[59]]).andThen fun p=>
 .ok (⟨w.1.s,w.1.at_,.enum x.1 x.2.1⟩,{ p with enums:=aY p.enums w.1.s x.2.1 })
def jV:Nat→PS→List Decl→List By→Res (List Decl×PS)
 |0,p,_,_=>.no 5 p.w.at_
 |k+1,p,ds,l=>
  (member p l).andThen fun d=>(take d.2.2 [125]).andThen fun x=>if x.1 then .ok (ds++[d.1],x.2)else jV k x.2 (ds++[d.1]) d.2.1
def oL(p:PS):Res (Def×PS):=
 (want p [[115,116,114,117,99,116]]).andThen fun p=>(own p).andThen fun w=>(want w.2 [[123]]).andThen fun p=>
 (jV 12 p [] []).andThen fun x=>(want x.2 [[59]]).andThen fun p=>.ok (⟨w.1.s,w.1.at_,.struct x.1⟩,p)
def mZ(p:PS):Res ((Ty×Int×Int×Option (List Int))×PS):=
 let w:=p.w
 if w.kind==1 then(match p.enums.lookup w.s with
  |none=>.no 7 w.at_
  |some nums=>(advance p).andThen fun p=>.ok ((.named w.s w.at_,least,Qs,some nums),p))
 else(take p [105,110,116]).andThen fun x=>if x.1 then .ok ((.basic [105,110,116],least,Qs,none),x.2)
 else(take x.2 [98,111,111,108]).andThen fun x=>if x.1 then .ok ((.basic [98,111,111,108],0,1,none),x.2)
 else(take x.2 [117,110,115,105,103,110,101,100]).andThen fun x=>if x.1 then(take x.2 [105,110,116]).andThen fun x=>.ok ((.basic [117,110,115,105,103,110,101,100],0,top,none),x.2)
 else bad x.2
def arm(p:PS)(l:List By):Res (Decl×List By×PS):=
 (take p [118,111,105,100]).andThen fun x=>if x.1 then(want x.2 [[59]]).andThen fun p=>.ok (⟨[],.void⟩,l,p)else member x.2 l
def uw(lo hi:Int)(nums:Option (List Int)):Nat→PS→List Int→List Int→Res (List Int×List Int×PS)
 |0,p,_,_=>.no 5 p.w.at_
 |k+1,p,a,there=>
  (want p [[99,97,115,101]]).andThen fun p=>
  (value p lo hi fun n at_=>if nums.any fun l=>!l.contains n then .no 8 at_ else once there n at_).andThen fun v=>(want v.2.2 [[58]]).andThen fun p=>
  if p.w.is [99,97,115,101]then uw lo hi nums k p (a++[v.1]) v.2.1 else .ok (a++[v.1],v.2.1,p)
def Bj(lo hi:Int)(nums:Option (List Int)):Nat→PS→List Arm→List By→List Int→Res (List Arm×List By×PS)
 |0,p,_,_,_=>.no 5 p.w.at_
 |k+1,p,as,l,there=>
  (uw lo hi nums (12 - there.length) p [] there).andThen fun c=>(arm c.2.2 l).andThen fun d=>
  if d.2.2.w.is [99,97,115,101]then Bj lo hi nums k d.2.2 (as++[⟨c.1,d.1⟩]) d.2.1 c.2.1 else .ok (as++[⟨c.1,d.1⟩],d.2.1,d.2.2)
def union(p:PS):Res (Def×PS):=
 (want p [[117,110,105,111,110]]).andThen fun p=>(own p).andThen fun w=>(want w.2 [[115,119,105,116,99,104],[40]]).andThen fun p=>
 (mZ p).andThen fun d=>(called d.2 []).andThen fun nm=>(want nm.2.2 [[41],[123]]).andThen fun p=>
 (Bj d.1.2.1 d.1.2.2.1 d.1.2.2.2 13 p [] nm.2.1 []).andThen fun as=>(take as.2.2 [100,101,102,97,117,108,116]).andThen fun x=>
 (if x.1 then(want x.2 [[58]]).andThen fun p=>(arm p as.2.1).andThen fun e=>.ok (some e.1,e.2.2)else .ok (none,x.2)).andThen fun e=>
 (want e.2 [[125],[59]]).andThen fun p=>.ok (⟨w.1.s,w.1.at_,.union d.1.1 nm.1.s as.1 e.1⟩,p)
def side(p:PS):Res (Ty×PS):=(take p [118,111,105,100]).andThen fun x=>if x.1 then .ok (.void,x.2)else kindOf x.2
def numbered(p:PS)(l:List Int):Res (Int×List Int×PS):=
 (want p [[61]]).andThen fun p=>(value p 0 top fun n at_=>once l n at_).andThen fun v=>(want v.2.2 [[59]]).andThen fun p=>.ok (v.1,v.2.1,p)
def sV:Nat→PS→List rP→List By→List Int→Res (List rP×PS)
 |0,p,_,_,_=>.no 5 p.w.at_
 |k+1,p,qs,l,ns=>
  (side p).andThen fun r=>(called r.2 l).andThen fun nm=>(want nm.2.2 [[40]]).andThen fun p=>(side p).andThen fun a=>(want a.2 [[41]]).andThen fun p=>
  (numbered p ns).andThen fun n=>(take n.2.2 [125]).andThen fun x=>
  if x.1 then .ok (qs++[⟨nm.1.s,n.1,a.1,r.1⟩],x.2)else sV k x.2 (qs++[⟨nm.1.s,n.1,a.1,r.1⟩]) nm.2.1 n.2.1
def version(p:PS)(names:List By)(nums:List Int):Res (uz×List By×List Int×PS):=
 (want p [[118,101,114,115,105,111,110]]).andThen fun p=>(called p names).andThen fun nm=>(want nm.2.2 [[123]]).andThen fun p=>
 (sV 8 p [] [] []).andThen fun x=>(numbered x.2 nums).andThen fun n=>.ok (⟨nm.1.s,n.1,x.1⟩,nm.2.1,n.2.1,n.2.2)
def rV:Nat→PS→List uz→List By→List Int→Res (List uz×PS)
 |0,p,_,_,_=>.no 5 p.w.at_
 |k+1,p,vs,l,ns=>
  (version p l ns).andThen fun v=>(take v.2.2.2 [125]).andThen fun x=>if x.1 then .ok (vs++[v.1],x.2)else rV k x.2 (vs++[v.1]) v.2.1 v.2.2.1
def program(p:PS):Res (Def×PS):=
 (count p p.n2 4).andThen fun _=>(want { p with n2:=p.n2+1 } [[112,114,111,103,114,97,109]]).andThen fun p=>(own p).andThen fun w=>(want w.2 [[123]]).andThen fun p=>
 (rV 4 p [] [] []).andThen fun x=>(numbered x.2 x.2.iQ).andThen fun n=>.ok (⟨w.1.s,w.1.at_,.prog n.1 x.1⟩,{ n.2.2 with iQ:=n.2.1 })
def definition(p:PS):Res (Def×PS):=
 if p.w.is [99,111,110,115,116]then constant p
 else if p.w.is [112,114,111,103,114,97,109]then program p
 else
  let go (f:PS→Res (Def×PS)):Res (Def×PS):=(count p p.n0 24).andThen fun _=>f { p with n0:=p.n0+1 }
  if p.w.is [116,121,112,101,100,101,102]then go alias
  else if p.w.is [101,110,117,109]then go enum
  else if p.w.is [115,116,114,117,99,116]then go oL
  else if p.w.is [117,110,105,111,110]then go union
  else bad p
def AA:Nat→PS→List Def→Res (List Def)
 |0,_,ds=>.ok ds
 |k+1,p,ds=>if p.w.kind==0 then .ok ds else(definition p).andThen fun x=>AA k x.2 (ds++[x.1])
def parse(txt:By):Res (List Def):=
 (advance ⟨txt,0,⟨0,[],0,0⟩,[],[],[],[],0,0,0⟩).andThen fun p=>AA 69 p []
end Go.M
set_option linter.unusedSimpArgs false
set_option linter.unusedVariables false
namespace Go.M
theorem Res.then_ok{α β:Type}{m:Res α}{k:α→Res β}{b:β}(h:m.andThen k=.ok b):∃a,m=.ok a∧k a=.ok b:=by
 cases m with
 |ok a=>exact⟨a,rfl,h⟩
 |no e a=>cases h
theorem Res.assoc{α β γ:Type}(m:Res α)(f:α→Res β)(g:β→Res γ):(m.andThen f).andThen g=m.andThen fun a=>(f a).andThen g:=by
 cases m<;>rfl
def nn(p:PS):Nat×Nat×Nat:=(p.n0,p.n1,p.n2)
theorem xX{p q:PS}(h:advance p=.ok q):nn q=nn p:=by
 obtain⟨x,_,h2⟩:=Res.then_ok h
 cases h2;rfl
theorem iq:∀{l:List By} {p q:PS},want p l=.ok q→nn q=nn p
 |[],p,q,h=>by cases h;rfl
 |s::r,p,q,h=>by
  rw[want]at h
  split at h
  ·obtain⟨x,h1,h2⟩:=Res.then_ok h
   exact(iq h2).trans (xX h1)
  ·cases h
theorem CQ{p:PS}{x:Wd×PS}(h:own p=.ok x):nn x.2=nn p:=by
 obtain⟨w,h1,h⟩:=Res.then_ok h
 obtain⟨l,h2,h⟩:=Res.then_ok h
 obtain⟨q,h3,h⟩:=Res.then_ok h
 cases h
 exact(xX h3).trans rfl
theorem Ad{σ:Type}{p:PS}{lo hi:Int}{keep:Int→Nat→Res σ}{x:Int×σ×PS}(h:value p lo hi keep=.ok x):nn x.2.2=nn p:=by
 obtain⟨n,h1,h⟩:=Res.then_ok h
 split at h
 ·cases h
 obtain⟨s,h2,h⟩:=Res.then_ok h
 obtain⟨q,h3,h⟩:=Res.then_ok h
 cases h
 exact xX h3
theorem FB{σ:Type}{p:PS}{lo hi:Int}{keep:Int→Nat→Res σ}{x:Int×σ×PS}(h:value p lo hi keep=.ok x):lo≤x.1∧x.1≤hi:=by
 obtain⟨n,h1,h⟩:=Res.then_ok h
 split at h
 ·cases h
 obtain⟨s,h2,h⟩:=Res.then_ok h
 obtain⟨q,h3,h⟩:=Res.then_ok h
 cases h
 show lo≤n∧n≤hi
 omega
theorem O0{p:PS}{lo hi:Int}{l:List Int}{x:Int×List Int×PS}(h:value p lo hi (fun n a=>once l n a)=.ok x):x.2.1=l++[x.1]:=by
 obtain⟨n,h1,h⟩:=Res.then_ok h
 split at h
 ·cases h
 obtain⟨s,h2,h⟩:=Res.then_ok h
 obtain⟨q,h3,h⟩:=Res.then_ok h
 cases h
 simp only[once]at h2
 split at h2
 ·cases h2
 ·cases h2;rfl
theorem O1{p:PS}{lo hi:Int}{nums:Option (List Int)}{l:List Int}{x:Int×List Int×PS}(h:value p lo hi (fun n a=>if nums.any fun l=>!l.contains n then .no 8 a else once l n a)=.ok x):x.2.1=l++[x.1]:=by
 obtain⟨n,h1,h⟩:=Res.then_ok h
 split at h
 ·cases h
 obtain⟨s,h2,h⟩:=Res.then_ok h
 obtain⟨q,h3,h⟩:=Res.then_ok h
 cases h
 simp only[once]at h2
 split at h2
 ·cases h2
 ·split at h2
  ·cases h2
  ·cases h2;rfl
theorem Res.named{α β:Type}{M:Res β}{m:Res α}{k:α→Res β}(h:M=m.andThen k):∃F,F=k∧M=m.andThen F:=⟨k,rfl,h⟩
theorem Mc{σ:Type}{p:PS}{lo hi:Int}{k1 k2:Int→Nat→Res σ}(h:∀n a,lo≤n→n≤hi→k1 n a=k2 n a):value p lo hi k1=value p lo hi k2:=by
 unfold value
 cases zG p with
 |no=>rfl
 |ok n=>
  simp only[Res.dw]
  split
  ·rfl
  ·rw[h n _ (by omega) (by omega)]
theorem JD(q:PS)(l:List Int):advance { q with iQ:=l }=(advance q).andThen fun r=>.ok { r with iQ:=l }:=by
 unfold advance
 cases next q.txt q.pos<;>rfl
theorem xC:∀(s:List By) (q:PS) (l:List Int),want { q with iQ:=l } s=(want q s).andThen fun r=>.ok { r with iQ:=l }
 |[],q,l=>rfl
 |x::r,q,l=>by
  rw[want,want]
  show (if q.w.is x then _ else _)=_
  split
  ·rw[JD]
   cases advance q with
   |no=>rfl
   |ok q'=>simp only[Res.dw];exact xC r q' l
  ·rfl
theorem O9{s:List By}{q r:PS}(h:want q s=.ok r):r.iQ=q.iQ:=by
 have:=xC s q q.iQ
 have e:({ q with iQ:=q.iQ }:PS)=q:=rfl
 rw[e,h]at this
 simp only[Res.dw,Res.ok.injEq]at this
 rw[this]
theorem gJ{p:PS}{n most:Nat}{u:Unit}(h:count p n most=.ok u):n<most:=by
 rw[count]at h
 split at h
 ·cases h
 ·omega
end Go.M
namespace Go.M
def Kn{α:Type}(m:Res α)(f:α→Nat×Nat×Nat)(n:Nat×Nat×Nat):Prop:=∀a,m=.ok a→f a=n
theorem Kn.ok{α:Type}{a:α}{f:α→Nat×Nat×Nat}{n:Nat×Nat×Nat}(h:f a=n):Kn (.ok a) f n:=fun b hb=>by cases hb;exact h
theorem Kn.no{α:Type}{e a:Nat}{f:α→Nat×Nat×Nat}{n:Nat×Nat×Nat}:Kn (.no e a) f n:=fun b hb=>by cases hb
theorem Kn.ite{α:Type}{c:Prop}[Decidable c]{A B:Res α}{f:α→Nat×Nat×Nat}{n:Nat×Nat×Nat}(h1:Kn A f n)(h2:Kn B f n):Kn (if c then A else B) f n:=by
 split
 ·exact h1
 ·exact h2
theorem Kn.bind{α β:Type}{m:Res α}{k:α→Res β}{f:β→Nat×Nat×Nat}{n:Nat×Nat×Nat}(g:α→Nat×Nat×Nat)(h1:Kn m g n)(h2:∀a,g a=n→Kn (k a) f n):Kn (m.andThen k) f n:=fun b hb=>by
 obtain⟨a,ha,hk⟩:=Res.then_ok hb
 exact h2 a (h1 a ha) b hk
variable {n:Nat×Nat×Nat} {p:PS}
theorem jO{q:PS}(a b:Nat):Kn (count q a b) (fun _=>n) n:=fun _ _=>rfl
theorem cO(h:nn p=n):Kn (advance p) nn n:=fun q hq=>(xX hq).trans h
theorem bT{l:List By}(h:nn p=n):Kn (want p l) nn n:=fun q hq=>(iq hq).trans h
theorem oP(h:nn p=n):Kn (own p) (fun x=>nn x.2) n:=fun q hq=>(CQ hq).trans h
theorem jc{σ:Type}{lo hi:Int}{k:Int→Nat→Res σ}(h:nn p=n):Kn (value p lo hi k) (fun x=>nn x.2.2) n:=fun q hq=>(Ad hq).trans h
theorem eG{s:By}(h:nn p=n):Kn (take p s) (fun x=>nn x.2) n:=by
 unfold take
 refine Kn.ite ?_ (Kn.ok h)
 exact Kn.bind _ (cO h) fun q hq=>Kn.ok hq
theorem dH{l:List By}(h:nn p=n):Kn (called p l) (fun x=>nn x.2.2) n:=by
 unfold called
 refine Kn.bind (fun _=>n) (fun _ _=>rfl) fun w _=>Kn.bind (fun _=>n) (fun _ _=>rfl) fun l _=>?_
 (repeat' (first|exact Kn.no|exact Kn.ok (by assumption)|refine Kn.ite ?_ ?_|refine Kn.bind _ (jO _ _) fun _ _=>?_|refine Kn.bind _ (bT (by assumption)) fun _ _=>?_|refine Kn.bind _ (cO (by assumption)) fun _ _=>?_|refine Kn.bind _ (eG (by assumption)) fun _ _=>?_|refine Kn.bind _ (oP (by assumption)) fun _ _=>?_|refine Kn.bind _ (dH (by assumption)) fun _ _=>?_|refine Kn.bind _ (jc (by assumption)) fun _ _=>?_))
theorem Ju(h:nn p=n):Kn (kindOf p) (fun x=>nn x.2) n:=by
 unfold kindOf
 (repeat' (first|exact Kn.no|exact Kn.ok (by assumption)|refine Kn.ite ?_ ?_|refine Kn.bind _ (jO _ _) fun _ _=>?_|refine Kn.bind _ (bT (by assumption)) fun _ _=>?_|refine Kn.bind _ (cO (by assumption)) fun _ _=>?_|refine Kn.bind _ (eG (by assumption)) fun _ _=>?_|refine Kn.bind _ (oP (by assumption)) fun _ _=>?_|refine Kn.bind _ (dH (by assumption)) fun _ _=>?_|refine Kn.bind _ (jc (by assumption)) fun _ _=>?_))
theorem NF(h:nn p=n):Kn (bound p) (fun x=>nn x.2.2) n:=by
 unfold bound
 (repeat' (first|exact Kn.no|exact Kn.ok (by assumption)|refine Kn.ite ?_ ?_|refine Kn.bind _ (jO _ _) fun _ _=>?_|refine Kn.bind _ (bT (by assumption)) fun _ _=>?_|refine Kn.bind _ (cO (by assumption)) fun _ _=>?_|refine Kn.bind _ (eG (by assumption)) fun _ _=>?_|refine Kn.bind _ (oP (by assumption)) fun _ _=>?_|refine Kn.bind _ (dH (by assumption)) fun _ _=>?_|refine Kn.bind _ (jc (by assumption)) fun _ _=>?_))
theorem Qz{σ:Type}{nm:PS→Res (Wd×σ×PS)}(hn:∀q,nn q=n→Kn (nm q) (fun x=>nn x.2.2) n)(h:nn p=n):Kn (decl nm p) (fun x=>nn x.2.2.2) n:=by
 unfold decl
 refine Kn.ite ?_ ?_
 ·refine Kn.bind _ (cO h) fun q hq=>Kn.bind _ (hn q hq) fun x hx=>Kn.ite Kn.no ?_
  refine Kn.bind _ (NF hx) fun y hy=>Kn.ok hy
 ·refine Kn.bind _ (Ju h) fun t ht=>Kn.bind _ (eG ht) fun y hy=>Kn.ite ?_ ?_
  ·refine Kn.bind _ (hn _ hy) fun x hx=>Kn.ok hx
  ·refine Kn.bind _ (hn _ hy) fun x hx=>Kn.ite ?_ (Kn.ok hx)
   refine Kn.bind _ (NF hx) fun y hy=>Kn.ok hy
theorem Jt{l:List By}(h:nn p=n):Kn (member p l) (fun x=>nn x.2.2) n:=by
 unfold member
 refine Kn.bind _ (Qz (fun q hq=>dH hq) h) fun x hx=>?_
 (repeat' (first|exact Kn.no|exact Kn.ok (by assumption)|refine Kn.ite ?_ ?_|refine Kn.bind _ (jO _ _) fun _ _=>?_|refine Kn.bind _ (bT (by assumption)) fun _ _=>?_|refine Kn.bind _ (cO (by assumption)) fun _ _=>?_|refine Kn.bind _ (eG (by assumption)) fun _ _=>?_|refine Kn.bind _ (oP (by assumption)) fun _ _=>?_|refine Kn.bind _ (dH (by assumption)) fun _ _=>?_|refine Kn.bind _ (jc (by assumption)) fun _ _=>?_))
theorem Ug(h:nn p=n):Kn (alias p) (fun x=>nn x.2) n:=by
 unfold alias
 refine Kn.bind _ (bT h) fun q hq=>Kn.bind _ (Qz (nm:=Nl) (fun q hq=>Kn.bind _ (oP hq) fun x hx=>Kn.ok hx) hq) fun x hx=>?_
 (repeat' (first|exact Kn.no|exact Kn.ok (by assumption)|refine Kn.ite ?_ ?_|refine Kn.bind _ (jO _ _) fun _ _=>?_|refine Kn.bind _ (bT (by assumption)) fun _ _=>?_|refine Kn.bind _ (cO (by assumption)) fun _ _=>?_|refine Kn.bind _ (eG (by assumption)) fun _ _=>?_|refine Kn.bind _ (oP (by assumption)) fun _ _=>?_|refine Kn.bind _ (dH (by assumption)) fun _ _=>?_|refine Kn.bind _ (jc (by assumption)) fun _ _=>?_))
theorem BQ:∀(k:Nat) {p:PS} {ds:List Decl} {l:List By},nn p=n→Kn (jV k p ds l) (fun x=>nn x.2) n
 |0,_,_,_,_=>Kn.no
 |k+1,p,ds,l,h=>by
  rw[jV]
  refine Kn.bind _ (Jt h) fun d hd=>Kn.bind _ (eG hd) fun x hx=>Kn.ite (Kn.ok hx) (BQ k hx)
theorem RP(h:nn p=n):Kn (oL p) (fun x=>nn x.2) n:=by
 unfold oL
 refine Kn.bind _ (bT h) fun q hq=>Kn.bind _ (oP hq) fun w hw=>Kn.bind _ (bT hw) fun q hq=>Kn.bind _ (BQ 12 hq) fun x hx=>?_
 (repeat' (first|exact Kn.no|exact Kn.ok (by assumption)|refine Kn.ite ?_ ?_|refine Kn.bind _ (jO _ _) fun _ _=>?_|refine Kn.bind _ (bT (by assumption)) fun _ _=>?_|refine Kn.bind _ (cO (by assumption)) fun _ _=>?_|refine Kn.bind _ (eG (by assumption)) fun _ _=>?_|refine Kn.bind _ (oP (by assumption)) fun _ _=>?_|refine Kn.bind _ (dH (by assumption)) fun _ _=>?_|refine Kn.bind _ (jc (by assumption)) fun _ _=>?_))
theorem Gt(h:nn p=n):Kn (mZ p) (fun x=>nn x.2) n:=by
 unfold mZ
 refine Kn.ite ?_ ?_
 ·cases p.enums.lookup p.w.s with
  |none=>exact Kn.no
  |some l=>exact Kn.bind _ (cO h) fun q hq=>Kn.ok hq
 ·(repeat' (first|exact Kn.no|exact Kn.ok (by assumption)|refine Kn.ite ?_ ?_|refine Kn.bind _ (jO _ _) fun _ _=>?_|refine Kn.bind _ (bT (by assumption)) fun _ _=>?_|refine Kn.bind _ (cO (by assumption)) fun _ _=>?_|refine Kn.bind _ (eG (by assumption)) fun _ _=>?_|refine Kn.bind _ (oP (by assumption)) fun _ _=>?_|refine Kn.bind _ (dH (by assumption)) fun _ _=>?_|refine Kn.bind _ (jc (by assumption)) fun _ _=>?_))
theorem Uf{l:List By}(h:nn p=n):Kn (arm p l) (fun x=>nn x.2.2) n:=by
 unfold arm
 refine Kn.bind _ (eG h) fun x hx=>Kn.ite ?_ (Jt hx)
 (repeat' (first|exact Kn.no|exact Kn.ok (by assumption)|refine Kn.ite ?_ ?_|refine Kn.bind _ (jO _ _) fun _ _=>?_|refine Kn.bind _ (bT (by assumption)) fun _ _=>?_|refine Kn.bind _ (cO (by assumption)) fun _ _=>?_|refine Kn.bind _ (eG (by assumption)) fun _ _=>?_|refine Kn.bind _ (oP (by assumption)) fun _ _=>?_|refine Kn.bind _ (dH (by assumption)) fun _ _=>?_|refine Kn.bind _ (jc (by assumption)) fun _ _=>?_))
theorem FY{lo hi:Int}{nums:Option (List Int)}:∀(k:Nat) {p:PS} {a t:List Int},nn p=n→Kn (uw lo hi nums k p a t) (fun x=>nn x.2.2) n
 |0,_,_,_,_=>Kn.no
 |k+1,p,a,t,h=>by
  rw[uw]
  refine Kn.bind _ (bT h) fun q hq=>Kn.bind _ (jc hq) fun v hv=>Kn.bind _ (bT hv) fun q hq=>Kn.ite (FY k hq) (Kn.ok hq)
theorem Ik{lo hi:Int}{nums:Option (List Int)}:∀(k:Nat) {p:PS} {ar:List Arm} {l:List By} {t:List Int},nn p=n→Kn (Bj lo hi nums k p ar l t) (fun x=>nn x.2.2) n
 |0,_,_,_,_,_=>Kn.no
 |k+1,p,ar,l,t,h=>by
  rw[Bj]
  refine Kn.bind _ (FY _ h) fun c hc=>Kn.bind _ (Uf hc) fun d hd=>Kn.ite (Ik k hd) (Kn.ok hd)
theorem Ue(h:nn p=n):Kn (union p) (fun x=>nn x.2) n:=by
 unfold union
 refine Kn.bind _ (bT h) fun q hq=>Kn.bind _ (oP hq) fun w hw=>Kn.bind _ (bT hw) fun q hq=>Kn.bind _ (Gt hq) fun d hd=>Kn.bind _ (dH hd) fun m hm=>Kn.bind _ (bT hm) fun q hq=>?_
 refine Kn.bind _ (Ik 13 hq) fun x hx=>Kn.bind _ (eG hx) fun y hy=>Kn.bind (fun e=>nn e.2) (Kn.ite ?_ (Kn.ok hy)) fun e he=>?_
 ·refine Kn.bind _ (bT hy) fun q hq=>Kn.bind _ (Uf hq) fun e he=>Kn.ok he
 ·(repeat' (first|exact Kn.no|exact Kn.ok (by assumption)|refine Kn.ite ?_ ?_|refine Kn.bind _ (jO _ _) fun _ _=>?_|refine Kn.bind _ (bT (by assumption)) fun _ _=>?_|refine Kn.bind _ (cO (by assumption)) fun _ _=>?_|refine Kn.bind _ (eG (by assumption)) fun _ _=>?_|refine Kn.bind _ (oP (by assumption)) fun _ _=>?_|refine Kn.bind _ (dH (by assumption)) fun _ _=>?_|refine Kn.bind _ (jc (by assumption)) fun _ _=>?_))
theorem Qy(h:nn p=n):Kn (side p) (fun x=>nn x.2) n:=by
 unfold side
 exact Kn.bind _ (eG h) fun x hx=>Kn.ite (Kn.ok hx) (Ju hx)
theorem Ar{l:List Int}(h:nn p=n):Kn (numbered p l) (fun x=>nn x.2.2) n:=by
 unfold numbered
 (repeat' (first|exact Kn.no|exact Kn.ok (by assumption)|refine Kn.ite ?_ ?_|refine Kn.bind _ (jO _ _) fun _ _=>?_|refine Kn.bind _ (bT (by assumption)) fun _ _=>?_|refine Kn.bind _ (cO (by assumption)) fun _ _=>?_|refine Kn.bind _ (eG (by assumption)) fun _ _=>?_|refine Kn.bind _ (oP (by assumption)) fun _ _=>?_|refine Kn.bind _ (dH (by assumption)) fun _ _=>?_|refine Kn.bind _ (jc (by assumption)) fun _ _=>?_))
theorem FW:∀(k:Nat) {p:PS} {qs:List rP} {l:List By} {t:List Int},nn p=n→Kn (sV k p qs l t) (fun x=>nn x.2) n
 |0,_,_,_,_,_=>Kn.no
 |k+1,p,qs,l,t,h=>by
  rw[sV]
  refine Kn.bind _ (Qy h) fun r hr=>Kn.bind _ (dH hr) fun m hm=>Kn.bind _ (bT hm) fun q hq=>Kn.bind _ (Qy hq) fun a ha=>Kn.bind _ (bT ha) fun q hq=>Kn.bind _ (Ar hq) fun v hv=>Kn.bind _ (eG hv) fun x hx=>Kn.ite (Kn.ok hx) (FW k hx)
theorem PD{l:List By}{t:List Int}(h:nn p=n):Kn (version p l t) (fun x=>nn x.2.2.2) n:=by
 unfold version
 refine Kn.bind _ (bT h) fun q hq=>Kn.bind _ (dH hq) fun m hm=>Kn.bind _ (bT hm) fun q hq=>Kn.bind _ (FW 8 hq) fun x hx=>Kn.bind _ (Ar hx) fun v hv=>Kn.ok hv
theorem FV:∀(k:Nat) {p:PS} {vs:List uz} {l:List By} {t:List Int},nn p=n→Kn (rV k p vs l t) (fun x=>nn x.2) n
 |0,_,_,_,_,_=>Kn.no
 |k+1,p,vs,l,t,h=>by
  rw[rV]
  refine Kn.bind _ (PD h) fun v hv=>Kn.bind _ (eG hv) fun x hx=>Kn.ite (Kn.ok hx) (FV k hx)
def sum(p:PS):Nat:=p.n0+p.n1+p.n2
theorem xH{p q:PS}(h:nn p=nn q):sum p=sum q:=by
 simp only[nn,Prod.mk.injEq]at h
 unfold sum;omega
theorem Kt{x:Def×PS}(h:constant p=.ok x):sum p+1≤sum x.2:=by
 obtain⟨_,_,h⟩:=Res.then_ok h
 obtain⟨q1,h1,h⟩:=Res.then_ok h
 obtain⟨q2,h2,h⟩:=Res.then_ok h
 obtain⟨q3,h3,h⟩:=Res.then_ok h
 obtain⟨q4,h4,h⟩:=Res.then_ok h
 obtain⟨q5,h5,h⟩:=Res.then_ok h
 cases h
 have:=xH ((iq h5).trans ((Ad h4).trans ((iq h3).trans ((CQ h2).trans (iq h1)))))
 show sum p+1≤q5.n0+(q5.n1+1)+q5.n2
 unfold sum at *;omega
theorem MG{x:Def×PS}(h:program p=.ok x):sum p+1≤sum x.2:=by
 obtain⟨_,_,h⟩:=Res.then_ok h
 obtain⟨q1,h1,h⟩:=Res.then_ok h
 obtain⟨q2,h2,h⟩:=Res.then_ok h
 obtain⟨q3,h3,h⟩:=Res.then_ok h
 obtain⟨q4,h4,h⟩:=Res.then_ok h
 obtain⟨q5,h5,h⟩:=Res.then_ok h
 cases h
 have:=xH ((Ar rfl _ h5).trans ((FV 4 rfl _ h4).trans ((iq h3).trans ((CQ h2).trans (iq h1)))))
 show sum p+1≤q5.2.2.n0+q5.2.2.n1+q5.2.2.n2
 unfold sum at *;simp only at this;omega
theorem Dn:∀(k:Nat) {p:PS} {ns:List By} {is:List Int} {x:List By×List Int×PS},um k p ns is=.ok x→sum p≤sum x.2.2
 |0,_,_,_,_,h=>by cases h
 |k+1,p,ns,is,x,h=>by
  rw[um]at h
  obtain⟨_,_,h⟩:=Res.then_ok h
  obtain⟨q1,h1,h⟩:=Res.then_ok h
  obtain⟨q2,h2,h⟩:=Res.then_ok h
  obtain⟨q3,h3,h⟩:=Res.then_ok h
  obtain⟨q4,h4,h⟩:=Res.then_ok h
  have a1:=xH ((Ad h3).trans ((iq h2).trans (CQ h1)))
  have a2:=xH (eG rfl _ h4)
  have a3:sum p+1≤sum q4.2:=by
   rw[a2]
   show sum p+1≤q3.2.2.n0+(q3.2.2.n1+1)+q3.2.2.n2
   unfold sum at *;omega
  split at h
  ·have:=Dn k h;omega
  ·cases h;show sum p≤sum q4.2;omega
theorem TM{x:Def×PS}(h:enum p=.ok x):sum p≤sum x.2:=by
 obtain⟨q1,h1,h⟩:=Res.then_ok h
 obtain⟨q2,h2,h⟩:=Res.then_ok h
 obtain⟨q3,h3,h⟩:=Res.then_ok h
 obtain⟨q4,h4,h⟩:=Res.then_ok h
 obtain⟨q5,h5,h⟩:=Res.then_ok h
 cases h
 have a1:=xH ((iq h3).trans ((CQ h2).trans (iq h1)))
 have a2:=Dn 12 h4
 have a3:=xH (iq h5)
 show sum p≤sum q5
 omega
theorem Hq{x:Def×PS}(h:definition p=.ok x):sum p+1≤sum x.2:=by
 have up:∀{f:PS→Res (Def×PS)},(∀{q:PS} {x:Def×PS},f q=.ok x→sum q≤sum x.2)→((count p p.n0 24).andThen fun _=>f { p with n0:=p.n0+1 })=.ok x→sum p+1≤sum x.2:=by
  intro f hf h
  obtain⟨_,_,h⟩:=Res.then_ok h
  have:=hf h
  show p.n0+p.n1+p.n2+1≤_
  have e:sum { p with n0:=p.n0+1 }=p.n0+1+p.n1+p.n2:=rfl
  omega
 unfold definition at h
 split at h
 ·exact Kt h
 split at h
 ·exact MG h
 simp only at h
 split at h
 ·exact up (fun h=>Nat.le_of_eq (xH (Ug rfl _ h)).symm) h
 split at h
 ·exact up TM h
 split at h
 ·exact up (fun h=>Nat.le_of_eq (xH (RP rfl _ h)).symm) h
 split at h
 ·exact up (fun h=>Nat.le_of_eq (xH (Ue rfl _ h)).symm) h
 cases h
end Go.M
namespace Go.M
structure Ins where
 op:Nat
 n:Int
 to:Int
 fixed:Bool
 of_:Nat
 table:Option Nat
 set:Option Nat deriving DecidableEq
abbrev Tab:=List (Int×Nat)
structure CS where
 L:List Ins
 tabs:List Tab
 calls:List (Nat×By×Nat)
 start:List (By×Nat)
 defs:List (By×Def)
 procs:List ((Int×Int×Int)×(Nat×Nat×Bool×Bool))
 bM:List (Int×List Int)
 types:List (By×Nat):=[] deriving DecidableEq
def CS.empty:CS:=⟨[],[],[],[],[],[],[],[]⟩
def ins(op:Nat):Ins:=⟨op,0,0,false,0,none,none⟩
def dP(s:By):Nat:=if s==[105,110,116]then 0 else if s==[117,110,115,105,103,110,101,100]then 1 else if s==[98,111,111,108]then 3 else 2
def CS.put(c:CS)(i:Ins):CS:={ c with L:=c.L++[i] }
def CS.iU(c:CS)(at_:Nat):CS:={ c with L:=c.L.modify at_ fun i=>{ i with to:=c.L.length } }
def CS.ref(c:CS)(s:By)(a:Nat):CS:={ c with L:=c.L++[ins 6],calls:=c.calls++[(c.L.length,s,a)] }
def CS.iy(c:CS)(l:Tab):CS:={ c with tabs:=c.tabs++[l] }
def CS.Cc(c:CS)(i:Nat)(n:Int):CS:={ c with tabs:=c.tabs.modify i fun l=>aY l n c.L.length }
def lower:Ty→CS→CS
 |.basic s,c=>c.put (ins (dP s))
 |.named s a,c=>c.ref s a
 |.bytes _ f n,c=>c.put { ins 5 with n:=n,fixed:=f }
 |.array t f n,c=>((lower t (c.put { ins (if f then 8 else 9)with n:=n })).put (ins 10)).iU c.L.length
 |.opt t,c=>(lower t (c.put (ins 12))).iU c.L.length
 |.void,c=>c.put (ins 15)
def gW:Nat→Tab→List Int→Tab
 |_,m,[]=>m
 |k,m,n::r=>gW (k+1) (aY m n k) r
def members(nums:List Int):Tab:=gW 0 [] nums
def Gv(x:CS×List Nat)(d:Decl):CS×List Nat:=
 let c:=lower d.ty x.1
 (c.put (ins 14),x.2++[c.L.length])
def jh(ti:Nat)(c:CS):List Int→CS
 |[]=>c
 |n::r=>jh ti (c.Cc ti n) r
def ji(ti:Nat)(x:CS×List Nat):List Arm→CS×List Nat
 |[]=>x
 |a::r=>ji ti (Gv (jh ti x.1 a.nums,x.2) a.decl) r
def Az(c:CS):List Nat→CS
 |[]=>c
 |e::r=>Az (c.iU e) r
def aZ(of:Ty)(c:CS):Ins×CS:=
 let i:Ins:={ ins 13 with of_:=4,to := -1,table:=some c.tabs.length }
 let c:=c.iy []
 match of with
 |.basic s=>({ i with of_:=dP s },c)
 |.named s _=>(match c.defs.lookup s with
  |some ⟨_,_,.enum _ nums⟩=>({ i with set:=some c.tabs.length },c.iy (members nums))
  |_=>(i,c))
 |_=>(i,c)
def vC(of:Ty)(arms:List Arm)(els:Option Decl)(c:CS):CS:=
 let ti:=c.tabs.length
 let h:=aZ of c
 let at_:=h.2.L.length
 let x:=ji ti (h.2.put h.1,[]) arms
 let x:=match els with
  |none=>x
  |some d=>Gv (x.1.iU at_,x.2) d
 Az x.1 x.2
def Sz(at_:Nat)(x:CS×List Nat):Option Decl→CS×List Nat
 |none=>x
 |some d=>Gv (x.1.iU at_,x.2) d
def mi(c:CS):List Decl→CS
 |[]=>c
 |d::r=>mi (lower d.ty c) r
def eH(d:Def)(c:CS):CS:=
 let c1:CS:={ c with start:=aY c.start d.name c.L.length }
 match d.k with
 |.alias t=>(lower t c1).put (ins 7)
 |.enum _ nums=>((c1.iy (members nums)).put { ins 4 with table:=some c1.tabs.length }).put (ins 7)
 |.struct ds=>(mi (c1.put { ins 11 with n:=ds.length }) ds).put (ins 7)
 |.union of _ arms els=>(vC of arms els c1).put (ins 7)
 |_=>c
def iD(t:Ty)(c:CS):CS:=(lower t c).put (ins 16)
def dB(g v:Int)(c:CS):List rP→CS
 |[]=>c
 |q::r=>
  let c1:=iD q.res c
  let c2:=iD q.arg c1
  dB g v { c2 with procs:=aY c2.procs (g,v,q.n) (c1.L.length,c.L.length,q.arg==.void,q.res==.void) } r
def fP(g:Int)(c:CS):List uz→CS
 |[]=>c
 |v::r=>fP g (dB g v.n { c with bM:=aY c.bM g ((c.bM.lookup g).getD []++[v.n]) } v.procs) r
def oQ(c:CS)(d:Def):CS:=
 let c:CS:={ c with defs:=aY c.defs d.name d }
 match d.k with
 |.prog n vs=>fP n c vs
 |_=>eH d c
def bg(c:CS):List Def→CS
 |[]=>c
 |d::r=>bg (oQ c d) r
def lT(c:CS):Ty→Bool
 |.basic _=>true
 |.named s _=>(match c.defs.lookup s with
  |some ⟨_,_,.enum _ is⟩=>decide (is.length<1000000)
  |_=>false)
 |_=>false
def inRange(n:Int):Bool:=decide (0≤n∧n≤4294967295)
def jE(d:Def):Bool:=match d.k with
 |.enum _ is=>decide (is.length<1000000)
 |.struct ds=>decide (ds.length<1000000)
 |.union _ _ arms _=>decide (arms.length<1000000)&&arms.all fun a=>decide (a.nums.length<1000000)
 |.prog n vs=>decide (vs.length<1000000)&&inRange n&&vs.all fun v=>decide (v.procs.length<1000000)&&inRange v.n&&v.procs.all fun q=>inRange q.n
 |_=>true
def qA(c:CS):List Def→Bool
 |[]=>true
 |d::r=>(match d.k with
  |.union of _ _ _=>lT { c with defs:=aY c.defs d.name d } of
  |.prog _ _=>c.bM.all fun x=>decide (x.2.length<1000000)
  |_=>true)&&jE d&&(c.start.lookup d.name).isNone&&qA (oQ c d) r
def dY(start:List (By×Nat)):List Ins→List (Nat×By×Nat)→Res (List Ins)
 |L,[]=>.ok L
 |L,(a,s,f)::r=>match start.lookup s with
  |none=>.no 7 f
  |some t=>dY start (L.modify a fun i=>{ i with to:=t }) r
structure Seen where
 seen:List By
 found:Bool deriving DecidableEq
mutual
def through(defs:List (By×Def))(goal:By):Nat→Ty→Seen→Option Seen
 |0,_,_=>none
 |k+1,.named s _,x=>
  let x:=if s==goal then { x with found:=true }else x
  if x.seen.contains s then some x else visit defs goal k (defs.lookup s) { x with seen:=x.seen++[s] }
 |k+1,.array t f _,x=>if f then through defs goal k t x else some x
 |_+1,_,x=>some x
def visit(defs:List (By×Def))(goal:By):Nat→Option Def→Seen→Option Seen
 |0,_,_=>none
 |k+1,some d,x=>(match d.k with
  |.alias t=>through defs goal k t x
  |.struct ds=>gy defs goal k (ds.map (·.ty)) x
  |.union _ _ arms els=>gy defs goal k (arms.map (·.decl.ty)++(els.map (·.ty)).toList) x
  |_=>some x)
 |_+1,none,x=>some x
def gy(defs:List (By×Def))(goal:By):Nat→List Ty→Seen→Option Seen
 |0,_,_=>none
 |_+1,[],x=>some x
 |k+1,t::r,x=>(match through defs goal k t x with
  |none=>none
  |some y=>gy defs goal k r y)
end
def endless(defs:List (By×Def))(d:Def):Option Bool:=(visit defs d.name 1000 (some d) ⟨[],false⟩).map (·.found)
def dZ(c:CS):List Def→Res Unit
 |[]=>.ok ()
 |d::r=>if(c.start.lookup d.name).isSome&&(endless c.defs d).getD true then .no 9 d.at_ else dZ c r
def UN(c:CS)(ds:List Def):Bool:=ds.all fun d=>(endless c.defs d).isSome
def compile(ds:List Def):Res CS:=
 let c:=bg CS.empty ds
 (dY c.start c.L c.calls).andThen fun L=>(dZ c ds).andThen fun _=>.ok { c with L:=L }
def tsz:Ty→Nat
 |.array t _ _=>tsz t+2
 |.opt t=>tsz t+1
 |_=>1
theorem kD(c:CS)(a:Nat):(c.iU a).L.length=c.L.length:=by simp[CS.iU]
theorem aX(c:CS)(i:Ins):(c.put i).L.length=c.L.length+1:=by simp[CS.put]
theorem bF:∀(t:Ty) (c:CS),(lower t c).L.length=c.L.length+tsz t
 |.basic s,c=>aX c _
 |.named s a,c=>by simp[lower,CS.ref,tsz]
 |.bytes _ f n,c=>aX c _
 |.array t f n,c=>by rw[lower,kD,aX,bF t,aX,tsz];omega
 |.opt t,c=>by rw[lower,kD,bF t,aX,tsz];omega
 |.void,c=>aX c _
def aH:List Arm→Nat
 |[]=>0
 |a::r=>tsz a.decl.ty+1+aH r
def je:Option Decl→Nat
 |none=>0
 |some d=>tsz d.ty+1
theorem Eh(x:CS×List Nat)(d:Decl):(Gv x d).1.L.length=x.1.L.length+tsz d.ty+1:=by rw[Gv,aX,bF]
theorem uq(ti:Nat):∀(l:List Int) (c:CS),(jh ti c l).L.length=c.L.length
 |[],c=>rfl
 |n::r,c=>by rw[jh,uq ti r];rfl
theorem xn(ti:Nat):∀(l:List Arm) (x:CS×List Nat),(ji ti x l).1.L.length=x.1.L.length+aH l
 |[],x=>rfl
 |a::r,x=>by rw[ji,xn ti r,Eh,uq,aH];omega
theorem Fb:∀(l:List Nat) (c:CS),(Az c l).L.length=c.L.length
 |[],c=>rfl
 |n::r,c=>by rw[Az,Fb r,kD]
theorem vz(of:Ty)(c:CS):(aZ of c).2.L=c.L:=by
 unfold aZ
 cases of with
 |named s a=>simp only;split<;>rfl
 |_=>rfl
theorem Hf(of:Ty)(ar:List Arm)(els:Option Decl)(c:CS):(vC of ar els c).L.length=c.L.length+1+aH ar+je els:=by
 unfold vC
 simp only
 rw[Fb]
 cases els with
 |none=>simp only;rw[xn,aX,vz];simp only[je];omega
 |some d=>simp only;rw[Eh,kD,xn,aX,vz];simp only[je];omega
theorem F6(ti:Nat):∀(l:List Int) (n:Int) (c:CS),jh ti c (l++[n])=(jh ti c l).Cc ti n
 |[],_,_=>rfl
 |a::r,n,c=>by rw[List.cons_append,jh,F6 ti r,jh]
theorem Rz{c:CS}{ti:Nat}{n:Int}{l:Tab}(h:c.tabs[ti]?=some l):c.Cc ti n={ c with tabs:=c.tabs.modify ti fun _=>aY l n c.L.length }:=by
 unfold CS.Cc
 congr 1
 apply List.ext_getElem?
 intro i
 rw[List.getElem?_modify,List.getElem?_modify]
 by_cases e:ti=i
 ·subst e;simp[h]
 ·simp[e]
theorem F8:∀(ar:List Arm) (k:Nat),aH (ar.take k)+aH (ar.drop k)=aH ar
 |[],k=>by simp[aH]
 |a::r,0=>by simp[aH]
 |a::r,k+1=>by simp only[List.take_succ_cons,List.drop_succ_cons,aH];have:=F8 r k;omega
theorem IA:∀(l:List Nat) (e:Nat) (c:CS),Az c (l++[e])=(Az c l).iU e
 |[],_,_=>rfl
 |a::r,e,c=>by rw[List.cons_append,Az,IA r];rfl
theorem Ql:∀t:Ty,0<tsz t
 |.basic _=>Nat.one_pos
 |.named _ _=>Nat.one_pos
 |.bytes _ _ _=>Nat.one_pos
 |.array _ _ _=>by simp[tsz]
 |.opt _=>by simp[tsz]
 |.void=>Nat.one_pos
theorem Jm(of:Ty)(ar:List Arm)(els:Option Decl)(c:CS):vC of ar els c =
  Az (Sz (aZ of c).2.L.length (ji c.tabs.length ((aZ of c).2.put (aZ of c).1,[]) ar) els).1 (Sz (aZ of c).2.L.length (ji c.tabs.length ((aZ of c).2.put (aZ of c).1,[]) ar) els).2:=by
 cases els<;>rfl
def dD:List Decl→Nat
 |[]=>0
 |d::r=>tsz d.ty+dD r
theorem xM:∀(l:List Decl) (c:CS),(mi c l).L.length=c.L.length+dD l
 |[],c=>rfl
 |d::r,c=>by rw[mi,xM r,bF,dD];omega
theorem FP:∀(l:List Decl) (d:Decl) (c:CS),mi c (l++[d])=lower d.ty (mi c l)
 |[],_,_=>rfl
 |a::r,d,c=>by rw[List.cons_append,mi,FP r];rfl
theorem DD:∀(l:List Decl) (k:Nat),dD (l.take k)+dD (l.drop k)=dD l
 |[],k=>by simp[dD]
 |a::r,0=>by simp[dD]
 |a::r,k+1=>by simp only[List.take_succ_cons,List.drop_succ_cons,dD];have:=DD r k;omega
def bodyC(d:Def)(c:CS):CS:=
 let c1:CS:={ c with start:=aY c.start d.name c.L.length }
 match d.k with
 |.alias t=>lower t c1
 |.enum _ nums=>(c1.iy (members nums)).put { ins 4 with table:=some c1.tabs.length }
 |.struct ds=>mi (c1.put { ins 11 with n:=ds.length }) ds
 |.union of _ arms els=>vC of arms els c1
 |_=>c
theorem Ua{α β:Type}[BEq α]{m:List (α×β)}{a:α}{v:β}(h:m.lookup a=none):aY m a v=m++[(a,v)]:=by
 induction m with
 |nil=>rfl
 |cons x r ih=>
  rw[List.lookup_cons]at h
  cases hb:a==x.1 with
  |true=>rw[hb]at h;cases h
  |false=>rw[hb]at h;simp[aY,hb,ih h]
def zo(t:Ty):Nat:=tsz t+1
def fV:List rP→Nat
 |[]=>0
 |q::r=>zo q.res+zo q.arg+fV r
def lQ:List uz→Nat
 |[]=>0
 |v::r=>fV v.procs+lQ r
theorem EF(t:Ty)(c:CS):(iD t c).L.length=c.L.length+zo t:=by rw[iD,aX,bF,zo];omega
theorem Ci(g v:Int):∀(l:List rP) (c:CS),(dB g v c l).L.length=c.L.length+fV l
 |[],c=>rfl
 |q::r,c=>by rw[dB,Ci g v r];show (iD q.arg (iD q.res c)).L.length+_=_;rw[EF,EF,fV];omega
theorem AY(g:Int):∀(l:List uz) (c:CS),(fP g c l).L.length=c.L.length+lQ l
 |[],c=>rfl
 |v::r,c=>by rw[fP,AY g r,Ci,lQ];simp only;omega
def Js(g v:Int)(c:CS)(q:rP):CS:=
 let c1:=iD q.res c
 let c2:=iD q.arg c1
 {c2 with procs:=aY c2.procs (g,v,q.n) (c1.L.length,c.L.length,q.arg==.void,q.res==.void) }
def L8(g:Int)(c:CS)(v:uz):CS:=dB g v.n { c with bM:=aY c.bM g ((c.bM.lookup g).getD []++[v.n]) } v.procs
theorem FO(g v:Int):∀(l:List rP) (q:rP) (c:CS),dB g v c (l++[q])=Js g v (dB g v c l) q
 |[],_,_=>rfl
 |a::r,q,c=>by rw[List.cons_append,dB,FO g v r];rfl
theorem Ha(g:Int):∀(l:List uz) (v:uz) (c:CS),fP g c (l++[v])=L8 g (fP g c l) v
 |[],_,_=>rfl
 |a::r,v,c=>by rw[List.cons_append,fP,Ha g r];rfl
theorem DC:∀(l:List rP) (k:Nat),fV (l.take k)+fV (l.drop k)=fV l
 |[],k=>by simp[fV]
 |a::r,0=>by simp[fV]
 |a::r,k+1=>by simp only[List.take_succ_cons,List.drop_succ_cons,fV];have:=DC r k;omega
theorem Fv:∀(l:List uz) (k:Nat),lQ (l.take k)+lQ (l.drop k)=lQ l
 |[],k=>by simp[lQ]
 |a::r,0=>by simp[lQ]
 |a::r,k+1=>by simp only[List.take_succ_cons,List.drop_succ_cons,lQ];have:=Fv r k;omega
theorem xZ:∀(t:Ty) (c:CS),(lower t c).bM=c.bM
 |.basic s,c=>rfl
 |.named s a,c=>rfl
 |.bytes _ f n,c=>rfl
 |.array t f n,c=>by rw[lower];exact xZ t _
 |.opt t,c=>by rw[lower];exact xZ t _
 |.void,c=>rfl
theorem FN(g v:Int):∀(l:List rP) (c:CS),(dB g v c l).bM=c.bM
 |[],c=>rfl
 |q::r,c=>by
  rw[dB,FN g v r]
  show (lower q.arg (lower q.res c|>.put (ins 16))).bM=c.bM
  rw[xZ];exact xZ _ _
theorem Ii{α β:Type}[BEq α]{m:List (α×β)}{a:α}{v:β}{x:α×β}(h:x∈aY m a v):x∈m∨x=(a,v):=by
 induction m with
 |nil=>simp[aY]at h;exact Or.inr h
 |cons y r ih=>
  unfold aY at h
  split at h
  ·rcases List.mem_cons.mp h with h|h
   ·exact Or.inr h
   ·exact Or.inl (List.mem_cons_of_mem _ h)
  ·rcases List.mem_cons.mp h with h|h
   ·exact Or.inl (by rw[h];exact List.mem_cons_self ..)
   ·rcases ih h with h|h
    ·exact Or.inl (List.mem_cons_of_mem _ h)
    ·exact Or.inr h
theorem KT(d:Def)(c:CS):c.L.length≤(eH d c).L.length:=by
 obtain⟨nm,at_,dk⟩:=d
 cases dk with
 |alias t=>show c.L.length≤((lower t _).put (ins 7)).L.length;rw[aX,bF];simp only;omega
 |enum ns is=>simp[eH,CS.put,CS.iy]
 |struct ds=>show c.L.length≤((mi _ ds).put (ins 7)).L.length;rw[aX,xM,aX];simp only;omega
 |union o n ar els=>show c.L.length≤((vC o ar els _).put (ins 7)).L.length;rw[aX,Hf];simp only;omega
 |const n=>exact Nat.le_refl _
 |prog n vs=>exact Nat.le_refl _
theorem JA(d:Def)(c:CS):c.L.length≤(oQ c d).L.length:=by
 unfold oQ
 cases h:d.k with
 |prog n vs=>simp only;rw[AY];simp only;omega
 |_=>simp only;exact KT d { c with defs:=aY c.defs d.name d }
theorem IE:∀(l:List Def) (c:CS),c.L.length≤(bg c l).L.length
 |[],_=>Nat.le_refl _
 |d::r,c=>Nat.le_trans (JA d c) (IE r _)
theorem IC:∀(l:List Def) (d:Def) (c:CS),bg c (l++[d])=oQ (bg c l) d
 |[],_,_=>rfl
 |a::r,d,c=>by rw[List.cons_append,bg,IC r];rfl
theorem Jz:∀(l r:List Def) (c:CS),bg c (l++r)=bg (bg c l) r
 |[],_,_=>rfl
 |a::l,r,c=>by rw[List.cons_append,bg,Jz l r];rfl
def bC(c:CS):List By→CS
 |[]=>c
 |s::r=>bC { c with types:=aY c.types s c.L.length,L:=c.L++[{ ins 6 with to:=((c.start.lookup s).getD 0:Nat) },ins 16] } r
theorem FC:∀(l:List By) (s:By) (c:CS),bC c (l++[s])=bC (bC c l) [s]
 |[],_,_=>rfl
 |a::r,s,c=>by rw[List.cons_append,bC,FC r];rfl
theorem Cb:∀(l:List By) (c:CS),(bC c l).L.length=c.L.length+2*l.length
 |[],c=>rfl
 |s::r,c=>by rw[bC,Cb r];simp only[List.length_append,List.length_cons,List.length_nil];omega
theorem Dj:∀(l:List By) (c:CS),(bC c l).start=c.start
 |[],c=>rfl
 |s::r,c=>by rw[bC,Dj r]
def fine(ds:List Def):Bool:=
 let c:=bg CS.empty ds
 qA CS.empty ds&&decide (c.L.length+2*c.start.length<1000000)&&(c.calls.all fun x=>decide (x.1<c.L.length))&&(c.defs.all fun x=>jE x.2)&&UN c ds&&decide (ds.length<1000000)
end Go.M
namespace Go.M
structure Nd where
 kind:Int
 n:Int
 s:By
 at_:Int
 len:Int deriving DecidableEq
structure Lim where
 depth:Int
 fuel:Int
 size:Int deriving DecidableEq
structure DS where
 b:By
 pos:Nat
 l:List Nd deriving DecidableEq
def w32:By→Nat
 |a::b::c::d::_=>a.toNat*16777216+b.toNat*65536+c.toNat*256+d.toNat
 |_=>0
def DS.word(d:DS):Res (Nat×DS):=if d.b.length<d.pos+4 then .no 16 d.pos else .ok (w32 (d.b.drop d.pos),{ d with pos:=d.pos+4 })
def dC(n:Nat):Nat:=(4 - n % 4) % 4
def uJ(b:By):Nat→Nat→Res Nat
 |0,p=>.ok p
 |k+1,p=>if b[p]?.getD 0 != 0 then .no 17 p else uJ b k (p+1)
def DS.text(d:DS)(n:Nat):Res (By×DS):=
 if d.b.length<d.pos+n+dC n then .no 16 d.pos
 else(uJ d.b (dC n) (d.pos+n)).andThen fun p=>.ok ((d.b.drop d.pos).take n,{ d with pos:=p })
def BJ(w:Int):Int:=if w % 4294967296<2147483648 then w % 4294967296 else w % 4294967296 - 4294967296
def numOf(op:Nat)(w:Nat):Int:=if op==0||op==4 then BJ w else w
def fits(op:Nat)(set:Option Tab)(n:Int):Bool:=
 if op==0 then n==BJ n
 else if op==1 then n==n % 4294967296
 else if op==3 then n==0||n==1
 else if op==4 then((set.getD []).lookup n).isSome
 else true
def jw(tabs:List Tab)(o:Option Nat):Option Tab:=o.map fun i=>(tabs[i]?).getD []
def target(tabs:List Tab)(i:Ins)(n:Int):Int:=
 if !fits i.of_ (jw tabs i.set) n then -1
 else match ((jw tabs i.table).getD []).lookup n with
  |some t=>t
  |none=>i.to
def DS.fuel(d:DS)(lim:Lim):Res Unit:=if lim.fuel≤d.l.length then .no 15 d.pos else .ok ()
def DS.add(d:DS)(n:Nd):DS:={ d with l:=d.l++[n] }
def DS.count(d:DS)(most:Int):Res (Nat×DS):=d.word.andThen fun x=>if most<x.1 then .no 19 d.pos else .ok x
def DS.leaf(tabs:List Tab)(lim:Lim)(i:Ins)(d:DS):Res DS:=
 (d.fuel lim).andThen fun _=>
 if i.op==5 then
  (if i.fixed then .ok (i.n,d)else(d.count i.n).andThen fun x=>.ok ((x.1:Int),x.2)).andThen fun x=>
  if 2147483647<x.1 then .no 16 x.2.pos else
  (x.2.text x.1.toNat).andThen fun y=>.ok (y.2.add ⟨2,0,y.1,x.2.pos,0⟩)
 else if i.op==2 then
  if d.b.length<d.pos+8 then .no 16 d.pos else
  d.word.andThen fun x=>x.2.word.andThen fun y=>
  let n:Int:=x.1*4294967296+y.1
  .ok (y.2.add ⟨1,if n<9223372036854775808 then n else n - 18446744073709551616,[],0,0⟩)
 else
  d.word.andThen fun x=>
  let n:=numOf i.op x.1
  if fits i.op (jw tabs i.table) n then .ok (x.2.add ⟨1,n,[],0,0⟩)else .no 18 d.pos
def DS.list(lim:Lim)(i:Ins)(d:DS):Res (Int×DS):=
 (d.fuel lim).andThen fun _=>
 (if i.op==9 then(d.count i.n).andThen fun x=>.ok ((x.1:Int),x.2)else .ok (i.n,d)).andThen fun x=>
 .ok (x.1,x.2.add ⟨3,0,[],0,x.1⟩)
def DS.option(lim:Lim)(d:DS):Res (Bool×DS):=
 (d.fuel lim).andThen fun _=>d.word.andThen fun x=>
 if 1<x.1 then .no 18 d.pos else .ok (x.1==1,x.2.add ⟨4,x.1,[],0,x.1⟩)
def DS.union(L:List Ins)(tabs:List Tab)(lim:Lim)(i:Ins)(d:DS):Res (Int×DS):=
 (d.fuel lim).andThen fun _=>d.word.andThen fun x=>
 let n:=numOf i.of_ x.1
 let t:=target tabs i n
 if t<0 then .no 18 d.pos else
 .ok (t,x.2.add ⟨4,n,[],0,if(L[t.toNat]?).map (·.op)==some 15 then 0 else 1⟩)
end Go.M
namespace Go.M
structure Wy (σ:Type) where
 leaf:Ins→σ→Res σ
 list:Ins→σ→Res (Int×σ)
 option:σ→Res (Bool×σ)
 union:Ins→σ→Res (Int×σ)
 place:σ→Nat
structure MS (σ:Type) where
 pc:Nat
 back:List Nat
 loops:List (Int×Nat)
 d:σ
def bK{σ:Type}(lim:Lim)(io:Wy σ)(i:Ins)(s:MS σ):Option (Res (Bool×MS σ)):=
  if i.op==16 then some (.ok (false,s))
  else if i.op==15 then some (.ok (true,{ s with pc:=s.pc+1 }))
  else if i.op==14 then some (.ok (true,{ s with pc:=i.to.toNat }))
  else if i.op==6 then some (if lim.depth≤s.back.length then .no 13 (io.place s.d)else .ok (true,{ s with pc:=i.to.toNat,back:=(s.pc+1)::s.back }))
  else if i.op==7 then(match s.back with
   |[]=>none
   |p::r=>some (.ok (true,{ s with pc:=p,back:=r })))
  else if i.op==8||i.op==9 then if 1000000≤s.loops.length then none else some ((io.list i s.d).andThen fun x=>
   if x.1==0 then .ok (true,{ s with pc:=i.to.toNat,d:=x.2 })else .ok (true,{ s with pc:=s.pc+1,loops:=(x.1 - 1,s.pc+1)::s.loops,d:=x.2 }))
  else if i.op==10 then(match s.loops with
   |[]=>none
   |(n,p)::r=>some (.ok (true,if 0<n then { s with pc:=p,loops:=(n - 1,p)::r }else { s with pc:=s.pc+1,loops:=r })))
  else if i.op==11 then some ((io.list i s.d).andThen fun x=>.ok (true,{ s with pc:=s.pc+1,d:=x.2 }))
  else if i.op==12 then some ((io.option s.d).andThen fun x=>.ok (true,{ s with pc:=if x.1 then s.pc+1 else i.to.toNat,d:=x.2 }))
  else if i.op==13 then some ((io.union i s.d).andThen fun x=>.ok (true,{ s with pc:=x.1.toNat,d:=x.2 }))
  else some ((io.leaf i s.d).andThen fun d=>.ok (true,{ s with pc:=s.pc+1,d:=d }))
def tX{σ:Type}(L:List Ins)(lim:Lim)(io:Wy σ)(s:MS σ):Option (Res (Bool×MS σ)):=
 match L[s.pc]? with
 |none=>none
 |some i=>bK lim io i s
def rH{σ:Type}(L:List Ins)(lim:Lim)(io:Wy σ):Nat→MS σ→Option (Res (MS σ))
 |0,_=>none
 |k+1,s=>match tX L lim io s with
  |none=>none
  |some (.no e a)=>some (.no e a)
  |some (.ok (false,s'))=>some (.ok s')
  |some (.ok (true,s'))=>rH L lim io k s'
def Bc(L:List Ins)(tabs:List Tab)(lim:Lim):Wy DS:=⟨fun i d=>d.leaf tabs lim i,fun i d=>d.list lim i,fun d=>d.option lim,fun i d=>d.union L tabs lim i,fun d=>d.pos⟩
def wY(len:Nat)(tabs:List Tab)(i:Ins):Bool:=decide (0≤i.n∧i.n≤4294967295∧i.to<len∧(i.op=13∨0≤i.to))&&((jw tabs i.table).getD []).all fun x=>decide (i.op=13→x.2<len)
end Go.M
namespace Go.M
structure ES where
 l:List Nd
 k:Nat
 out:By deriving DecidableEq
def u32(n:Int):Nat:=(n % 4294967296).toNat
def KC(lim:Lim)(k:Nat):By→List By→Res By
 |out,[]=>.ok out
 |out,s::r=>if lim.size<out.length+s.length then .no 14 k else KC lim k (out++s) r
def ES.put(lim:Lim)(parts:List By)(e:ES):Res ES:=(KC lim e.k e.out parts).andThen fun o=>.ok { e with out:=o,k:=e.k+1 }
end Go.M
namespace Go.M
structure Wz (σ:Type) where
 leaf:Nat→Bool→Int→List Int→σ→Res σ
 list:Bool→Int→σ→Res (Int×σ)
 option:σ→Res (Bool×σ)
 union:Nat→List Int→(Int→Option Bool)→σ→Res (Int×σ)
 place:σ→Nat
def iter{σ:Type}(f:σ→Res σ):Nat→σ→Res σ
 |0,s=>.ok s
 |n+1,s=>(f s).andThen (iter f n)
def sG{σ:Type}(z:Wz σ)(nm:By→σ→Res σ):Ty→σ→Res σ
 |.basic s,d=>z.leaf (dP s) false 0 [] d
 |.named s _,d=>nm s d
 |.bytes _ f n,d=>z.leaf 5 f n [] d
 |.array t f n,d=>(z.list (!f) n d).andThen fun x=>iter (sG z nm t) x.1.toNat x.2
 |.opt t,d=>(z.option d).andThen fun x=>if x.1 then sG z nm t x.2 else .ok x.2
 |.void,d=>.ok d
def O4{σ:Type}(z:Wz σ)(nm:By→σ→Res σ):List Decl→σ→Res σ
 |[],d=>.ok d
 |t::r,d=>(sG z nm t.ty d).andThen (O4 z nm r)
def BX:List Arm→Int→Option Ty
 |[],_=>none
 |a::r,n=>match BX r n with
  |some t=>some t
  |none=>if a.nums.contains n then some a.decl.ty else none
def AP(arms:List Arm)(els:Option Decl)(n:Int):Option Ty:=match BX arms n with
 |some t=>some t
 |none=>els.map (·.ty)
def Jb:Ty→Nat
 |.basic s=>dP s
 |_=>4
def DI(defs:List (By×Def)):Ty→List Int
 |.named s _=>(match defs.lookup s with
  |some ⟨_,_,.enum _ nums⟩=>nums
  |_=>[])
 |_=>[]
def y9(arms:List Arm)(els:Option Decl)(n:Int):Option Bool:=(AP arms els n).map (·==.void)
def I9{σ:Type}(z:Wz σ)(nm:By→σ→Res σ)(defs:List (By×Def)):Dk→σ→Res σ
 |.alias t,d=>sG z nm t d
 |.enum _ nums,d=>z.leaf 4 false 0 nums d
 |.struct ds,d=>(z.list false ds.length d).andThen fun x=>O4 z nm ds x.2
 |.union of _ arms els,d=>(z.union (Jb of) (DI defs of) (y9 arms els) d).andThen fun x=>match AP arms els x.1 with
  |some t=>sG z nm t x.2
  |none=>.no 99 0
 |_,d=>.no 99 0
def sem{σ:Type}(z:Wz σ)(defs:List (By×Def)):Nat→By→σ→Res σ
 |0,_,d=>.no 13 (z.place d)
 |r+1,s,d=>match defs.lookup s with
  |some x=>I9 z (sem z defs r) defs x.k d
  |none=>.no 99 0
section
variable {σ:Type} {L:List Ins} {lim:Lim} {io:Wy σ}
def Goes(L:List Ins)(lim:Lim)(io:Wy σ)(s s':MS σ):Prop:=∃n,∀j,rH L lim io (n+j) s=rH L lim io j s'
def Comes(L:List Ins)(lim:Lim)(io:Wy σ)(s:MS σ):Res (MS σ)→Prop
 |.ok s'=>Goes L lim io s s'
 |.no e a=>∃n,∀j,rH L lim io (n+j) s=some (.no e a)
theorem Goes.refl(s:MS σ):Goes L lim io s s:=⟨0,fun j=>by rw[Nat.zero_add]⟩
theorem Goes.trans{a b c:MS σ}(h:Goes L lim io a b)(k:Goes L lim io b c):Goes L lim io a c:=by
 obtain⟨n,h⟩:=h
 obtain⟨m,k⟩:=k
 exact⟨n+m,fun j=>by rw[Nat.add_assoc,h,k]⟩
theorem Goes.comes{a b:MS σ}{r:Res (MS σ)}(h:Goes L lim io a b)(k:Comes L lim io b r):Comes L lim io a r:=by
 cases r with
 |ok c=>exact Goes.trans h k
 |no e a=>
  obtain⟨n,h⟩:=h
  obtain⟨m,k⟩:=k
  exact⟨n+m,fun j=>by rw[Nat.add_assoc,h,k]⟩
theorem Goes.step{s s':MS σ}{i:Ins}(hi:L[s.pc]?=some i)(h:bK lim io i s=some (.ok (true,s'))):Goes L lim io s s':=
 ⟨1,fun j=>by rw[Nat.add_comm,rH];simp only[tX,hi,h]⟩
theorem Comes.fail{s:MS σ}{i:Ins}{e a:Nat}(hi:L[s.pc]?=some i)(h:bK lim io i s=some (.no e a)):Comes L lim io s (.no e a):=
 ⟨1,fun j=>by rw[Nat.add_comm,rH];simp only[tX,hi,h]⟩
theorem Comes.step{s:MS σ}{i:Ins}{α:Type}{m:Res α}{f:α→MS σ}(hi:L[s.pc]?=some i)(h:bK lim io i s=some (m.andThen fun x=>.ok (true,f x)))
  {r:α→Res (MS σ)} (k:∀x,m=.ok x→Comes L lim io (f x) (r x)):Comes L lim io s (m.andThen r):=by
 cases m with
 |no e a=>exact Comes.fail hi h
 |ok x=>exact(Goes.step hi h).comes (k x rfl)
theorem Comes.bind{s:MS σ}{α:Type}{m:Res α}{f:α→MS σ}{r:α→Res (MS σ)}(h:Comes L lim io s (m.andThen fun x=>.ok (f x)))(k:∀x,m=.ok x→Comes L lim io (f x) (r x)):Comes L lim io s (m.andThen r):=by
 cases m with
 |no e a=>exact h
 |ok x=>exact Goes.comes h (k x rfl)
theorem Comes.stop{s:MS σ}{i:Ins}{α:Type}{m:Res α}{f:α→MS σ}(hi:i.op=16)(hf:∀x,L[(f x).pc]?=some i)(h:Comes L lim io s (m.andThen fun x=>.ok (f x))):
  ∃n,rH L lim io n s=some (m.andThen fun x=>.ok (f x)):=by
 cases m with
 |no e a=>obtain⟨n,h⟩:=h;exact⟨n+0,h 0⟩
 |ok x=>
  obtain⟨n,h⟩:=h
  refine⟨n+1,?_⟩
  show rH L lim io (n+1) s=_
  rw[h 1,rH]
  simp only[tX,hf x,bK,hi,beq_self_eq_true,if_true,Res.dw]
end
def bG:Ty→Nat→List Ins
 |.basic s,_=>[ins (dP s)]
 |.named _ _,_=>[ins 6]
 |.bytes _ f n,_=>[{ ins 5 with n:=n,fixed:=f }]
 |.array t f n,b=>{ ins (if f then 8 else 9)with n:=n,to:=((b+tsz t+2:Nat):Int) }::(bG t (b+1)++[ins 10])
 |.opt t,b=>{ ins 12 with to:=((b+tsz t+1:Nat):Int) }::bG t (b+1)
 |.void,_=>[ins 15]
def fA:Ty→Nat→List (Nat×By×Nat)
 |.named s a,b=>[(b,s,a)]
 |.array t _ _,b=>fA t (b+1)
 |.opt t,b=>fA t (b+1)
 |_,_=>[]
theorem aS:∀(t:Ty) (b:Nat),(bG t b).length=tsz t
 |.basic _,_=>rfl
 |.named _ _,_=>rfl
 |.bytes _ _ _,_=>rfl
 |.array t _ _,b=>by simp[bG,tsz,aS t]
 |.opt t,b=>by simp[bG,tsz,aS t]
 |.void,_=>rfl
theorem CV{α:Type}(l:List α)(x:α)(r:List α)(f:α→α):(l++x::r).modify l.length f=l++f x::r:=by
 induction l with
 |nil=>rfl
 |cons a l ih=>simp only[List.cons_append,List.length_cons,List.modify_succ_cons,ih]
def CS.grow(c:CS)(l:List Ins)(k:List (Nat×By×Nat)):CS:={ c with L:=c.L++l,calls:=c.calls++k }
theorem grow_grow(c:CS)(l l':List Ins)(k k':List (Nat×By×Nat)):(c.grow l k).grow l' k'=c.grow (l++l') (k++k'):=by simp[CS.grow]
theorem iG(c:CS)(i:Ins):c.put i=c.grow [i] []:=by simp[CS.put,CS.grow]
theorem Ht(c:CS)(x:Ins)(r:List Ins)(k:List (Nat×By×Nat)):(c.grow (x::r) k).iU c.L.length=c.grow ({ x with to:=((c.L.length+r.length+1:Nat):Int) }::r) k:=by
 unfold CS.iU CS.grow
 simp only[CV]
 congr 3
 simp only[List.length_append,List.length_cons]
 congr 2
theorem xf(c:CS)(l:List Ins)(k:List (Nat×By×Nat)):(c.grow l k).L.length=c.L.length+l.length:=by simp[CS.grow]
theorem lower_eq:∀(t:Ty) (c:CS),lower t c=c.grow (bG t c.L.length) (fA t c.L.length)
 |.basic s,c=>by rw[lower,iG];rfl
 |.named s a,c=>by simp[lower,CS.ref,bG,fA,CS.grow]
 |.bytes _ f n,c=>by rw[lower,iG];rfl
 |.array t f n,c=>by
  rw[lower,iG c,lower_eq t,iG,grow_grow,grow_grow,List.nil_append,List.append_nil,List.singleton_append,Ht]
  rw[bG,fA,xf]
  congr 3
  simp[aS]
  omega
 |.opt t,c=>by
  rw[lower,iG c,lower_eq t,grow_grow,List.nil_append,List.singleton_append,Ht]
  rw[bG,fA,xf]
  congr 3
  simp[aS]
 |.void,c=>by rw[lower,iG];rfl
end Go.M
namespace Go.M
def uK(e:Int):Ins:={ ins 14 with to:=e }
def lK:List Arm→Nat→Int→List Ins
 |[],_,_=>[]
 |a::r,b,e=>bG a.decl.ty b++uK e::lK r (b+tsz a.decl.ty+1) e
def jv:List Arm→Nat→List (Nat×By×Nat)
 |[],_=>[]
 |a::r,b=>fA a.decl.ty b++jv r (b+tsz a.decl.ty+1)
def xm:List Arm→Nat→List Nat
 |[],_=>[]
 |a::r,b=>(b+tsz a.decl.ty)::xm r (b+tsz a.decl.ty+1)
def jR(b:Nat)(m:Tab):List Int→Tab
 |[]=>m
 |n::r=>jR b (aY m n b) r
def jr:List Arm→Nat→Tab→Tab
 |[],_,m=>m
 |a::r,b,m=>jr r (b+tsz a.decl.ty+1) (jR b m a.nums)
def CY:Option Decl→Nat→Int→List Ins
 |none,_,_=>[]
 |some d,b,e=>bG d.ty b++[uK e]
def xg:Option Decl→Nat→List (Nat×By×Nat)
 |none,_=>[]
 |some d,b=>fA d.ty b
def Ed:Option Decl→Nat→List Nat
 |none,_=>[]
 |some d,b=>[b+tsz d.ty]
theorem lJ:∀(l:List Arm) (b:Nat) (e:Int),(lK l b e).length=aH l
 |[],_,_=>rfl
 |a::r,b,e=>by simp only[lK,aH,List.length_append,List.length_cons,aS,lJ r];omega
theorem IB:∀(l:Option Decl) (b:Nat) (e:Int),(CY l b e).length=je l
 |none,_,_=>rfl
 |some d,b,e=>by simp[CY,je,aS]
def CS.more(c:CS)(l:List Ins)(k:List (Nat×By×Nat))(t:List Tab):CS:={ c with L:=c.L++l,calls:=c.calls++k,tabs:=c.tabs++t }
theorem rU(c:CS)(l:List Ins)(k:List (Nat×By×Nat)):c.grow l k=c.more l k []:=by simp[CS.grow,CS.more]
theorem RN(c:CS)(l l':List Ins)(k k':List (Nat×By×Nat))(t t':List Tab):(c.more l k t).more l' k' t'=c.more (l++l') (k++k') (t++t'):=by simp[CS.more]
theorem Ub(c:CS)(l:List Ins)(k:List (Nat×By×Nat))(t:List Tab):(c.more l k t).L.length=c.L.length+l.length:=by simp[CS.more]
def CS.turn(c:CS)(ti:Nat)(f:Tab→Tab):CS:={ c with tabs:=c.tabs.modify ti f }
theorem JB(ti:Nat):∀(l:List Int) (c:CS),jh ti c l=c.turn ti fun m=>jR c.L.length m l
 |[],c=>by
  unfold jh CS.turn jR
  rw[show (fun m:Tab=>m)=id from rfl,List.modify_id]
 |n::r,c=>by
  rw[jh,JB ti r]
  simp only[CS.turn,CS.Cc,List.modify_modify_eq]
  rfl
theorem QK(c:CS)(l:List Nat)(d:Decl):Gv (c,l) d=(c.grow (bG d.ty c.L.length++[uK 0]) (fA d.ty c.L.length),l++[c.L.length+tsz d.ty]):=by
 unfold Gv
 simp only[lower_eq,iG,grow_grow,List.append_nil,xf,aS]
 rfl
theorem Ol(ti:Nat):∀(l:List Arm) (c:CS) (es:List Nat),ji ti (c,es) l=((c.grow (lK l c.L.length 0) (jv l c.L.length)).turn ti (jr l c.L.length),es++xm l c.L.length)
 |[],c,es=>by
  simp only[ji,lK,jv,xm,CS.grow,CS.turn,List.append_nil]
  rw[show jr [] c.L.length=id from rfl,List.modify_id]
 |a::r,c,es=>by
  rw[ji,JB,QK,Ol ti r]
  have e:(c.turn ti fun m=>jR c.L.length m a.nums).L=c.L:=rfl
  simp only[xf,e,List.length_append,aS,List.length_singleton]
  simp only[CS.grow,CS.turn,List.modify_modify_eq,lK,jv,xm,List.append_assoc,List.cons_append,List.nil_append,Nat.add_assoc]
  rfl
def Aw(e:Int)(L:List Ins):List Nat→List Ins
 |[]=>L
 |a::r=>Aw e (L.modify a fun i=>{ i with to:=e }) r
theorem NW:∀(l:List Nat) (c:CS),Az c l={ c with L:=Aw (c.L.length:Nat) c.L l }
 |[],c=>rfl
 |a::r,c=>by
  rw[Az,NW r]
  simp only[CS.iU,List.length_modify]
  rfl
theorem Ec(e:Int):∀(l r:List Nat) (L:List Ins),Aw e L (l++r)=Aw e (Aw e L l) r
 |[],_,_=>rfl
 |a::l,r,L=>by rw[List.cons_append,Aw,Ec e l r];rfl
theorem EY{α:Type}(l:List α)(x:α)(r:List α)(f:α→α)(n:Nat)(h:n=l.length):(l++x::r).modify n f=l++f x::r:=by subst h;exact CV l x r f
theorem Iz(e:Int):∀(l:List Arm) (pre post:List Ins),Aw e (pre++(lK l pre.length 0++post)) (xm l pre.length)=pre++(lK l pre.length e++post)
 |[],pre,post=>rfl
 |a::r,pre,post=>by
  rw[xm,Aw,lK,lK]
  simp only[List.append_assoc,List.cons_append]
  rw[← List.append_assoc pre,EY _ _ _ _ _ (by rw[List.length_append,aS])]
  have k:=Iz e r (pre++bG a.decl.ty pre.length++[uK e]) post
  have hl:(pre++bG a.decl.ty pre.length++[uK e]).length=pre.length+tsz a.decl.ty+1:=by simp[aS];omega
  rw[hl]at k
  simp only[List.append_assoc,List.cons_append,List.nil_append]at k ⊢
  exact k
theorem Sv(e:Int):∀(l:Option Decl) (pre post:List Ins),Aw e (pre++(CY l pre.length 0++post)) (Ed l pre.length)=pre++(CY l pre.length e++post)
 |none,pre,post=>rfl
 |some d,pre,post=>by
  rw[Ed,Aw,Aw,CY,CY]
  simp only[List.append_assoc,List.cons_append,List.nil_append]
  rw[← List.append_assoc pre,EY _ _ _ _ _ (by rw[List.length_append,aS])]
  simp only[List.append_assoc,List.cons_append,List.nil_append]
  rfl
def iP(defs:List (By×Def)):Ty→List Tab
 |.named s _=>(match defs.lookup s with
  |some ⟨_,_,.enum _ nums⟩=>[members nums]
  |_=>[])
 |_=>[]
def gI(defs:List (By×Def))(of:Ty)(tb:Nat)(to:Int):Ins:=
 {ins 13 with of_:=Jb of,to:=to,table:=some tb,set:=match iP defs of with|[]=>none|_::_=>some (tb+1) }
theorem Ko(of:Ty)(c:CS):aZ of c=(gI c.defs of c.tabs.length (-1),{ c with tabs:=c.tabs++[]::iP c.defs of }):=by
 unfold aZ gI iP
 cases of with
 |named s a=>
  simp only[CS.iy,Jb]
  cases hl:c.defs.lookup s with
  |none=>simp[ins]
  |some d=>
   obtain⟨_,_,k⟩:=d
   cases k<;>simp[ins]
 |_=>simp[CS.iy,Jb,ins]
def mY(els:Option Decl)(b:Nat):Int:=match els with
 |none => -1
 |some _=>(b:Nat)
def zg(defs:List (By×Def))(of:Ty)(arms:List Arm)(els:Option Decl)(b tb:Nat):List Ins:=
 let e:Int:=((b+1+aH arms+je els:Nat):Int)
 gI defs of tb (mY els (b+1+aH arms))::(lK arms (b+1) e++CY els (b+1+aH arms) e)
def rW(arms:List Arm)(els:Option Decl)(b:Nat):List (Nat×By×Nat):=jv arms (b+1)++xg els (b+1+aH arms)
theorem Xf(at_:Nat)(c:CS)(es:List Nat)(els:Option Decl)(pre post:List Ins)(i:Ins)(h:c.L=pre++i::post)(ha:at_=pre.length)(hi:i.to = -1):
  Sz at_ (c,es) els=({ c with L:=pre++{ i with to:=mY els c.L.length }::post++CY els c.L.length 0,calls:=c.calls++xg els c.L.length },es++Ed els c.L.length):=by
 cases els with
 |none=>
  simp only[Sz,CY,xg,Ed,mY,List.append_nil,← hi,← h]
 |some d=>
  rw[Sz,QK]
  have e:(c.iU at_).L=pre++{ i with to:=mY (some d) c.L.length }::post:=by
   simp only[CS.iU]
   rw[h,EY _ _ _ _ _ ha]
   simp[mY]
  have e2:(c.iU at_).L.length=c.L.length:=by simp[CS.iU]
  rw[e2]
  simp only[CS.grow,e,CY,xg,Ed]
  rfl
theorem O3(of:Ty)(arms:List Arm)(els:Option Decl)(c:CS):vC of arms els c =
  c.more (zg c.defs of arms els c.L.length c.tabs.length) (rW arms els c.L.length) (jr arms (c.L.length+1) []::iP c.defs of):=by
 rw[Jm,Ko]
 simp only[iG]
 rw[Ol]
 have l1:(CS.grow { c with tabs:=c.tabs++[]::iP c.defs of } [gI c.defs of c.tabs.length (-1)] []).L.length=c.L.length+1:=by simp[CS.grow]
 rw[l1]
 rw[Xf (pre:=c.L) (i:=gI c.defs of c.tabs.length (-1)) (post:=lK arms (c.L.length+1) 0) (h:=by simp[CS.grow,CS.turn]) (ha:=rfl) (hi:=rfl)]
 have l2:((CS.grow (CS.grow { c with tabs:=c.tabs++[]::iP c.defs of } [gI c.defs of c.tabs.length (-1)] []) (lK arms (c.L.length+1) 0) (jv arms (c.L.length+1))).turn c.tabs.length (jr arms (c.L.length+1))).L.length=c.L.length+1+aH arms:=by
  simp[CS.grow,CS.turn,lJ];omega
 rw[l2,NW]
 simp only[CS.grow,CS.turn,CS.more,rW,List.append_assoc,List.nil_append,List.append_nil,CV]
 congr 1
 rw[zg]
 simp only[List.length_append,List.length_cons,lJ,IB]
 rw[Ec]
 have a0:c.L.length+(aH arms+1+je els)=c.L.length+(aH arms+je els+1):=by omega
 rw[a0]
 have k1:=Iz ((c.L.length+(aH arms+je els+1):Nat):Int) arms (c.L++[{ gI c.defs of c.tabs.length (-1)with to:=mY els (c.L.length+1+aH arms) }]) (CY els (c.L.length+1+aH arms) 0)
 have k2:=Sv ((c.L.length+(aH arms+je els+1):Nat):Int) els (c.L++{ gI c.defs of c.tabs.length (-1)with to:=mY els (c.L.length+1+aH arms) }::lK arms (c.L.length+1) ((c.L.length+(aH arms+je els+1):Nat):Int)) []
 simp only[List.length_append,List.length_nil,Nat.zero_add,List.length_cons,lJ,List.append_assoc,List.cons_append,List.nil_append,List.append_nil]at k1 k2
 have a1:c.L.length+(aH arms+1)=c.L.length+1+aH arms:=by omega
 rw[a1]at k2
 simp only[List.cons_append,List.append_assoc]
 rw[k1,k2]
 have a2:c.L.length+(aH arms+je els+1)=c.L.length+1+aH arms+je els:=by omega
 rw[a2]
 rfl
def qC:List Decl→Nat→List Ins
 |[],_=>[]
 |d::r,b=>bG d.ty b++qC r (b+tsz d.ty)
def jY:List Decl→Nat→List (Nat×By×Nat)
 |[],_=>[]
 |d::r,b=>fA d.ty b++jY r (b+tsz d.ty)
theorem Cj:∀(l:List Decl) (b:Nat),(qC l b).length=dD l
 |[],_=>rfl
 |d::r,b=>by simp[qC,dD,aS,Cj r]
theorem Hy:∀(l:List Decl) (c:CS),mi c l=c.grow (qC l c.L.length) (jY l c.L.length)
 |[],c=>by simp[mi,qC,jY,CS.grow]
 |d::r,c=>by
  rw[mi,lower_eq,Hy r,grow_grow,xf,aS]
  rfl
def gX(defs:List (By×Def))(b tb:Nat):Dk→List Ins
 |.alias t=>bG t b++[ins 7]
 |.enum _ nums=>[{ ins 4 with table:=some tb },ins 7]
 |.struct ds=>{ ins 11 with n:=ds.length }::(qC ds (b+1)++[ins 7])
 |.union of _ arms els=>zg defs of arms els b tb++[ins 7]
 |_=>[]
def iJ(b:Nat):Dk→List (Nat×By×Nat)
 |.alias t=>fA t b
 |.struct ds=>jY ds (b+1)
 |.union _ _ arms els=>rW arms els b
 |_=>[]
def gB(defs:List (By×Def))(b:Nat):Dk→List Tab
 |.enum _ nums=>[members nums]
 |.union of _ arms _=>jr arms (b+1) []::iP defs of
 |_=>[]
def isType:Dk→Bool
 |.const _=>false
 |.prog _ _=>false
 |_=>true
theorem yx(d:Def)(c:CS)(h:isType d.k=true):eH d c =
  ({ c with start:=aY c.start d.name c.L.length }:CS).more (gX c.defs c.L.length c.tabs.length d.k) (iJ c.L.length d.k) (gB c.defs c.L.length d.k):=by
 obtain⟨nm,a,k⟩:=d
 cases k with
 |const n=>cases h
 |prog n vs=>cases h
 |alias t=>simp only[eH,lower_eq,iG,grow_grow,rU];simp[gX,iJ,gB,CS.more]
 |enum ns is=>simp[eH,CS.put,CS.iy,CS.more,gX,iJ,gB]
 |struct ds=>
  simp only[eH,Hy,iG,grow_grow,rU,xf]
  simp[gX,iJ,gB,CS.more]
 |union of nm arms els=>
  simp only[eH,O3,iG,rU,RN]
  simp[gX,iJ,gB]
theorem uX(d:Def)(c:CS)(h:isType d.k=false):eH d c=c:=by
 obtain⟨nm,a,k⟩:=d
 cases k<;>first|rfl|cases h
theorem sF(t:Ty)(c:CS):iD t c=c.grow (bG t c.L.length++[ins 16]) (fA t c.L.length):=by
 rw[iD,lower_eq,iG,grow_grow,List.append_nil]
end Go.M
namespace Go.M
def Seg{α:Type}(L:List α)(p:Nat)(l:List α):Prop:=∀i x,l[i]?=some x→L[p+i]?=some x
section
variable {α:Type} {L:List α} {p:Nat}
theorem Seg.left{a b:List α}(h:Seg L p (a++b)):Seg L p a:=fun i x hx=>h i x (by rw[List.getElem?_append_left (List.getElem?_eq_some_iff.mp hx).1];exact hx)
theorem Seg.right{a b:List α}(h:Seg L p (a++b)):Seg L (p+a.length) b:=fun i x hx=>by
 rw[Nat.add_assoc];exact h (a.length+i) x (by rw[List.getElem?_append_right (by omega)];rw[Nat.add_sub_cancel_left];exact hx)
theorem Seg.head{x:α}{r:List α}(h:Seg L p (x::r)):L[p]?=some x:=h 0 x rfl
theorem Seg.tail{x:α}{r:List α}(h:Seg L p (x::r)):Seg L (p+1) r:=fun i y hy=>by
 have:=h (i+1) y (by simpa using hy)
 rw[show p+1+i=p+(i+1)by omega];exact this
theorem Seg.app{l m:List α}(h:Seg L p l):Seg (L++m) p l:=fun i x hx=>by
 have:=h i x hx
 rw[List.getElem?_append_left (List.getElem?_eq_some_iff.mp this).1];exact this
theorem Seg.last(L l:List α):Seg (L++l) L.length l:=fun i x hx=>by rw[List.getElem?_append_right (by omega),Nat.add_sub_cancel_left];exact hx
end
theorem bW{α β:Type}[BEq α][LawfulBEq α](m:List (α×β))(a b:α)(v:β):(aY m a v).lookup b=if b==a then some v else m.lookup b:=by
 induction m with
 |nil=>
  simp only[aY,List.lookup_cons,List.lookup_nil]
  cases b==a<;>rfl
 |cons x r ih=>
  unfold aY
  by_cases h:(a==x.1)=true
  ·rw[if_pos h,List.lookup_cons,List.lookup_cons]
   have hx:x.1=a:=(eq_of_beq h).symm
   rw[hx]
   cases h2:b==a with
   |true=>rw[if_pos rfl]
   |false=>rw[if_neg (by simp)]
  ·rw[if_neg h,List.lookup_cons,List.lookup_cons,ih]
   cases h2:b==x.1 with
   |true=>
    have hb:b=x.1:=eq_of_beq h2
    have:(b==a)=false:=by
     rw[hb]
     cases hc:x.1==a with
     |false=>rfl
     |true=>exact absurd (by rw[eq_of_beq hc];exact beq_self_eq_true a) h
    rw[this]
    rfl
   |false=>rfl
def jZ(defs:List (By×Def)):Dk→Bool
 |.union of _ _ _=>(match of with
  |.basic _=>true
  |.named s _=>(match defs.lookup s with
   |some ⟨_,_,.enum _ _⟩=>true
   |_=>false)
  |_=>false)
 |_=>true
def Grw(a b:List (By×Def)):Prop:=∀s d,a.lookup s=some d→isType d.k=true→b.lookup s=some d
theorem MJ{a b:List (By×Def)}{of:Ty}{n:By}{arms:List Arm}{els:Option Decl}(h:jZ a (.union of n arms els)=true)(g:Grw a b):iP b of=iP a of∧DI b of=DI a of∧jZ b (.union of n arms els)=true:=by
 cases of with
 |named s p=>
  simp only[jZ]at h
  cases hl:a.lookup s with
  |none=>rw[hl]at h;cases h
  |some d=>
   rw[hl]at h
   obtain⟨x,y,k⟩:=d
   cases k with
   |enum ns is=>
    have:=g s _ hl rfl
    simp only[iP,DI,jZ,hl,this,and_self]
   |_=>cases h
 |basic s=>exact⟨rfl,rfl,rfl⟩
 |_=>cases h
theorem NH{a b:List (By×Def)}{k:Dk}(h:jZ a k=true)(g:Grw a b)(p tb:Nat):gX b p tb k=gX a p tb k∧gB b p k=gB a p k∧jZ b k=true:=by
 cases k with
 |union of n arms els=>
  obtain⟨e,_,e3⟩:=MJ h g
  simp only[gX,gB,zg,gI,e,e3,and_self]
 |_=>exact⟨rfl,rfl,rfl⟩
def C9(c:CS)(t:Ty)(p:Nat):Prop:=Seg c.L p (bG t p++[ins 16])∧∀x∈fA t p,x∈c.calls
structure LI (c:CS):Prop where
 calls:∀x∈c.calls,c.L[x.1]?=some (ins 6)
 sorted:c.calls.Pairwise fun a b=>a.1<b.1
 start:∀s p,c.start.lookup s=some p→∃d tb,c.defs.lookup s=some d∧isType d.k=true∧jZ c.defs d.k=true∧Seg c.L p (gX c.defs p tb d.k)∧(∀x∈iJ p d.k,x∈c.calls)∧Seg c.tabs tb (gB c.defs p d.k)
 back:∀s d,c.defs.lookup s=some d→isType d.k=true→(c.start.lookup s).isSome=true
 procs:∀key v,c.procs.lookup key=some v→∃ta tr,C9 c ta v.1∧C9 c tr v.2.1∧v.2.2.1=(ta==.void)∧v.2.2.2=(tr==.void)
theorem LI.empty:LI CS.empty:=⟨fun x h=>(by cases h),List.Pairwise.nil,fun s p h=>(by cases h),fun s d h=>(by cases h),fun k v h=>(by cases h)⟩
theorem mV{α:Type}{L:List α}{p:Nat}{x:α}(h:L[p]?=some x):p<L.length:=(List.getElem?_eq_some_iff.mp h).1
theorem Ff:∀(t:Ty) (b:Nat) (x),x∈fA t b→b≤x.1∧(bG t b)[x.1 - b]?=some (ins 6)
 |.basic _,_,_,h=>by cases h
 |.named s a,b,x,h=>by
  rw[fA,List.mem_singleton]at h
  subst h
  exact⟨Nat.le_refl _,by simp[bG]⟩
 |.bytes _ _ _,_,_,h=>by cases h
 |.array t f n,b,x,h=>by
  rw[fA]at h
  obtain⟨h1,h2⟩:=Ff t (b+1) x h
  refine⟨by omega,?_⟩
  rw[bG,show x.1 - b=(x.1 - (b+1))+1 by omega,List.getElem?_cons_succ,List.getElem?_append_left (mV h2)]
  exact h2
 |.opt t,b,x,h=>by
  rw[fA]at h
  obtain⟨h1,h2⟩:=Ff t (b+1) x h
  refine⟨by omega,?_⟩
  rw[bG,show x.1 - b=(x.1 - (b+1))+1 by omega,List.getElem?_cons_succ]
  exact h2
 |.void,_,_,h=>by cases h
theorem vM:∀(t:Ty) (b:Nat),(fA t b).Pairwise fun a b=>a.1<b.1
 |.basic _,_=>List.Pairwise.nil
 |.named s a,b=>List.pairwise_singleton _ _
 |.bytes _ _ _,_=>List.Pairwise.nil
 |.array t f n,b=>vM t (b+1)
 |.opt t,b=>vM t (b+1)
 |.void,_=>List.Pairwise.nil
def aV(b:Nat)(l:List Ins)(k:List (Nat×By×Nat)):Prop:=(∀x∈k,b≤x.1∧l[x.1 - b]?=some (ins 6))∧k.Pairwise fun a b=>a.1<b.1
theorem aV.ty(t:Ty)(b:Nat):aV b (bG t b) (fA t b):=⟨Ff t b,vM t b⟩
theorem aV.app{b:Nat}{l l':List Ins}{k k':List (Nat×By×Nat)}(h:aV b l k)(h':aV (b+l.length) l' k'):aV b (l++l') (k++k'):=by
 constructor
 ·intro x hx
  rcases List.mem_append.mp hx with hx|hx
  ·obtain⟨h1,h2⟩:=h.1 x hx
   exact⟨h1,by rw[List.getElem?_append_left (mV h2)];exact h2⟩
  ·obtain⟨h1,h2⟩:=h'.1 x hx
   refine⟨by omega,?_⟩
   rw[List.getElem?_append_right (by omega),show x.1 - b - l.length=x.1 - (b+l.length)by omega]
   exact h2
 ·refine List.pairwise_append.mpr ⟨h.2,h'.2,fun x hx y hy=>?_⟩
  obtain⟨h1,h2⟩:=h.1 x hx
  obtain⟨h3,_⟩:=h'.1 y hy
  have:=mV h2
  omega
theorem aV.none(b:Nat)(l:List Ins):aV b l []:=⟨fun x h=>(by cases h),List.Pairwise.nil⟩
theorem aV.behind{b:Nat}{l l':List Ins}{k:List (Nat×By×Nat)}(h:aV b l k):aV b (l++l') k:=by
 have:=h.app (aV.none (b+l.length) l')
 rwa [List.append_nil]at this
theorem aV.cons{b:Nat}{i:Ins}{l:List Ins}{k:List (Nat×By×Nat)}(h:aV (b+1) l k):aV b (i::l) k:=(aV.none b [i]).app h
theorem BV:∀(l:List Decl) (b:Nat),aV b (qC l b) (jY l b)
 |[],b=>aV.none _ _
 |d::r,b=>by
  rw[qC,jY]
  refine(aV.ty d.ty b).app ?_
  rw[aS]
  exact BV r _
theorem Ef:∀(l:List Arm) (b:Nat) (e:Int),aV b (lK l b e) (jv l b)
 |[],b,e=>aV.none _ _
 |a::r,b,e=>by
  rw[lK,jv]
  refine(aV.ty a.decl.ty b).app ?_
  rw[aS]
  exact(Ef r _ e).cons
theorem Oh(l:Option Decl)(b:Nat)(e:Int):aV b (CY l b e) (xg l b):=by
 cases l with
 |none=>exact aV.none _ _
 |some d=>exact(aV.ty d.ty b).behind
theorem KX(defs:List (By×Def))(b tb:Nat)(k:Dk):aV b (gX defs b tb k) (iJ b k):=by
 cases k with
 |alias t=>exact(aV.ty t b).behind
 |struct ds=>exact((BV ds (b+1)).behind).cons
 |union of n arms els=>
  simp only[gX,iJ,zg,rW]
  refine aV.behind (aV.cons ((Ef arms (b+1) _).app ?_))
  rw[lJ]
  exact Oh els _ _
 |_=>exact aV.none _ _
theorem C9.more{c:CS}{t:Ty}{p:Nat}(h:C9 c t p)(l:List Ins)(k:List (Nat×By×Nat))(tb:List Tab):C9 (c.more l k tb) t p:=
 ⟨h.1.app,fun x hx=>List.mem_append_left _ (h.2 x hx)⟩
theorem LI.more{c:CS}(h:LI c){l:List Ins}{k:List (Nat×By×Nat)}(tb:List Tab)(hk:aV c.L.length l k):LI (c.more l k tb):=by
 refine⟨?_,?_,?_,h.back,?_⟩
 ·intro x hx
  rcases List.mem_append.mp hx with hx|hx
  ·have:=h.calls x hx
   exact(by rw[CS.more];simp only;rw[List.getElem?_append_left (mV this)];exact this)
  ·obtain⟨h1,h2⟩:=hk.1 x hx
   rw[CS.more];simp only;rw[List.getElem?_append_right h1];exact h2
 ·refine List.pairwise_append.mpr ⟨h.sorted,hk.2,fun x hx y hy=>?_⟩
  have:=mV (h.calls x hx)
  have:=(hk.1 y hy).1
  omega
 ·intro s p hs
  obtain⟨d,i,h1,h2,h3,h4,h5,h6⟩:=h.start s p hs
  exact⟨d,i,h1,h2,h3,h4.app,fun x hx=>List.mem_append_left _ (h5 x hx),h6.app⟩
 ·intro key v hv
  obtain⟨ta,tr,h1,h2,h3,h4⟩:=h.procs key v hv
  exact⟨ta,tr,h1.more _ _ _,h2.more _ _ _,h3,h4⟩
theorem LI.side{c:CS}(h:LI c)(t:Ty):LI (iD t c)∧C9 (iD t c) t c.L.length:=by
 rw[sF,rU]
 refine⟨h.more [] ((aV.ty t _).behind),Seg.last _ _,fun x hx=>List.mem_append_right _ hx⟩
theorem LI.Js{c:CS}(h:LI c)(g v:Int)(q:rP):LI (Js g v c q):=by
 obtain⟨h1,h2⟩:=h.side q.res
 obtain⟨h3,h4⟩:=h1.side q.arg
 have h2':C9 (iD q.arg (iD q.res c)) q.res c.L.length:=by
  have:=h2.more (bG q.arg (iD q.res c).L.length++[ins 16]) (fA q.arg (iD q.res c).L.length) []
  rw[sF q.arg,rU]
  exact this
 refine⟨h3.calls,h3.sorted,h3.start,h3.back,?_⟩
 intro key w hw
 unfold M.Js at hw
 simp only[bW]at hw
 split at hw
 ·cases hw
  exact⟨q.arg,q.res,h4,h2',rfl,rfl⟩
 ·exact h3.procs key w hw
theorem LI.dB(g v:Int):∀(l:List rP) {c:CS},LI c→LI (dB g v c l)
 |[],c,h=>h
 |q::r,c,h=>LI.dB g v r (h.Js g v q)
theorem LI.fP(g:Int):∀(l:List uz) {c:CS},LI c→LI (fP g c l)
 |[],c,h=>h
 |v::r,c,h=>by
  rw[M.fP]
  refine LI.fP g r (LI.dB g v.n v.procs ?_)
  exact⟨h.calls,h.sorted,h.start,h.back,h.procs⟩
theorem LI.defs{c:CS}(h:LI c)(d:Def)(hn:c.start.lookup d.name=none):LI { c with defs:=aY c.defs d.name d }∨isType d.k=true:=by
 cases ht:isType d.k with
 |true=>exact Or.inr rfl
 |false=>
 refine Or.inl ⟨h.calls,h.sorted,?_,?_,h.procs⟩
 ·intro s p hs
  have hs':c.start.lookup s=some p:=hs
  obtain⟨x,i,h1,h2,h3,h4,h5,h6⟩:=h.start s p hs'
  have g:Grw c.defs (aY c.defs d.name d):=fun s' d' e1 e2=>by
   rw[bW]
   have:=h.back s' d' e1 e2
   cases hb:s'==d.name with
   |false=>exact e1
   |true=>rw[eq_of_beq hb,hn]at this;cases this
  obtain⟨e1,e2,e3⟩:=NH h3 g p i
  exact⟨x,i,g s x h1 h2,h2,e3,by rw[e1];exact h4,h5,by rw[e2];exact h6⟩
 ·intro s x hs hx
  simp only[bW]at hs
  split at hs
  ·cases hs;rw[ht]at hx;cases hx
  ·exact h.back s x hs hx
theorem LI.oQ{c:CS}(h:LI c)(d:Def)(hn:c.start.lookup d.name=none)(hof:jZ (aY c.defs d.name d) d.k=true):LI (oQ c d):=by
 have g:Grw c.defs (aY c.defs d.name d):=fun s' d' e1 e2=>by
  rw[bW]
  have:=h.back s' d' e1 e2
  cases hb:s'==d.name with
  |false=>exact e1
  |true=>rw[eq_of_beq hb,hn]at this;cases this
 cases ht:isType d.k with
 |false=>
  have h0:=(h.defs d hn).resolve_right (by rw[ht];simp)
  unfold M.oQ
  cases hk:d.k with
  |prog n vs=>exact LI.fP n vs h0
  |const n=>simp only;rw[uX _ _ ht];exact h0
  |_=>rw[hk]at ht;cases ht
 |true=>
  have e:M.oQ c d=eH d { c with defs:=aY c.defs d.name d }:=by
   unfold M.oQ
   cases hk:d.k with
   |prog n vs=>rw[hk]at ht;cases ht
   |_=>rfl
  rw[e,yx _ _ ht]
  have hL:c.L.length=({ c with defs:=aY c.defs d.name d,start:=aY c.start d.name c.L.length }:CS).L.length:=rfl
  have hc:=KX (aY c.defs d.name d) c.L.length c.tabs.length d.k
  refine⟨?_,?_,?_,?_,?_⟩
  ·intro x hx
   rcases List.mem_append.mp hx with hx|hx
   ·have:=h.calls x hx
    show (c.L++_)[x.1]?=_
    rw[List.getElem?_append_left (mV this)];exact this
   ·obtain⟨h1,h2⟩:=hc.1 x hx
    show (c.L++_)[x.1]?=_
    rw[List.getElem?_append_right h1];exact h2
  ·refine List.pairwise_append.mpr ⟨h.sorted,hc.2,fun x hx y hy=>?_⟩
   have:=mV (h.calls x hx)
   have:=(hc.1 y hy).1
   omega
  ·intro s p hs
   simp only[CS.more,bW]at hs
   split at hs
   ·rename_i hb
    cases hs
    have hb:s=d.name:=eq_of_beq hb
    subst hb
    refine⟨d,c.tabs.length,?_,ht,hof,Seg.last _ _,fun x hx=>List.mem_append_right _ hx,Seg.last _ _⟩
    show (aY c.defs d.name d).lookup d.name=_
    rw[bW,beq_self_eq_true];rfl
   ·obtain⟨x,i,h1,h2,h3,h4,h5,h6⟩:=h.start s p hs
    obtain⟨e1,e2,e3⟩:=NH h3 g p i
    exact⟨x,i,g s x h1 h2,h2,e3,by show Seg _ _ (gX (aY c.defs d.name d) p i x.k);rw[e1];exact h4.app,fun y hy=>List.mem_append_left _ (h5 y hy),by show Seg _ _ (gB (aY c.defs d.name d) p x.k);rw[e2];exact h6.app⟩
  ·intro s x hs hx
   simp only[CS.more,bW]at hs ⊢
   split
   ·rfl
   ·rename_i hb
    rw[if_neg hb]at hs
    exact h.back s x hs hx
  ·intro key v hv
   obtain⟨ta,tr,h1,h2,h3,h4⟩:=h.procs key v hv
   exact⟨ta,tr,⟨h1.1.app,fun y hy=>List.mem_append_left _ (h1.2 y hy)⟩,⟨h2.1.app,fun y hy=>List.mem_append_left _ (h2.2 y hy)⟩,h3,h4⟩
theorem J8{c:CS}{of:Ty}{n:By}{arms:List Arm}{els:Option Decl}(h:lT c of=true):jZ c.defs (.union of n arms els)=true:=by
 cases of with
 |named s a=>
  simp only[lT,jZ]at h ⊢
  cases hl:c.defs.lookup s with
  |none=>rw[hl]at h;cases h
  |some d=>
   rw[hl]at h
   obtain⟨x,y,k⟩:=d
   cases k with
   |enum ns is=>rfl
   |_=>cases h
 |basic s=>rfl
 |_=>cases h
theorem LI.bg:∀(l:List Def) {c:CS},LI c→qA c l=true→LI (bg c l)
 |[],c,h,_=>h
 |d::r,c,h,hw=>by
  rw[M.bg]
  rw[qA]at hw
  simp only[Bool.and_eq_true]at hw
  obtain⟨⟨⟨h1,_⟩,h2⟩,h3⟩:=hw
  refine LI.bg r (h.oQ d (Option.isNone_iff_eq_none.mp h2) ?_) h3
  cases hk:d.k with
  |union of n arms els=>
   rw[hk]at h1
   exact J8 h1
  |_=>rfl
end Go.M

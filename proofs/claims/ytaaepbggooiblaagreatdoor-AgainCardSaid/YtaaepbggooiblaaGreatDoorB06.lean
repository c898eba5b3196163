/- Texts of mine, one behind the other; nothing is assumed. -/

namespace Go.M
abbrev By:=List UInt8
inductive Res (α:Type) where
 |ok (a:α)
 |no (e at_:Nat) deriving DecidableEq
def Res.andThen{α β:Type}:Res α→(α→Res β)→Res β
 |.ok a,f=>f a
 |.no e p,_=>.no e p
theorem Res.ak{α β:Type}(a:α)(f:α→Res β):(Res.ok a).andThen f=f a:=rfl
structure Wd where
 kind:Nat
 s:By
 at_:Nat
 n:Int deriving DecidableEq
def iH(c:UInt8):Bool:=c==32||c==9||c==10
def digit(c:UInt8):Bool:=48≤c&&c≤57
def letter(c:UInt8):Bool:=(97≤c&&c≤122)||(65≤c&&c≤90)
def dH(c:UInt8):Bool:=letter c||digit c||c==95
def bf:By→Nat
 |[]=>0
 |c::r=>if dH c then bf r+1 else 0
def starts:By→By→Bool
 |[],_=>true
 |_::_,[]=>false
 |a::x,b::y=>a==b&&starts x y
def find(x:By):By→Option Nat
 |[]=>if x.isEmpty then some 0 else none
 |c::r=>if starts x (c::r)then some 0 else(find x r).map (·+1)
def blanks:By→Nat
 |[]=>0
 |c::r=>if iH c then blanks r+1 else 0
def skip:Nat→By→Nat
 |0,_=>0
 |n+1,l=>
  let k:=blanks l
  let r:=l.drop k
  if starts [47,42] r then
   match find [42,47] (r.drop 2)with
   |some e=>k+(e+4)+skip n (r.drop (e+4))
   |none=>k
  else k
def dig(c:UInt8):Nat:=
 if 48≤c&&c≤57 then c.toNat - 48 else if 97≤c&&c≤122 then c.toNat - 87 else if 65≤c&&c≤90 then c.toNat - 55 else 99
def uint(base:Nat):By→Nat→Option Nat
 |[],v=>some v
 |c::r,v=>if dig c<base then(if v*base+dig c<4294967296 then uint base r (v*base+dig c)else none)else none
def oq(base:Nat)(l:By):Option Nat:=if l.isEmpty then none else uint base l 0
def dJ:By→By
 |45::r=>r
 |l=>l
def number(s:By):Option Int:=
 let hex:=starts [48,120] s
 let ds:=if hex then s.drop 2 else dJ s
 if(if hex then decide (8<ds.length)else decide (1<ds.length)&&ds.head?==some 48)then none
 else if ds.contains 95 then none
 else match oq (if hex then 16 else 10) ds with
  |none=>none
  |some v=>if s.head?==some 45 then(if v≤2147483648 then some (-(v:Int))else none)else some v
def keys:By:=[32,99,111,110,115,116,32,116,121,112,101,100,101,102,32,101,110,117,109,32,115,116,114,117,99,116,32,117,110,105,111,110,32,115,119,105,116,99,104,32,99,97,115,101,32,100,101,102,97,117,108,116,32,118,111,105,100,32,105,110,116,32,117,110,115,105,103,110,101,100,32,104,121,112,101,114,32,98,111,111,108,32,111,112,97,113,117,101,32,115,116,114,105,110,103,32,112,114,111,103,114,97,109,32,118,101,114,115,105,111,110,32,84,82,85,69,32,70,65,76,83,69,32]
def signs:By:=[123,125,40,41,91,93,60,62,42,44,59,58,61]
def contains(l x:By):Bool:=(find x l).isSome
def next(txt:By)(from_:Nat):Res (Wd×Nat):=
 let at_:=from_+skip (txt.length+1) (txt.drop from_)
 let rest:=txt.drop at_
 match rest with
 |[]=>.ok (⟨0,[],at_,0⟩,at_)
 |c::r=>
  if c==45||digit c then
   let n:=1+bf r
   match number (rest.take n)with
   |none=>.no 4 at_
   |some v=>.ok (⟨3,rest.take n,at_,v⟩,at_+n)
  else if c != 95&&dH c then
   let s:=rest.take (bf rest)
   if contains keys (32::s++[32])then .ok (⟨2,s,at_,0⟩,at_+s.length)
   else if 16<s.length then .no 7 at_
   else .ok (⟨1,s,at_,0⟩,at_+s.length)
  else if signs.contains c then .ok (⟨4,[c],at_,0⟩,at_+1)
  else .no 2 at_
def Wd.is(w:Wd)(s:By):Bool:=(w.kind==2||w.kind==4)&&w.s==s
inductive Ty where
 |basic (s:By)
 |named (s:By) (at_:Nat)
 |bytes (text fixed:Bool) (n:Int)
 |array (of:Ty) (fixed:Bool) (n:Int)
 |opt (of:Ty)
 |void deriving DecidableEq
structure Decl where
 name:By
 ty:Ty deriving DecidableEq
structure Arm where
 nums:List Int
 decl:Decl deriving DecidableEq
structure gq where
 name:By
 n:Int
 arg:Ty
 res:Ty deriving DecidableEq
structure gI where
 name:By
 n:Int
 procs:List gq deriving DecidableEq
inductive Dk where
 |const (n:Int)
 |alias (t:Ty)
 |enum (names:List By) (nums:List Int)
 |struct (parts:List Decl)
 |union (of:Ty) (name:By) (arms:List Arm) (els:Option Decl)
 |prog (n:Int) (vs:List gI) deriving DecidableEq
structure Def where
 name:By
 at_:Nat
 k:Dk deriving DecidableEq
structure PS where
 txt:By
 pos:Nat
 w:Wd
 names:List By
 consts:List (By×Int)
 enums:List (By×List Int)
 ik:List Int
 n0:Nat
 n1:Nat
 n2:Nat deriving DecidableEq
def bg{α β:Type}[BEq α](m:List (α×β))(a:α)(v:β):List (α×β):=
 match m with
 |[]=>[(a,v)]
 |x::r=>if a==x.1 then(a,v)::r else x::bg r a v
def advance(p:PS):Res PS:=(next p.txt p.pos).andThen fun x=>.ok { p with w:=x.1,pos:=x.2 }
def bad{α:Type}(p:PS):Res α:=.no 3 p.w.at_
def want(p:PS):List By→Res PS
 |[]=>.ok p
 |s::r=>if p.w.is s then(advance p).andThen fun p=>want p r else bad p
def take(p:PS)(s:By):Res (Bool×PS):=if p.w.is s then(advance p).andThen fun p=>.ok (true,p)else .ok (false,p)
def name(p:PS):Res Wd:=if p.w.kind==1 then .ok p.w else bad p
def once{α:Type}[BEq α](l:List α)(a:α)(at_:Nat):Res (List α):=if l.contains a then .no 6 at_ else .ok (l++[a])
def own(p:PS):Res (Wd×PS):=
 (name p).andThen fun w=>(once p.names w.s w.at_).andThen fun l=>(advance { p with names:=l }).andThen fun p=>.ok (w,p)
def called(p:PS)(l:List By):Res (Wd×List By×PS):=
 (name p).andThen fun w=>(once l w.s w.at_).andThen fun l=>(advance p).andThen fun p=>.ok (w,l,p)
def uQ(p:PS):Res Int:=
 let w:=p.w
 if w.kind==3 then .ok w.n
 else if w.is [84,82,85,69]then .ok 1
 else if w.is [70,65,76,83,69]then .ok 0
 else if w.kind==1 then(match p.consts.lookup w.s with|some v=>.ok v|none=>.no 7 w.at_)
 else bad p
def value{σ:Type}(p:PS)(lo hi:Int)(keep:Int→Nat→Res σ):Res (Int×σ×PS):=
 (uQ p).andThen fun n=>if n<lo∨hi<n then .no 8 p.w.at_ else
  (keep n p.w.at_).andThen fun s=>(advance p).andThen fun p=>.ok (n,s,p)
def kH(_:Int)(_:Nat):Res Unit:=.ok ()
def kindOf(p:PS):Res (Ty×PS):=
 let w:=p.w
 if w.kind==1 then(advance p).andThen fun p=>.ok (.named w.s w.at_,p)
 else(take p [105,110,116]).andThen fun x=>if x.1 then .ok (.basic [105,110,116],x.2)
 else(take x.2 [104,121,112,101,114]).andThen fun x=>if x.1 then .ok (.basic [104,121,112,101,114],x.2)
 else(take x.2 [98,111,111,108]).andThen fun x=>if x.1 then .ok (.basic [98,111,111,108],x.2)
 else(take x.2 [117,110,115,105,103,110,101,100]).andThen fun x=>if x.1 then
   (take x.2 [104,121,112,101,114]).andThen fun x=>if x.1 then .ok (.basic [117,110,115,105,103,110,101,100,32,104,121,112,101,114],x.2)
   else(take x.2 [105,110,116]).andThen fun x=>.ok (.basic [117,110,115,105,103,110,101,100],x.2)
 else bad x.2
def bound(p:PS):Res (Bool×Int×PS):=
 (take p [91]).andThen fun x=>
  if x.1 then(value x.2 1 1000 kH).andThen fun y=>(want y.2.2 [[93]]).andThen fun p=>.ok (true,y.1,p)
  else(want x.2 [[60]]).andThen fun p=>(take p [62]).andThen fun x=>
   if x.1 then .ok (false,4294967295,x.2)
   else(value x.2 0 4294967295 kH).andThen fun y=>(want y.2.2 [[62]]).andThen fun p=>.ok (false,y.1,p)
def decl{σ:Type}(nm:PS→Res (Wd×σ×PS))(p:PS):Res (Decl×Wd×σ×PS):=
 let text:=p.w.is [115,116,114,105,110,103]
 if text||p.w.is [111,112,97,113,117,101]then
  (advance p).andThen fun p=>(nm p).andThen fun x=>
   if text&&!x.2.2.w.is [60]then bad x.2.2 else
   (bound x.2.2).andThen fun y=>.ok (⟨x.1.s,.bytes text y.1 y.2.1⟩,x.1,x.2.1,y.2.2)
 else(kindOf p).andThen fun t=>(take t.2 [42]).andThen fun y=>
  if y.1 then(nm y.2).andThen fun x=>.ok (⟨x.1.s,.opt t.1⟩,x.1,x.2.1,x.2.2)
  else(nm y.2).andThen fun x=>
   if x.2.2.w.is [91]||x.2.2.w.is [60]then(bound x.2.2).andThen fun z=>.ok (⟨x.1.s,.array t.1 z.1 z.2.1⟩,x.1,x.2.1,z.2.2)
   else .ok (⟨x.1.s,t.1⟩,x.1,x.2.1,x.2.2)
def V7(l:List By)(p:PS):Res (Wd×List By×PS):=called p l
def zi(p:PS):Res (Wd×Unit×PS):=(own p).andThen fun x=>.ok (x.1,(),x.2)
def member(p:PS)(l:List By):Res (Decl×List By×PS):=
 (decl (V7 l) p).andThen fun x=>(want x.2.2.2 [[59]]).andThen fun p=>.ok (x.1,x.2.2.1,p)
def count(p:PS)(n most:Nat):Res Unit:=if most≤n then .no 5 p.w.at_ else .ok ()
def least:Int := -2147483648
def J6:Int:=2147483647
def top:Int:=4294967295
def constant(p:PS):Res (Def×PS):=
 (count p p.n1 40).andThen fun _=>(want p [[99,111,110,115,116]]).andThen fun p=>(own p).andThen fun w=>(want w.2 [[61]]).andThen fun p=>
 (value p least top kH).andThen fun v=>(want v.2.2 [[59]]).andThen fun p=>
 .ok (⟨w.1.s,w.1.at_,.const v.1⟩,{ p with n1:=p.n1+1,consts:=bg p.consts w.1.s v.1 })
def alias(p:PS):Res (Def×PS):=
 (want p [[116,121,112,101,100,101,102]]).andThen fun p=>(decl zi p).andThen fun d=>(want d.2.2.2 [[59]]).andThen fun p=>
 .ok (⟨d.2.1.s,d.2.1.at_,.alias d.1.ty⟩,p)
def fG:Nat→PS→List By→List Int→Res (List By×List Int×PS)
 |0,p,_,_=>.no 5 p.w.at_
 |k+1,p,ns,is=>
  (count p p.n1 40).andThen fun _=>(own p).andThen fun m=>(want m.2 [[61]]).andThen fun p=>
  (value p least J6 fun n at_=>once is n at_).andThen fun v=>
  let p:=v.2.2
  let p:={ p with n1:=p.n1+1,consts:=bg p.consts m.1.s v.1 }
  (take p [44]).andThen fun x=>if x.1 then fG k x.2 (ns++[m.1.s]) (is++[v.1])else .ok (ns++[m.1.s],is++[v.1],x.2)
def enum(p:PS):Res (Def×PS):=
 (want p [[101,110,117,109]]).andThen fun p=>(own p).andThen fun w=>(want w.2 [[123]]).andThen fun p=>
 (fG 12 p [] []).andThen fun x=>(want x.2.2 [[125],[59]]).andThen fun p=>
 .ok (⟨w.1.s,w.1.at_,.enum x.1 x.2.1⟩,{ p with enums:=bg p.enums w.1.s x.2.1 })
def dB:Nat→PS→List Decl→List By→Res (List Decl×PS)
 |0,p,_,_=>.no 5 p.w.at_
 |k+1,p,ds,l=>
  (member p l).andThen fun d=>(take d.2.2 [125]).andThen fun x=>if x.1 then .ok (ds++[d.1],x.2)else dB k x.2 (ds++[d.1]) d.2.1
def fJ(p:PS):Res (Def×PS):=
 (want p [[115,116,114,117,99,116]]).andThen fun p=>(own p).andThen fun w=>(want w.2 [[123]]).andThen fun p=>
 (dB 12 p [] []).andThen fun x=>(want x.2 [[59]]).andThen fun p=>.ok (⟨w.1.s,w.1.at_,.struct x.1⟩,p)
def aS(p:PS):Res ((Ty×Int×Int×Option (List Int))×PS):=
 let w:=p.w
 if w.kind==1 then(match p.enums.lookup w.s with
  |none=>.no 7 w.at_
  |some nums=>(advance p).andThen fun p=>.ok ((.named w.s w.at_,least,J6,some nums),p))
 else(take p [105,110,116]).andThen fun x=>if x.1 then .ok ((.basic [105,110,116],least,J6,none),x.2)
 else(take x.2 [98,111,111,108]).andThen fun x=>if x.1 then .ok ((.basic [98,111,111,108],0,1,none),x.2)
 else(take x.2 [117,110,115,105,103,110,101,100]).andThen fun x=>if x.1 then(take x.2 [105,110,116]).andThen fun x=>.ok ((.basic [117,110,115,105,103,110,101,100],0,top,none),x.2)
 else bad x.2
def arm(p:PS)(l:List By):Res (Decl×List By×PS):=
 (take p [118,111,105,100]).andThen fun x=>if x.1 then(want x.2 [[59]]).andThen fun p=>.ok (⟨[],.void⟩,l,p)else member x.2 l
def dK(lo hi:Int)(nums:Option (List Int)):Nat→PS→List Int→List Int→Res (List Int×List Int×PS)
 |0,p,_,_=>.no 5 p.w.at_
 |k+1,p,a,there=>
  (want p [[99,97,115,101]]).andThen fun p=>
  (value p lo hi fun n at_=>if nums.any fun l=>!l.contains n then .no 8 at_ else once there n at_).andThen fun v=>(want v.2.2 [[58]]).andThen fun p=>
  if p.w.is [99,97,115,101]then dK lo hi nums k p (a++[v.1]) v.2.1 else .ok (a++[v.1],v.2.1,p)
def gG(lo hi:Int)(nums:Option (List Int)):Nat→PS→List Arm→List By→List Int→Res (List Arm×List By×PS)
 |0,p,_,_,_=>.no 5 p.w.at_
 |k+1,p,as,l,there=>
  (dK lo hi nums (12 - there.length) p [] there).andThen fun c=>(arm c.2.2 l).andThen fun d=>
  if d.2.2.w.is [99,97,115,101]then gG lo hi nums k d.2.2 (as++[⟨c.1,d.1⟩]) d.2.1 c.2.1 else .ok (as++[⟨c.1,d.1⟩],d.2.1,d.2.2)
def union(p:PS):Res (Def×PS):=
 (want p [[117,110,105,111,110]]).andThen fun p=>(own p).andThen fun w=>(want w.2 [[115,119,105,116,99,104],[40]]).andThen fun p=>
 (aS p).andThen fun d=>(called d.2 []).andThen fun nm=>(want nm.2.2 [[41],[123]]).andThen fun p=>
 (gG d.1.2.1 d.1.2.2.1 d.1.2.2.2 13 p [] nm.2.1 []).andThen fun as=>(take as.2.2 [100,101,102,97,117,108,116]).andThen fun x=>
 (if x.1 then(want x.2 [[58]]).andThen fun p=>(arm p as.2.1).andThen fun e=>.ok (some e.1,e.2.2)else .ok (none,x.2)).andThen fun e=>
 (want e.2 [[125],[59]]).andThen fun p=>.ok (⟨w.1.s,w.1.at_,.union d.1.1 nm.1.s as.1 e.1⟩,p)
def side(p:PS):Res (Ty×PS):=(take p [118,111,105,100]).andThen fun x=>if x.1 then .ok (.void,x.2)else kindOf x.2
def numbered(p:PS)(l:List Int):Res (Int×List Int×PS):=
 (want p [[61]]).andThen fun p=>(value p 0 top fun n at_=>once l n at_).andThen fun v=>(want v.2.2 [[59]]).andThen fun p=>.ok (v.1,v.2.1,p)
def dX:Nat→PS→List gq→List By→List Int→Res (List gq×PS)
 |0,p,_,_,_=>.no 5 p.w.at_
 |k+1,p,qs,l,ns=>
  (side p).andThen fun r=>(called r.2 l).andThen fun nm=>(want nm.2.2 [[40]]).andThen fun p=>(side p).andThen fun a=>(want a.2 [[41]]).andThen fun p=>
  (numbered p ns).andThen fun n=>(take n.2.2 [125]).andThen fun x=>
  if x.1 then .ok (qs++[⟨nm.1.s,n.1,a.1,r.1⟩],x.2)else dX k x.2 (qs++[⟨nm.1.s,n.1,a.1,r.1⟩]) nm.2.1 n.2.1
def version(p:PS)(names:List By)(nums:List Int):Res (gI×List By×List Int×PS):=
 (want p [[118,101,114,115,105,111,110]]).andThen fun p=>(called p names).andThen fun nm=>(want nm.2.2 [[123]]).andThen fun p=>
 (dX 8 p [] [] []).andThen fun x=>(numbered x.2 nums).andThen fun n=>.ok (⟨nm.1.s,n.1,x.1⟩,nm.2.1,n.2.1,n.2.2)
def fE:Nat→PS→List gI→List By→List Int→Res (List gI×PS)
 |0,p,_,_,_=>.no 5 p.w.at_
 |k+1,p,vs,l,ns=>
  (version p l ns).andThen fun v=>(take v.2.2.2 [125]).andThen fun x=>if x.1 then .ok (vs++[v.1],x.2)else fE k x.2 (vs++[v.1]) v.2.1 v.2.2.1
def program(p:PS):Res (Def×PS):=
 (count p p.n2 4).andThen fun _=>(want { p with n2:=p.n2+1 } [[112,114,111,103,114,97,109]]).andThen fun p=>(own p).andThen fun w=>(want w.2 [[123]]).andThen fun p=>
 (fE 4 p [] [] []).andThen fun x=>(numbered x.2 x.2.ik).andThen fun n=>.ok (⟨w.1.s,w.1.at_,.prog n.1 x.1⟩,{ n.2.2 with ik:=n.2.1 })
def definition(p:PS):Res (Def×PS):=
 if p.w.is [99,111,110,115,116]then constant p
 else if p.w.is [112,114,111,103,114,97,109]then program p
 else
  let go (f:PS→Res (Def×PS)):Res (Def×PS):=(count p p.n0 24).andThen fun _=>f { p with n0:=p.n0+1 }
  if p.w.is [116,121,112,101,100,101,102]then go alias
  else if p.w.is [101,110,117,109]then go enum
  else if p.w.is [115,116,114,117,99,116]then go fJ
  else if p.w.is [117,110,105,111,110]then go union
  else bad p
def fU:Nat→PS→List Def→Res (List Def)
 |0,_,ds=>.ok ds
 |k+1,p,ds=>if p.w.kind==0 then .ok ds else(definition p).andThen fun x=>fU k x.2 (ds++[x.1])
def parse(txt:By):Res (List Def):=
 (advance ⟨txt,0,⟨0,[],0,0⟩,[],[],[],[],0,0,0⟩).andThen fun p=>fU 69 p []
end Go.M
set_option linter.unusedSimpArgs false
set_option linter.unusedVariables false
namespace Go.M
theorem Res.then_ok{α β:Type}{m:Res α}{k:α→Res β}{b:β}(h:m.andThen k=.ok b):∃a,m=.ok a∧k a=.ok b:=by
 cases m with
 |ok a=>exact⟨a,rfl,h⟩
 |no e a=>cases h
theorem Res.assoc{α β γ:Type}(m:Res α)(f:α→Res β)(g:β→Res γ):(m.andThen f).andThen g=m.andThen fun a=>(f a).andThen g:=by
 cases m<;>rfl
def nn(p:PS):Nat×Nat×Nat:=(p.n0,p.n1,p.n2)
theorem yQ{p q:PS}(h:advance p=.ok q):nn q=nn p:=by
 obtain⟨x,_,h2⟩:=Res.then_ok h
 cases h2;rfl
theorem dZ:∀{l:List By} {p q:PS},want p l=.ok q→nn q=nn p
 |[],p,q,h=>by cases h;rfl
 |s::r,p,q,h=>by
  rw[want]at h
  split at h
  ·obtain⟨x,h1,h2⟩:=Res.then_ok h
   exact(dZ h2).trans (yQ h1)
  ·cases h
theorem vg{p:PS}{x:Wd×PS}(h:own p=.ok x):nn x.2=nn p:=by
 obtain⟨w,h1,h⟩:=Res.then_ok h
 obtain⟨l,h2,h⟩:=Res.then_ok h
 obtain⟨q,h3,h⟩:=Res.then_ok h
 cases h
 exact(yQ h3).trans rfl
theorem uZ{σ:Type}{p:PS}{lo hi:Int}{keep:Int→Nat→Res σ}{x:Int×σ×PS}(h:value p lo hi keep=.ok x):nn x.2.2=nn p:=by
 obtain⟨n,h1,h⟩:=Res.then_ok h
 split at h
 ·cases h
 obtain⟨s,h2,h⟩:=Res.then_ok h
 obtain⟨q,h3,h⟩:=Res.then_ok h
 cases h
 exact yQ h3
theorem vT{σ:Type}{p:PS}{lo hi:Int}{keep:Int→Nat→Res σ}{x:Int×σ×PS}(h:value p lo hi keep=.ok x):lo≤x.1∧x.1≤hi:=by
 obtain⟨n,h1,h⟩:=Res.then_ok h
 split at h
 ·cases h
 obtain⟨s,h2,h⟩:=Res.then_ok h
 obtain⟨q,h3,h⟩:=Res.then_ok h
 cases h
 show lo≤n∧n≤hi
 omega
theorem Rk{p:PS}{lo hi:Int}{l:List Int}{x:Int×List Int×PS}(h:value p lo hi (fun n a=>once l n a)=.ok x):x.2.1=l++[x.1]:=by
 obtain⟨n,h1,h⟩:=Res.then_ok h
 split at h
 ·cases h
 obtain⟨s,h2,h⟩:=Res.then_ok h
 obtain⟨q,h3,h⟩:=Res.then_ok h
 cases h
 simp only[once]at h2
 split at h2
 ·cases h2
 ·cases h2;rfl
theorem Je{p:PS}{lo hi:Int}{nums:Option (List Int)}{l:List Int}{x:Int×List Int×PS}(h:value p lo hi (fun n a=>if nums.any fun l=>!l.contains n then .no 8 a else once l n a)=.ok x):x.2.1=l++[x.1]:=by
 obtain⟨n,h1,h⟩:=Res.then_ok h
 split at h
 ·cases h
 obtain⟨s,h2,h⟩:=Res.then_ok h
 obtain⟨q,h3,h⟩:=Res.then_ok h
 cases h
 simp only[once]at h2
 split at h2
 ·cases h2
 ·split at h2
  ·cases h2
  ·cases h2;rfl
theorem Res.named{α β:Type}{M:Res β}{m:Res α}{k:α→Res β}(h:M=m.andThen k):∃F,F=k∧M=m.andThen F:=⟨k,rfl,h⟩
theorem O4{σ:Type}{p:PS}{lo hi:Int}{k1 k2:Int→Nat→Res σ}(h:∀n a,lo≤n→n≤hi→k1 n a=k2 n a):value p lo hi k1=value p lo hi k2:=by
 unfold value
 cases uQ p with
 |no=>rfl
 |ok n=>
  simp only[Res.ak]
  split
  ·rfl
  ·rw[h n _ (by omega) (by omega)]
theorem Na(q:PS)(l:List Int):advance { q with ik:=l }=(advance q).andThen fun r=>.ok { r with ik:=l }:=by
 unfold advance
 cases next q.txt q.pos<;>rfl
theorem yu:∀(s:List By) (q:PS) (l:List Int),want { q with ik:=l } s=(want q s).andThen fun r=>.ok { r with ik:=l }
 |[],q,l=>rfl
 |x::r,q,l=>by
  rw[want,want]
  show (if q.w.is x then _ else _)=_
  split
  ·rw[Na]
   cases advance q with
   |no=>rfl
   |ok q'=>simp only[Res.ak];exact yu r q' l
  ·rfl
theorem Ry{s:List By}{q r:PS}(h:want q s=.ok r):r.ik=q.ik:=by
 have:=yu s q q.ik
 have e:({ q with ik:=q.ik }:PS)=q:=rfl
 rw[e,h]at this
 simp only[Res.ak,Res.ok.injEq]at this
 rw[this]
theorem gV{p:PS}{n most:Nat}{u:Unit}(h:count p n most=.ok u):n<most:=by
 rw[count]at h
 split at h
 ·cases h
 ·omega
end Go.M
namespace Go.M
structure Ins where
 op:Nat
 n:Int
 to:Int
 fixed:Bool
 of_:Nat
 table:Option Nat
 set:Option Nat deriving DecidableEq
abbrev Tab:=List (Int×Nat)
structure CS where
 L:List Ins
 tabs:List Tab
 calls:List (Nat×By×Nat)
 start:List (By×Nat)
 defs:List (By×Def)
 procs:List ((Int×Int×Int)×(Nat×Nat×Bool×Bool))
 dL:List (Int×List Int)
 types:List (By×Nat):=[] deriving DecidableEq
def CS.empty:CS:=⟨[],[],[],[],[],[],[],[]⟩
def ins(op:Nat):Ins:=⟨op,0,0,false,0,none,none⟩
def jT(s:By):Nat:=if s==[105,110,116]then 0 else if s==[117,110,115,105,103,110,101,100]then 1 else if s==[98,111,111,108]then 3 else 2
def CS.put(c:CS)(i:Ins):CS:={ c with L:=c.L++[i] }
def CS.jl(c:CS)(at_:Nat):CS:={ c with L:=c.L.modify at_ fun i=>{ i with to:=c.L.length } }
def CS.ref(c:CS)(s:By)(a:Nat):CS:={ c with L:=c.L++[ins 6],calls:=c.calls++[(c.L.length,s,a)] }
def CS.gW(c:CS)(l:Tab):CS:={ c with tabs:=c.tabs++[l] }
def CS.yH(c:CS)(i:Nat)(n:Int):CS:={ c with tabs:=c.tabs.modify i fun l=>bg l n c.L.length }
def lower:Ty→CS→CS
 |.basic s,c=>c.put (ins (jT s))
 |.named s a,c=>c.ref s a
 |.bytes _ f n,c=>c.put { ins 5 with n:=n,fixed:=f }
 |.array t f n,c=>((lower t (c.put { ins (if f then 8 else 9)with n:=n })).put (ins 10)).jl c.L.length
 |.opt t,c=>(lower t (c.put (ins 12))).jl c.L.length
 |.void,c=>c.put (ins 15)
def sF:Nat→Tab→List Int→Tab
 |_,m,[]=>m
 |k,m,n::r=>sF (k+1) (bg m n k) r
def members(nums:List Int):Tab:=sF 0 [] nums
def Du(x:CS×List Nat)(d:Decl):CS×List Nat:=
 let c:=lower d.ty x.1
 (c.put (ins 14),x.2++[c.L.length])
def iD(ti:Nat)(c:CS):List Int→CS
 |[]=>c
 |n::r=>iD ti (c.yH ti n) r
def gp(ti:Nat)(x:CS×List Nat):List Arm→CS×List Nat
 |[]=>x
 |a::r=>gp ti (Du (iD ti x.1 a.nums,x.2) a.decl) r
def vK(c:CS):List Nat→CS
 |[]=>c
 |e::r=>vK (c.jl e) r
def aG(of:Ty)(c:CS):Ins×CS:=
 let i:Ins:={ ins 13 with of_:=4,to := -1,table:=some c.tabs.length }
 let c:=c.gW []
 match of with
 |.basic s=>({ i with of_:=jT s },c)
 |.named s _=>(match c.defs.lookup s with
  |some ⟨_,_,.enum _ nums⟩=>({ i with set:=some c.tabs.length },c.gW (members nums))
  |_=>(i,c))
 |_=>(i,c)
def nP(of:Ty)(arms:List Arm)(els:Option Decl)(c:CS):CS:=
 let ti:=c.tabs.length
 let h:=aG of c
 let at_:=h.2.L.length
 let x:=gp ti (h.2.put h.1,[]) arms
 let x:=match els with
  |none=>x
  |some d=>Du (x.1.jl at_,x.2) d
 vK x.1 x.2
def LM(at_:Nat)(x:CS×List Nat):Option Decl→CS×List Nat
 |none=>x
 |some d=>Du (x.1.jl at_,x.2) d
def iO(c:CS):List Decl→CS
 |[]=>c
 |d::r=>iO (lower d.ty c) r
def gB(d:Def)(c:CS):CS:=
 let c1:CS:={ c with start:=bg c.start d.name c.L.length }
 match d.k with
 |.alias t=>(lower t c1).put (ins 7)
 |.enum _ nums=>((c1.gW (members nums)).put { ins 4 with table:=some c1.tabs.length }).put (ins 7)
 |.struct ds=>(iO (c1.put { ins 11 with n:=ds.length }) ds).put (ins 7)
 |.union of _ arms els=>(nP of arms els c1).put (ins 7)
 |_=>c
def jb(t:Ty)(c:CS):CS:=(lower t c).put (ins 16)
def gm(g v:Int)(c:CS):List gq→CS
 |[]=>c
 |q::r=>
  let c1:=jb q.res c
  let c2:=jb q.arg c1
  gm g v { c2 with procs:=bg c2.procs (g,v,q.n) (c1.L.length,c.L.length,q.arg==.void,q.res==.void) } r
def gZ(g:Int)(c:CS):List gI→CS
 |[]=>c
 |v::r=>gZ g (gm g v.n { c with dL:=bg c.dL g ((c.dL.lookup g).getD []++[v.n]) } v.procs) r
def nN(c:CS)(d:Def):CS:=
 let c:CS:={ c with defs:=bg c.defs d.name d }
 match d.k with
 |.prog n vs=>gZ n c vs
 |_=>gB d c
def aF(c:CS):List Def→CS
 |[]=>c
 |d::r=>aF (nN c d) r
def lM(c:CS):Ty→Bool
 |.basic _=>true
 |.named s _=>(match c.defs.lookup s with
  |some ⟨_,_,.enum _ is⟩=>decide (is.length<1000000)
  |_=>false)
 |_=>false
def inRange(n:Int):Bool:=decide (0≤n∧n≤4294967295)
def jE(d:Def):Bool:=match d.k with
 |.enum _ is=>decide (is.length<1000000)
 |.struct ds=>decide (ds.length<1000000)
 |.union _ _ arms _=>decide (arms.length<1000000)&&arms.all fun a=>decide (a.nums.length<1000000)
 |.prog n vs=>decide (vs.length<1000000)&&inRange n&&vs.all fun v=>decide (v.procs.length<1000000)&&inRange v.n&&v.procs.all fun q=>inRange q.n
 |_=>true
def jr(c:CS):List Def→Bool
 |[]=>true
 |d::r=>(match d.k with
  |.union of _ _ _=>lM { c with defs:=bg c.defs d.name d } of
  |.prog _ _=>c.dL.all fun x=>decide (x.2.length<1000000)
  |_=>true)&&jE d&&(c.start.lookup d.name).isNone&&jr (nN c d) r
def fF(start:List (By×Nat)):List Ins→List (Nat×By×Nat)→Res (List Ins)
 |L,[]=>.ok L
 |L,(a,s,f)::r=>match start.lookup s with
  |none=>.no 7 f
  |some t=>fF start (L.modify a fun i=>{ i with to:=t }) r
structure Seen where
 seen:List By
 found:Bool deriving DecidableEq
mutual
def through(defs:List (By×Def))(goal:By):Nat→Ty→Seen→Option Seen
 |0,_,_=>none
 |k+1,.named s _,x=>
  let x:=if s==goal then { x with found:=true }else x
  if x.seen.contains s then some x else visit defs goal k (defs.lookup s) { x with seen:=x.seen++[s] }
 |k+1,.array t f _,x=>if f then through defs goal k t x else some x
 |_+1,_,x=>some x
def visit(defs:List (By×Def))(goal:By):Nat→Option Def→Seen→Option Seen
 |0,_,_=>none
 |k+1,some d,x=>(match d.k with
  |.alias t=>through defs goal k t x
  |.struct ds=>eH defs goal k (ds.map (·.ty)) x
  |.union _ _ arms els=>eH defs goal k (arms.map (·.decl.ty)++(els.map (·.ty)).toList) x
  |_=>some x)
 |_+1,none,x=>some x
def eH(defs:List (By×Def))(goal:By):Nat→List Ty→Seen→Option Seen
 |0,_,_=>none
 |_+1,[],x=>some x
 |k+1,t::r,x=>(match through defs goal k t x with
  |none=>none
  |some y=>eH defs goal k r y)
end
def endless(defs:List (By×Def))(d:Def):Option Bool:=(visit defs d.name 1000 (some d) ⟨[],false⟩).map (·.found)
def cZ(c:CS):List Def→Res Unit
 |[]=>.ok ()
 |d::r=>if(c.start.lookup d.name).isSome&&(endless c.defs d).getD true then .no 9 d.at_ else cZ c r
def Sr(c:CS)(ds:List Def):Bool:=ds.all fun d=>(endless c.defs d).isSome
def compile(ds:List Def):Res CS:=
 let c:=aF CS.empty ds
 (fF c.start c.L c.calls).andThen fun L=>(cZ c ds).andThen fun _=>.ok { c with L:=L }
def tsz:Ty→Nat
 |.array t _ _=>tsz t+2
 |.opt t=>tsz t+1
 |_=>1
theorem lY(c:CS)(a:Nat):(c.jl a).L.length=c.L.length:=by simp[CS.jl]
theorem bQ(c:CS)(i:Ins):(c.put i).L.length=c.L.length+1:=by simp[CS.put]
theorem dD:∀(t:Ty) (c:CS),(lower t c).L.length=c.L.length+tsz t
 |.basic s,c=>bQ c _
 |.named s a,c=>by simp[lower,CS.ref,tsz]
 |.bytes _ f n,c=>bQ c _
 |.array t f n,c=>by rw[lower,lY,bQ,dD t,bQ,tsz];omega
 |.opt t,c=>by rw[lower,lY,dD t,bQ,tsz];omega
 |.void,c=>bQ c _
def bT:List Arm→Nat
 |[]=>0
 |a::r=>tsz a.decl.ty+1+bT r
def lI:Option Decl→Nat
 |none=>0
 |some d=>tsz d.ty+1
theorem Gf(x:CS×List Nat)(d:Decl):(Du x d).1.L.length=x.1.L.length+tsz d.ty+1:=by rw[Du,bQ,dD]
theorem vM(ti:Nat):∀(l:List Int) (c:CS),(iD ti c l).L.length=c.L.length
 |[],c=>rfl
 |n::r,c=>by rw[iD,vM ti r];rfl
theorem yh(ti:Nat):∀(l:List Arm) (x:CS×List Nat),(gp ti x l).1.L.length=x.1.L.length+bT l
 |[],x=>rfl
 |a::r,x=>by rw[gp,yh ti r,Gf,vM,bT];omega
theorem GR:∀(l:List Nat) (c:CS),(vK c l).L.length=c.L.length
 |[],c=>rfl
 |n::r,c=>by rw[vK,GR r,lY]
theorem wR(of:Ty)(c:CS):(aG of c).2.L=c.L:=by
 unfold aG
 cases of with
 |named s a=>simp only;split<;>rfl
 |_=>rfl
theorem DW(of:Ty)(ar:List Arm)(els:Option Decl)(c:CS):(nP of ar els c).L.length=c.L.length+1+bT ar+lI els:=by
 unfold nP
 simp only
 rw[GR]
 cases els with
 |none=>simp only;rw[yh,bQ,wR];simp only[lI];omega
 |some d=>simp only;rw[Gf,lY,yh,bQ,wR];simp only[lI];omega
theorem Ij(ti:Nat):∀(l:List Int) (n:Int) (c:CS),iD ti c (l++[n])=(iD ti c l).yH ti n
 |[],_,_=>rfl
 |a::r,n,c=>by rw[List.cons_append,iD,Ij ti r,iD]
theorem UC{c:CS}{ti:Nat}{n:Int}{l:Tab}(h:c.tabs[ti]?=some l):c.yH ti n={ c with tabs:=c.tabs.modify ti fun _=>bg l n c.L.length }:=by
 unfold CS.yH
 congr 1
 apply List.ext_getElem?
 intro i
 rw[List.getElem?_modify,List.getElem?_modify]
 by_cases e:ti=i
 ·subst e;simp[h]
 ·simp[e]
theorem Ik:∀(ar:List Arm) (k:Nat),bT (ar.take k)+bT (ar.drop k)=bT ar
 |[],k=>by simp[bT]
 |a::r,0=>by simp[bT]
 |a::r,k+1=>by simp only[List.take_succ_cons,List.drop_succ_cons,bT];have:=Ik r k;omega
theorem KQ:∀(l:List Nat) (e:Nat) (c:CS),vK c (l++[e])=(vK c l).jl e
 |[],_,_=>rfl
 |a::r,e,c=>by rw[List.cons_append,vK,KQ r];rfl
theorem X8:∀t:Ty,0<tsz t
 |.basic _=>Nat.one_pos
 |.named _ _=>Nat.one_pos
 |.bytes _ _ _=>Nat.one_pos
 |.array _ _ _=>by simp[tsz]
 |.opt _=>by simp[tsz]
 |.void=>Nat.one_pos
theorem Ce(of:Ty)(ar:List Arm)(els:Option Decl)(c:CS):nP of ar els c =
  vK (LM (aG of c).2.L.length (gp c.tabs.length ((aG of c).2.put (aG of c).1,[]) ar) els).1 (LM (aG of c).2.L.length (gp c.tabs.length ((aG of c).2.put (aG of c).1,[]) ar) els).2:=by
 cases els<;>rfl
def iU:List Decl→Nat
 |[]=>0
 |d::r=>tsz d.ty+iU r
theorem uT:∀(l:List Decl) (c:CS),(iO c l).L.length=c.L.length+iU l
 |[],c=>rfl
 |d::r,c=>by rw[iO,uT r,dD,iU];omega
theorem Hw:∀(l:List Decl) (d:Decl) (c:CS),iO c (l++[d])=lower d.ty (iO c l)
 |[],_,_=>rfl
 |a::r,d,c=>by rw[List.cons_append,iO,Hw r];rfl
theorem Fe:∀(l:List Decl) (k:Nat),iU (l.take k)+iU (l.drop k)=iU l
 |[],k=>by simp[iU]
 |a::r,0=>by simp[iU]
 |a::r,k+1=>by simp only[List.take_succ_cons,List.drop_succ_cons,iU];have:=Fe r k;omega
def bodyC(d:Def)(c:CS):CS:=
 let c1:CS:={ c with start:=bg c.start d.name c.L.length }
 match d.k with
 |.alias t=>lower t c1
 |.enum _ nums=>(c1.gW (members nums)).put { ins 4 with table:=some c1.tabs.length }
 |.struct ds=>iO (c1.put { ins 11 with n:=ds.length }) ds
 |.union of _ arms els=>nP of arms els c1
 |_=>c
theorem PT{α β:Type}[BEq α]{m:List (α×β)}{a:α}{v:β}(h:m.lookup a=none):bg m a v=m++[(a,v)]:=by
 induction m with
 |nil=>rfl
 |cons x r ih=>
  rw[List.lookup_cons]at h
  cases hb:a==x.1 with
  |true=>rw[hb]at h;cases h
  |false=>rw[hb]at h;simp[bg,hb,ih h]
def wU(t:Ty):Nat:=tsz t+1
def gY:List gq→Nat
 |[]=>0
 |q::r=>wU q.res+wU q.arg+gY r
def kT:List gI→Nat
 |[]=>0
 |v::r=>gY v.procs+kT r
theorem Gp(t:Ty)(c:CS):(jb t c).L.length=c.L.length+wU t:=by rw[jb,bQ,dD,wU];omega
theorem Ed(g v:Int):∀(l:List gq) (c:CS),(gm g v c l).L.length=c.L.length+gY l
 |[],c=>rfl
 |q::r,c=>by rw[gm,Ed g v r];show (jb q.arg (jb q.res c)).L.length+_=_;rw[Gp,Gp,gY];omega
theorem xq(g:Int):∀(l:List gI) (c:CS),(gZ g c l).L.length=c.L.length+kT l
 |[],c=>rfl
 |v::r,c=>by rw[gZ,xq g r,Ed,kT];simp only;omega
def Am(g v:Int)(c:CS)(q:gq):CS:=
 let c1:=jb q.res c
 let c2:=jb q.arg c1
 {c2 with procs:=bg c2.procs (g,v,q.n) (c1.L.length,c.L.length,q.arg==.void,q.res==.void) }
def O3(g:Int)(c:CS)(v:gI):CS:=gm g v.n { c with dL:=bg c.dL g ((c.dL.lookup g).getD []++[v.n]) } v.procs
theorem Hu(g v:Int):∀(l:List gq) (q:gq) (c:CS),gm g v c (l++[q])=Am g v (gm g v c l) q
 |[],_,_=>rfl
 |a::r,q,c=>by rw[List.cons_append,gm,Hu g v r];rfl
theorem Jd(g:Int):∀(l:List gI) (v:gI) (c:CS),gZ g c (l++[v])=O3 g (gZ g c l) v
 |[],_,_=>rfl
 |a::r,v,c=>by rw[List.cons_append,gZ,Jd g r];rfl
theorem Fb:∀(l:List gq) (k:Nat),gY (l.take k)+gY (l.drop k)=gY l
 |[],k=>by simp[gY]
 |a::r,0=>by simp[gY]
 |a::r,k+1=>by simp only[List.take_succ_cons,List.drop_succ_cons,gY];have:=Fb r k;omega
theorem G8:∀(l:List gI) (k:Nat),kT (l.take k)+kT (l.drop k)=kT l
 |[],k=>by simp[kT]
 |a::r,0=>by simp[kT]
 |a::r,k+1=>by simp only[List.take_succ_cons,List.drop_succ_cons,kT];have:=G8 r k;omega
theorem yU:∀(t:Ty) (c:CS),(lower t c).dL=c.dL
 |.basic s,c=>rfl
 |.named s a,c=>rfl
 |.bytes _ f n,c=>rfl
 |.array t f n,c=>by rw[lower];exact yU t _
 |.opt t,c=>by rw[lower];exact yU t _
 |.void,c=>rfl
theorem Ak(g v:Int):∀(l:List gq) (c:CS),(gm g v c l).dL=c.dL
 |[],c=>rfl
 |q::r,c=>by
  rw[gm,Ak g v r]
  show (lower q.arg (lower q.res c|>.put (ins 16))).dL=c.dL
  rw[yU];exact yU _ _
theorem FK{α β:Type}[BEq α]{m:List (α×β)}{a:α}{v:β}{x:α×β}(h:x∈bg m a v):x∈m∨x=(a,v):=by
 induction m with
 |nil=>simp[bg]at h;exact Or.inr h
 |cons y r ih=>
  unfold bg at h
  split at h
  ·rcases List.mem_cons.mp h with h|h
   ·exact Or.inr h
   ·exact Or.inl (List.mem_cons_of_mem _ h)
  ·rcases List.mem_cons.mp h with h|h
   ·exact Or.inl (by rw[h];exact List.mem_cons_self ..)
   ·rcases ih h with h|h
    ·exact Or.inl (List.mem_cons_of_mem _ h)
    ·exact Or.inr h
theorem Ov(d:Def)(c:CS):c.L.length≤(gB d c).L.length:=by
 obtain⟨nm,at_,dk⟩:=d
 cases dk with
 |alias t=>show c.L.length≤((lower t _).put (ins 7)).L.length;rw[bQ,dD];simp only;omega
 |enum ns is=>simp[gB,CS.put,CS.gW]
 |struct ds=>show c.L.length≤((iO _ ds).put (ins 7)).L.length;rw[bQ,uT,bQ];simp only;omega
 |union o n ar els=>show c.L.length≤((nP o ar els _).put (ins 7)).L.length;rw[bQ,DW];simp only;omega
 |const n=>exact Nat.le_refl _
 |prog n vs=>exact Nat.le_refl _
theorem MR(d:Def)(c:CS):c.L.length≤(nN c d).L.length:=by
 unfold nN
 cases h:d.k with
 |prog n vs=>simp only;rw[xq];simp only;omega
 |_=>simp only;exact Ov d { c with defs:=bg c.defs d.name d }
theorem KT:∀(l:List Def) (c:CS),c.L.length≤(aF c l).L.length
 |[],_=>Nat.le_refl _
 |d::r,c=>Nat.le_trans (MR d c) (KT r _)
theorem gU:∀(l:List Def) (d:Def) (c:CS),aF c (l++[d])=nN (aF c l) d
 |[],_,_=>rfl
 |a::r,d,c=>by rw[List.cons_append,aF,gU r];rfl
theorem MQ:∀(l r:List Def) (c:CS),aF c (l++r)=aF (aF c l) r
 |[],_,_=>rfl
 |a::l,r,c=>by rw[List.cons_append,aF,MQ l r];rfl
def kU(c:CS):List By→CS
 |[]=>c
 |s::r=>kU { c with types:=bg c.types s c.L.length,L:=c.L++[{ ins 6 with to:=((c.start.lookup s).getD 0:Nat) },ins 16] } r
theorem Hl:∀(l:List By) (s:By) (c:CS),kU c (l++[s])=kU (kU c l) [s]
 |[],_,_=>rfl
 |a::r,s,c=>by rw[List.cons_append,kU,Hl r];rfl
theorem Jh:∀(l:List By) (c:CS),(kU c l).L.length=c.L.length+2*l.length
 |[],c=>rfl
 |s::r,c=>by rw[kU,Jh r];simp only[List.length_append,List.length_cons,List.length_nil];omega
theorem EK:∀(l:List By) (c:CS),(kU c l).start=c.start
 |[],c=>rfl
 |s::r,c=>by rw[kU,EK r]
def fine(ds:List Def):Bool:=
 let c:=aF CS.empty ds
 jr CS.empty ds&&decide (c.L.length+2*c.start.length<1000000)&&(c.calls.all fun x=>decide (x.1<c.L.length))&&(c.defs.all fun x=>jE x.2)&&Sr c ds&&decide (ds.length<1000000)
end Go.M
namespace Go.M
structure Lim where
 depth:Int
 fuel:Int
 size:Int deriving DecidableEq
def w32:By→Nat
 |a::b::c::d::_=>a.toNat*16777216+b.toNat*65536+c.toNat*256+d.toNat
 |_=>0
def sgn32(w:Int):Int:=if w % 4294967296<2147483648 then w % 4294967296 else w % 4294967296 - 4294967296
def fits(op:Nat)(set:Option Tab)(n:Int):Bool:=
 if op==0 then n==sgn32 n
 else if op==1 then n==n % 4294967296
 else if op==3 then n==0||n==1
 else if op==4 then((set.getD []).lookup n).isSome
 else true
def VJ(tabs:List Tab)(o:Option Nat):Option Tab:=o.map fun i=>(tabs[i]?).getD []
def target(tabs:List Tab)(i:Ins)(n:Int):Int:=
 if !fits i.of_ (VJ tabs i.set) n then -1
 else match ((VJ tabs i.table).getD []).lookup n with
  |some t=>t
  |none=>i.to
end Go.M
namespace Go.M
structure Wy (σ:Type) where
 leaf:Ins→σ→Res σ
 list:Ins→σ→Res (Int×σ)
 option:σ→Res (Bool×σ)
 union:Ins→σ→Res (Int×σ)
 place:σ→Nat
def insOk(len:Nat)(tabs:List Tab)(i:Ins):Bool:=decide (0≤i.n∧i.n≤4294967295∧i.to<len∧(i.op=13∨0≤i.to))&&((VJ tabs i.table).getD []).all fun x=>decide (i.op=13→x.2<len)
end Go.M
namespace Go.M
def u32(n:Int):Nat:=(n % 4294967296).toNat
end Go.M
namespace Go.M
structure Wz (σ:Type) where
 leaf:Nat→Bool→Int→List Int→σ→Res σ
 list:Bool→Int→σ→Res (Int×σ)
 option:σ→Res (Bool×σ)
 union:Nat→List Int→(Int→Option Bool)→σ→Res (Int×σ)
 place:σ→Nat
def Yq:Ty→Nat
 |.basic s=>jT s
 |_=>4
def VU(defs:List (By×Def)):Ty→List Int
 |.named s _=>(match defs.lookup s with
  |some ⟨_,_,.enum _ nums⟩=>nums
  |_=>[])
 |_=>[]
section
variable {σ:Type} {L:List Ins} {lim:Lim} {io:Wy σ}
end
def gy:Ty→Nat→List Ins
 |.basic s,_=>[ins (jT s)]
 |.named _ _,_=>[ins 6]
 |.bytes _ f n,_=>[{ ins 5 with n:=n,fixed:=f }]
 |.array t f n,b=>{ ins (if f then 8 else 9)with n:=n,to:=((b+tsz t+2:Nat):Int) }::(gy t (b+1)++[ins 10])
 |.opt t,b=>{ ins 12 with to:=((b+tsz t+1:Nat):Int) }::gy t (b+1)
 |.void,_=>[ins 15]
def jg:Ty→Nat→List (Nat×By×Nat)
 |.named s a,b=>[(b,s,a)]
 |.array t _ _,b=>jg t (b+1)
 |.opt t,b=>jg t (b+1)
 |_,_=>[]
theorem eU:∀(t:Ty) (b:Nat),(gy t b).length=tsz t
 |.basic _,_=>rfl
 |.named _ _,_=>rfl
 |.bytes _ _ _,_=>rfl
 |.array t _ _,b=>by simp[gy,tsz,eU t]
 |.opt t,b=>by simp[gy,tsz,eU t]
 |.void,_=>rfl
theorem Eo{α:Type}(l:List α)(x:α)(r:List α)(f:α→α):(l++x::r).modify l.length f=l++f x::r:=by
 induction l with
 |nil=>rfl
 |cons a l ih=>simp only[List.cons_append,List.length_cons,List.modify_succ_cons,ih]
def CS.grow(c:CS)(l:List Ins)(k:List (Nat×By×Nat)):CS:={ c with L:=c.L++l,calls:=c.calls++k }
theorem grow_grow(c:CS)(l l':List Ins)(k k':List (Nat×By×Nat)):(c.grow l k).grow l' k'=c.grow (l++l') (k++k'):=by simp[CS.grow]
theorem jH(c:CS)(i:Ins):c.put i=c.grow [i] []:=by simp[CS.put,CS.grow]
theorem Jm(c:CS)(x:Ins)(r:List Ins)(k:List (Nat×By×Nat)):(c.grow (x::r) k).jl c.L.length=c.grow ({ x with to:=((c.L.length+r.length+1:Nat):Int) }::r) k:=by
 unfold CS.jl CS.grow
 simp only[Eo]
 congr 3
 simp only[List.length_append,List.length_cons]
 congr 2
theorem xY(c:CS)(l:List Ins)(k:List (Nat×By×Nat)):(c.grow l k).L.length=c.L.length+l.length:=by simp[CS.grow]
theorem lower_eq:∀(t:Ty) (c:CS),lower t c=c.grow (gy t c.L.length) (jg t c.L.length)
 |.basic s,c=>by rw[lower,jH];rfl
 |.named s a,c=>by simp[lower,CS.ref,gy,jg,CS.grow]
 |.bytes _ f n,c=>by rw[lower,jH];rfl
 |.array t f n,c=>by
  rw[lower,jH c,lower_eq t,jH,grow_grow,grow_grow,List.nil_append,List.append_nil,List.singleton_append,Jm]
  rw[gy,jg,xY]
  congr 3
  simp[eU]
  omega
 |.opt t,c=>by
  rw[lower,jH c,lower_eq t,grow_grow,List.nil_append,List.singleton_append,Jm]
  rw[gy,jg,xY]
  congr 3
  simp[eU]
 |.void,c=>by rw[lower,jH];rfl
end Go.M
namespace Go.M
def Jl(e:Int):Ins:={ ins 14 with to:=e }
def uw:List Arm→Nat→Int→List Ins
 |[],_,_=>[]
 |a::r,b,e=>gy a.decl.ty b++Jl e::uw r (b+tsz a.decl.ty+1) e
def nH:List Arm→Nat→List (Nat×By×Nat)
 |[],_=>[]
 |a::r,b=>jg a.decl.ty b++nH r (b+tsz a.decl.ty+1)
def yg:List Arm→Nat→List Nat
 |[],_=>[]
 |a::r,b=>(b+tsz a.decl.ty)::yg r (b+tsz a.decl.ty+1)
def BV(b:Nat)(m:Tab):List Int→Tab
 |[]=>m
 |n::r=>BV b (bg m n b) r
def zf:List Arm→Nat→Tab→Tab
 |[],_,m=>m
 |a::r,b,m=>zf r (b+tsz a.decl.ty+1) (BV b m a.nums)
def IC:Option Decl→Nat→Int→List Ins
 |none,_,_=>[]
 |some d,b,e=>gy d.ty b++[Jl e]
def BR:Option Decl→Nat→List (Nat×By×Nat)
 |none,_=>[]
 |some d,b=>jg d.ty b
def FZ:Option Decl→Nat→List Nat
 |none,_=>[]
 |some d,b=>[b+tsz d.ty]
theorem yf:∀(l:List Arm) (b:Nat) (e:Int),(uw l b e).length=bT l
 |[],_,_=>rfl
 |a::r,b,e=>by simp only[uw,bT,List.length_append,List.length_cons,eU,yf r];omega
theorem Xe:∀(l:Option Decl) (b:Nat) (e:Int),(IC l b e).length=lI l
 |none,_,_=>rfl
 |some d,b,e=>by simp[IC,lI,eU]
def CS.more(c:CS)(l:List Ins)(k:List (Nat×By×Nat))(t:List Tab):CS:={ c with L:=c.L++l,calls:=c.calls++k,tabs:=c.tabs++t }
theorem xX(c:CS)(l:List Ins)(k:List (Nat×By×Nat)):c.grow l k=c.more l k []:=by simp[CS.grow,CS.more]
theorem UL(c:CS)(l l':List Ins)(k k':List (Nat×By×Nat))(t t':List Tab):(c.more l k t).more l' k' t'=c.more (l++l') (k++k') (t++t'):=by simp[CS.more]
def CS.turn(c:CS)(ti:Nat)(f:Tab→Tab):CS:={ c with tabs:=c.tabs.modify ti f }
theorem MV(ti:Nat):∀(l:List Int) (c:CS),iD ti c l=c.turn ti fun m=>BV c.L.length m l
 |[],c=>by
  unfold iD CS.turn BV
  rw[show (fun m:Tab=>m)=id from rfl,List.modify_id]
 |n::r,c=>by
  rw[iD,MV ti r]
  simp only[CS.turn,CS.yH,List.modify_modify_eq]
  rfl
theorem Ud(c:CS)(l:List Nat)(d:Decl):Du (c,l) d=(c.grow (gy d.ty c.L.length++[Jl 0]) (jg d.ty c.L.length),l++[c.L.length+tsz d.ty]):=by
 unfold Du
 simp only[lower_eq,jH,grow_grow,List.append_nil,xY,eU]
 rfl
theorem QM(ti:Nat):∀(l:List Arm) (c:CS) (es:List Nat),gp ti (c,es) l=((c.grow (uw l c.L.length 0) (nH l c.L.length)).turn ti (zf l c.L.length),es++yg l c.L.length)
 |[],c,es=>by
  simp only[gp,uw,nH,yg,CS.grow,CS.turn,List.append_nil]
  rw[show zf [] c.L.length=id from rfl,List.modify_id]
 |a::r,c,es=>by
  rw[gp,MV,Ud,QM ti r]
  have e:(c.turn ti fun m=>BV c.L.length m a.nums).L=c.L:=rfl
  simp only[xY,e,List.length_append,eU,List.length_singleton]
  simp only[CS.grow,CS.turn,List.modify_modify_eq,uw,nH,yg,List.append_assoc,List.cons_append,List.nil_append,Nat.add_assoc]
  rfl
def BQ(e:Int)(L:List Ins):List Nat→List Ins
 |[]=>L
 |a::r=>BQ e (L.modify a fun i=>{ i with to:=e }) r
theorem Qy:∀(l:List Nat) (c:CS),vK c l={ c with L:=BQ (c.L.length:Nat) c.L l }
 |[],c=>rfl
 |a::r,c=>by
  rw[vK,Qy r]
  simp only[CS.jl,List.length_modify]
  rfl
theorem FW(e:Int):∀(l r:List Nat) (L:List Ins),BQ e L (l++r)=BQ e (BQ e L l) r
 |[],_,_=>rfl
 |a::l,r,L=>by rw[List.cons_append,BQ,FW e l r];rfl
theorem GH{α:Type}(l:List α)(x:α)(r:List α)(f:α→α)(n:Nat)(h:n=l.length):(l++x::r).modify n f=l++f x::r:=by subst h;exact Eo l x r f
theorem KP(e:Int):∀(l:List Arm) (pre post:List Ins),BQ e (pre++(uw l pre.length 0++post)) (yg l pre.length)=pre++(uw l pre.length e++post)
 |[],pre,post=>rfl
 |a::r,pre,post=>by
  rw[yg,BQ,uw,uw]
  simp only[List.append_assoc,List.cons_append]
  rw[← List.append_assoc pre,GH _ _ _ _ _ (by rw[List.length_append,eU])]
  have k:=KP e r (pre++gy a.decl.ty pre.length++[Jl e]) post
  have hl:(pre++gy a.decl.ty pre.length++[Jl e]).length=pre.length+tsz a.decl.ty+1:=by simp[eU];omega
  rw[hl]at k
  simp only[List.append_assoc,List.cons_append,List.nil_append]at k ⊢
  exact k
theorem U3(e:Int):∀(l:Option Decl) (pre post:List Ins),BQ e (pre++(IC l pre.length 0++post)) (FZ l pre.length)=pre++(IC l pre.length e++post)
 |none,pre,post=>rfl
 |some d,pre,post=>by
  rw[FZ,BQ,BQ,IC,IC]
  simp only[List.append_assoc,List.cons_append,List.nil_append]
  rw[← List.append_assoc pre,GH _ _ _ _ _ (by rw[List.length_append,eU])]
  simp only[List.append_assoc,List.cons_append,List.nil_append]
  rfl
def nT(defs:List (By×Def)):Ty→List Tab
 |.named s _=>(match defs.lookup s with
  |some ⟨_,_,.enum _ nums⟩=>[members nums]
  |_=>[])
 |_=>[]
def DL(defs:List (By×Def))(of:Ty)(tb:Nat)(to:Int):Ins:=
 {ins 13 with of_:=Yq of,to:=to,table:=some tb,set:=match nT defs of with|[]=>none|_::_=>some (tb+1) }
theorem NC(of:Ty)(c:CS):aG of c=(DL c.defs of c.tabs.length (-1),{ c with tabs:=c.tabs++[]::nT c.defs of }):=by
 unfold aG DL nT
 cases of with
 |named s a=>
  simp only[CS.gW,Yq]
  cases hl:c.defs.lookup s with
  |none=>simp[ins]
  |some d=>
   obtain⟨_,_,k⟩:=d
   cases k<;>simp[ins]
 |_=>simp[CS.gW,Yq,ins]
def Ih(els:Option Decl)(b:Nat):Int:=match els with
 |none => -1
 |some _=>(b:Nat)
def Jg(defs:List (By×Def))(of:Ty)(arms:List Arm)(els:Option Decl)(b tb:Nat):List Ins:=
 let e:Int:=((b+1+bT arms+lI els:Nat):Int)
 DL defs of tb (Ih els (b+1+bT arms))::(uw arms (b+1) e++IC els (b+1+bT arms) e)
def yC(arms:List Arm)(els:Option Decl)(b:Nat):List (Nat×By×Nat):=nH arms (b+1)++BR els (b+1+bT arms)
theorem Y8(at_:Nat)(c:CS)(es:List Nat)(els:Option Decl)(pre post:List Ins)(i:Ins)(h:c.L=pre++i::post)(ha:at_=pre.length)(hi:i.to = -1):
  LM at_ (c,es) els=({ c with L:=pre++{ i with to:=Ih els c.L.length }::post++IC els c.L.length 0,calls:=c.calls++BR els c.L.length },es++FZ els c.L.length):=by
 cases els with
 |none=>
  simp only[LM,IC,BR,FZ,Ih,List.append_nil,← hi,← h]
 |some d=>
  rw[LM,Ud]
  have e:(c.jl at_).L=pre++{ i with to:=Ih (some d) c.L.length }::post:=by
   simp only[CS.jl]
   rw[h,GH _ _ _ _ _ ha]
   simp[Ih]
  have e2:(c.jl at_).L.length=c.L.length:=by simp[CS.jl]
  rw[e2]
  simp only[CS.grow,e,IC,BR,FZ]
  rfl
theorem Rl(of:Ty)(arms:List Arm)(els:Option Decl)(c:CS):nP of arms els c =
  c.more (Jg c.defs of arms els c.L.length c.tabs.length) (yC arms els c.L.length) (zf arms (c.L.length+1) []::nT c.defs of):=by
 rw[Ce,NC]
 simp only[jH]
 rw[QM]
 have l1:(CS.grow { c with tabs:=c.tabs++[]::nT c.defs of } [DL c.defs of c.tabs.length (-1)] []).L.length=c.L.length+1:=by simp[CS.grow]
 rw[l1]
 rw[Y8 (pre:=c.L) (i:=DL c.defs of c.tabs.length (-1)) (post:=uw arms (c.L.length+1) 0) (h:=by simp[CS.grow,CS.turn]) (ha:=rfl) (hi:=rfl)]
 have l2:((CS.grow (CS.grow { c with tabs:=c.tabs++[]::nT c.defs of } [DL c.defs of c.tabs.length (-1)] []) (uw arms (c.L.length+1) 0) (nH arms (c.L.length+1))).turn c.tabs.length (zf arms (c.L.length+1))).L.length=c.L.length+1+bT arms:=by
  simp[CS.grow,CS.turn,yf];omega
 rw[l2,Qy]
 simp only[CS.grow,CS.turn,CS.more,yC,List.append_assoc,List.nil_append,List.append_nil,Eo]
 congr 1
 rw[Jg]
 simp only[List.length_append,List.length_cons,yf,Xe]
 rw[FW]
 have a0:c.L.length+(bT arms+1+lI els)=c.L.length+(bT arms+lI els+1):=by omega
 rw[a0]
 have k1:=KP ((c.L.length+(bT arms+lI els+1):Nat):Int) arms (c.L++[{ DL c.defs of c.tabs.length (-1)with to:=Ih els (c.L.length+1+bT arms) }]) (IC els (c.L.length+1+bT arms) 0)
 have k2:=U3 ((c.L.length+(bT arms+lI els+1):Nat):Int) els (c.L++{ DL c.defs of c.tabs.length (-1)with to:=Ih els (c.L.length+1+bT arms) }::uw arms (c.L.length+1) ((c.L.length+(bT arms+lI els+1):Nat):Int)) []
 simp only[List.length_append,List.length_nil,Nat.zero_add,List.length_cons,yf,List.append_assoc,List.cons_append,List.nil_append,List.append_nil]at k1 k2
 have a1:c.L.length+(bT arms+1)=c.L.length+1+bT arms:=by omega
 rw[a1]at k2
 simp only[List.cons_append,List.append_assoc]
 rw[k1,k2]
 have a2:c.L.length+(bT arms+lI els+1)=c.L.length+1+bT arms+lI els:=by omega
 rw[a2]
 rfl
def Gt:List Decl→Nat→List Ins
 |[],_=>[]
 |d::r,b=>gy d.ty b++Gt r (b+tsz d.ty)
def qA:List Decl→Nat→List (Nat×By×Nat)
 |[],_=>[]
 |d::r,b=>jg d.ty b++qA r (b+tsz d.ty)
theorem JE:∀(l:List Decl) (c:CS),iO c l=c.grow (Gt l c.L.length) (qA l c.L.length)
 |[],c=>by simp[iO,Gt,qA,CS.grow]
 |d::r,c=>by
  rw[iO,lower_eq,JE r,grow_grow,xY,eU]
  rfl
def zn(defs:List (By×Def))(b tb:Nat):Dk→List Ins
 |.alias t=>gy t b++[ins 7]
 |.enum _ nums=>[{ ins 4 with table:=some tb },ins 7]
 |.struct ds=>{ ins 11 with n:=ds.length }::(Gt ds (b+1)++[ins 7])
 |.union of _ arms els=>Jg defs of arms els b tb++[ins 7]
 |_=>[]
def nC(b:Nat):Dk→List (Nat×By×Nat)
 |.alias t=>jg t b
 |.struct ds=>qA ds (b+1)
 |.union _ _ arms els=>yC arms els b
 |_=>[]
def lH(defs:List (By×Def))(b:Nat):Dk→List Tab
 |.enum _ nums=>[members nums]
 |.union of _ arms _=>zf arms (b+1) []::nT defs of
 |_=>[]
def isType:Dk→Bool
 |.const _=>false
 |.prog _ _=>false
 |_=>true
theorem KU(d:Def)(c:CS)(h:isType d.k=true):gB d c =
  ({ c with start:=bg c.start d.name c.L.length }:CS).more (zn c.defs c.L.length c.tabs.length d.k) (nC c.L.length d.k) (lH c.defs c.L.length d.k):=by
 obtain⟨nm,a,k⟩:=d
 cases k with
 |const n=>cases h
 |prog n vs=>cases h
 |alias t=>simp only[gB,lower_eq,jH,grow_grow,xX];simp[zn,nC,lH,CS.more]
 |enum ns is=>simp[gB,CS.put,CS.gW,CS.more,zn,nC,lH]
 |struct ds=>
  simp only[gB,JE,jH,grow_grow,xX,xY]
  simp[zn,nC,lH,CS.more]
 |union of nm arms els=>
  simp only[gB,Rl,jH,xX,UL]
  simp[zn,nC,lH]
theorem Ii(d:Def)(c:CS)(h:isType d.k=false):gB d c=c:=by
 obtain⟨nm,a,k⟩:=d
 cases k<;>first|rfl|cases h
theorem xx(t:Ty)(c:CS):jb t c=c.grow (gy t c.L.length++[ins 16]) (jg t c.L.length):=by
 rw[jb,lower_eq,jH,grow_grow,List.append_nil]
end Go.M
namespace Go.M
def Seg{α:Type}(L:List α)(p:Nat)(l:List α):Prop:=∀i x,l[i]?=some x→L[p+i]?=some x
section
variable {α:Type} {L:List α} {p:Nat}
theorem Seg.right{a b:List α}(h:Seg L p (a++b)):Seg L (p+a.length) b:=fun i x hx=>by
 rw[Nat.add_assoc];exact h (a.length+i) x (by rw[List.getElem?_append_right (by omega)];rw[Nat.add_sub_cancel_left];exact hx)
theorem Seg.app{l m:List α}(h:Seg L p l):Seg (L++m) p l:=fun i x hx=>by
 have:=h i x hx
 rw[List.getElem?_append_left (List.getElem?_eq_some_iff.mp this).1];exact this
theorem Seg.last(L l:List α):Seg (L++l) L.length l:=fun i x hx=>by rw[List.getElem?_append_right (by omega),Nat.add_sub_cancel_left];exact hx
end
theorem dY{α β:Type}[BEq α][LawfulBEq α](m:List (α×β))(a b:α)(v:β):(bg m a v).lookup b=if b==a then some v else m.lookup b:=by
 induction m with
 |nil=>
  simp only[bg,List.lookup_cons,List.lookup_nil]
  cases b==a<;>rfl
 |cons x r ih=>
  unfold bg
  by_cases h:(a==x.1)=true
  ·rw[if_pos h,List.lookup_cons,List.lookup_cons]
   have hx:x.1=a:=(eq_of_beq h).symm
   rw[hx]
   cases h2:b==a with
   |true=>rw[if_pos rfl]
   |false=>rw[if_neg (by simp)]
  ·rw[if_neg h,List.lookup_cons,List.lookup_cons,ih]
   cases h2:b==x.1 with
   |true=>
    have hb:b=x.1:=eq_of_beq h2
    have:(b==a)=false:=by
     rw[hb]
     cases hc:x.1==a with
     |false=>rfl
     |true=>exact absurd (by rw[eq_of_beq hc];exact beq_self_eq_true a) h
    rw[this]
    rfl
   |false=>rfl
def uU(defs:List (By×Def)):Dk→Bool
 |.union of _ _ _=>(match of with
  |.basic _=>true
  |.named s _=>(match defs.lookup s with
   |some ⟨_,_,.enum _ _⟩=>true
   |_=>false)
  |_=>false)
 |_=>true
def Grw(a b:List (By×Def)):Prop:=∀s d,a.lookup s=some d→isType d.k=true→b.lookup s=some d
theorem Pj{a b:List (By×Def)}{of:Ty}{n:By}{arms:List Arm}{els:Option Decl}(h:uU a (.union of n arms els)=true)(g:Grw a b):nT b of=nT a of∧VU b of=VU a of∧uU b (.union of n arms els)=true:=by
 cases of with
 |named s p=>
  simp only[uU]at h
  cases hl:a.lookup s with
  |none=>rw[hl]at h;cases h
  |some d=>
   rw[hl]at h
   obtain⟨x,y,k⟩:=d
   cases k with
   |enum ns is=>
    have:=g s _ hl rfl
    simp only[nT,VU,uU,hl,this,and_self]
   |_=>cases h
 |basic s=>exact⟨rfl,rfl,rfl⟩
 |_=>cases h
theorem Qm{a b:List (By×Def)}{k:Dk}(h:uU a k=true)(g:Grw a b)(p tb:Nat):zn b p tb k=zn a p tb k∧lH b p k=lH a p k∧uU b k=true:=by
 cases k with
 |union of n arms els=>
  obtain⟨e,_,e3⟩:=Pj h g
  simp only[zn,lH,Jg,DL,e,e3,and_self]
 |_=>exact⟨rfl,rfl,rfl⟩
def Ew(c:CS)(t:Ty)(p:Nat):Prop:=Seg c.L p (gy t p++[ins 16])∧∀x∈jg t p,x∈c.calls
structure LI (c:CS):Prop where
 calls:∀x∈c.calls,c.L[x.1]?=some (ins 6)
 sorted:c.calls.Pairwise fun a b=>a.1<b.1
 start:∀s p,c.start.lookup s=some p→∃d tb,c.defs.lookup s=some d∧isType d.k=true∧uU c.defs d.k=true∧Seg c.L p (zn c.defs p tb d.k)∧(∀x∈nC p d.k,x∈c.calls)∧Seg c.tabs tb (lH c.defs p d.k)
 back:∀s d,c.defs.lookup s=some d→isType d.k=true→(c.start.lookup s).isSome=true
 procs:∀key v,c.procs.lookup key=some v→∃ta tr,Ew c ta v.1∧Ew c tr v.2.1∧v.2.2.1=(ta==.void)∧v.2.2.2=(tr==.void)
theorem LI.empty:LI CS.empty:=⟨fun x h=>(by cases h),List.Pairwise.nil,fun s p h=>(by cases h),fun s d h=>(by cases h),fun k v h=>(by cases h)⟩
theorem BH{α:Type}{L:List α}{p:Nat}{x:α}(h:L[p]?=some x):p<L.length:=(List.getElem?_eq_some_iff.mp h).1
theorem GU:∀(t:Ty) (b:Nat) (x),x∈jg t b→b≤x.1∧(gy t b)[x.1 - b]?=some (ins 6)
 |.basic _,_,_,h=>by cases h
 |.named s a,b,x,h=>by
  rw[jg,List.mem_singleton]at h
  subst h
  exact⟨Nat.le_refl _,by simp[gy]⟩
 |.bytes _ _ _,_,_,h=>by cases h
 |.array t f n,b,x,h=>by
  rw[jg]at h
  obtain⟨h1,h2⟩:=GU t (b+1) x h
  refine⟨by omega,?_⟩
  rw[gy,show x.1 - b=(x.1 - (b+1))+1 by omega,List.getElem?_cons_succ,List.getElem?_append_left (BH h2)]
  exact h2
 |.opt t,b,x,h=>by
  rw[jg]at h
  obtain⟨h1,h2⟩:=GU t (b+1) x h
  refine⟨by omega,?_⟩
  rw[gy,show x.1 - b=(x.1 - (b+1))+1 by omega,List.getElem?_cons_succ]
  exact h2
 |.void,_,_,h=>by cases h
theorem xn:∀(t:Ty) (b:Nat),(jg t b).Pairwise fun a b=>a.1<b.1
 |.basic _,_=>List.Pairwise.nil
 |.named s a,b=>List.pairwise_singleton _ _
 |.bytes _ _ _,_=>List.Pairwise.nil
 |.array t f n,b=>xn t (b+1)
 |.opt t,b=>xn t (b+1)
 |.void,_=>List.Pairwise.nil
def bY(b:Nat)(l:List Ins)(k:List (Nat×By×Nat)):Prop:=(∀x∈k,b≤x.1∧l[x.1 - b]?=some (ins 6))∧k.Pairwise fun a b=>a.1<b.1
theorem bY.ty(t:Ty)(b:Nat):bY b (gy t b) (jg t b):=⟨GU t b,xn t b⟩
theorem bY.app{b:Nat}{l l':List Ins}{k k':List (Nat×By×Nat)}(h:bY b l k)(h':bY (b+l.length) l' k'):bY b (l++l') (k++k'):=by
 constructor
 ·intro x hx
  rcases List.mem_append.mp hx with hx|hx
  ·obtain⟨h1,h2⟩:=h.1 x hx
   exact⟨h1,by rw[List.getElem?_append_left (BH h2)];exact h2⟩
  ·obtain⟨h1,h2⟩:=h'.1 x hx
   refine⟨by omega,?_⟩
   rw[List.getElem?_append_right (by omega),show x.1 - b - l.length=x.1 - (b+l.length)by omega]
   exact h2
 ·refine List.pairwise_append.mpr ⟨h.2,h'.2,fun x hx y hy=>?_⟩
  obtain⟨h1,h2⟩:=h.1 x hx
  obtain⟨h3,_⟩:=h'.1 y hy
  have:=BH h2
  omega
theorem bY.none(b:Nat)(l:List Ins):bY b l []:=⟨fun x h=>(by cases h),List.Pairwise.nil⟩
theorem bY.behind{b:Nat}{l l':List Ins}{k:List (Nat×By×Nat)}(h:bY b l k):bY b (l++l') k:=by
 have:=h.app (bY.none (b+l.length) l')
 rwa [List.append_nil]at this
theorem bY.cons{b:Nat}{i:Ins}{l:List Ins}{k:List (Nat×By×Nat)}(h:bY (b+1) l k):bY b (i::l) k:=(bY.none b [i]).app h
theorem DN:∀(l:List Decl) (b:Nat),bY b (Gt l b) (qA l b)
 |[],b=>bY.none _ _
 |d::r,b=>by
  rw[Gt,qA]
  refine(bY.ty d.ty b).app ?_
  rw[eU]
  exact DN r _
theorem F7:∀(l:List Arm) (b:Nat) (e:Int),bY b (uw l b e) (nH l b)
 |[],b,e=>bY.none _ _
 |a::r,b,e=>by
  rw[uw,nH]
  refine(bY.ty a.decl.ty b).app ?_
  rw[eU]
  exact(F7 r _ e).cons
theorem QH(l:Option Decl)(b:Nat)(e:Int):bY b (IC l b e) (BR l b):=by
 cases l with
 |none=>exact bY.none _ _
 |some d=>exact(bY.ty d.ty b).behind
theorem Ox(defs:List (By×Def))(b tb:Nat)(k:Dk):bY b (zn defs b tb k) (nC b k):=by
 cases k with
 |alias t=>exact(bY.ty t b).behind
 |struct ds=>exact((DN ds (b+1)).behind).cons
 |union of n arms els=>
  simp only[zn,nC,Jg,yC]
  refine bY.behind (bY.cons ((F7 arms (b+1) _).app ?_))
  rw[yf]
  exact QH els _ _
 |_=>exact bY.none _ _
theorem Ew.more{c:CS}{t:Ty}{p:Nat}(h:Ew c t p)(l:List Ins)(k:List (Nat×By×Nat))(tb:List Tab):Ew (c.more l k tb) t p:=
 ⟨h.1.app,fun x hx=>List.mem_append_left _ (h.2 x hx)⟩
theorem LI.more{c:CS}(h:LI c){l:List Ins}{k:List (Nat×By×Nat)}(tb:List Tab)(hk:bY c.L.length l k):LI (c.more l k tb):=by
 refine⟨?_,?_,?_,h.back,?_⟩
 ·intro x hx
  rcases List.mem_append.mp hx with hx|hx
  ·have:=h.calls x hx
   exact(by rw[CS.more];simp only;rw[List.getElem?_append_left (BH this)];exact this)
  ·obtain⟨h1,h2⟩:=hk.1 x hx
   rw[CS.more];simp only;rw[List.getElem?_append_right h1];exact h2
 ·refine List.pairwise_append.mpr ⟨h.sorted,hk.2,fun x hx y hy=>?_⟩
  have:=BH (h.calls x hx)
  have:=(hk.1 y hy).1
  omega
 ·intro s p hs
  obtain⟨d,i,h1,h2,h3,h4,h5,h6⟩:=h.start s p hs
  exact⟨d,i,h1,h2,h3,h4.app,fun x hx=>List.mem_append_left _ (h5 x hx),h6.app⟩
 ·intro key v hv
  obtain⟨ta,tr,h1,h2,h3,h4⟩:=h.procs key v hv
  exact⟨ta,tr,h1.more _ _ _,h2.more _ _ _,h3,h4⟩
theorem LI.side{c:CS}(h:LI c)(t:Ty):LI (jb t c)∧Ew (jb t c) t c.L.length:=by
 rw[xx,xX]
 refine⟨h.more [] ((bY.ty t _).behind),Seg.last _ _,fun x hx=>List.mem_append_right _ hx⟩
theorem LI.Am{c:CS}(h:LI c)(g v:Int)(q:gq):LI (Am g v c q):=by
 obtain⟨h1,h2⟩:=h.side q.res
 obtain⟨h3,h4⟩:=h1.side q.arg
 have h2':Ew (jb q.arg (jb q.res c)) q.res c.L.length:=by
  have:=h2.more (gy q.arg (jb q.res c).L.length++[ins 16]) (jg q.arg (jb q.res c).L.length) []
  rw[xx q.arg,xX]
  exact this
 refine⟨h3.calls,h3.sorted,h3.start,h3.back,?_⟩
 intro key w hw
 unfold M.Am at hw
 simp only[dY]at hw
 split at hw
 ·cases hw
  exact⟨q.arg,q.res,h4,h2',rfl,rfl⟩
 ·exact h3.procs key w hw
theorem LI.gm(g v:Int):∀(l:List gq) {c:CS},LI c→LI (gm g v c l)
 |[],c,h=>h
 |q::r,c,h=>LI.gm g v r (h.Am g v q)
theorem LI.gZ(g:Int):∀(l:List gI) {c:CS},LI c→LI (gZ g c l)
 |[],c,h=>h
 |v::r,c,h=>by
  rw[M.gZ]
  refine LI.gZ g r (LI.gm g v.n v.procs ?_)
  exact⟨h.calls,h.sorted,h.start,h.back,h.procs⟩
theorem LI.defs{c:CS}(h:LI c)(d:Def)(hn:c.start.lookup d.name=none):LI { c with defs:=bg c.defs d.name d }∨isType d.k=true:=by
 cases ht:isType d.k with
 |true=>exact Or.inr rfl
 |false=>
 refine Or.inl ⟨h.calls,h.sorted,?_,?_,h.procs⟩
 ·intro s p hs
  have hs':c.start.lookup s=some p:=hs
  obtain⟨x,i,h1,h2,h3,h4,h5,h6⟩:=h.start s p hs'
  have g:Grw c.defs (bg c.defs d.name d):=fun s' d' e1 e2=>by
   rw[dY]
   have:=h.back s' d' e1 e2
   cases hb:s'==d.name with
   |false=>exact e1
   |true=>rw[eq_of_beq hb,hn]at this;cases this
  obtain⟨e1,e2,e3⟩:=Qm h3 g p i
  exact⟨x,i,g s x h1 h2,h2,e3,by rw[e1];exact h4,h5,by rw[e2];exact h6⟩
 ·intro s x hs hx
  simp only[dY]at hs
  split at hs
  ·cases hs;rw[ht]at hx;cases hx
  ·exact h.back s x hs hx
theorem LI.nN{c:CS}(h:LI c)(d:Def)(hn:c.start.lookup d.name=none)(hof:uU (bg c.defs d.name d) d.k=true):LI (nN c d):=by
 have g:Grw c.defs (bg c.defs d.name d):=fun s' d' e1 e2=>by
  rw[dY]
  have:=h.back s' d' e1 e2
  cases hb:s'==d.name with
  |false=>exact e1
  |true=>rw[eq_of_beq hb,hn]at this;cases this
 cases ht:isType d.k with
 |false=>
  have h0:=(h.defs d hn).resolve_right (by rw[ht];simp)
  unfold M.nN
  cases hk:d.k with
  |prog n vs=>exact LI.gZ n vs h0
  |const n=>simp only;rw[Ii _ _ ht];exact h0
  |_=>rw[hk]at ht;cases ht
 |true=>
  have e:M.nN c d=gB d { c with defs:=bg c.defs d.name d }:=by
   unfold M.nN
   cases hk:d.k with
   |prog n vs=>rw[hk]at ht;cases ht
   |_=>rfl
  rw[e,KU _ _ ht]
  have hL:c.L.length=({ c with defs:=bg c.defs d.name d,start:=bg c.start d.name c.L.length }:CS).L.length:=rfl
  have hc:=Ox (bg c.defs d.name d) c.L.length c.tabs.length d.k
  refine⟨?_,?_,?_,?_,?_⟩
  ·intro x hx
   rcases List.mem_append.mp hx with hx|hx
   ·have:=h.calls x hx
    show (c.L++_)[x.1]?=_
    rw[List.getElem?_append_left (BH this)];exact this
   ·obtain⟨h1,h2⟩:=hc.1 x hx
    show (c.L++_)[x.1]?=_
    rw[List.getElem?_append_right h1];exact h2
  ·refine List.pairwise_append.mpr ⟨h.sorted,hc.2,fun x hx y hy=>?_⟩
   have:=BH (h.calls x hx)
   have:=(hc.1 y hy).1
   omega
  ·intro s p hs
   simp only[CS.more,dY]at hs
   split at hs
   ·rename_i hb
    cases hs
    have hb:s=d.name:=eq_of_beq hb
    subst hb
    refine⟨d,c.tabs.length,?_,ht,hof,Seg.last _ _,fun x hx=>List.mem_append_right _ hx,Seg.last _ _⟩
    show (bg c.defs d.name d).lookup d.name=_
    rw[dY,beq_self_eq_true];rfl
   ·obtain⟨x,i,h1,h2,h3,h4,h5,h6⟩:=h.start s p hs
    obtain⟨e1,e2,e3⟩:=Qm h3 g p i
    exact⟨x,i,g s x h1 h2,h2,e3,by show Seg _ _ (zn (bg c.defs d.name d) p i x.k);rw[e1];exact h4.app,fun y hy=>List.mem_append_left _ (h5 y hy),by show Seg _ _ (lH (bg c.defs d.name d) p x.k);rw[e2];exact h6.app⟩
  ·intro s x hs hx
   simp only[CS.more,dY]at hs ⊢
   split
   ·rfl
   ·rename_i hb
    rw[if_neg hb]at hs
    exact h.back s x hs hx
  ·intro key v hv
   obtain⟨ta,tr,h1,h2,h3,h4⟩:=h.procs key v hv
   exact⟨ta,tr,⟨h1.1.app,fun y hy=>List.mem_append_left _ (h1.2 y hy)⟩,⟨h2.1.app,fun y hy=>List.mem_append_left _ (h2.2 y hy)⟩,h3,h4⟩
theorem Nz{c:CS}{of:Ty}{n:By}{arms:List Arm}{els:Option Decl}(h:lM c of=true):uU c.defs (.union of n arms els)=true:=by
 cases of with
 |named s a=>
  simp only[lM,uU]at h ⊢
  cases hl:c.defs.lookup s with
  |none=>rw[hl]at h;cases h
  |some d=>
   rw[hl]at h
   obtain⟨x,y,k⟩:=d
   cases k with
   |enum ns is=>rfl
   |_=>cases h
 |basic s=>rfl
 |_=>cases h
theorem LI.aF:∀(l:List Def) {c:CS},LI c→jr c l=true→LI (aF c l)
 |[],c,h,_=>h
 |d::r,c,h,hw=>by
  rw[M.aF]
  rw[jr]at hw
  simp only[Bool.and_eq_true]at hw
  obtain⟨⟨⟨h1,_⟩,h2⟩,h3⟩:=hw
  refine LI.aF r (h.nN d (Option.isNone_iff_eq_none.mp h2) ?_) h3
  cases hk:d.k with
  |union of n arms els=>
   rw[hk]at h1
   exact Nz h1
  |_=>rfl
end Go.M
namespace Go.M
structure Rsv (L L':List Ins) (calls:List (Nat×By×Nat)) (start:List (By×Nat)):Prop where
 len:L'.length=L.length
 other:∀(p:Nat) (x:Ins),L[p]?=some x→x.op≠6→L'[p]?=some x
 call:∀x∈calls,∃t,start.lookup x.2.1=some t∧L'[x.1]?=some { ins 6 with to:=((t:Nat):Int) }
def Nb(L:List Ins)(start:List (By×Nat)):Ty→Nat→Prop
 |.basic s,p=>L[p]?=some (ins (jT s))
 |.named s _,p=>∃t,start.lookup s=some t∧L[p]?=some { ins 6 with to:=((t:Nat):Int) }
 |.bytes _ f n,p=>L[p]?=some { ins 5 with n:=n,fixed:=f }
 |.array t f n,p=>L[p]?=some { ins (if f then 8 else 9)with n:=n,to:=((p+tsz t+2:Nat):Int) }∧Nb L start t (p+1)∧L[p+1+tsz t]?=some (ins 10)
 |.opt t,p=>L[p]?=some { ins 12 with to:=((p+tsz t+1:Nat):Int) }∧Nb L start t (p+1)
 |.void,p=>L[p]?=some (ins 15)
section
variable {L L':List Ins} {calls:List (Nat×By×Nat)} {start:List (By×Nat)}
def ZP(L:List Ins)(start:List (By×Nat)):List Decl→Nat→Prop
 |[],_=>True
 |d::r,p=>Nb L start d.ty p∧ZP L start r (p+tsz d.ty)
def ZQ(L:List Ins)(start:List (By×Nat))(e:Int):List Arm→Nat→Prop
 |[],_=>True
 |a::r,p=>Nb L start a.decl.ty p∧L[p+tsz a.decl.ty]?=some (Jl e)∧ZQ L start e r (p+tsz a.decl.ty+1)
def CodeE(L:List Ins)(start:List (By×Nat))(e:Int):Option Decl→Nat→Prop
 |none,_=>True
 |some d,p=>Nb L start d.ty p∧L[p+tsz d.ty]?=some (Jl e)
def CodeK(L:List Ins)(tabs:List Tab)(start:List (By×Nat))(defs:List (By×Def))(p tb:Nat):Dk→Prop
 |.alias t=>Nb L start t p∧L[p+tsz t]?=some (ins 7)
 |.enum _ nums=>L[p]?=some { ins 4 with table:=some tb }∧tabs[tb]?=some (members nums)∧L[p+1]?=some (ins 7)
 |.struct ds=>L[p]?=some { ins 11 with n:=ds.length }∧ZP L start ds (p+1)∧L[p+1+iU ds]?=some (ins 7)
 |.union of _ arms els=>L[p]?=some (DL defs of tb (Ih els (p+1+bT arms)))∧tabs[tb]?=some (zf arms (p+1) [])∧Seg tabs (tb+1) (nT defs of) ∧
   ZQ L start ((p+1+bT arms+lI els:Nat):Int) arms (p+1)∧CodeE L start ((p+1+bT arms+lI els:Nat):Int) els (p+1+bT arms)∧L[p+1+bT arms+lI els]?=some (ins 7)
 |_=>True
end
structure Prg (L:List Ins) (tabs:List Tab) (start:List (By×Nat)) (defs:List (By×Def)):Prop where
 named:∀s p,start.lookup s=some p→∃d tb,defs.lookup s=some d∧isType d.k=true∧uU defs d.k=true∧CodeK L tabs start defs p tb d.k
def FU:Ty→Bool
 |.basic _=>true
 |.named _ _=>true
 |_=>false
def okN(f:Bool)(n:Int):Bool:=if f then decide (1≤n∧n≤1000)else decide (0≤n∧n≤4294967295)
theorem JG{f:Bool}{n:Int}(h:okN f n=true):0≤n∧n≤4294967295∧(f=true→1≤n∧n≤1000):=by
 unfold okN at h
 cases f with
 |true=>simp only[if_true,decide_eq_true_eq]at h;exact⟨by omega,by omega,fun _=>h⟩
 |false=>simp only[Bool.false_eq_true,if_false,decide_eq_true_eq]at h;exact⟨h.1,h.2,fun h=>by cases h⟩
def okT:Ty→Bool
 |.array t f n=>FU t&&okN f n
 |.opt t=>FU t
 |.bytes _ f n=>okN f n
 |_=>true
def i32(n:Int):Bool:=decide (-2147483648≤n∧n≤2147483647)
def okK:Dk→Bool
 |.alias t=>okT t&&t != .void
 |.enum _ nums=>nums.all i32
 |.struct ds=>((!ds.isEmpty)&&decide (ds.length≤12))&&ds.all fun d=>okT d.ty&&d.ty != .void
 |.union of _ arms els=>((Yq of != 2)&&arms.all fun a=>okT a.decl.ty)&&els.all fun d=>okT d.ty
 |_=>true
theorem Y6{t:Ty}(h:FU t=true):okT t=true:=by cases t<;>first|rfl|cases h
section
variable {σ:Type} {L:List Ins} {tabs:List Tab} {lim:Lim} {io:Wy σ} {z:Wz σ} {start:List (By×Nat)} {defs:List (By×Def)}
end
end Go.M
namespace Go.M
section
variable {σ:Type} {L:List Ins} {tabs:List Tab} {lim:Lim} {io:Wy σ} {z:Wz σ} {start:List (By×Nat)} {defs:List (By×Def)}
def okDefs(defs:List (By×Def)):Prop:=∀s d,defs.lookup s=some d→okK d.k=true
end
end Go.M
namespace Go.M
end Go.M
namespace Go.M
section
variable {σ:Type} {z:Wz σ} {Q:σ→σ→Prop}
end
section
variable {σ τ:Type} {z:Wz σ} {y:Wz τ} {G:σ→Prop} {R:σ→τ→Prop}
end
end Go.M
namespace Go.M
end Go.M
namespace Go.M
end Go.M
namespace Go.M
end Go.M
namespace Go.M
section
variable {lim:Lim}
end
end Go.M
namespace Go.M
structure IOk (len:Nat) (tabs:List Tab) (i:Ins):Prop where
 n:0≤i.n∧i.n≤4294967295
 to:i.to<len
 ge:i.op=13∨0≤i.to
 tab:i.op=13→∃tb m,i.table=some tb∧tabs[tb]?=some m∧∀x∈m,x.2<len
def okP:Dk→Bool
 |.prog _ vs=>vs.all fun v=>v.procs.all fun q=>okT q.arg&&okT q.res
 |_=>true
structure Tidy (ds:List Def):Prop where
 fine:fine ds=true
 ok:∀d∈ds,okK d.k=true∧okP d.k=true
structure Comp (ds:List Def) (c:CS):Prop where
 li:LI (aF CS.empty ds)
 start:c.start=(aF CS.empty ds).start
 defs:c.defs=(aF CS.empty ds).defs
 tabs:c.tabs=(aF CS.empty ds).tabs
 procs:c.procs=(aF CS.empty ds).procs
 dL:c.dL=(aF CS.empty ds).dL
 rsv:Rsv (aF CS.empty ds).L c.L (aF CS.empty ds).calls (aF CS.empty ds).start
 prg:Prg c.L c.tabs c.start c.defs
 defsOk:okDefs c.defs
 all:∀i∈c.L,IOk c.L.length c.tabs i
 len:c.L.length+2*c.start.length<1000000
structure Whole (ds:List Def) (c d:CS):Prop where
 comp:Comp ds c
 start:d.start=c.start
 defs:d.defs=c.defs
 tabs:d.tabs=c.tabs
 procs:d.procs=c.procs
 dL:d.dL=c.dL
 prg:Prg d.L d.tabs d.start d.defs
 all:∀i∈d.L,insOk d.L.length d.tabs i=true
 len:d.L.length<1000000
 pre:∃r,d.L=c.L++r
 has:∀s,(d.types.lookup s).isSome=(d.start.lookup s).isSome
 ent:∀s p,d.types.lookup s=some p→∃t,d.start.lookup s=some t∧d.L[p]?=some { ins 6 with to:=((t:Nat):Int) }∧d.L[p+1]?=some (ins 16)
end Go.M
namespace Go.M
def Kn{α:Type}(m:Res α)(f:α→Nat×Nat×Nat)(n:Nat×Nat×Nat):Prop:=∀a,m=.ok a→f a=n
theorem Kn.ok{α:Type}{a:α}{f:α→Nat×Nat×Nat}{n:Nat×Nat×Nat}(h:f a=n):Kn (.ok a) f n:=fun b hb=>by cases hb;exact h
theorem Kn.no{α:Type}{e a:Nat}{f:α→Nat×Nat×Nat}{n:Nat×Nat×Nat}:Kn (.no e a) f n:=fun b hb=>by cases hb
theorem Kn.ite{α:Type}{c:Prop}[Decidable c]{A B:Res α}{f:α→Nat×Nat×Nat}{n:Nat×Nat×Nat}(h1:Kn A f n)(h2:Kn B f n):Kn (if c then A else B) f n:=by
 split
 ·exact h1
 ·exact h2
theorem Kn.bind{α β:Type}{m:Res α}{k:α→Res β}{f:β→Nat×Nat×Nat}{n:Nat×Nat×Nat}(g:α→Nat×Nat×Nat)(h1:Kn m g n)(h2:∀a,g a=n→Kn (k a) f n):Kn (m.andThen k) f n:=fun b hb=>by
 obtain⟨a,ha,hk⟩:=Res.then_ok hb
 exact h2 a (h1 a ha) b hk
variable {n:Nat×Nat×Nat} {p:PS}
theorem lG{q:PS}(a b:Nat):Kn (count q a b) (fun _=>n) n:=fun _ _=>rfl
theorem fM(h:nn p=n):Kn (advance p) nn n:=fun q hq=>(yQ hq).trans h
theorem eY{l:List By}(h:nn p=n):Kn (want p l) nn n:=fun q hq=>(dZ hq).trans h
theorem qB(h:nn p=n):Kn (own p) (fun x=>nn x.2) n:=fun q hq=>(vg hq).trans h
theorem kG{σ:Type}{lo hi:Int}{k:Int→Nat→Res σ}(h:nn p=n):Kn (value p lo hi k) (fun x=>nn x.2.2) n:=fun q hq=>(uZ hq).trans h
theorem gz{s:By}(h:nn p=n):Kn (take p s) (fun x=>nn x.2) n:=by
 unfold take
 refine Kn.ite ?_ (Kn.ok h)
 exact Kn.bind _ (fM h) fun q hq=>Kn.ok hq
theorem fV{l:List By}(h:nn p=n):Kn (called p l) (fun x=>nn x.2.2) n:=by
 unfold called
 refine Kn.bind (fun _=>n) (fun _ _=>rfl) fun w _=>Kn.bind (fun _=>n) (fun _ _=>rfl) fun l _=>?_
 (repeat' (first|exact Kn.no|exact Kn.ok (by assumption)|refine Kn.ite ?_ ?_|refine Kn.bind _ (lG _ _) fun _ _=>?_|refine Kn.bind _ (eY (by assumption)) fun _ _=>?_|refine Kn.bind _ (fM (by assumption)) fun _ _=>?_|refine Kn.bind _ (gz (by assumption)) fun _ _=>?_|refine Kn.bind _ (qB (by assumption)) fun _ _=>?_|refine Kn.bind _ (fV (by assumption)) fun _ _=>?_|refine Kn.bind _ (kG (by assumption)) fun _ _=>?_))
theorem MJ(h:nn p=n):Kn (kindOf p) (fun x=>nn x.2) n:=by
 unfold kindOf
 (repeat' (first|exact Kn.no|exact Kn.ok (by assumption)|refine Kn.ite ?_ ?_|refine Kn.bind _ (lG _ _) fun _ _=>?_|refine Kn.bind _ (eY (by assumption)) fun _ _=>?_|refine Kn.bind _ (fM (by assumption)) fun _ _=>?_|refine Kn.bind _ (gz (by assumption)) fun _ _=>?_|refine Kn.bind _ (qB (by assumption)) fun _ _=>?_|refine Kn.bind _ (fV (by assumption)) fun _ _=>?_|refine Kn.bind _ (kG (by assumption)) fun _ _=>?_))
theorem Qk(h:nn p=n):Kn (bound p) (fun x=>nn x.2.2) n:=by
 unfold bound
 (repeat' (first|exact Kn.no|exact Kn.ok (by assumption)|refine Kn.ite ?_ ?_|refine Kn.bind _ (lG _ _) fun _ _=>?_|refine Kn.bind _ (eY (by assumption)) fun _ _=>?_|refine Kn.bind _ (fM (by assumption)) fun _ _=>?_|refine Kn.bind _ (gz (by assumption)) fun _ _=>?_|refine Kn.bind _ (qB (by assumption)) fun _ _=>?_|refine Kn.bind _ (fV (by assumption)) fun _ _=>?_|refine Kn.bind _ (kG (by assumption)) fun _ _=>?_))
theorem TL{σ:Type}{nm:PS→Res (Wd×σ×PS)}(hn:∀q,nn q=n→Kn (nm q) (fun x=>nn x.2.2) n)(h:nn p=n):Kn (decl nm p) (fun x=>nn x.2.2.2) n:=by
 unfold decl
 refine Kn.ite ?_ ?_
 ·refine Kn.bind _ (fM h) fun q hq=>Kn.bind _ (hn q hq) fun x hx=>Kn.ite Kn.no ?_
  refine Kn.bind _ (Qk hx) fun y hy=>Kn.ok hy
 ·refine Kn.bind _ (MJ h) fun t ht=>Kn.bind _ (gz ht) fun y hy=>Kn.ite ?_ ?_
  ·refine Kn.bind _ (hn _ hy) fun x hx=>Kn.ok hx
  ·refine Kn.bind _ (hn _ hy) fun x hx=>Kn.ite ?_ (Kn.ok hx)
   refine Kn.bind _ (Qk hx) fun y hy=>Kn.ok hy
theorem MI{l:List By}(h:nn p=n):Kn (member p l) (fun x=>nn x.2.2) n:=by
 unfold member
 refine Kn.bind _ (TL (fun q hq=>fV hq) h) fun x hx=>?_
 (repeat' (first|exact Kn.no|exact Kn.ok (by assumption)|refine Kn.ite ?_ ?_|refine Kn.bind _ (lG _ _) fun _ _=>?_|refine Kn.bind _ (eY (by assumption)) fun _ _=>?_|refine Kn.bind _ (fM (by assumption)) fun _ _=>?_|refine Kn.bind _ (gz (by assumption)) fun _ _=>?_|refine Kn.bind _ (qB (by assumption)) fun _ _=>?_|refine Kn.bind _ (fV (by assumption)) fun _ _=>?_|refine Kn.bind _ (kG (by assumption)) fun _ _=>?_))
theorem Ql(h:nn p=n):Kn (alias p) (fun x=>nn x.2) n:=by
 unfold alias
 refine Kn.bind _ (eY h) fun q hq=>Kn.bind _ (TL (nm:=zi) (fun q hq=>Kn.bind _ (qB hq) fun x hx=>Kn.ok hx) hq) fun x hx=>?_
 (repeat' (first|exact Kn.no|exact Kn.ok (by assumption)|refine Kn.ite ?_ ?_|refine Kn.bind _ (lG _ _) fun _ _=>?_|refine Kn.bind _ (eY (by assumption)) fun _ _=>?_|refine Kn.bind _ (fM (by assumption)) fun _ _=>?_|refine Kn.bind _ (gz (by assumption)) fun _ _=>?_|refine Kn.bind _ (qB (by assumption)) fun _ _=>?_|refine Kn.bind _ (fV (by assumption)) fun _ _=>?_|refine Kn.bind _ (kG (by assumption)) fun _ _=>?_))
theorem DF:∀(k:Nat) {p:PS} {ds:List Decl} {l:List By},nn p=n→Kn (dB k p ds l) (fun x=>nn x.2) n
 |0,_,_,_,_=>Kn.no
 |k+1,p,ds,l,h=>by
  rw[dB]
  refine Kn.bind _ (MI h) fun d hd=>Kn.bind _ (gz hd) fun x hx=>Kn.ite (Kn.ok hx) (DF k hx)
theorem MH(h:nn p=n):Kn (fJ p) (fun x=>nn x.2) n:=by
 unfold fJ
 refine Kn.bind _ (eY h) fun q hq=>Kn.bind _ (qB hq) fun w hw=>Kn.bind _ (eY hw) fun q hq=>Kn.bind _ (DF 12 hq) fun x hx=>?_
 (repeat' (first|exact Kn.no|exact Kn.ok (by assumption)|refine Kn.ite ?_ ?_|refine Kn.bind _ (lG _ _) fun _ _=>?_|refine Kn.bind _ (eY (by assumption)) fun _ _=>?_|refine Kn.bind _ (fM (by assumption)) fun _ _=>?_|refine Kn.bind _ (gz (by assumption)) fun _ _=>?_|refine Kn.bind _ (qB (by assumption)) fun _ _=>?_|refine Kn.bind _ (fV (by assumption)) fun _ _=>?_|refine Kn.bind _ (kG (by assumption)) fun _ _=>?_))
theorem Iz(h:nn p=n):Kn (aS p) (fun x=>nn x.2) n:=by
 unfold aS
 refine Kn.ite ?_ ?_
 ·cases p.enums.lookup p.w.s with
  |none=>exact Kn.no
  |some l=>exact Kn.bind _ (fM h) fun q hq=>Kn.ok hq
 ·(repeat' (first|exact Kn.no|exact Kn.ok (by assumption)|refine Kn.ite ?_ ?_|refine Kn.bind _ (lG _ _) fun _ _=>?_|refine Kn.bind _ (eY (by assumption)) fun _ _=>?_|refine Kn.bind _ (fM (by assumption)) fun _ _=>?_|refine Kn.bind _ (gz (by assumption)) fun _ _=>?_|refine Kn.bind _ (qB (by assumption)) fun _ _=>?_|refine Kn.bind _ (fV (by assumption)) fun _ _=>?_|refine Kn.bind _ (kG (by assumption)) fun _ _=>?_))
theorem Wx{l:List By}(h:nn p=n):Kn (arm p l) (fun x=>nn x.2.2) n:=by
 unfold arm
 refine Kn.bind _ (gz h) fun x hx=>Kn.ite ?_ (MI hx)
 (repeat' (first|exact Kn.no|exact Kn.ok (by assumption)|refine Kn.ite ?_ ?_|refine Kn.bind _ (lG _ _) fun _ _=>?_|refine Kn.bind _ (eY (by assumption)) fun _ _=>?_|refine Kn.bind _ (fM (by assumption)) fun _ _=>?_|refine Kn.bind _ (gz (by assumption)) fun _ _=>?_|refine Kn.bind _ (qB (by assumption)) fun _ _=>?_|refine Kn.bind _ (fV (by assumption)) fun _ _=>?_|refine Kn.bind _ (kG (by assumption)) fun _ _=>?_))
theorem Ia{lo hi:Int}{nums:Option (List Int)}:∀(k:Nat) {p:PS} {a t:List Int},nn p=n→Kn (dK lo hi nums k p a t) (fun x=>nn x.2.2) n
 |0,_,_,_,_=>Kn.no
 |k+1,p,a,t,h=>by
  rw[dK]
  refine Kn.bind _ (eY h) fun q hq=>Kn.bind _ (kG hq) fun v hv=>Kn.bind _ (eY hv) fun q hq=>Kn.ite (Ia k hq) (Kn.ok hq)
theorem Ky{lo hi:Int}{nums:Option (List Int)}:∀(k:Nat) {p:PS} {ar:List Arm} {l:List By} {t:List Int},nn p=n→Kn (gG lo hi nums k p ar l t) (fun x=>nn x.2.2) n
 |0,_,_,_,_,_=>Kn.no
 |k+1,p,ar,l,t,h=>by
  rw[gG]
  refine Kn.bind _ (Ia _ h) fun c hc=>Kn.bind _ (Wx hc) fun d hd=>Kn.ite (Ky k hd) (Kn.ok hd)
theorem Qj(h:nn p=n):Kn (union p) (fun x=>nn x.2) n:=by
 unfold union
 refine Kn.bind _ (eY h) fun q hq=>Kn.bind _ (qB hq) fun w hw=>Kn.bind _ (eY hw) fun q hq=>Kn.bind _ (Iz hq) fun d hd=>Kn.bind _ (fV hd) fun m hm=>Kn.bind _ (eY hm) fun q hq=>?_
 refine Kn.bind _ (Ky 13 hq) fun x hx=>Kn.bind _ (gz hx) fun y hy=>Kn.bind (fun e=>nn e.2) (Kn.ite ?_ (Kn.ok hy)) fun e he=>?_
 ·refine Kn.bind _ (eY hy) fun q hq=>Kn.bind _ (Wx hq) fun e he=>Kn.ok he
 ·(repeat' (first|exact Kn.no|exact Kn.ok (by assumption)|refine Kn.ite ?_ ?_|refine Kn.bind _ (lG _ _) fun _ _=>?_|refine Kn.bind _ (eY (by assumption)) fun _ _=>?_|refine Kn.bind _ (fM (by assumption)) fun _ _=>?_|refine Kn.bind _ (gz (by assumption)) fun _ _=>?_|refine Kn.bind _ (qB (by assumption)) fun _ _=>?_|refine Kn.bind _ (fV (by assumption)) fun _ _=>?_|refine Kn.bind _ (kG (by assumption)) fun _ _=>?_))
theorem TK(h:nn p=n):Kn (side p) (fun x=>nn x.2) n:=by
 unfold side
 exact Kn.bind _ (gz h) fun x hx=>Kn.ite (Kn.ok hx) (MJ hx)
theorem wJ{l:List Int}(h:nn p=n):Kn (numbered p l) (fun x=>nn x.2.2) n:=by
 unfold numbered
 (repeat' (first|exact Kn.no|exact Kn.ok (by assumption)|refine Kn.ite ?_ ?_|refine Kn.bind _ (lG _ _) fun _ _=>?_|refine Kn.bind _ (eY (by assumption)) fun _ _=>?_|refine Kn.bind _ (fM (by assumption)) fun _ _=>?_|refine Kn.bind _ (gz (by assumption)) fun _ _=>?_|refine Kn.bind _ (qB (by assumption)) fun _ _=>?_|refine Kn.bind _ (fV (by assumption)) fun _ _=>?_|refine Kn.bind _ (kG (by assumption)) fun _ _=>?_))
theorem H8:∀(k:Nat) {p:PS} {qs:List gq} {l:List By} {t:List Int},nn p=n→Kn (dX k p qs l t) (fun x=>nn x.2) n
 |0,_,_,_,_,_=>Kn.no
 |k+1,p,qs,l,t,h=>by
  rw[dX]
  refine Kn.bind _ (TK h) fun r hr=>Kn.bind _ (fV hr) fun m hm=>Kn.bind _ (eY hm) fun q hq=>Kn.bind _ (TK hq) fun a ha=>Kn.bind _ (eY ha) fun q hq=>Kn.bind _ (wJ hq) fun v hv=>Kn.bind _ (gz hv) fun x hx=>Kn.ite (Kn.ok hx) (H8 k hx)
theorem RX{l:List By}{t:List Int}(h:nn p=n):Kn (version p l t) (fun x=>nn x.2.2.2) n:=by
 unfold version
 refine Kn.bind _ (eY h) fun q hq=>Kn.bind _ (fV hq) fun m hm=>Kn.bind _ (eY hm) fun q hq=>Kn.bind _ (H8 8 hq) fun x hx=>Kn.bind _ (wJ hx) fun v hv=>Kn.ok hv
theorem BK:∀(k:Nat) {p:PS} {vs:List gI} {l:List By} {t:List Int},nn p=n→Kn (fE k p vs l t) (fun x=>nn x.2) n
 |0,_,_,_,_,_=>Kn.no
 |k+1,p,vs,l,t,h=>by
  rw[fE]
  refine Kn.bind _ (RX h) fun v hv=>Kn.bind _ (gz hv) fun x hx=>Kn.ite (Kn.ok hx) (BK k hx)
def sum(p:PS):Nat:=p.n0+p.n1+p.n2
theorem yG{p q:PS}(h:nn p=nn q):sum p=sum q:=by
 simp only[nn,Prod.mk.injEq]at h
 unfold sum;omega
theorem NH{x:Def×PS}(h:constant p=.ok x):sum p+1≤sum x.2:=by
 obtain⟨_,_,h⟩:=Res.then_ok h
 obtain⟨q1,h1,h⟩:=Res.then_ok h
 obtain⟨q2,h2,h⟩:=Res.then_ok h
 obtain⟨q3,h3,h⟩:=Res.then_ok h
 obtain⟨q4,h4,h⟩:=Res.then_ok h
 obtain⟨q5,h5,h⟩:=Res.then_ok h
 cases h
 have:=yG ((dZ h5).trans ((uZ h4).trans ((dZ h3).trans ((vg h2).trans (dZ h1)))))
 show sum p+1≤q5.n0+(q5.n1+1)+q5.n2
 unfold sum at *;omega
theorem Pg{x:Def×PS}(h:program p=.ok x):sum p+1≤sum x.2:=by
 obtain⟨_,_,h⟩:=Res.then_ok h
 obtain⟨q1,h1,h⟩:=Res.then_ok h
 obtain⟨q2,h2,h⟩:=Res.then_ok h
 obtain⟨q3,h3,h⟩:=Res.then_ok h
 obtain⟨q4,h4,h⟩:=Res.then_ok h
 obtain⟨q5,h5,h⟩:=Res.then_ok h
 cases h
 have:=yG ((wJ rfl _ h5).trans ((BK 4 rfl _ h4).trans ((dZ h3).trans ((vg h2).trans (dZ h1)))))
 show sum p+1≤q5.2.2.n0+q5.2.2.n1+q5.2.2.n2
 unfold sum at *;simp only at this;omega
theorem EN:∀(k:Nat) {p:PS} {ns:List By} {is:List Int} {x:List By×List Int×PS},fG k p ns is=.ok x→sum p≤sum x.2.2
 |0,_,_,_,_,h=>by cases h
 |k+1,p,ns,is,x,h=>by
  rw[fG]at h
  obtain⟨_,_,h⟩:=Res.then_ok h
  obtain⟨q1,h1,h⟩:=Res.then_ok h
  obtain⟨q2,h2,h⟩:=Res.then_ok h
  obtain⟨q3,h3,h⟩:=Res.then_ok h
  obtain⟨q4,h4,h⟩:=Res.then_ok h
  have a1:=yG ((uZ h3).trans ((dZ h2).trans (vg h1)))
  have a2:=yG (gz rfl _ h4)
  have a3:sum p+1≤sum q4.2:=by
   rw[a2]
   show sum p+1≤q3.2.2.n0+(q3.2.2.n1+1)+q3.2.2.n2
   unfold sum at *;omega
  split at h
  ·have:=EN k h;omega
  ·cases h;show sum p≤sum q4.2;omega
theorem VK{x:Def×PS}(h:enum p=.ok x):sum p≤sum x.2:=by
 obtain⟨q1,h1,h⟩:=Res.then_ok h
 obtain⟨q2,h2,h⟩:=Res.then_ok h
 obtain⟨q3,h3,h⟩:=Res.then_ok h
 obtain⟨q4,h4,h⟩:=Res.then_ok h
 obtain⟨q5,h5,h⟩:=Res.then_ok h
 cases h
 have a1:=yG ((dZ h3).trans ((vg h2).trans (dZ h1)))
 have a2:=EN 12 h4
 have a3:=yG (dZ h5)
 show sum p≤sum q5
 omega
theorem Jk{x:Def×PS}(h:definition p=.ok x):sum p+1≤sum x.2:=by
 have up:∀{f:PS→Res (Def×PS)},(∀{q:PS} {x:Def×PS},f q=.ok x→sum q≤sum x.2)→((count p p.n0 24).andThen fun _=>f { p with n0:=p.n0+1 })=.ok x→sum p+1≤sum x.2:=by
  intro f hf h
  obtain⟨_,_,h⟩:=Res.then_ok h
  have:=hf h
  show p.n0+p.n1+p.n2+1≤_
  have e:sum { p with n0:=p.n0+1 }=p.n0+1+p.n1+p.n2:=rfl
  omega
 unfold definition at h
 split at h
 ·exact NH h
 split at h
 ·exact Pg h
 simp only at h
 split at h
 ·exact up (fun h=>Nat.le_of_eq (yG (Ql rfl _ h)).symm) h
 split at h
 ·exact up VK h
 split at h
 ·exact up (fun h=>Nat.le_of_eq (yG (MH rfl _ h)).symm) h
 split at h
 ·exact up (fun h=>Nat.le_of_eq (yG (Qj rfl _ h)).symm) h
 cases h
end Go.M
namespace Go.M
def Yl{α:Type}(m:Res α)(Q:α→Prop):Prop:=∀a,m=.ok a→Q a
theorem Yl.ok{α:Type}{a:α}{Q:α→Prop}(h:Q a):Yl (.ok a) Q:=fun b hb=>by cases hb;exact h
theorem Yl.no{α:Type}{e a:Nat}{Q:α→Prop}:Yl (.no e a:Res α) Q:=fun b hb=>by cases hb
theorem Yl.bind{α β:Type}{m:Res α}{k:α→Res β}{P:α→Prop}{Q:β→Prop}(h:Yl m P)(hk:∀a,P a→Yl (k a) Q):Yl (m.andThen k) Q:=fun b hb=>by
 obtain⟨a,ha,hb⟩:=Res.then_ok hb
 exact hk a (h a ha) b hb
theorem Yl.any{α:Type}{m:Res α}:Yl m (fun _=>True):=fun _ _=>trivial
theorem Yl.bn{α β:Type}{m:Res α}{k:α→Res β}{Q:β→Prop}(hk:∀a,Yl (k a) Q):Yl (m.andThen k) Q:=Yl.bind Yl.any fun a _=>hk a
theorem Yl.ite{α:Type}{c:Prop}[Decidable c]{A B:Res α}{Q:α→Prop}(h1:c→Yl A Q)(h2:¬ c→Yl B Q):Yl (if c then A else B) Q:=by
 split
 ·exact h1 (by assumption)
 ·exact h2 (by assumption)
theorem Yl.mono{α:Type}{m:Res α}{P Q:α→Prop}(h:Yl m P)(k:∀a,P a→Q a):Yl m Q:=fun a ha=>k a (h a ha)
def kindOk(t:Ty):Prop:=FU t=true∧t≠.void∧tsz t=1
theorem kindOk.basic(s:By):kindOk (.basic s):=⟨rfl,by simp,rfl⟩
theorem OE(p:PS):Yl (kindOf p) fun x=>kindOk x.1:=by
 unfold kindOf
 refine Yl.ite (fun _=>Yl.bn fun _=>Yl.ok ⟨rfl,by simp,rfl⟩) fun _=>?_
 refine Yl.bn fun _=>Yl.ite (fun _=>Yl.ok (kindOk.basic _)) fun _=>Yl.bn fun _=>Yl.ite (fun _=>Yl.ok (kindOk.basic _)) fun _=>Yl.bn fun _=>Yl.ite (fun _=>Yl.ok (kindOk.basic _)) fun _=>Yl.bn fun _=>Yl.ite (fun _=>?_) fun _=>Yl.no
 exact Yl.bn fun _=>Yl.ite (fun _=>Yl.ok (kindOk.basic _)) fun _=>Yl.bn fun _=>Yl.ok (kindOk.basic _)
theorem Cc{σ:Type}(p:PS)(lo hi:Int)(keep:Int→Nat→Res σ):Yl (value p lo hi keep) fun x=>lo≤x.1∧x.1≤hi:=fun x hx=>vT hx
theorem SN(p:PS):Yl (bound p) fun x=>okN x.1 x.2.1=true:=by
 unfold bound
 refine Yl.bn fun x=>Yl.ite (fun _=>?_) fun _=>Yl.bn fun p=>Yl.bn fun x=>Yl.ite (fun _=>Yl.ok rfl) fun _=>?_
 ·refine Yl.bind (Cc _ _ _ _) fun y hy=>Yl.bn fun p=>Yl.ok ?_
  simp only[okN,if_true,decide_eq_true_eq];exact hy
 ·refine Yl.bind (Cc _ _ _ _) fun y hy=>Yl.bn fun p=>Yl.ok ?_
  simp only[okN,Bool.false_eq_true,if_false,decide_eq_true_eq];exact hy
def iC(t:Ty):Prop:=okT t=true∧t≠.void∧tsz t≤3
theorem kindOk.decl{t:Ty}(h:kindOk t):iC t:=⟨Y6 h.1,h.2.1,by have:=h.2.2;omega⟩
theorem QU{σ:Type}(nm:PS→Res (Wd×σ×PS))(p:PS):Yl (decl nm p) fun x=>iC x.1.ty:=by
 unfold decl
 refine Yl.ite (fun _=>?_) fun _=>?_
 ·refine Yl.bn fun p=>Yl.bn fun x=>Yl.ite (fun _=>Yl.no) fun _=>Yl.bind (SN _) fun y hy=>Yl.ok ⟨hy,by simp,by simp[tsz]⟩
 ·refine Yl.bind (OE p) fun t ht=>Yl.bn fun y=>Yl.ite (fun _=>?_) fun _=>?_
  ·exact Yl.bn fun x=>Yl.ok ⟨ht.1,by simp,by simp[tsz,ht.2.2]⟩
  ·refine Yl.bn fun x=>Yl.ite (fun _=>?_) fun _=>Yl.ok ht.decl
   refine Yl.bind (SN _) fun z hz=>Yl.ok ⟨?_,by simp,by simp[tsz,ht.2.2]⟩
   simp only[okT,ht.1,hz,Bool.and_self]
theorem OD(p:PS)(l:List By):Yl (member p l) fun x=>iC x.1.ty:=by
 unfold member
 exact Yl.bind (QU _ p) fun x hx=>Yl.bn fun _=>Yl.ok hx
def ja(t:Ty):Prop:=okT t=true∧tsz t≤3
theorem iC.side{t:Ty}(h:iC t):ja t:=⟨h.1,h.2.2⟩
theorem Zt(p:PS)(l:List By):Yl (arm p l) fun x=>ja x.1.ty:=by
 unfold arm
 refine Yl.bn fun x=>Yl.ite (fun _=>Yl.bn fun _=>Yl.ok ⟨rfl,by simp[tsz]⟩) fun _=>(OD _ _).mono fun _ h=>h.side
theorem Va(p:PS):Yl (side p) fun x=>ja x.1:=by
 unfold side
 exact Yl.bn fun x=>Yl.ite (fun _=>Yl.ok ⟨rfl,by simp[tsz]⟩) fun _=>(OE _).mono fun _ h=>h.decl.side
theorem IV:∀(k:Nat) (p:PS) (ns:List By) (is:List Int),(is.all i32=true)→Yl (fG k p ns is) fun x=>x.2.1.all i32=true∧x.2.1.length≤is.length+k
 |0,_,_,_,_=>Yl.no
 |k+1,p,ns,is,h=>by
  rw[fG]
  refine Yl.bn fun _=>Yl.bn fun m=>Yl.bn fun p=>Yl.bind (Cc _ _ _ _) fun v hv=>Yl.bn fun x=>?_
  have h':(is++[v.1]).all i32=true:=by
   rw[List.all_append,h]
   simp only[List.all_cons,List.all_nil,Bool.and_true,Bool.true_and,i32,decide_eq_true_eq]
   exact hv
  refine Yl.ite (fun _=>?_) fun _=>Yl.ok ⟨h',by simp⟩
  exact(IV k _ _ _ h').mono fun a ha=>⟨ha.1,by have:=ha.2;simp at this;omega⟩
theorem EE:∀(k:Nat) (p:PS) (ds:List Decl) (l:List By),(∀d∈ds,iC d.ty)→Yl (dB k p ds l) fun x=>(∀d∈x.1,iC d.ty)∧x.1.length≤ds.length+k∧1≤x.1.length
 |0,_,_,_,_=>Yl.no
 |k+1,p,ds,l,h=>by
  rw[dB]
  refine Yl.bind (OD p l) fun d hd=>Yl.bn fun x=>?_
  have h':∀a∈ds++[d.1],iC a.ty:=fun a ha=>by
   rcases List.mem_append.mp ha with ha|ha
   ·exact h a ha
   ·rw[List.mem_singleton]at ha;subst ha;exact hd
  refine Yl.ite (fun _=>Yl.ok ⟨h',by simp,by simp⟩) fun _=>?_
  exact(EE k _ _ _ h').mono fun a ha=>⟨ha.1,by have:=ha.2.1;simp at this;omega,ha.2.2⟩
def JH(enums:List (By×List Int)):Ty→Prop
 |.basic s=>jT s≠2
 |.named s _=>∃nums,enums.lookup s=some nums
 |_=>False
theorem IW(p:PS):Yl (aS p) fun x=>JH p.enums x.1.1:=by
 unfold aS
 refine Yl.ite (fun _=>?_) fun _=>?_
 ·cases hl:p.enums.lookup p.w.s with
  |none=>exact Yl.no
  |some nums=>exact Yl.bn fun _=>Yl.ok ⟨nums,hl⟩
 ·refine Yl.bn fun _=>Yl.ite (fun _=>Yl.ok (by show jT _≠2;decide)) fun _=>Yl.bn fun _=>Yl.ite (fun _=>Yl.ok (by show jT _≠2;decide)) fun _=>Yl.bn fun _=>Yl.ite (fun _=>Yl.bn fun _=>Yl.ok (by show jT _≠2;decide)) fun _=>Yl.no
theorem IX(lo hi:Int)(nums:Option (List Int)):∀(k:Nat) (p:PS) (a there:List Int),Yl (dK lo hi nums k p a there) fun x=>x.1.length≤a.length+k∧a.length+1≤x.1.length∧x.2.1.length=there.length+(x.1.length - a.length)
 |0,_,_,_=>Yl.no
 |k+1,p,a,there=>by
  rw[dK]
  refine Yl.bn fun p=>Yl.bind (P:=fun v=>v.2.1=there++[v.1]) (fun v hv=>Je hv) fun v hv=>Yl.bn fun p=>Yl.ite (fun _=>?_) fun _=>Yl.ok ?_
  ·refine(IX lo hi nums k _ _ _).mono fun x hx=>?_
   rw[hv]at hx
   simp only[List.length_append,List.length_singleton]at hx
   omega
  ·rw[hv];simp only[List.length_append,List.length_singleton];omega
theorem LV(lo hi:Int)(nums:Option (List Int)):∀(k:Nat) (p:PS) (as:List Arm) (l:List By) (there:List Int),(∀a∈as,ja a.decl.ty∧a.nums.length≤12)→Yl (gG lo hi nums k p as l there) fun x=>(∀a∈x.1,ja a.decl.ty∧a.nums.length≤12)∧x.1.length≤as.length+k
 |0,_,_,_,_,_=>Yl.no
 |k+1,p,as,l,there,h=>by
  rw[gG]
  refine Yl.bind (IX lo hi nums _ p [] there) fun c hc=>Yl.bind (Zt c.2.2 l) fun d hd=>?_
  have h':∀a∈as++[⟨c.1,d.1⟩],ja a.decl.ty∧a.nums.length≤12:=fun a ha=>by
   rcases List.mem_append.mp ha with ha|ha
   ·exact h a ha
   ·rw[List.mem_singleton]at ha;subst ha;exact⟨hd,by have:=hc.1;simp at this;show c.1.length≤12;omega⟩
  refine Yl.ite (fun _=>?_) fun _=>Yl.ok ⟨h',by simp⟩
  exact(LV lo hi nums k _ _ _ _ h').mono fun a ha=>⟨ha.1,by have:=ha.2;simp at this;omega⟩
theorem DT(p:PS)(l:List Int):Yl (numbered p l) fun x=>inRange x.1=true:=by
 unfold numbered
 refine Yl.bn fun p=>Yl.bind (Cc _ _ _ _) fun v hv=>Yl.bn fun p=>Yl.ok ?_
 simp only[inRange,decide_eq_true_eq];exact hv
def JA(q:gq):Prop:=ja q.arg∧ja q.res∧inRange q.n=true
theorem IU:∀(k:Nat) (p:PS) (qs:List gq) (l:List By) (ns:List Int),(∀q∈qs,JA q)→Yl (dX k p qs l ns) fun x=>(∀q∈x.1,JA q)∧x.1.length≤qs.length+k
 |0,_,_,_,_,_=>Yl.no
 |k+1,p,qs,l,ns,h=>by
  rw[dX]
  refine Yl.bind (Va p) fun r hr=>Yl.bn fun nm=>Yl.bn fun p=>Yl.bind (Va p) fun a ha=>Yl.bn fun p=>Yl.bind (DT p ns) fun n hn=>Yl.bn fun x=>?_
  have h':∀q∈qs++[⟨nm.1.s,n.1,a.1,r.1⟩],JA q:=fun q hq=>by
   rcases List.mem_append.mp hq with hq|hq
   ·exact h q hq
   ·rw[List.mem_singleton]at hq;subst hq;exact⟨ha,hr,hn⟩
  refine Yl.ite (fun _=>Yl.ok ⟨h',by simp⟩) fun _=>?_
  exact(IU k _ _ _ _ h').mono fun a ha=>⟨ha.1,by have:=ha.2;simp at this;omega⟩
def yz(v:gI):Prop:=(∀q∈v.procs,JA q)∧v.procs.length≤8∧inRange v.n=true
theorem Uh(p:PS)(names:List By)(nums:List Int):Yl (version p names nums) fun x=>yz x.1:=by
 unfold version
 refine Yl.bn fun p=>Yl.bn fun nm=>Yl.bn fun p=>Yl.bind (IU 8 p [] [] [] (fun q h=>by cases h)) fun x hx=>Yl.bind (DT _ _) fun n hn=>Yl.ok ⟨hx.1,by have:=hx.2;simpa using this,hn⟩
theorem IQ:∀(k:Nat) (p:PS) (vs:List gI) (l:List By) (ns:List Int),(∀v∈vs,yz v)→Yl (fE k p vs l ns) fun x=>(∀v∈x.1,yz v)∧x.1.length≤vs.length+k
 |0,_,_,_,_,_=>Yl.no
 |k+1,p,vs,l,ns,h=>by
  rw[fE]
  refine Yl.bind (Uh p l ns) fun v hv=>Yl.bn fun x=>?_
  have h':∀a∈vs++[v.1],yz a:=fun a ha=>by
   rcases List.mem_append.mp ha with ha|ha
   ·exact h a ha
   ·rw[List.mem_singleton]at ha;subst ha;exact hv
  refine Yl.ite (fun _=>Yl.ok ⟨h',by simp⟩) fun _=>?_
  exact(IQ k _ _ _ _ h').mono fun a ha=>⟨ha.1,by have:=ha.2;simp at this;omega⟩
def GV(enums:List (By×List Int)):Dk→Prop
 |.const _=>True
 |.alias t=>iC t
 |.enum _ nums=>nums.all i32=true∧nums.length≤12
 |.struct ds=>(∀d∈ds,iC d.ty)∧1≤ds.length∧ds.length≤12
 |.union of _ arms els=>JH enums of∧(∀a∈arms,ja a.decl.ty∧a.nums.length≤12)∧arms.length≤13∧(∀d,els=some d→ja d.ty)
 |.prog n vs=>inRange n=true∧(∀v∈vs,yz v)∧vs.length≤4
end Go.M

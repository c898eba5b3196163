/- Texts of mine, one behind the other; nothing is assumed. -/

namespace Go
theorem omg{p:Prop}(h:p:=by omega):p:=h
theorem dcd{p:Prop}(h:p:=by decide):p:=h
theorem smp{p:Prop}(h:p:=by simp):p:=h
theorem asu{p:Prop}(h:p:=by assumption):p:=h
theorem lng {p:Prop} (h:p:=by
 simp only[List.length_append,List.length_cons,List.length_nil]
 omega):p:=h
structure Wr (B:Prop):Prop where
 o:B
theorem fif {A B:Prop} (k:B) (h:Wr B->A:=by
 intro h;simp only[Bool.false_eq_true,↓reduceIte]
 exact h.o):A:=h ⟨k⟩
theorem gg {A B:Prop} (k:B) (h:Wr B->A:=by
 intro h
 repeat' first|refine .a ?_|refine .d ?_|refine .s ?_|refine .t ?_|refine .f ?_
 exact h.o):A:=h ⟨k⟩
theorem gJ {A B:Prop} (k:B) (h:Wr B->A:=by
 intro h;refine .s ?_;refine .s ?_
 exact h.o):A:=h ⟨k⟩
theorem vI {A B:Prop} (k:B) (h:Wr B->A:=by
 intro h;refine .s ?_;refine .s ?_;refine .s ?_
 exact h.o):A:=h ⟨k⟩
theorem nO {A B:Prop} (k:B) (h:Wr B->A:=by
 intro h;refine .s ?_;refine .s ?_;refine .s ?_;refine .s ?_
 exact h.o):A:=h ⟨k⟩
end Go
set_option autoImplicit true
set_option relaxedAutoImplicit true
namespace Go.M
abbrev By:=List UInt8
inductive Res (α:Type) where
 |ok (a:α)
 |no (e at_:Nat) deriving DecidableEq
def Res.andThen{α β:Type}:Res α->(α->Res β)->Res β
 |.ok a,f=>f a
 |.no e p,_=>.no e p
theorem Res.aS(a:α)(f:α->Res β):(Res.ok a).andThen f=f a:=rfl
theorem Res.oO(e p:Nat)(f:α->Res β):(Res.no e p).andThen f=.no e p:=rfl
structure Wd where
 kind:Nat
 s:By
 at_:Nat
 n:Int deriving DecidableEq
def iF(c:UInt8):Bool:=c==32||c==9||c==10
def digit(c:UInt8):Bool:=48<=c&&c<=57
def letter(c:UInt8):Bool:=(97<=c&&c<=122)||(65<=c&&c<=90)
def eP(c:UInt8):Bool:=letter c||digit c||c==95
def aY:By->Nat
 |[]=>0
 |c::r=>if eP c then aY r+1 else 0
def starts:By->By->Bool
 |[],_=>true
 |_::_,[]=>false
 |a::x,b::y=>a==b&&starts x y
def find(x:By):By->Option Nat
 |[]=>if x.isEmpty then some 0 else none
 |c::r=>if starts x (c::r)then some 0 else(find x r).map (·+1)
def blanks:By->Nat
 |[]=>0
 |c::r=>if iF c then blanks r+1 else 0
def skip:Nat->By->Nat
 |0,_=>0
 |n+1,l=>
  let k:=blanks l
  let r:=l.drop k
  if starts [47,42] r then
   match find [42,47] (r.drop 2)with
   |some e=>k+(e+4)+skip n (r.drop (e+4))
   |none=>k
  else k
def dig(c:UInt8):Nat:=
 if 48<=c&&c<=57 then c.toNat - 48 else if 97<=c&&c<=122 then c.toNat - 87 else if 65<=c&&c<=90 then c.toNat - 55 else 99
def uint(base:Nat):By->Nat->Option Nat
 |[],v=>some v
 |c::r,v=>if dig c<base then(if v*base+dig c<4294967296 then uint base r (v*base+dig c)else none)else none
def lg(base:Nat)(l:By):Option Nat:=if l.isEmpty then none else uint base l 0
def eX:By->By
 |45::r=>r
 |l=>l
def number(s:By):Option Int:=
 let hex:=starts [48,120] s
 let ds:=if hex then s.drop 2 else eX s
 if(if hex then decide (8<ds.length)else decide (1<ds.length)&&ds.head?==some 48)then none
 else if ds.contains 95 then none
 else match lg (if hex then 16 else 10) ds with
  |none=>none
  |some v=>if s.head?==some 45 then(if v<=2147483648 then some (-(v:Int))else none)else some v
def keys:By:=[32,99,111,110,115,116,32,116,121,112,101,100,101,102,32,101,110,117,109,32,115,116,114,117,99,116,32,117,110,105,111,110,32,115,119,105,116,99,104,32,99,97,115,101,32,100,101,102,97,117,108,116,32,118,111,105,100,32,105,110,116,32,117,110,115,105,103,110,101,100,32,104,121,112,101,114,32,98,111,111,108,32,111,112,97,113,117,101,32,115,116,114,105,110,103,32,112,114,111,103,114,97,109,32,118,101,114,115,105,111,110,32,84,82,85,69,32,70,65,76,83,69,32]
def signs:By:=[123,125,40,41,91,93,60,62,42,44,59,58,61]
def contains(l x:By):Bool:=(find x l).isSome
def next(txt:By)(from_:Nat):Res (Wd×Nat):=
 let at_:=from_+skip (txt.length+1) (txt.drop from_)
 let rest:=txt.drop at_
 match rest with
 |[]=>.ok (⟨0,[],at_,0⟩,at_)
 |c::r=>
  if c==45||digit c then
   let n:=1+aY r
   match number (rest.take n)with
   |none=>.no 4 at_
   |some v=>.ok (⟨3,rest.take n,at_,v⟩,at_+n)
  else if c != 95&&eP c then
   let s:=rest.take (aY rest)
   if contains keys (32::s++[32])then .ok (⟨2,s,at_,0⟩,at_+s.length)
   else if 16<s.length then .no 7 at_
   else .ok (⟨1,s,at_,0⟩,at_+s.length)
  else if signs.contains c then .ok (⟨4,[c],at_,0⟩,at_+1)
  else .no 2 at_
def Wd.is(w:Wd)(s:By):Bool:=(w.kind==2||w.kind==4)&&w.s==s
inductive Ty where
 |basic (s:By)
 |named (s:By) (at_:Nat)
 |bytes (text fixed:Bool) (n:Int)
 |array (of:Ty) (fixed:Bool) (n:Int)
 |opt (of:Ty)
 |void deriving DecidableEq
structure Decl where
 name:By
 ty:Ty deriving DecidableEq
structure Arm where
 nums:List Int
 decl:Decl deriving DecidableEq
structure pG where
 name:By
 n:Int
 arg:Ty
 res:Ty deriving DecidableEq
structure qw where
 name:By
 n:Int
 procs:List pG deriving DecidableEq
inductive Dk where
 |const (n:Int)
 |alias (t:Ty)
 |enum (names:List By) (nums:List Int)
 |struct (parts:List Decl)
 |union (of:Ty) (name:By) (arms:List Arm) (els:Option Decl)
 |prog (n:Int) (vs:List qw) deriving DecidableEq
structure Def where
 name:By
 at_:Nat
 k:Dk deriving DecidableEq
structure PS where
 txt:By
 pos:Nat
 w:Wd
 names:List By
 consts:List (By×Int)
 enums:List (By×List Int)
 aj:List Int
 n0:Nat
 n1:Nat
 n2:Nat deriving DecidableEq
def bK{α β:Type}[BEq α](m:List (α×β))(a:α)(v:β):List (α×β):=
 match m with
 |[]=>[(a,v)]
 |x::r=>if a==x.1 then(a,v)::r else x::bK r a v
def advance(p:PS):Res PS:=(next p.txt p.pos).andThen λx=>.ok { p with w:=x.1,pos:=x.2 }
def bad{α:Type}(p:PS):Res α:=.no 3 p.w.at_
def want(p:PS):List By->Res PS
 |[]=>.ok p
 |s::r=>if p.w.is s then(advance p).andThen λp=>want p r else bad p
def take(p:PS)(s:By):Res (Bool×PS):=if p.w.is s then(advance p).andThen λp=>.ok (true,p)else .ok (false,p)
def name(p:PS):Res Wd:=if p.w.kind==1 then .ok p.w else bad p
def once{α:Type}[BEq α](l:List α)(a:α)(at_:Nat):Res (List α):=if l.contains a then .no 6 at_ else .ok (l++[a])
def own(p:PS):Res (Wd×PS):=
 (name p).andThen λw=>(once p.names w.s w.at_).andThen λl=>(advance { p with names:=l }).andThen λp=>.ok (w,p)
def called(p:PS)(l:List By):Res (Wd×List By×PS):=
 (name p).andThen λw=>(once l w.s w.at_).andThen λl=>(advance p).andThen λp=>.ok (w,l,p)
def qK(p:PS):Res Int:=
 let w:=p.w
 if w.kind==3 then .ok w.n
 else if w.is [84,82,85,69]then .ok 1
 else if w.is [70,65,76,83,69]then .ok 0
 else if w.kind==1 then(match p.consts.lookup w.s with|some v=>.ok v|none=>.no 7 w.at_)
 else bad p
def value{σ:Type}(p:PS)(lo hi:Int)(keep:Int->Nat->Res σ):Res (Int×σ×PS):=
 (qK p).andThen λn=>if n<lo\/hi<n then .no 8 p.w.at_ else
  (keep n p.w.at_).andThen λs=>(advance p).andThen λp=>.ok (n,s,p)
def qN(_:Int)(_:Nat):Res Unit:=.ok ()
def kindOf(p:PS):Res (Ty×PS):=
 let w:=p.w
 if w.kind==1 then(advance p).andThen λp=>.ok (.named w.s w.at_,p)
 else(take p [105,110,116]).andThen λx=>if x.1 then .ok (.basic [105,110,116],x.2)
 else(take x.2 [104,121,112,101,114]).andThen λx=>if x.1 then .ok (.basic [104,121,112,101,114],x.2)
 else(take x.2 [98,111,111,108]).andThen λx=>if x.1 then .ok (.basic [98,111,111,108],x.2)
 else(take x.2 [117,110,115,105,103,110,101,100]).andThen λx=>if x.1 then
   (take x.2 [104,121,112,101,114]).andThen λx=>if x.1 then .ok (.basic [117,110,115,105,103,110,101,100,32,104,121,112,101,114],x.2)
   else(take x.2 [105,110,116]).andThen λx=>.ok (.basic [117,110,115,105,103,110,101,100],x.2)
 else bad x.2
def bound(p:PS):Res (Bool×Int×PS):=
 (take p [91]).andThen λx=>
  if x.1 then(value x.2 1 1000 qN).andThen λy=>(want y.2.2 [[93]]).andThen λp=>.ok (true,y.1,p)
  else(want x.2 [[60]]).andThen λp=>(take p [62]).andThen λx=>
   if x.1 then .ok (false,4294967295,x.2)
   else(value x.2 0 4294967295 qN).andThen λy=>(want y.2.2 [[62]]).andThen λp=>.ok (false,y.1,p)
def decl{σ:Type}(nm:PS->Res (Wd×σ×PS))(p:PS):Res (Decl×Wd×σ×PS):=
 let text:=p.w.is [115,116,114,105,110,103]
 if text||p.w.is [111,112,97,113,117,101]then
  (advance p).andThen λp=>(nm p).andThen λx=>
   if text&&!x.2.2.w.is [60]then bad x.2.2 else
   (bound x.2.2).andThen λy=>.ok (⟨x.1.s,.bytes text y.1 y.2.1⟩,x.1,x.2.1,y.2.2)
 else(kindOf p).andThen λt=>(take t.2 [42]).andThen λy=>
  if y.1 then(nm y.2).andThen λx=>.ok (⟨x.1.s,.opt t.1⟩,x.1,x.2.1,x.2.2)
  else(nm y.2).andThen λx=>
   if x.2.2.w.is [91]||x.2.2.w.is [60]then(bound x.2.2).andThen λz=>.ok (⟨x.1.s,.array t.1 z.1 z.2.1⟩,x.1,x.2.1,z.2.2)
   else .ok (⟨x.1.s,t.1⟩,x.1,x.2.1,x.2.2)
def Zp(l:List By)(p:PS):Res (Wd×List By×PS):=called p l
def Dn(p:PS):Res (Wd×Unit×PS):=(own p).andThen λx=>.ok (x.1,(),x.2)
def member(p:PS)(l:List By):Res (Decl×List By×PS):=
 (decl (Zp l) p).andThen λx=>(want x.2.2.2 [[59]]).andThen λp=>.ok (x.1,x.2.2.1,p)
def count(p:PS)(n most:Nat):Res Unit:=if most<=n then .no 5 p.w.at_ else .ok ()
def least:Int := -2147483648
def LM:Int:=2147483647
def top:Int:=4294967295
def constant(p:PS):Res (Def×PS):=
 (count p p.n1 40).andThen λ_=>(want p [[99,111,110,115,116]]).andThen λp=>(own p).andThen λw=>(want w.2 [[61]]).andThen λp=>
 (value p least top qN).andThen λv=>(want v.2.2 [[59]]).andThen λp=>
 .ok (⟨w.1.s,w.1.at_,.const v.1⟩,{ p with n1:=p.n1+1,consts:=bK p.consts w.1.s v.1 })
def alias(p:PS):Res (Def×PS):=
 (want p [[116,121,112,101,100,101,102]]).andThen λp=>(decl Dn p).andThen λd=>(want d.2.2.2 [[59]]).andThen λp=>
 .ok (⟨d.2.1.s,d.2.1.at_,.alias d.1.ty⟩,p)
def jY:Nat->PS->List By->List Int->Res (List By×List Int×PS)
 |0,p,_,_=>.no 5 p.w.at_
 |k+1,p,ns,is=>
  (count p p.n1 40).andThen λ_=>(own p).andThen λm=>(want m.2 [[61]]).andThen λp=>
  (value p least LM λn at_=>once is n at_).andThen λv=>
  let p:=v.2.2
  let p:={ p with n1:=p.n1+1,consts:=bK p.consts m.1.s v.1 }
  (take p [44]).andThen λx=>if x.1 then jY k x.2 (ns++[m.1.s]) (is++[v.1])else .ok (ns++[m.1.s],is++[v.1],x.2)
def enum(p:PS):Res (Def×PS):=
 (want p [[101,110,117,109]]).andThen λp=>(own p).andThen λw=>(want w.2 [[123]]).andThen λp=>
 (jY 12 p [] []).andThen λx=>(want x.2.2 [[125],[59]]).andThen λp=>
 .ok (⟨w.1.s,w.1.at_,.enum x.1 x.2.1⟩,{ p with enums:=bK p.enums w.1.s x.2.1 })
def gW:Nat->PS->List Decl->List By->Res (List Decl×PS)
 |0,p,_,_=>.no 5 p.w.at_
 |k+1,p,ds,l=>
  (member p l).andThen λd=>(take d.2.2 [125]).andThen λx=>if x.1 then .ok (ds++[d.1],x.2)else gW k x.2 (ds++[d.1]) d.2.1
def jE(p:PS):Res (Def×PS):=
 (want p [[115,116,114,117,99,116]]).andThen λp=>(own p).andThen λw=>(want w.2 [[123]]).andThen λp=>
 (gW 12 p [] []).andThen λx=>(want x.2 [[59]]).andThen λp=>.ok (⟨w.1.s,w.1.at_,.struct x.1⟩,p)
def fK(p:PS):Res ((Ty×Int×Int×Option (List Int))×PS):=
 let w:=p.w
 if w.kind==1 then(match p.enums.lookup w.s with
  |none=>.no 7 w.at_
  |some nums=>(advance p).andThen λp=>.ok ((.named w.s w.at_,least,LM,some nums),p))
 else(take p [105,110,116]).andThen λx=>if x.1 then .ok ((.basic [105,110,116],least,LM,none),x.2)
 else(take x.2 [98,111,111,108]).andThen λx=>if x.1 then .ok ((.basic [98,111,111,108],0,1,none),x.2)
 else(take x.2 [117,110,115,105,103,110,101,100]).andThen λx=>if x.1 then(take x.2 [105,110,116]).andThen λx=>.ok ((.basic [117,110,115,105,103,110,101,100],0,top,none),x.2)
 else bad x.2
def arm(p:PS)(l:List By):Res (Decl×List By×PS):=
 (take p [118,111,105,100]).andThen λx=>if x.1 then(want x.2 [[59]]).andThen λp=>.ok (⟨[],.void⟩,l,p)else member x.2 l
def jA(lo hi:Int)(nums:Option (List Int)):Nat->PS->List Int->List Int->Res (List Int×List Int×PS)
 |0,p,_,_=>.no 5 p.w.at_
 |k+1,p,a,there=>
  (want p [[99,97,115,101]]).andThen λp=>
  (value p lo hi λn at_=>if nums.any λl=>!l.contains n then .no 8 at_ else once there n at_).andThen λv=>(want v.2.2 [[58]]).andThen λp=>
  if p.w.is [99,97,115,101]then jA lo hi nums k p (a++[v.1]) v.2.1 else .ok (a++[v.1],v.2.1,p)
def mO(lo hi:Int)(nums:Option (List Int)):Nat->PS->List Arm->List By->List Int->Res (List Arm×List By×PS)
 |0,p,_,_,_=>.no 5 p.w.at_
 |k+1,p,as,l,there=>
  (jA lo hi nums (12 - there.length) p [] there).andThen λc=>(arm c.2.2 l).andThen λd=>
  if d.2.2.w.is [99,97,115,101]then mO lo hi nums k d.2.2 (as++[⟨c.1,d.1⟩]) d.2.1 c.2.1 else .ok (as++[⟨c.1,d.1⟩],d.2.1,d.2.2)
def union(p:PS):Res (Def×PS):=
 (want p [[117,110,105,111,110]]).andThen λp=>(own p).andThen λw=>(want w.2 [[115,119,105,116,99,104],[40]]).andThen λp=>
 (fK p).andThen λd=>(called d.2 []).andThen λnm=>(want nm.2.2 [[41],[123]]).andThen λp=>
 (mO d.1.2.1 d.1.2.2.1 d.1.2.2.2 13 p [] nm.2.1 []).andThen λas=>(take as.2.2 [100,101,102,97,117,108,116]).andThen λx=>
 (if x.1 then(want x.2 [[58]]).andThen λp=>(arm p as.2.1).andThen λe=>.ok (some e.1,e.2.2)else .ok (none,x.2)).andThen λe=>
 (want e.2 [[125],[59]]).andThen λp=>.ok (⟨w.1.s,w.1.at_,.union d.1.1 nm.1.s as.1 e.1⟩,p)
def side(p:PS):Res (Ty×PS):=(take p [118,111,105,100]).andThen λx=>if x.1 then .ok (.void,x.2)else kindOf x.2
def numbered(p:PS)(l:List Int):Res (Int×List Int×PS):=
 (want p [[61]]).andThen λp=>(value p 0 top λn at_=>once l n at_).andThen λv=>(want v.2.2 [[59]]).andThen λp=>.ok (v.1,v.2.1,p)
def jW:Nat->PS->List pG->List By->List Int->Res (List pG×PS)
 |0,p,_,_,_=>.no 5 p.w.at_
 |k+1,p,qs,l,ns=>
  (side p).andThen λr=>(called r.2 l).andThen λnm=>(want nm.2.2 [[40]]).andThen λp=>(side p).andThen λa=>(want a.2 [[41]]).andThen λp=>
  (numbered p ns).andThen λn=>(take n.2.2 [125]).andThen λx=>
  if x.1 then .ok (qs++[⟨nm.1.s,n.1,a.1,r.1⟩],x.2)else jW k x.2 (qs++[⟨nm.1.s,n.1,a.1,r.1⟩]) nm.2.1 n.2.1
def version(p:PS)(names:List By)(nums:List Int):Res (qw×List By×List Int×PS):=
 (want p [[118,101,114,115,105,111,110]]).andThen λp=>(called p names).andThen λnm=>(want nm.2.2 [[123]]).andThen λp=>
 (jW 8 p [] [] []).andThen λx=>(numbered x.2 nums).andThen λn=>.ok (⟨nm.1.s,n.1,x.1⟩,nm.2.1,n.2.1,n.2.2)
def jR:Nat->PS->List qw->List By->List Int->Res (List qw×PS)
 |0,p,_,_,_=>.no 5 p.w.at_
 |k+1,p,vs,l,ns=>
  (version p l ns).andThen λv=>(take v.2.2.2 [125]).andThen λx=>if x.1 then .ok (vs++[v.1],x.2)else jR k x.2 (vs++[v.1]) v.2.1 v.2.2.1
def program(p:PS):Res (Def×PS):=
 (count p p.n2 4).andThen λ_=>(want { p with n2:=p.n2+1 } [[112,114,111,103,114,97,109]]).andThen λp=>(own p).andThen λw=>(want w.2 [[123]]).andThen λp=>
 (jR 4 p [] [] []).andThen λx=>(numbered x.2 x.2.aj).andThen λn=>.ok (⟨w.1.s,w.1.at_,.prog n.1 x.1⟩,{ n.2.2 with aj:=n.2.1 })
def definition(p:PS):Res (Def×PS):=
 if p.w.is [99,111,110,115,116]then constant p
 else if p.w.is [112,114,111,103,114,97,109]then program p
 else
  let go (f:PS->Res (Def×PS)):Res (Def×PS):=(count p p.n0 24).andThen λ_=>f { p with n0:=p.n0+1 }
  if p.w.is [116,121,112,101,100,101,102]then go alias
  else if p.w.is [101,110,117,109]then go enum
  else if p.w.is [115,116,114,117,99,116]then go jE
  else if p.w.is [117,110,105,111,110]then go union
  else bad p
def nD:Nat->PS->List Def->Res (List Def)
 |0,_,ds=>.ok ds
 |k+1,p,ds=>if p.w.kind==0 then .ok ds else(definition p).andThen λx=>nD k x.2 (ds++[x.1])
def parse(txt:By):Res (List Def):=
 (advance ⟨txt,0,⟨0,[],0,0⟩,[],[],[],[],0,0,0⟩).andThen λp=>nD 69 p []
end Go.M
set_option linter.unusedSimpArgs false
set_option linter.unusedVariables false
namespace Go.M
theorem Res.then_ok{α β:Type}{m:Res α}{k:α->Res β}{b:β}(h:m.andThen k=.ok b):∃a,m=.ok a/\k a=.ok b:=by
 cases m with
 |ok a=>exact⟨a,rfl,h⟩
 |no e a=>cases h
theorem Res.assoc(m:Res α)(f:α->Res β)(g:β->Res γ):(m.andThen f).andThen g=m.andThen λa=>(f a).andThen g:=by
 cases m<;>rfl
def nn(p:PS):Nat×Nat×Nat:=(p.n0,p.n1,p.n2)
theorem xn{p q:PS}(h:advance p=.ok q):nn q=nn p:=by
 obtain⟨x,_,h2⟩:=Res.then_ok h;cases h2;rfl
theorem gq:∀{l:List By} {p q:PS},want p l=.ok q->nn q=nn p
 |[],p,q,h=>by cases h;rfl
 |s::r,p,q,h=>by
  rw[want]at h;split at h
  .obtain⟨x,h1,h2⟩:=Res.then_ok h;exact(gq h2).trans (xn h1)
  .cases h
theorem sO{p:PS}{x:Wd×PS}(h:own p=.ok x):nn x.2=nn p:=by
 obtain⟨w,h1,h⟩:=Res.then_ok h;obtain⟨l,h2,h⟩:=Res.then_ok h;obtain⟨q,h3,h⟩:=Res.then_ok h;cases h;exact(xn h3).trans rfl
theorem sN{σ:Type}{p:PS}{lo hi:Int}{keep:Int->Nat->Res σ}{x:Int×σ×PS}(h:value p lo hi keep=.ok x):nn x.2.2=nn p:=by
 obtain⟨n,h1,h⟩:=Res.then_ok h;split at h
 .cases h
 obtain⟨s,h2,h⟩:=Res.then_ok h;obtain⟨q,h3,h⟩:=Res.then_ok h;cases h;exact xn h3
theorem yl{σ:Type}{p:PS}{lo hi:Int}{keep:Int->Nat->Res σ}{x:Int×σ×PS}(h:value p lo hi keep=.ok x):lo<=x.1/\x.1<=hi:=by
 obtain⟨n,h1,h⟩:=Res.then_ok h;split at h
 .cases h
 obtain⟨s,h2,h⟩:=Res.then_ok h;obtain⟨q,h3,h⟩:=Res.then_ok h;cases h;show lo<=n/\n<=hi;omega
theorem Tj{p:PS}{lo hi:Int}{l:List Int}{x:Int×List Int×PS}(h:value p lo hi (λn a=>once l n a)=.ok x):x.2.1=l++[x.1]:=by
 obtain⟨n,h1,h⟩:=Res.then_ok h;split at h
 .cases h
 obtain⟨s,h2,h⟩:=Res.then_ok h;obtain⟨q,h3,h⟩:=Res.then_ok h;cases h;simp only[once]at h2;split at h2
 .cases h2
 .cases h2;rfl
theorem Ie{p:PS}{lo hi:Int}{nums:Option (List Int)}{l:List Int}{x:Int×List Int×PS}(h:value p lo hi (λn a=>if nums.any λl=>!l.contains n then .no 8 a else once l n a)=.ok x):x.2.1=l++[x.1]:=by
 obtain⟨n,h1,h⟩:=Res.then_ok h;split at h
 .cases h
 obtain⟨s,h2,h⟩:=Res.then_ok h;obtain⟨q,h3,h⟩:=Res.then_ok h;cases h;simp only[once]at h2;split at h2
 .cases h2
 .split at h2
  .cases h2
  .cases h2;rfl
theorem Res.named{α β:Type}{M:Res β}{m:Res α}{k:α->Res β}(h:M=m.andThen k):∃F,F=k/\M=m.andThen F:=⟨k,rfl,h⟩
theorem Pq(h:∀n a,lo<=n->n<=hi->k1 n a=k2 n a):value p lo hi k1=value p lo hi k2:=by
 unfold value;cases qK p with
 |no=>rfl
 |ok n=>
  simp only[Res.aS];split
  .rfl
  .rw[h n _ omg omg]
theorem MI(q:PS)(l:List Int):advance { q with aj:=l }=(advance q).andThen λr=>.ok { r with aj:=l }:=by
 unfold advance;cases next q.txt q.pos<;>rfl
theorem wE:∀(s:List By) (q:PS) (l:List Int),want { q with aj:=l } s=(want q s).andThen λr=>.ok { r with aj:=l }
 |[],q,l=>rfl
 |x::r,q,l=>by
  rw[want,want];show (if q.w.is x then _ else _)=_;split
  .rw[MI];cases advance q with
   |no=>rfl
   |ok q'=>simp only[Res.aS];exact wE r q' l
  .rfl
theorem TN(h:want q s=.ok r):r.aj=q.aj:=by
 have:=wE s q q.aj;have e:({ q with aj:=q.aj }:PS)=q:=rfl;rw[e,h]at this;simp only[Res.aS,Res.ok.injEq]at this;rw[this]
theorem jy(h:count p n most=.ok u):n<most:=by
 rw[count]at h;split at h
 .cases h
 .omega
end Go.M
namespace Go.M
def Kn{α:Type}(m:Res α)(f:α->Nat×Nat×Nat)(n:Nat×Nat×Nat):Prop:=∀a,m=.ok a->f a=n
theorem Kn.ok(h:f a=n):Kn (.ok a) f n:=λb hb=>by cases hb;exact h
theorem Kn.no:Kn (.no e a) f n:=λb hb=>by cases hb
theorem Kn.ite[Decidable c](h1:Kn A f n)(h2:Kn B f n):Kn (if c then A else B) f n:=by
 split
 .exact h1
 .exact h2
theorem Kn.bind(g:α->Nat×Nat×Nat)(h1:Kn m g n)(h2:∀a,g a=n->Kn (k a) f n):Kn (m.andThen k) f n:=λb hb=>by
 obtain⟨a,ha,hk⟩:=Res.then_ok hb;exact h2 a (h1 a ha) b hk
variable {n:Nat×Nat×Nat} {p:PS}
theorem nz(a b:Nat):Kn (count q a b) (λ_=>n) n:=λ_ _=>rfl
theorem gY(h:nn p=n):Kn (advance p) nn n:=λq hq=>(xn hq).trans h
theorem gB(h:nn p=n):Kn (want p l) nn n:=λq hq=>(gq hq).trans h
theorem qi(h:nn p=n):Kn (own p) (λx=>nn x.2) n:=λq hq=>(sO hq).trans h
theorem lL(h:nn p=n):Kn (value p lo hi k) (λx=>nn x.2.2) n:=λq hq=>(sN hq).trans h
theorem iO(h:nn p=n):Kn (take p s) (λx=>nn x.2) n:=by
 unfold take;refine Kn.ite ?_ (Kn.ok h);exact Kn.bind _ (gY h) λq hq=>Kn.ok hq
theorem iE(h:nn p=n):Kn (called p l) (λx=>nn x.2.2) n:=by
 unfold called;refine Kn.bind (λ_=>n) (λ_ _=>rfl) λw _=>Kn.bind (λ_=>n) (λ_ _=>rfl) λl _=>?_
 (repeat' (first|exact Kn.no|exact Kn.ok (by assumption)|refine Kn.ite ?_ ?_|refine Kn.bind _ (nz _ _) λ_ _=>?_|refine Kn.bind _ (gB (by assumption)) λ_ _=>?_|refine Kn.bind _ (gY (by assumption)) λ_ _=>?_|refine Kn.bind _ (iO (by assumption)) λ_ _=>?_|refine Kn.bind _ (qi (by assumption)) λ_ _=>?_|refine Kn.bind _ (iE (by assumption)) λ_ _=>?_|refine Kn.bind _ (lL (by assumption)) λ_ _=>?_))
theorem LV(h:nn p=n):Kn (kindOf p) (λx=>nn x.2) n:=by
 unfold kindOf
 (repeat' (first|exact Kn.no|exact Kn.ok (by assumption)|refine Kn.ite ?_ ?_|refine Kn.bind _ (nz _ _) λ_ _=>?_|refine Kn.bind _ (gB (by assumption)) λ_ _=>?_|refine Kn.bind _ (gY (by assumption)) λ_ _=>?_|refine Kn.bind _ (iO (by assumption)) λ_ _=>?_|refine Kn.bind _ (qi (by assumption)) λ_ _=>?_|refine Kn.bind _ (iE (by assumption)) λ_ _=>?_|refine Kn.bind _ (lL (by assumption)) λ_ _=>?_))
theorem QR(h:nn p=n):Kn (bound p) (λx=>nn x.2.2) n:=by
 unfold bound
 (repeat' (first|exact Kn.no|exact Kn.ok (by assumption)|refine Kn.ite ?_ ?_|refine Kn.bind _ (nz _ _) λ_ _=>?_|refine Kn.bind _ (gB (by assumption)) λ_ _=>?_|refine Kn.bind _ (gY (by assumption)) λ_ _=>?_|refine Kn.bind _ (iO (by assumption)) λ_ _=>?_|refine Kn.bind _ (qi (by assumption)) λ_ _=>?_|refine Kn.bind _ (iE (by assumption)) λ_ _=>?_|refine Kn.bind _ (lL (by assumption)) λ_ _=>?_))
theorem Vs{σ:Type}{nm:PS->Res (Wd×σ×PS)}(hn:∀q,nn q=n->Kn (nm q) (λx=>nn x.2.2) n)(h:nn p=n):Kn (decl nm p) (λx=>nn x.2.2.2) n:=by
 unfold decl;refine Kn.ite ?_ ?_
 .refine Kn.bind _ (gY h) λq hq=>Kn.bind _ (hn q hq) λx hx=>Kn.ite Kn.no ?_;refine Kn.bind _ (QR hx) λy hy=>Kn.ok hy
 .refine Kn.bind _ (LV h) λt ht=>Kn.bind _ (iO ht) λy hy=>Kn.ite ?_ ?_
  .refine Kn.bind _ (hn _ hy) λx hx=>Kn.ok hx
  .refine Kn.bind _ (hn _ hy) λx hx=>Kn.ite ?_ (Kn.ok hx);refine Kn.bind _ (QR hx) λy hy=>Kn.ok hy
theorem LU{l:List By}(h:nn p=n):Kn (member p l) (λx=>nn x.2.2) n:=by
 unfold member;refine Kn.bind _ (Vs (λq hq=>iE hq) h) λx hx=>?_
 (repeat' (first|exact Kn.no|exact Kn.ok (by assumption)|refine Kn.ite ?_ ?_|refine Kn.bind _ (nz _ _) λ_ _=>?_|refine Kn.bind _ (gB (by assumption)) λ_ _=>?_|refine Kn.bind _ (gY (by assumption)) λ_ _=>?_|refine Kn.bind _ (iO (by assumption)) λ_ _=>?_|refine Kn.bind _ (qi (by assumption)) λ_ _=>?_|refine Kn.bind _ (iE (by assumption)) λ_ _=>?_|refine Kn.bind _ (lL (by assumption)) λ_ _=>?_))
theorem QV(h:nn p=n):Kn (alias p) (λx=>nn x.2) n:=by
 unfold alias;refine Kn.bind _ (gB h) λq hq=>Kn.bind _ (Vs (nm:=Dn) (λq hq=>Kn.bind _ (qi hq) λx hx=>Kn.ok hx) hq) λx hx=>?_
 (repeat' (first|exact Kn.no|exact Kn.ok (by assumption)|refine Kn.ite ?_ ?_|refine Kn.bind _ (nz _ _) λ_ _=>?_|refine Kn.bind _ (gB (by assumption)) λ_ _=>?_|refine Kn.bind _ (gY (by assumption)) λ_ _=>?_|refine Kn.bind _ (iO (by assumption)) λ_ _=>?_|refine Kn.bind _ (qi (by assumption)) λ_ _=>?_|refine Kn.bind _ (iE (by assumption)) λ_ _=>?_|refine Kn.bind _ (lL (by assumption)) λ_ _=>?_))
theorem AL:∀(k:Nat) {p:PS} {ds:List Decl} {l:List By},nn p=n->Kn (gW k p ds l) (λx=>nn x.2) n
 |0,_,_,_,_=>Kn.no
 |k+1,p,ds,l,h=>by
  rw[gW];refine Kn.bind _ (LU h) λd hd=>Kn.bind _ (iO hd) λx hx=>Kn.ite (Kn.ok hx) (AL k hx)
theorem LQ(h:nn p=n):Kn (jE p) (λx=>nn x.2) n:=by
 unfold jE;refine Kn.bind _ (gB h) λq hq=>Kn.bind _ (qi hq) λw hw=>Kn.bind _ (gB hw) λq hq=>Kn.bind _ (AL 12 hq) λx hx=>?_
 (repeat' (first|exact Kn.no|exact Kn.ok (by assumption)|refine Kn.ite ?_ ?_|refine Kn.bind _ (nz _ _) λ_ _=>?_|refine Kn.bind _ (gB (by assumption)) λ_ _=>?_|refine Kn.bind _ (gY (by assumption)) λ_ _=>?_|refine Kn.bind _ (iO (by assumption)) λ_ _=>?_|refine Kn.bind _ (qi (by assumption)) λ_ _=>?_|refine Kn.bind _ (iE (by assumption)) λ_ _=>?_|refine Kn.bind _ (lL (by assumption)) λ_ _=>?_))
theorem Gy(h:nn p=n):Kn (fK p) (λx=>nn x.2) n:=by
 unfold fK;refine Kn.ite ?_ ?_
 .cases p.enums.lookup p.w.s with
  |none=>exact Kn.no
  |some l=>exact Kn.bind _ (gY h) λq hq=>Kn.ok hq
 ·(repeat' (first|exact Kn.no|exact Kn.ok (by assumption)|refine Kn.ite ?_ ?_|refine Kn.bind _ (nz _ _) λ_ _=>?_|refine Kn.bind _ (gB (by assumption)) λ_ _=>?_|refine Kn.bind _ (gY (by assumption)) λ_ _=>?_|refine Kn.bind _ (iO (by assumption)) λ_ _=>?_|refine Kn.bind _ (qi (by assumption)) λ_ _=>?_|refine Kn.bind _ (iE (by assumption)) λ_ _=>?_|refine Kn.bind _ (lL (by assumption)) λ_ _=>?_))
theorem Zz(h:nn p=n):Kn (arm p l) (λx=>nn x.2.2) n:=by
 unfold arm;refine Kn.bind _ (iO h) λx hx=>Kn.ite ?_ (LU hx)
 (repeat' (first|exact Kn.no|exact Kn.ok (by assumption)|refine Kn.ite ?_ ?_|refine Kn.bind _ (nz _ _) λ_ _=>?_|refine Kn.bind _ (gB (by assumption)) λ_ _=>?_|refine Kn.bind _ (gY (by assumption)) λ_ _=>?_|refine Kn.bind _ (iO (by assumption)) λ_ _=>?_|refine Kn.bind _ (qi (by assumption)) λ_ _=>?_|refine Kn.bind _ (iE (by assumption)) λ_ _=>?_|refine Kn.bind _ (lL (by assumption)) λ_ _=>?_))
theorem F8:∀(k:Nat) {p:PS} {a t:List Int},nn p=n->Kn (jA lo hi nums k p a t) (λx=>nn x.2.2) n
 |0,_,_,_,_=>Kn.no
 |k+1,p,a,t,h=>by
  rw[jA];refine Kn.bind _ (gB h) λq hq=>Kn.bind _ (lL hq) λv hv=>Kn.bind _ (gB hv) λq hq=>Kn.ite (F8 k hq) (Kn.ok hq)
theorem Jo:∀(k:Nat) {p:PS} {ar:List Arm} {l:List By} {t:List Int},nn p=n->Kn (mO lo hi nums k p ar l t) (λx=>nn x.2.2) n
 |0,_,_,_,_,_=>Kn.no
 |k+1,p,ar,l,t,h=>by
  rw[mO];refine Kn.bind _ (F8 _ h) λc hc=>Kn.bind _ (Zz hc) λd hd=>Kn.ite (Jo k hd) (Kn.ok hd)
theorem QQ(h:nn p=n):Kn (union p) (λx=>nn x.2) n:=by
 unfold union;refine Kn.bind _ (gB h) λq hq=>Kn.bind _ (qi hq) λw hw=>Kn.bind _ (gB hw) λq hq=>Kn.bind _ (Gy hq) λd hd=>Kn.bind _ (iE hd) λm hm=>Kn.bind _ (gB hm) λq hq=>?_;refine Kn.bind _ (Jo 13 hq) λx hx=>Kn.bind _ (iO hx) λy hy=>Kn.bind (λe=>nn e.2) (Kn.ite ?_ (Kn.ok hy)) λe he=>?_
 .refine Kn.bind _ (gB hy) λq hq=>Kn.bind _ (Zz hq) λe he=>Kn.ok he
 ·(repeat' (first|exact Kn.no|exact Kn.ok (by assumption)|refine Kn.ite ?_ ?_|refine Kn.bind _ (nz _ _) λ_ _=>?_|refine Kn.bind _ (gB (by assumption)) λ_ _=>?_|refine Kn.bind _ (gY (by assumption)) λ_ _=>?_|refine Kn.bind _ (iO (by assumption)) λ_ _=>?_|refine Kn.bind _ (qi (by assumption)) λ_ _=>?_|refine Kn.bind _ (iE (by assumption)) λ_ _=>?_|refine Kn.bind _ (lL (by assumption)) λ_ _=>?_))
theorem Vr(h:nn p=n):Kn (side p) (λx=>nn x.2) n:=by
 unfold side;exact Kn.bind _ (iO h) λx hx=>Kn.ite (Kn.ok hx) (LV hx)
theorem uJ(h:nn p=n):Kn (numbered p l) (λx=>nn x.2.2) n:=by
 unfold numbered
 (repeat' (first|exact Kn.no|exact Kn.ok (by assumption)|refine Kn.ite ?_ ?_|refine Kn.bind _ (nz _ _) λ_ _=>?_|refine Kn.bind _ (gB (by assumption)) λ_ _=>?_|refine Kn.bind _ (gY (by assumption)) λ_ _=>?_|refine Kn.bind _ (iO (by assumption)) λ_ _=>?_|refine Kn.bind _ (qi (by assumption)) λ_ _=>?_|refine Kn.bind _ (iE (by assumption)) λ_ _=>?_|refine Kn.bind _ (lL (by assumption)) λ_ _=>?_))
theorem F7:∀(k:Nat) {p:PS} {qs:List pG} {l:List By} {t:List Int},nn p=n->Kn (jW k p qs l t) (λx=>nn x.2) n
 |0,_,_,_,_,_=>Kn.no
 |k+1,p,qs,l,t,h=>by
  rw[jW];refine Kn.bind _ (Vr h) λr hr=>Kn.bind _ (iE hr) λm hm=>Kn.bind _ (gB hm) λq hq=>Kn.bind _ (Vr hq) λa ha=>Kn.bind _ (gB ha) λq hq=>Kn.bind _ (uJ hq) λv hv=>Kn.bind _ (iO hv) λx hx=>Kn.ite (Kn.ok hx) (F7 k hx)
theorem Ua(h:nn p=n):Kn (version p l t) (λx=>nn x.2.2.2) n:=by
 unfold version;refine Kn.bind _ (gB h) λq hq=>Kn.bind _ (iE hq) λm hm=>Kn.bind _ (gB hm) λq hq=>Kn.bind _ (F7 8 hq) λx hx=>Kn.bind _ (uJ hx) λv hv=>Kn.ok hv
theorem y7:∀(k:Nat) {p:PS} {vs:List qw} {l:List By} {t:List Int},nn p=n->Kn (jR k p vs l t) (λx=>nn x.2) n
 |0,_,_,_,_,_=>Kn.no
 |k+1,p,vs,l,t,h=>by
  rw[jR];refine Kn.bind _ (Ua h) λv hv=>Kn.bind _ (iO hv) λx hx=>Kn.ite (Kn.ok hx) (y7 k hx)
def sum(p:PS):Nat:=p.n0+p.n1+p.n2
theorem wK(h:nn p=nn q):sum p=sum q:=by
 simp only[nn,Prod.mk.injEq]at h;unfold sum;omega
theorem Ns(h:constant p=.ok x):sum p+1<=sum x.2:=by
 obtain⟨_,_,h⟩:=Res.then_ok h;obtain⟨q1,h1,h⟩:=Res.then_ok h;obtain⟨q2,h2,h⟩:=Res.then_ok h;obtain⟨q3,h3,h⟩:=Res.then_ok h;obtain⟨q4,h4,h⟩:=Res.then_ok h;obtain⟨q5,h5,h⟩:=Res.then_ok h;cases h;have:=wK ((gq h5).trans ((sN h4).trans ((gq h3).trans ((sO h2).trans (gq h1)))));show sum p+1<=q5.n0+(q5.n1+1)+q5.n2;unfold sum at *;omega
theorem PM(h:program p=.ok x):sum p+1<=sum x.2:=by
 obtain⟨_,_,h⟩:=Res.then_ok h;obtain⟨q1,h1,h⟩:=Res.then_ok h;obtain⟨q2,h2,h⟩:=Res.then_ok h;obtain⟨q3,h3,h⟩:=Res.then_ok h;obtain⟨q4,h4,h⟩:=Res.then_ok h;obtain⟨q5,h5,h⟩:=Res.then_ok h;cases h;have:=wK ((uJ rfl _ h5).trans ((y7 4 rfl _ h4).trans ((gq h3).trans ((sO h2).trans (gq h1)))));show sum p+1<=q5.2.2.n0+q5.2.2.n1+q5.2.2.n2;unfold sum at *;simp only at this;omega
theorem Ce:∀(k:Nat) {p:PS} {ns:List By} {is:List Int} {x:List By×List Int×PS},jY k p ns is=.ok x->sum p<=sum x.2.2
 |0,_,_,_,_,h=>by cases h
 |k+1,p,ns,is,x,h=>by
  rw[jY]at h;obtain⟨_,_,h⟩:=Res.then_ok h;obtain⟨q1,h1,h⟩:=Res.then_ok h;obtain⟨q2,h2,h⟩:=Res.then_ok h;obtain⟨q3,h3,h⟩:=Res.then_ok h;obtain⟨q4,h4,h⟩:=Res.then_ok h;have a1:=wK ((sN h3).trans ((gq h2).trans (sO h1)));have a2:=wK (iO rfl _ h4);have a3:sum p+1<=sum q4.2:=by
   rw[a2];show sum p+1<=q3.2.2.n0+(q3.2.2.n1+1)+q3.2.2.n2;unfold sum at *;omega
  split at h
  .have:=Ce k h;omega
  .cases h;show sum p<=sum q4.2;omega
theorem YF(h:enum p=.ok x):sum p<=sum x.2:=by
 obtain⟨q1,h1,h⟩:=Res.then_ok h;obtain⟨q2,h2,h⟩:=Res.then_ok h;obtain⟨q3,h3,h⟩:=Res.then_ok h;obtain⟨q4,h4,h⟩:=Res.then_ok h;obtain⟨q5,h5,h⟩:=Res.then_ok h;cases h;have a1:=wK ((gq h3).trans ((sO h2).trans (gq h1)));have a2:=Ce 12 h4;have a3:=wK (gq h5);show sum p<=sum q5;omega
theorem Iq(h:definition p=.ok x):sum p+1<=sum x.2:=by
 have up:∀{f:PS->Res (Def×PS)},(∀{q:PS} {x:Def×PS},f q=.ok x->sum q<=sum x.2)->((count p p.n0 24).andThen λ_=>f { p with n0:=p.n0+1 })=.ok x->sum p+1<=sum x.2:=by
  intro f hf h;obtain⟨_,_,h⟩:=Res.then_ok h;have:=hf h;show p.n0+p.n1+p.n2+1<=_;have e:sum { p with n0:=p.n0+1 }=p.n0+1+p.n1+p.n2:=rfl;omega
 unfold definition at h;split at h
 .exact Ns h
 split at h
 .exact PM h
 simp only at h;split at h
 .exact up (λh=>Nat.le_of_eq (wK (QV rfl _ h)).symm) h
 split at h
 .exact up YF h
 split at h
 .exact up (λh=>Nat.le_of_eq (wK (LQ rfl _ h)).symm) h
 split at h
 .exact up (λh=>Nat.le_of_eq (wK (QQ rfl _ h)).symm) h
 cases h
end Go.M
namespace Go.M
structure Ins where
 op:Nat
 n:Int
 to:Int
 fixed:Bool
 of_:Nat
 table:Option Nat
 set:Option Nat deriving DecidableEq
abbrev Tab:=List (Int×Nat)
structure CS where
 L:List Ins
 tabs:List Tab
 calls:List (Nat×By×Nat)
 start:List (By×Nat)
 defs:List (By×Def)
 procs:List ((Int×Int×Int)×(Nat×Nat×Bool×Bool))
 fA:List (Int×List Int)
 types:List (By×Nat):=[] deriving DecidableEq
def CS.empty:CS:=⟨[],[],[],[],[],[],[],[]⟩
def ins(op:Nat):Ins:=⟨op,0,0,false,0,none,none⟩
def gI(s:By):Nat:=if s==[105,110,116]then 0 else if s==[117,110,115,105,103,110,101,100]then 1 else if s==[98,111,111,108]then 3 else 2
def CS.put(c:CS)(i:Ins):CS:={ c with L:=c.L++[i] }
def CS.lH(c:CS)(at_:Nat):CS:={ c with L:=c.L.modify at_ λi=>{ i with to:=c.L.length } }
def CS.ref(c:CS)(s:By)(a:Nat):CS:={ c with L:=c.L++[ins 6],calls:=c.calls++[(c.L.length,s,a)] }
def CS.kE(c:CS)(l:Tab):CS:={ c with tabs:=c.tabs++[l] }
def CS.Bj(c:CS)(i:Nat)(n:Int):CS:={ c with tabs:=c.tabs.modify i λl=>bK l n c.L.length }
def lower:Ty->CS->CS
 |.basic s,c=>c.put (ins (gI s))
 |.named s a,c=>c.ref s a
 |.bytes _ f n,c=>c.put { ins 5 with n:=n,fixed:=f }
 |.array t f n,c=>((lower t (c.put { ins (if f then 8 else 9)with n:=n })).put (ins 10)).lH c.L.length
 |.opt t,c=>(lower t (c.put (ins 12))).lH c.L.length
 |.void,c=>c.put (ins 15)
def kJ:Nat->Tab->List Int->Tab
 |_,m,[]=>m
 |k,m,n::r=>kJ (k+1) (bK m n k) r
def members(nums:List Int):Tab:=kJ 0 [] nums
def GK(x:CS×List Nat)(d:Decl):CS×List Nat:=
 let c:=lower d.ty x.1
 (c.put (ins 14),x.2++[c.L.length])
def lT(ti:Nat)(c:CS):List Int->CS
 |[]=>c
 |n::r=>lT ti (c.Bj ti n) r
def lU(ti:Nat)(x:CS×List Nat):List Arm->CS×List Nat
 |[]=>x
 |a::r=>lU ti (GK (lT ti x.1 a.nums,x.2) a.decl) r
def zl(c:CS):List Nat->CS
 |[]=>c
 |e::r=>zl (c.lH e) r
def dU(of:Ty)(c:CS):Ins×CS:=
 let i:Ins:={ ins 13 with of_:=4,to := -1,table:=some c.tabs.length }
 let c:=c.kE []
 match of with
 |.basic s=>({ i with of_:=gI s },c)
 |.named s _=>(match c.defs.lookup s with
  |some ⟨_,_,.enum _ nums⟩=>({ i with set:=some c.tabs.length },c.kE (members nums))
  |_=>(i,c))
 |_=>(i,c)
def rU(of:Ty)(arms:List Arm)(els:Option Decl)(c:CS):CS:=
 let ti:=c.tabs.length
 let h:=dU of c
 let at_:=h.2.L.length
 let x:=lU ti (h.2.put h.1,[]) arms
 let x:=match els with
  |none=>x
  |some d=>GK (x.1.lH at_,x.2) d
 zl x.1 x.2
def XB(at_:Nat)(x:CS×List Nat):Option Decl->CS×List Nat
 |none=>x
 |some d=>GK (x.1.lH at_,x.2) d
def nS(c:CS):List Decl->CS
 |[]=>c
 |d::r=>nS (lower d.ty c) r
def gy(d:Def)(c:CS):CS:=
 let c1:CS:={ c with start:=bK c.start d.name c.L.length }
 match d.k with
 |.alias t=>(lower t c1).put (ins 7)
 |.enum _ nums=>((c1.kE (members nums)).put { ins 4 with table:=some c1.tabs.length }).put (ins 7)
 |.struct ds=>(nS (c1.put { ins 11 with n:=ds.length }) ds).put (ins 7)
 |.union of _ arms els=>(rU of arms els c1).put (ins 7)
 |_=>c
def jV(t:Ty)(c:CS):CS:=(lower t c).put (ins 16)
def iW(g v:Int)(c:CS):List pG->CS
 |[]=>c
 |q::r=>
  let c1:=jV q.res c
  let c2:=jV q.arg c1
  iW g v { c2 with procs:=bK c2.procs (g,v,q.n) (c1.L.length,c.L.length,q.arg==.void,q.res==.void) } r
def iU(g:Int)(c:CS):List qw->CS
 |[]=>c
 |v::r=>iU g (iW g v.n { c with fA:=bK c.fA g ((c.fA.lookup g).getD []++[v.n]) } v.procs) r
def nV(c:CS)(d:Def):CS:=
 let c:CS:={ c with defs:=bK c.defs d.name d }
 match d.k with
 |.prog n vs=>iU n c vs
 |_=>gy d c
def aP(c:CS):List Def->CS
 |[]=>c
 |d::r=>aP (nV c d) r
def nH(c:CS):Ty->Bool
 |.basic _=>true
 |.named s _=>(match c.defs.lookup s with
  |some ⟨_,_,.enum _ is⟩=>decide (is.length<1000000)
  |_=>false)
 |_=>false
def inRange(n:Int):Bool:=decide (0<=n/\n<=4294967295)
def kV(d:Def):Bool:=match d.k with
 |.enum _ is=>decide (is.length<1000000)
 |.struct ds=>decide (ds.length<1000000)
 |.union _ _ arms _=>decide (arms.length<1000000)&&arms.all λa=>decide (a.nums.length<1000000)
 |.prog n vs=>decide (vs.length<1000000)&&inRange n&&vs.all λv=>decide (v.procs.length<1000000)&&inRange v.n&&v.procs.all λq=>inRange q.n
 |_=>true
def kK(c:CS):List Def->Bool
 |[]=>true
 |d::r=>(match d.k with
  |.union of _ _ _=>nH { c with defs:=bK c.defs d.name d } of
  |.prog _ _=>c.fA.all λx=>decide (x.2.length<1000000)
  |_=>true)&&kV d&&(c.start.lookup d.name).isNone&&kK (nV c d) r
def gz(start:List (By×Nat)):List Ins->List (Nat×By×Nat)->Res (List Ins)
 |L,[]=>.ok L
 |L,(a,s,f)::r=>match start.lookup s with
  |none=>.no 7 f
  |some t=>gz start (L.modify a λi=>{ i with to:=t }) r
structure Seen where
 seen:List By
 found:Bool deriving DecidableEq
mutual
def through(defs:List (By×Def))(goal:By):Nat->Ty->Seen->Option Seen
 |0,_,_=>none
 |k+1,.named s _,x=>
  let x:=if s==goal then { x with found:=true }else x
  if x.seen.contains s then some x else visit defs goal k (defs.lookup s) { x with seen:=x.seen++[s] }
 |k+1,.array t f _,x=>if f then through defs goal k t x else some x
 |_+1,_,x=>some x
def visit(defs:List (By×Def))(goal:By):Nat->Option Def->Seen->Option Seen
 |0,_,_=>none
 |k+1,some d,x=>(match d.k with
  |.alias t=>through defs goal k t x
  |.struct ds=>fQ defs goal k (ds.map (·.ty)) x
  |.union _ _ arms els=>fQ defs goal k (arms.map (·.decl.ty)++(els.map (·.ty)).toList) x
  |_=>some x)
 |_+1,none,x=>some x
def fQ(defs:List (By×Def))(goal:By):Nat->List Ty->Seen->Option Seen
 |0,_,_=>none
 |_+1,[],x=>some x
 |k+1,t::r,x=>(match through defs goal k t x with
  |none=>none
  |some y=>fQ defs goal k r y)
end
def endless(defs:List (By×Def))(d:Def):Option Bool:=(visit defs d.name 1000 (some d) ⟨[],false⟩).map (·.found)
def ik(c:CS):List Def->Res Unit
 |[]=>.ok ()
 |d::r=>if(c.start.lookup d.name).isSome&&(endless c.defs d).getD true then .no 9 d.at_ else ik c r
def Jw(c:CS)(ds:List Def):Bool:=ds.all λd=>(endless c.defs d).isSome
def compile(ds:List Def):Res CS:=
 let c:=aP CS.empty ds
 (gz c.start c.L c.calls).andThen λL=>(ik c ds).andThen λ_=>.ok { c with L:=L }
def tsz:Ty->Nat
 |.array t _ _=>tsz t+2
 |.opt t=>tsz t+1
 |_=>1
theorem nY(c:CS)(a:Nat):(c.lH a).L.length=c.L.length:=by simp[CS.lH]
theorem dF(c:CS)(i:Ins):(c.put i).L.length=c.L.length+1:=by simp[CS.put]
theorem eG:∀(t:Ty) (c:CS),(lower t c).L.length=c.L.length+tsz t
 |.basic s,c=>dF c _
 |.named s a,c=>by simp[lower,CS.ref,tsz]
 |.bytes _ f n,c=>dF c _
 |.array t f n,c=>by rw[lower,nY,dF,eG t,dF,tsz];omega
 |.opt t,c=>by rw[lower,nY,eG t,dF,tsz];omega
 |.void,c=>dF c _
def bD:List Arm->Nat
 |[]=>0
 |a::r=>tsz a.decl.ty+1+bD r
def lQ:Option Decl->Nat
 |none=>0
 |some d=>tsz d.ty+1
theorem Ei(x:CS×List Nat)(d:Decl):(GK x d).1.L.length=x.1.L.length+tsz d.ty+1:=by rw[GK,dF,eG]
theorem tY(ti:Nat):∀(l:List Int) (c:CS),(lT ti c l).L.length=c.L.length
 |[],c=>rfl
 |n::r,c=>by rw[lT,tY ti r];rfl
theorem wo(ti:Nat):∀(l:List Arm) (x:CS×List Nat),(lU ti x l).1.L.length=x.1.L.length+bD l
 |[],x=>rfl
 |a::r,x=>by rw[lU,wo ti r,Ei,tY,bD];omega
theorem E8:∀(l:List Nat) (c:CS),(zl c l).L.length=c.L.length
 |[],c=>rfl
 |n::r,c=>by rw[zl,E8 r,nY]
theorem uV(of:Ty)(c:CS):(dU of c).2.L=c.L:=by
 unfold dU;cases of with
 |named s a=>simp only;split<;>rfl
 |_=>rfl
theorem Bf(of:Ty)(ar:List Arm)(els:Option Decl)(c:CS):(rU of ar els c).L.length=c.L.length+1+bD ar+lQ els:=by
 unfold rU;simp only;rw[E8];cases els with
 |none=>simp only;rw[wo,dF,uV];simp only[lQ];omega
 |some d=>simp only;rw[Ei,nY,wo,dF,uV];simp only[lQ];omega
theorem Gp(ti:Nat):∀(l:List Int) (n:Int) (c:CS),lT ti c (l++[n])=(lT ti c l).Bj ti n
 |[],_,_=>rfl
 |a::r,n,c=>by rw[List.cons_append,lT,Gp ti r,lT]
theorem WQ{c:CS}{ti:Nat}{n:Int}{l:Tab}(h:c.tabs[ti]?=some l):c.Bj ti n={ c with tabs:=c.tabs.modify ti λ_=>bK l n c.L.length }:=by
 unfold CS.Bj;congr 1;apply List.ext_getElem?;intro i;rw[List.getElem?_modify,List.getElem?_modify]
 by_cases e:ti=i
 .subst e;simp[h]
 .simp[e]
theorem Gs:∀(ar:List Arm) (k:Nat),bD (ar.take k)+bD (ar.drop k)=bD ar
 |[],k=>by simp[bD]
 |a::r,0=>by simp[bD]
 |a::r,k+1=>by simp only[List.take_succ_cons,List.drop_succ_cons,bD];have:=Gs r k;omega
theorem JG:∀(l:List Nat) (e:Nat) (c:CS),zl c (l++[e])=(zl c l).lH e
 |[],_,_=>rfl
 |a::r,e,c=>by rw[List.cons_append,zl,JG r];rfl
theorem abb:∀t:Ty,0<tsz t
 |.basic _=>Nat.one_pos
 |.named _ _=>Nat.one_pos
 |.bytes _ _ _=>Nat.one_pos
 |.array _ _ _=>by simp[tsz]
 |.opt _=>by simp[tsz]
 |.void=>Nat.one_pos
theorem KL(of:Ty)(ar:List Arm)(els:Option Decl)(c:CS):rU of ar els c =
  zl (XB (dU of c).2.L.length (lU c.tabs.length ((dU of c).2.put (dU of c).1,[]) ar) els).1 (XB (dU of c).2.L.length (lU c.tabs.length ((dU of c).2.put (dU of c).1,[]) ar) els).2:=by
 cases els<;>rfl
def iD:List Decl->Nat
 |[]=>0
 |d::r=>tsz d.ty+iD r
theorem sH:∀(l:List Decl) (c:CS),(nS c l).L.length=c.L.length+iD l
 |[],c=>rfl
 |d::r,c=>by rw[nS,sH r,eG,iD];omega
theorem FQ:∀(l:List Decl) (d:Decl) (c:CS),nS c (l++[d])=lower d.ty (nS c l)
 |[],_,_=>rfl
 |a::r,d,c=>by rw[List.cons_append,nS,FQ r];rfl
theorem Df:∀(l:List Decl) (k:Nat),iD (l.take k)+iD (l.drop k)=iD l
 |[],k=>by simp[iD]
 |a::r,0=>by simp[iD]
 |a::r,k+1=>by simp only[List.take_succ_cons,List.drop_succ_cons,iD];have:=Df r k;omega
def bodyC(d:Def)(c:CS):CS:=
 let c1:CS:={ c with start:=bK c.start d.name c.L.length }
 match d.k with
 |.alias t=>lower t c1
 |.enum _ nums=>(c1.kE (members nums)).put { ins 4 with table:=some c1.tabs.length }
 |.struct ds=>nS (c1.put { ins 11 with n:=ds.length }) ds
 |.union of _ arms els=>rU of arms els c1
 |_=>c
theorem QA{α β:Type}[BEq α]{m:List (α×β)}{a:α}{v:β}(h:m.lookup a=none):bK m a v=m++[(a,v)]:=by
 induction m with
 |nil=>rfl
 |cons x r ih=>
  rw[List.lookup_cons]at h;cases hb:a==x.1 with
  |true=>rw[hb]at h;cases h
  |false=>rw[hb]at h;simp[bK,hb,ih h]
def uX(t:Ty):Nat:=tsz t+1
def je:List pG->Nat
 |[]=>0
 |q::r=>uX q.res+uX q.arg+je r
def mP:List qw->Nat
 |[]=>0
 |v::r=>je v.procs+mP r
theorem EG(t:Ty)(c:CS):(jV t c).L.length=c.L.length+uX t:=by rw[jV,dF,eG,uX];omega
theorem BA(g v:Int):∀(l:List pG) (c:CS),(iW g v c l).L.length=c.L.length+je l
 |[],c=>rfl
 |q::r,c=>by rw[iW,BA g v r];show (jV q.arg (jV q.res c)).L.length+_=_;rw[EG,EG,je];omega
theorem vG(g:Int):∀(l:List qw) (c:CS),(iU g c l).L.length=c.L.length+mP l
 |[],c=>rfl
 |v::r,c=>by rw[iU,vG g r,BA,mP];simp only;omega
def Lt(g v:Int)(c:CS)(q:pG):CS:=
 let c1:=jV q.res c
 let c2:=jV q.arg c1
 {c2 with procs:=bK c2.procs (g,v,q.n) (c1.L.length,c.L.length,q.arg==.void,q.res==.void) }
def Pm(g:Int)(c:CS)(v:qw):CS:=iW g v.n { c with fA:=bK c.fA g ((c.fA.lookup g).getD []++[v.n]) } v.procs
theorem FP(g v:Int):∀(l:List pG) (q:pG) (c:CS),iW g v c (l++[q])=Lt g v (iW g v c l) q
 |[],_,_=>rfl
 |a::r,q,c=>by rw[List.cons_append,iW,FP g v r];rfl
theorem Ic(g:Int):∀(l:List qw) (v:qw) (c:CS),iU g c (l++[v])=Pm g (iU g c l) v
 |[],_,_=>rfl
 |a::r,v,c=>by rw[List.cons_append,iU,Ic g r];rfl
theorem Dc:∀(l:List pG) (k:Nat),je (l.take k)+je (l.drop k)=je l
 |[],k=>by simp[je]
 |a::r,0=>by simp[je]
 |a::r,k+1=>by simp only[List.take_succ_cons,List.drop_succ_cons,je];have:=Dc r k;omega
theorem Fz:∀(l:List qw) (k:Nat),mP (l.take k)+mP (l.drop k)=mP l
 |[],k=>by simp[mP]
 |a::r,0=>by simp[mP]
 |a::r,k+1=>by simp only[List.take_succ_cons,List.drop_succ_cons,mP];have:=Fz r k;omega
theorem xw:∀(t:Ty) (c:CS),(lower t c).fA=c.fA
 |.basic s,c=>rfl
 |.named s a,c=>rfl
 |.bytes _ f n,c=>rfl
 |.array t f n,c=>by rw[lower];exact xw t _
 |.opt t,c=>by rw[lower];exact xw t _
 |.void,c=>rfl
theorem yN(g v:Int):∀(l:List pG) (c:CS),(iW g v c l).fA=c.fA
 |[],c=>rfl
 |q::r,c=>by
  rw[iW,yN g v r];show (lower q.arg (lower q.res c|>.put (ins 16))).fA=c.fA;rw[xw];exact xw _ _
theorem Du{α β:Type}[BEq α]{m:List (α×β)}{a:α}{v:β}{x:α×β}(h:x∈bK m a v):x∈m\/x=(a,v):=by
 induction m with
 |nil=>simp[bK]at h;exact Or.inr h
 |cons y r ih=>
  unfold bK at h;split at h
  .rcases List.mem_cons.mp h with h|h
   .exact Or.inr h
   .exact Or.inl (List.mem_cons_of_mem _ h)
  .rcases List.mem_cons.mp h with h|h
   .exact Or.inl (by rw[h];exact List.mem_cons_self ..)
   .rcases ih h with h|h
    .exact Or.inl (List.mem_cons_of_mem _ h)
    .exact Or.inr h
theorem OD(d:Def)(c:CS):c.L.length<=(gy d c).L.length:=by
 obtain⟨nm,at_,dk⟩:=d;cases dk with
 |alias t=>show c.L.length<=((lower t _).put (ins 7)).L.length;rw[dF,eG];simp only;omega
 |enum ns is=>simp[gy,CS.put,CS.kE]
 |struct ds=>show c.L.length<=((nS _ ds).put (ins 7)).L.length;rw[dF,sH,dF];simp only;omega
 |union o n ar els=>show c.L.length<=((rU o ar els _).put (ins 7)).L.length;rw[dF,Bf];simp only;omega
 |const n=>exact Nat.le_refl _
 |prog n vs=>exact Nat.le_refl _
theorem Me(d:Def)(c:CS):c.L.length<=(nV c d).L.length:=by
 unfold nV;cases h:d.k with
 |prog n vs=>simp only;rw[vG];simp only;omega
 |_=>simp only;exact OD d { c with defs:=bK c.defs d.name d }
theorem JI:∀(l:List Def) (c:CS),c.L.length<=(aP c l).L.length
 |[],_=>Nat.le_refl _
 |d::r,c=>Nat.le_trans (Me d c) (JI r _)
theorem jb:∀(l:List Def) (d:Def) (c:CS),aP c (l++[d])=nV (aP c l) d
 |[],_,_=>rfl
 |a::r,d,c=>by rw[List.cons_append,aP,jb r];rfl
theorem Md:∀(l r:List Def) (c:CS),aP c (l++r)=aP (aP c l) r
 |[],_,_=>rfl
 |a::l,r,c=>by rw[List.cons_append,aP,Md l r];rfl
def kY(c:CS):List By->CS
 |[]=>c
 |s::r=>kY { c with types:=bK c.types s c.L.length,L:=c.L++[{ ins 6 with to:=((c.start.lookup s).getD 0:Nat) },ins 16] } r
theorem FI:∀(l:List By) (s:By) (c:CS),kY c (l++[s])=kY (kY c l) [s]
 |[],_,_=>rfl
 |a::r,s,c=>by rw[List.cons_append,kY,FI r];rfl
theorem Ig:∀(l:List By) (c:CS),(kY c l).L.length=c.L.length+2*l.length
 |[],c=>rfl
 |s::r,c=>by rw[kY,Ig r];simp only[List.length_append,List.length_cons,List.length_nil];omega
theorem BX:∀(l:List By) (c:CS),(kY c l).start=c.start
 |[],c=>rfl
 |s::r,c=>by rw[kY,BX r]
def fine(ds:List Def):Bool:=
 let c:=aP CS.empty ds
 kK CS.empty ds&&decide (c.L.length+2*c.start.length<1000000)&&(c.calls.all λx=>decide (x.1<c.L.length))&&(c.defs.all λx=>kV x.2)&&Jw c ds&&decide (ds.length<1000000)
end Go.M
namespace Go.M
structure Nd where
 kind:Int
 n:Int
 s:By
 at_:Int
 len:Int deriving DecidableEq
structure Lim where
 depth:Int
 fuel:Int
 size:Int deriving DecidableEq
structure DS where
 b:By
 pos:Nat
 l:List Nd deriving DecidableEq
def w32:By->Nat
 |a::b::c::d::_=>a.toNat*16777216+b.toNat*65536+c.toNat*256+d.toNat
 |_=>0
def DS.word(d:DS):Res (Nat×DS):=if d.b.length<d.pos+4 then .no 16 d.pos else .ok (w32 (d.b.drop d.pos),{ d with pos:=d.pos+4 })
def U8(n:Nat):Nat:=(4 - n % 4) % 4
def UX(b:By):Nat->Nat->Res Nat
 |0,p=>.ok p
 |k+1,p=>if b[p]?.getD 0 != 0 then .no 17 p else UX b k (p+1)
def DS.text(d:DS)(n:Nat):Res (By×DS):=
 if d.b.length<d.pos+n+U8 n then .no 16 d.pos
 else(UX d.b (U8 n) (d.pos+n)).andThen λp=>.ok ((d.b.drop d.pos).take n,{ d with pos:=p })
def YL(w:Int):Int:=if w % 4294967296<2147483648 then w % 4294967296 else w % 4294967296 - 4294967296
def numOf(op:Nat)(w:Nat):Int:=if op==0||op==4 then YL w else w
def fits(op:Nat)(set:Option Tab)(n:Int):Bool:=
 if op==0 then n==YL n
 else if op==1 then n==n % 4294967296
 else if op==3 then n==0||n==1
 else if op==4 then((set.getD []).lookup n).isSome
 else true
def yu(tabs:List Tab)(o:Option Nat):Option Tab:=o.map λi=>(tabs[i]?).getD []
def target(tabs:List Tab)(i:Ins)(n:Int):Int:=
 if !fits i.of_ (yu tabs i.set) n then -1
 else match ((yu tabs i.table).getD []).lookup n with
  |some t=>t
  |none=>i.to
def DS.fuel(d:DS)(lim:Lim):Res Unit:=if lim.fuel<=d.l.length then .no 15 d.pos else .ok ()
def DS.add(d:DS)(n:Nd):DS:={ d with l:=d.l++[n] }
def DS.count(d:DS)(most:Int):Res (Nat×DS):=d.word.andThen λx=>if most<x.1 then .no 19 d.pos else .ok x
def DS.leaf(tabs:List Tab)(lim:Lim)(i:Ins)(d:DS):Res DS:=
 (d.fuel lim).andThen λ_=>
 if i.op==5 then
  (if i.fixed then .ok (i.n,d)else(d.count i.n).andThen λx=>.ok ((x.1:Int),x.2)).andThen λx=>
  if 2147483647<x.1 then .no 16 x.2.pos else
  (x.2.text x.1.toNat).andThen λy=>.ok (y.2.add ⟨2,0,y.1,x.2.pos,0⟩)
 else if i.op==2 then
  if d.b.length<d.pos+8 then .no 16 d.pos else
  d.word.andThen λx=>x.2.word.andThen λy=>
  let n:Int:=x.1*4294967296+y.1
  .ok (y.2.add ⟨1,if n<9223372036854775808 then n else n - 18446744073709551616,[],0,0⟩)
 else
  d.word.andThen λx=>
  let n:=numOf i.op x.1
  if fits i.op (yu tabs i.table) n then .ok (x.2.add ⟨1,n,[],0,0⟩)else .no 18 d.pos
def DS.list(lim:Lim)(i:Ins)(d:DS):Res (Int×DS):=
 (d.fuel lim).andThen λ_=>
 (if i.op==9 then(d.count i.n).andThen λx=>.ok ((x.1:Int),x.2)else .ok (i.n,d)).andThen λx=>
 .ok (x.1,x.2.add ⟨3,0,[],0,x.1⟩)
def DS.option(lim:Lim)(d:DS):Res (Bool×DS):=
 (d.fuel lim).andThen λ_=>d.word.andThen λx=>
 if 1<x.1 then .no 18 d.pos else .ok (x.1==1,x.2.add ⟨4,x.1,[],0,x.1⟩)
def DS.union(L:List Ins)(tabs:List Tab)(lim:Lim)(i:Ins)(d:DS):Res (Int×DS):=
 (d.fuel lim).andThen λ_=>d.word.andThen λx=>
 let n:=numOf i.of_ x.1
 let t:=target tabs i n
 if t<0 then .no 18 d.pos else
 .ok (t,x.2.add ⟨4,n,[],0,if(L[t.toNat]?).map (·.op)==some 15 then 0 else 1⟩)
end Go.M
namespace Go.M
structure Wy (σ:Type) where
 leaf:Ins->σ->Res σ
 list:Ins->σ->Res (Int×σ)
 option:σ->Res (Bool×σ)
 union:Ins->σ->Res (Int×σ)
 place:σ->Nat
structure MS (σ:Type) where
 pc:Nat
 back:List Nat
 loops:List (Int×Nat)
 d:σ
def oh{σ:Type}(lim:Lim)(io:Wy σ)(i:Ins)(s:MS σ):Option (Res (Bool×MS σ)):=
  if i.op==16 then some (.ok (false,s))
  else if i.op==15 then some (.ok (true,{ s with pc:=s.pc+1 }))
  else if i.op==14 then some (.ok (true,{ s with pc:=i.to.toNat }))
  else if i.op==6 then some (if lim.depth<=s.back.length then .no 13 (io.place s.d)else .ok (true,{ s with pc:=i.to.toNat,back:=(s.pc+1)::s.back }))
  else if i.op==7 then(match s.back with
   |[]=>none
   |p::r=>some (.ok (true,{ s with pc:=p,back:=r })))
  else if i.op==8||i.op==9 then if 1000000<=s.loops.length then none else some ((io.list i s.d).andThen λx=>
   if x.1==0 then .ok (true,{ s with pc:=i.to.toNat,d:=x.2 })else .ok (true,{ s with pc:=s.pc+1,loops:=(x.1 - 1,s.pc+1)::s.loops,d:=x.2 }))
  else if i.op==10 then(match s.loops with
   |[]=>none
   |(n,p)::r=>some (.ok (true,if 0<n then { s with pc:=p,loops:=(n - 1,p)::r }else { s with pc:=s.pc+1,loops:=r })))
  else if i.op==11 then some ((io.list i s.d).andThen λx=>.ok (true,{ s with pc:=s.pc+1,d:=x.2 }))
  else if i.op==12 then some ((io.option s.d).andThen λx=>.ok (true,{ s with pc:=if x.1 then s.pc+1 else i.to.toNat,d:=x.2 }))
  else if i.op==13 then some ((io.union i s.d).andThen λx=>.ok (true,{ s with pc:=x.1.toNat,d:=x.2 }))
  else some ((io.leaf i s.d).andThen λd=>.ok (true,{ s with pc:=s.pc+1,d:=d }))
def Vj{σ:Type}(L:List Ins)(lim:Lim)(io:Wy σ)(s:MS σ):Option (Res (Bool×MS σ)):=
 match L[s.pc]? with
 |none=>none
 |some i=>oh lim io i s
def Jk{σ:Type}(L:List Ins)(lim:Lim)(io:Wy σ):Nat->MS σ->Option (Res (MS σ))
 |0,_=>none
 |k+1,s=>match Vj L lim io s with
  |none=>none
  |some (.no e a)=>some (.no e a)
  |some (.ok (false,s'))=>some (.ok s')
  |some (.ok (true,s'))=>Jk L lim io k s'
def insOk(len:Nat)(tabs:List Tab)(i:Ins):Bool:=decide (0<=i.n/\i.n<=4294967295/\i.to<len/\(i.op=13\/0<=i.to))&&((yu tabs i.table).getD []).all λx=>decide (i.op=13->x.2<len)
end Go.M
namespace Go.M
structure ES where
 l:List Nd
 k:Nat
 out:By deriving DecidableEq
def LH(n:Nat):UInt8:=UInt8.ofNat n
def xP(n:Nat):By:=[LH (n / 16777216 % 256),LH (n / 65536 % 256),LH (n / 256 % 256),LH (n % 256)]
def u32(n:Int):Nat:=(n % 4294967296).toNat
def ES.take(lim:Lim)(kind:Int)(e:ES):Res Nd:=
 if lim.fuel<=e.k then .no 15 e.k else match e.l[e.k]? with
  |none=>.no 12 e.k
  |some n=>if n.kind==kind then .ok n else .no 12 e.k
def ES.must(b:Bool)(e:ES):Res Unit:=if b then .ok ()else .no 12 e.k
def Zb(lim:Lim)(k:Nat):By->List By->Res By
 |out,[]=>.ok out
 |out,s::r=>if lim.size<out.length+s.length then .no 14 k else Zb lim k (out++s) r
def ES.put(lim:Lim)(parts:List By)(e:ES):Res ES:=(Zb lim e.k e.out parts).andThen λo=>.ok { e with out:=o,k:=e.k+1 }
def zeros(n:Nat):By:=List.replicate n 0
def ES.leaf(tabs:List Tab)(lim:Lim)(i:Ins)(e:ES):Res ES:=
 if i.op==5 then
  (e.take lim 2).andThen λn=>
  (e.must (((n.s.length:Int)==i.n)||(decide ((n.s.length:Int)<i.n)&&!i.fixed))).andThen λ_=>
  e.put lim (if i.fixed then[n.s,zeros (U8 n.s.length)]else[xP n.s.length,n.s,zeros (U8 n.s.length)])
 else
  (e.take lim 1).andThen λn=>
  (e.must (fits i.op (yu tabs i.table) n.n)).andThen λ_=>
  e.put lim (if i.op==2 then[xP ((n.n % 18446744073709551616).toNat / 4294967296),xP (u32 n.n)]else[xP (u32 n.n)])
def ES.list(lim:Lim)(i:Ins)(e:ES):Res (Int×ES):=
 (e.take lim 3).andThen λn=>
 if i.op==9 then(e.must (decide (0<=n.len)&&decide (n.len<=i.n))).andThen λ_=>(e.put lim [xP (u32 n.len)]).andThen λe=>.ok (n.len,e)
 else(e.must (n.len==i.n)).andThen λ_=>(e.put lim []).andThen λe=>.ok (n.len,e)
def ES.option(lim:Lim)(e:ES):Res (Bool×ES):=
 (e.take lim 4).andThen λn=>
 (e.must (decide (0<=n.len)&&decide (n.len<=1)&&n.n==n.len)).andThen λ_=>(e.put lim [xP (u32 n.n)]).andThen λe=>.ok (n.len==1,e)
def ES.union(L:List Ins)(tabs:List Tab)(lim:Lim)(i:Ins)(e:ES):Res (Int×ES):=
 (e.take lim 4).andThen λn=>
 let t:=target tabs i n.n
 (e.must (decide (0<=t))).andThen λ_=>
 (e.must (n.len==if(L[t.toNat]?).map (·.op)==some 15 then 0 else 1)).andThen λ_=>
 (e.put lim [xP (u32 n.n)]).andThen λe=>.ok (t,e)
end Go.M
namespace Go.M
structure Wz (σ:Type) where
 leaf:Nat->Bool->Int->List Int->σ->Res σ
 list:Bool->Int->σ->Res (Int×σ)
 option:σ->Res (Bool×σ)
 union:Nat->List Int->(Int->Option Bool)->σ->Res (Int×σ)
 place:σ->Nat
def iter{σ:Type}(f:σ->Res σ):Nat->σ->Res σ
 |0,s=>.ok s
 |n+1,s=>(f s).andThen (iter f n)
def ug{σ:Type}(z:Wz σ)(nm:By->σ->Res σ):Ty->σ->Res σ
 |.basic s,d=>z.leaf (gI s) false 0 [] d
 |.named s _,d=>nm s d
 |.bytes _ f n,d=>z.leaf 5 f n [] d
 |.array t f n,d=>(z.list (!f) n d).andThen λx=>iter (ug z nm t) x.1.toNat x.2
 |.opt t,d=>(z.option d).andThen λx=>if x.1 then ug z nm t x.2 else .ok x.2
 |.void,d=>.ok d
def J4{σ:Type}(z:Wz σ)(nm:By->σ->Res σ):List Decl->σ->Res σ
 |[],d=>.ok d
 |t::r,d=>(ug z nm t.ty d).andThen (J4 z nm r)
def Ba:List Arm->Int->Option Ty
 |[],_=>none
 |a::r,n=>match Ba r n with
  |some t=>some t
  |none=>if a.nums.contains n then some a.decl.ty else none
def zx(arms:List Arm)(els:Option Decl)(n:Int):Option Ty:=match Ba arms n with
 |some t=>some t
 |none=>els.map (·.ty)
def EN:Ty->Nat
 |.basic s=>gI s
 |_=>4
def yR(defs:List (By×Def)):Ty->List Int
 |.named s _=>(match defs.lookup s with
  |some ⟨_,_,.enum _ nums⟩=>nums
  |_=>[])
 |_=>[]
def yf(arms:List Arm)(els:Option Decl)(n:Int):Option Bool:=(zx arms els n).map (·==.void)
def EH{σ:Type}(z:Wz σ)(nm:By->σ->Res σ)(defs:List (By×Def)):Dk->σ->Res σ
 |.alias t,d=>ug z nm t d
 |.enum _ nums,d=>z.leaf 4 false 0 nums d
 |.struct ds,d=>(z.list false ds.length d).andThen λx=>J4 z nm ds x.2
 |.union of _ arms els,d=>(z.union (EN of) (yR defs of) (yf arms els) d).andThen λx=>match zx arms els x.1 with
  |some t=>ug z nm t x.2
  |none=>.no 99 0
 |_,d=>.no 99 0
def sem{σ:Type}(z:Wz σ)(defs:List (By×Def)):Nat->By->σ->Res σ
 |0,_,d=>.no 13 (z.place d)
 |r+1,s,d=>match defs.lookup s with
  |some x=>EH z (sem z defs r) defs x.k d
  |none=>.no 99 0
section
variable {σ:Type} {L:List Ins} {lim:Lim} {io:Wy σ}
def Goes(L:List Ins)(lim:Lim)(io:Wy σ)(s s':MS σ):Prop:=∃n,∀j,Jk L lim io (n+j) s=Jk L lim io j s'
def Comes(L:List Ins)(lim:Lim)(io:Wy σ)(s:MS σ):Res (MS σ)->Prop
 |.ok s'=>Goes L lim io s s'
 |.no e a=>∃n,∀j,Jk L lim io (n+j) s=some (.no e a)
theorem Goes.refl(s:MS σ):Goes L lim io s s:=⟨0,λj=>by rw[Nat.zero_add]⟩
theorem Goes.trans(h:Goes L lim io a b)(k:Goes L lim io b c):Goes L lim io a c:=by
 obtain⟨n,h⟩:=h;obtain⟨m,k⟩:=k;exact⟨n+m,λj=>by rw[Nat.add_assoc,h,k]⟩
theorem Goes.comes(h:Goes L lim io a b)(k:Comes L lim io b r):Comes L lim io a r:=by
 cases r with
 |ok c=>exact Goes.trans h k
 |no e a=>
  obtain⟨n,h⟩:=h;obtain⟨m,k⟩:=k;exact⟨n+m,λj=>by rw[Nat.add_assoc,h,k]⟩
theorem Goes.step(hi:L[s.pc]?=some i)(h:oh lim io i s=some (.ok (true,s'))):Goes L lim io s s':=
 ⟨1,λj=>by rw[Nat.add_comm,Jk];simp only[Vj,hi,h]⟩
theorem Comes.fail(hi:L[s.pc]?=some i)(h:oh lim io i s=some (.no e a)):Comes L lim io s (.no e a):=
 ⟨1,λj=>by rw[Nat.add_comm,Jk];simp only[Vj,hi,h]⟩
theorem Comes.step{s:MS σ}{i:Ins}{α:Type}{m:Res α}{f:α->MS σ}(hi:L[s.pc]?=some i)(h:oh lim io i s=some (m.andThen λx=>.ok (true,f x)))
  {r:α->Res (MS σ)} (k:∀x,m=.ok x->Comes L lim io (f x) (r x)):Comes L lim io s (m.andThen r):=by
 cases m with
 |no e a=>exact Comes.fail hi h
 |ok x=>exact(Goes.step hi h).comes (k x rfl)
theorem Comes.bind{s:MS σ}{α:Type}{m:Res α}{f:α->MS σ}{r:α->Res (MS σ)}(h:Comes L lim io s (m.andThen λx=>.ok (f x)))(k:∀x,m=.ok x->Comes L lim io (f x) (r x)):Comes L lim io s (m.andThen r):=by
 cases m with
 |no e a=>exact h
 |ok x=>exact Goes.comes h (k x rfl)
theorem Comes.stop{s:MS σ}{i:Ins}{α:Type}{m:Res α}{f:α->MS σ}(hi:i.op=16)(hf:∀x,L[(f x).pc]?=some i)(h:Comes L lim io s (m.andThen λx=>.ok (f x))):
  ∃n,Jk L lim io n s=some (m.andThen λx=>.ok (f x)):=by
 cases m with
 |no e a=>obtain⟨n,h⟩:=h;exact⟨n+0,h 0⟩
 |ok x=>
  obtain⟨n,h⟩:=h;refine⟨n+1,?_⟩;show Jk L lim io (n+1) s=_;rw[h 1,Jk];simp only[Vj,hf x,oh,hi,beq_self_eq_true,if_true,Res.aS]
end
def gX:Ty->Nat->List Ins
 |.basic s,_=>[ins (gI s)]
 |.named _ _,_=>[ins 6]
 |.bytes _ f n,_=>[{ ins 5 with n:=n,fixed:=f }]
 |.array t f n,b=>{ ins (if f then 8 else 9)with n:=n,to:=((b+tsz t+2:Nat):Int) }::(gX t (b+1)++[ins 10])
 |.opt t,b=>{ ins 12 with to:=((b+tsz t+1:Nat):Int) }::gX t (b+1)
 |.void,_=>[ins 15]
def iP:Ty->Nat->List (Nat×By×Nat)
 |.named s a,b=>[(b,s,a)]
 |.array t _ _,b=>iP t (b+1)
 |.opt t,b=>iP t (b+1)
 |_,_=>[]
theorem dN:∀(t:Ty) (b:Nat),(gX t b).length=tsz t
 |.basic _,_=>rfl
 |.named _ _,_=>rfl
 |.bytes _ _ _,_=>rfl
 |.array t _ _,b=>by simp[gX,tsz,dN t]
 |.opt t,b=>by simp[gX,tsz,dN t]
 |.void,_=>rfl
theorem BB(l:List α)(x:α)(r:List α)(f:α->α):(l++x::r).modify l.length f=l++f x::r:=by
 induction l with
 |nil=>rfl
 |cons a l ih=>simp only[List.cons_append,List.length_cons,List.modify_succ_cons,ih]
def CS.grow(c:CS)(l:List Ins)(k:List (Nat×By×Nat)):CS:={ c with L:=c.L++l,calls:=c.calls++k }
theorem grow_grow(c:CS)(l l':List Ins)(k k':List (Nat×By×Nat)):(c.grow l k).grow l' k'=c.grow (l++l') (k++k'):=by simp[CS.grow]
theorem kW(c:CS)(i:Ins):c.put i=c.grow [i] []:=by simp[CS.put,CS.grow]
theorem IC(c:CS)(x:Ins)(r:List Ins)(k:List (Nat×By×Nat)):(c.grow (x::r) k).lH c.L.length=c.grow ({ x with to:=((c.L.length+r.length+1:Nat):Int) }::r) k:=by
 unfold CS.lH CS.grow;simp only[BB];congr 3;simp only[List.length_append,List.length_cons];congr 2
theorem vT(c:CS)(l:List Ins)(k:List (Nat×By×Nat)):(c.grow l k).L.length=c.L.length+l.length:=by simp[CS.grow]
theorem lower_eq:∀(t:Ty) (c:CS),lower t c=c.grow (gX t c.L.length) (iP t c.L.length)
 |.basic s,c=>by rw[lower,kW];rfl
 |.named s a,c=>by simp[lower,CS.ref,gX,iP,CS.grow]
 |.bytes _ f n,c=>by rw[lower,kW];rfl
 |.array t f n,c=>by
  rw[lower,kW c,lower_eq t,kW,grow_grow,grow_grow,List.nil_append,List.append_nil,List.singleton_append,IC];rw[gX,iP,vT];congr 3;simp[dN];omega
 |.opt t,c=>by
  rw[lower,kW c,lower_eq t,grow_grow,List.nil_append,List.singleton_append,IC];rw[gX,iP,vT];congr 3;simp[dN]
 |.void,c=>by rw[lower,kW];rfl
end Go.M
namespace Go.M
def xR(e:Int):Ins:={ ins 14 with to:=e }
def pO:List Arm->Nat->Int->List Ins
 |[],_,_=>[]
 |a::r,b,e=>gX a.decl.ty b++xR e::pO r (b+tsz a.decl.ty+1) e
def kD:List Arm->Nat->List (Nat×By×Nat)
 |[],_=>[]
 |a::r,b=>iP a.decl.ty b++kD r (b+tsz a.decl.ty+1)
def vZ:List Arm->Nat->List Nat
 |[],_=>[]
 |a::r,b=>(b+tsz a.decl.ty)::vZ r (b+tsz a.decl.ty+1)
def o9(b:Nat)(m:Tab):List Int->Tab
 |[]=>m
 |n::r=>o9 b (bK m n b) r
def pz:List Arm->Nat->Tab->Tab
 |[],_,m=>m
 |a::r,b,m=>pz r (b+tsz a.decl.ty+1) (o9 b m a.nums)
def DW:Option Decl->Nat->Int->List Ins
 |none,_,_=>[]
 |some d,b,e=>gX d.ty b++[xR e]
def tV:Option Decl->Nat->List (Nat×By×Nat)
 |none,_=>[]
 |some d,b=>iP d.ty b
def DX:Option Decl->Nat->List Nat
 |none,_=>[]
 |some d,b=>[b+tsz d.ty]
theorem qp:∀(l:List Arm) (b:Nat) (e:Int),(pO l b e).length=bD l
 |[],_,_=>rfl
 |a::r,b,e=>by simp only[pO,bD,List.length_append,List.length_cons,dN,qp r];omega
theorem Rw:∀(l:Option Decl) (b:Nat) (e:Int),(DW l b e).length=lQ l
 |none,_,_=>rfl
 |some d,b,e=>by simp[DW,lQ,dN]
def CS.more(c:CS)(l:List Ins)(k:List (Nat×By×Nat))(t:List Tab):CS:={ c with L:=c.L++l,calls:=c.calls++k,tabs:=c.tabs++t }
theorem vS(c:CS)(l:List Ins)(k:List (Nat×By×Nat)):c.grow l k=c.more l k []:=by simp[CS.grow,CS.more]
theorem Xf(c:CS)(l l':List Ins)(k k':List (Nat×By×Nat))(t t':List Tab):(c.more l k t).more l' k' t'=c.more (l++l') (k++k') (t++t'):=by simp[CS.more]
def CS.turn(c:CS)(ti:Nat)(f:Tab->Tab):CS:={ c with tabs:=c.tabs.modify ti f }
theorem MB(ti:Nat):∀(l:List Int) (c:CS),lT ti c l=c.turn ti λm=>o9 c.L.length m l
 |[],c=>by
  unfold lT CS.turn o9;rw[show (λm:Tab=>m)=id from rfl,List.modify_id]
 |n::r,c=>by
  rw[lT,MB ti r];simp only[CS.turn,CS.Bj,List.modify_modify_eq];rfl
theorem VR(c:CS)(l:List Nat)(d:Decl):GK (c,l) d=(c.grow (gX d.ty c.L.length++[xR 0]) (iP d.ty c.L.length),l++[c.L.length+tsz d.ty]):=by
 unfold GK;simp only[lower_eq,kW,grow_grow,List.append_nil,vT,dN];rfl
theorem SB(ti:Nat):∀(l:List Arm) (c:CS) (es:List Nat),lU ti (c,es) l=((c.grow (pO l c.L.length 0) (kD l c.L.length)).turn ti (pz l c.L.length),es++vZ l c.L.length)
 |[],c,es=>by
  simp only[lU,pO,kD,vZ,CS.grow,CS.turn,List.append_nil];rw[show pz [] c.L.length=id from rfl,List.modify_id]
 |a::r,c,es=>by
  rw[lU,MB,VR,SB ti r];have e:(c.turn ti λm=>o9 c.L.length m a.nums).L=c.L:=rfl;simp only[vT,e,List.length_append,dN,List.length_singleton];simp only[CS.grow,CS.turn,List.modify_modify_eq,pO,kD,vZ,List.append_assoc,List.cons_append,List.nil_append,Nat.add_assoc];rfl
def zk(e:Int)(L:List Ins):List Nat->List Ins
 |[]=>L
 |a::r=>zk e (L.modify a λi=>{ i with to:=e }) r
theorem Rq:∀(l:List Nat) (c:CS),zl c l={ c with L:=zk (c.L.length:Nat) c.L l }
 |[],c=>rfl
 |a::r,c=>by
  rw[zl,Rq r];simp only[CS.lH,List.length_modify];rfl
theorem DT(e:Int):∀(l r:List Nat) (L:List Ins),zk e L (l++r)=zk e (zk e L l) r
 |[],_,_=>rfl
 |a::l,r,L=>by rw[List.cons_append,zk,DT e l r];rfl
theorem ET{α:Type}(l:List α)(x:α)(r:List α)(f:α->α)(n:Nat)(h:n=l.length):(l++x::r).modify n f=l++f x::r:=by subst h;exact BB l x r f
theorem JF(e:Int):∀(l:List Arm) (pre post:List Ins),zk e (pre++(pO l pre.length 0++post)) (vZ l pre.length)=pre++(pO l pre.length e++post)
 |[],pre,post=>rfl
 |a::r,pre,post=>by
  rw[vZ,zk,pO,pO];simp only[List.append_assoc,List.cons_append];rw[<- List.append_assoc pre,ET _ _ _ _ _ (by rw[List.length_append,dN])];have k:=JF e r (pre++gX a.decl.ty pre.length++[xR e]) post;have hl:(pre++gX a.decl.ty pre.length++[xR e]).length=pre.length+tsz a.decl.ty+1:=by simp[dN];omega
  rw[hl]at k;simp only[List.append_assoc,List.cons_append,List.nil_append]at k ⊢;exact k
theorem XA(e:Int):∀(l:Option Decl) (pre post:List Ins),zk e (pre++(DW l pre.length 0++post)) (DX l pre.length)=pre++(DW l pre.length e++post)
 |none,pre,post=>rfl
 |some d,pre,post=>by
  rw[DX,zk,zk,DW,DW];simp only[List.append_assoc,List.cons_append,List.nil_append];rw[<- List.append_assoc pre,ET _ _ _ _ _ (by rw[List.length_append,dN])];simp only[List.append_assoc,List.cons_append,List.nil_append];rfl
def lC(defs:List (By×Def)):Ty->List Tab
 |.named s _=>(match defs.lookup s with
  |some ⟨_,_,.enum _ nums⟩=>[members nums]
  |_=>[])
 |_=>[]
def lF(defs:List (By×Def))(of:Ty)(tb:Nat)(to:Int):Ins:=
 {ins 13 with of_:=EN of,to:=to,table:=some tb,set:=match lC defs of with|[]=>none|_::_=>some (tb+1) }
theorem Nl(of:Ty)(c:CS):dU of c=(lF c.defs of c.tabs.length (-1),{ c with tabs:=c.tabs++[]::lC c.defs of }):=by
 unfold dU lF lC;cases of with
 |named s a=>
  simp only[CS.kE,EN];cases hl:c.defs.lookup s with
  |none=>simp[ins]
  |some d=>
   obtain⟨_,_,k⟩:=d;cases k<;>simp[ins]
 |_=>simp[CS.kE,EN,ins]
def pM(els:Option Decl)(b:Nat):Int:=match els with
 |none => -1
 |some _=>(b:Nat)
def Eu(defs:List (By×Def))(of:Ty)(arms:List Arm)(els:Option Decl)(b tb:Nat):List Ins:=
 let e:Int:=((b+1+bD arms+lQ els:Nat):Int)
 lF defs of tb (pM els (b+1+bD arms))::(pO arms (b+1) e++DW els (b+1+bD arms) e)
def nM(arms:List Arm)(els:Option Decl)(b:Nat):List (Nat×By×Nat):=kD arms (b+1)++tV els (b+1+bD arms)
theorem acH(at_:Nat)(c:CS)(es:List Nat)(els:Option Decl)(pre post:List Ins)(i:Ins)(h:c.L=pre++i::post)(ha:at_=pre.length)(hi:i.to = -1):
  XB at_ (c,es) els=({ c with L:=pre++{ i with to:=pM els c.L.length }::post++DW els c.L.length 0,calls:=c.calls++tV els c.L.length },es++DX els c.L.length):=by
 cases els with
 |none=>
  simp only[XB,DW,tV,DX,pM,List.append_nil,<- hi,<- h]
 |some d=>
  rw[XB,VR];have e:(c.lH at_).L=pre++{ i with to:=pM (some d) c.L.length }::post:=by
   simp only[CS.lH];rw[h,ET _ _ _ _ _ ha];simp[pM]
  have e2:(c.lH at_).L.length=c.L.length:=by simp[CS.lH]
  rw[e2];simp only[CS.grow,e,DW,tV,DX];rfl
theorem Tn(of:Ty)(arms:List Arm)(els:Option Decl)(c:CS):rU of arms els c =
  c.more (Eu c.defs of arms els c.L.length c.tabs.length) (nM arms els c.L.length) (pz arms (c.L.length+1) []::lC c.defs of):=by
 rw[KL,Nl];simp only[kW];rw[SB];have l1:(CS.grow { c with tabs:=c.tabs++[]::lC c.defs of } [lF c.defs of c.tabs.length (-1)] []).L.length=c.L.length+1:=by simp[CS.grow]
 rw[l1];rw[acH (pre:=c.L) (i:=lF c.defs of c.tabs.length (-1)) (post:=pO arms (c.L.length+1) 0) (h:=by simp[CS.grow,CS.turn]) (ha:=rfl) (hi:=rfl)];have l2:((CS.grow (CS.grow { c with tabs:=c.tabs++[]::lC c.defs of } [lF c.defs of c.tabs.length (-1)] []) (pO arms (c.L.length+1) 0) (kD arms (c.L.length+1))).turn c.tabs.length (pz arms (c.L.length+1))).L.length=c.L.length+1+bD arms:=by
  simp[CS.grow,CS.turn,qp];omega
 rw[l2,Rq];simp only[CS.grow,CS.turn,CS.more,nM,List.append_assoc,List.nil_append,List.append_nil,BB];congr 1;rw[Eu];simp only[List.length_append,List.length_cons,qp,Rw];rw[DT];have a0:c.L.length+(bD arms+1+lQ els)=c.L.length+(bD arms+lQ els+1):=omg;rw[a0];have k1:=JF ((c.L.length+(bD arms+lQ els+1):Nat):Int) arms (c.L++[{ lF c.defs of c.tabs.length (-1)with to:=pM els (c.L.length+1+bD arms) }]) (DW els (c.L.length+1+bD arms) 0);have k2:=XA ((c.L.length+(bD arms+lQ els+1):Nat):Int) els (c.L++{ lF c.defs of c.tabs.length (-1)with to:=pM els (c.L.length+1+bD arms) }::pO arms (c.L.length+1) ((c.L.length+(bD arms+lQ els+1):Nat):Int)) [];simp only[List.length_append,List.length_nil,Nat.zero_add,List.length_cons,qp,List.append_assoc,List.cons_append,List.nil_append,List.append_nil]at k1 k2;have a1:c.L.length+(bD arms+1)=c.L.length+1+bD arms:=omg;rw[a1]at k2;simp only[List.cons_append,List.append_assoc];rw[k1,k2];have a2:c.L.length+(bD arms+lQ els+1)=c.L.length+1+bD arms+lQ els:=omg;rw[a2];rfl
def uZ:List Decl->Nat->List Ins
 |[],_=>[]
 |d::r,b=>gX d.ty b++uZ r (b+tsz d.ty)
def kQ:List Decl->Nat->List (Nat×By×Nat)
 |[],_=>[]
 |d::r,b=>iP d.ty b++kQ r (b+tsz d.ty)
theorem IX:∀(l:List Decl) (b:Nat),(uZ l b).length=iD l
 |[],_=>rfl
 |d::r,b=>by simp[uZ,iD,dN,IX r]
theorem IY:∀(l:List Decl) (c:CS),nS c l=c.grow (uZ l c.L.length) (kQ l c.L.length)
 |[],c=>by simp[nS,uZ,kQ,CS.grow]
 |d::r,c=>by
  rw[nS,lower_eq,IY r,grow_grow,vT,dN];rfl
def qZ(defs:List (By×Def))(b tb:Nat):Dk->List Ins
 |.alias t=>gX t b++[ins 7]
 |.enum _ nums=>[{ ins 4 with table:=some tb },ins 7]
 |.struct ds=>{ ins 11 with n:=ds.length }::(uZ ds (b+1)++[ins 7])
 |.union of _ arms els=>Eu defs of arms els b tb++[ins 7]
 |_=>[]
def gZ(b:Nat):Dk->List (Nat×By×Nat)
 |.alias t=>iP t b
 |.struct ds=>kQ ds (b+1)
 |.union _ _ arms els=>nM arms els b
 |_=>[]
def lM(defs:List (By×Def))(b:Nat):Dk->List Tab
 |.enum _ nums=>[members nums]
 |.union of _ arms _=>pz arms (b+1) []::lC defs of
 |_=>[]
def isType:Dk->Bool
 |.const _=>false
 |.prog _ _=>false
 |_=>true
theorem lS(d:Def)(c:CS)(h:isType d.k=true):gy d c =
  ({ c with start:=bK c.start d.name c.L.length }:CS).more (qZ c.defs c.L.length c.tabs.length d.k) (gZ c.L.length d.k) (lM c.defs c.L.length d.k):=by
 obtain⟨nm,a,k⟩:=d;cases k with
 |const n=>cases h
 |prog n vs=>cases h
 |alias t=>simp only[gy,lower_eq,kW,grow_grow,vS];simp[qZ,gZ,lM,CS.more]
 |enum ns is=>simp[gy,CS.put,CS.kE,CS.more,qZ,gZ,lM]
 |struct ds=>
  simp only[gy,IY,kW,grow_grow,vS,vT];simp[qZ,gZ,lM,CS.more]
 |union of nm arms els=>
  simp only[gy,Tn,kW,vS,Xf];simp[qZ,gZ,lM]
theorem Gj(d:Def)(c:CS)(h:isType d.k=false):gy d c=c:=by
 obtain⟨nm,a,k⟩:=d;cases k<;>first|rfl|cases h
theorem sD(t:Ty)(c:CS):jV t c=c.grow (gX t c.L.length++[ins 16]) (iP t c.L.length):=by
 rw[jV,lower_eq,kW,grow_grow,List.append_nil]
end Go.M
namespace Go.M
def Seg{α:Type}(L:List α)(p:Nat)(l:List α):Prop:=∀i x,l[i]?=some x->L[p+i]?=some x
section
variable {α:Type} {L:List α} {p:Nat}
theorem Seg.left(h:Seg L p (a++b)):Seg L p a:=λi x hx=>h i x (by rw[List.getElem?_append_left (List.getElem?_eq_some_iff.mp hx).1];exact hx)
theorem Seg.right(h:Seg L p (a++b)):Seg L (p+a.length) b:=λi x hx=>by
 rw[Nat.add_assoc];exact h (a.length+i) x (by rw[List.getElem?_append_right omg];rw[Nat.add_sub_cancel_left];exact hx)
theorem Seg.head(h:Seg L p (x::r)):L[p]?=some x:=h 0 x rfl
theorem Seg.tail(h:Seg L p (x::r)):Seg L (p+1) r:=λi y hy=>by
 have:=h (i+1) y (by simpa using hy);rw[show p+1+i=p+(i+1)by omega];exact this
theorem Seg.app(h:Seg L p l):Seg (L++m) p l:=λi x hx=>by
 have:=h i x hx;rw[List.getElem?_append_left (List.getElem?_eq_some_iff.mp this).1];exact this
theorem Seg.last(L l:List α):Seg (L++l) L.length l:=λi x hx=>by rw[List.getElem?_append_right omg,Nat.add_sub_cancel_left];exact hx
end
theorem bM[BEq α][LawfulBEq α](m:List (α×β))(a b:α)(v:β):(bK m a v).lookup b=if b==a then some v else m.lookup b:=by
 induction m with
 |nil=>
  simp only[bK,List.lookup_cons,List.lookup_nil];cases b==a<;>rfl
 |cons x r ih=>
  unfold bK
  by_cases h:(a==x.1)=true
  .rw[if_pos h,List.lookup_cons,List.lookup_cons];have hx:x.1=a:=(eq_of_beq h).symm;rw[hx];cases h2:b==a with
   |true=>rw[if_pos rfl]
   |false=>rw[if_neg smp]
  .rw[if_neg h,List.lookup_cons,List.lookup_cons,ih];cases h2:b==x.1 with
   |true=>
    have hb:b=x.1:=eq_of_beq h2;have:(b==a)=false:=by
     rw[hb];cases hc:x.1==a with
     |false=>rfl
     |true=>exact absurd (by rw[eq_of_beq hc];exact beq_self_eq_true a) h
    rw[this];rfl
   |false=>rfl
def nT(defs:List (By×Def)):Dk->Bool
 |.union of _ _ _=>(match of with
  |.basic _=>true
  |.named s _=>(match defs.lookup s with
   |some ⟨_,_,.enum _ _⟩=>true
   |_=>false)
  |_=>false)
 |_=>true
def Grw(a b:List (By×Def)):Prop:=∀s d,a.lookup s=some d->isType d.k=true->b.lookup s=some d
theorem PW(h:nT a (.union of n arms els)=true)(g:Grw a b):lC b of=lC a of/\yR b of=yR a of/\nT b (.union of n arms els)=true:=by
 cases of with
 |named s p=>
  simp only[nT]at h;cases hl:a.lookup s with
  |none=>rw[hl]at h;cases h
  |some d=>
   rw[hl]at h;obtain⟨x,y,k⟩:=d;cases k with
   |enum ns is=>
    have:=g s _ hl rfl;simp only[lC,yR,nT,hl,this,and_self]
   |_=>cases h
 |basic s=>exact⟨rfl,rfl,rfl⟩
 |_=>cases h
theorem QW(h:nT a k=true)(g:Grw a b)(p tb:Nat):qZ b p tb k=qZ a p tb k/\lM b p k=lM a p k/\nT b k=true:=by
 cases k with
 |union of n arms els=>
  obtain⟨e,_,e3⟩:=PW h g;simp only[qZ,lM,Eu,lF,e,e3,and_self]
 |_=>exact⟨rfl,rfl,rfl⟩
def BK(c:CS)(t:Ty)(p:Nat):Prop:=Seg c.L p (gX t p++[ins 16])/\∀x∈iP t p,x∈c.calls
structure LI (c:CS):Prop where
 calls:∀x∈c.calls,c.L[x.1]?=some (ins 6)
 sorted:c.calls.Pairwise λa b=>a.1<b.1
 start:∀s p,c.start.lookup s=some p->∃d tb,c.defs.lookup s=some d/\isType d.k=true/\nT c.defs d.k=true/\Seg c.L p (qZ c.defs p tb d.k)/\(∀x∈gZ p d.k,x∈c.calls)/\Seg c.tabs tb (lM c.defs p d.k)
 back:∀s d,c.defs.lookup s=some d->isType d.k=true->(c.start.lookup s).isSome=true
 procs:∀key v,c.procs.lookup key=some v->∃ta tr,BK c ta v.1/\BK c tr v.2.1/\v.2.2.1=(ta==.void)/\v.2.2.2=(tr==.void)
theorem LI.empty:LI CS.empty:=⟨λx h=>(by cases h),List.Pairwise.nil,λs p h=>(by cases h),λs d h=>(by cases h),λk v h=>(by cases h)⟩
theorem vk{α:Type}{L:List α}{p:Nat}{x:α}(h:L[p]?=some x):p<L.length:=(List.getElem?_eq_some_iff.mp h).1
theorem Fe:∀(t:Ty) (b:Nat) (x),x∈iP t b->b<=x.1/\(gX t b)[x.1 - b]?=some (ins 6)
 |.basic _,_,_,h=>by cases h
 |.named s a,b,x,h=>by
  rw[iP,List.mem_singleton]at h;subst h;exact⟨Nat.le_refl _,by simp[gX]⟩
 |.bytes _ _ _,_,_,h=>by cases h
 |.array t f n,b,x,h=>by
  rw[iP]at h;obtain⟨h1,h2⟩:=Fe t (b+1) x h;refine⟨by omega,?_⟩;rw[gX,show x.1 - b=(x.1 - (b+1))+1 by omega,List.getElem?_cons_succ,List.getElem?_append_left (vk h2)];exact h2
 |.opt t,b,x,h=>by
  rw[iP]at h;obtain⟨h1,h2⟩:=Fe t (b+1) x h;refine⟨by omega,?_⟩;rw[gX,show x.1 - b=(x.1 - (b+1))+1 by omega,List.getElem?_cons_succ];exact h2
 |.void,_,_,h=>by cases h
theorem vC:∀(t:Ty) (b:Nat),(iP t b).Pairwise λa b=>a.1<b.1
 |.basic _,_=>List.Pairwise.nil
 |.named s a,b=>List.pairwise_singleton _ _
 |.bytes _ _ _,_=>List.Pairwise.nil
 |.array t f n,b=>vC t (b+1)
 |.opt t,b=>vC t (b+1)
 |.void,_=>List.Pairwise.nil
def dQ(b:Nat)(l:List Ins)(k:List (Nat×By×Nat)):Prop:=(∀x∈k,b<=x.1/\l[x.1 - b]?=some (ins 6))/\k.Pairwise λa b=>a.1<b.1
theorem dQ.ty(t:Ty)(b:Nat):dQ b (gX t b) (iP t b):=⟨Fe t b,vC t b⟩
theorem dQ.app{b:Nat}{l l':List Ins}{k k':List (Nat×By×Nat)}(h:dQ b l k)(h':dQ (b+l.length) l' k'):dQ b (l++l') (k++k'):=by
 constructor
 .intro x hx;rcases List.mem_append.mp hx with hx|hx
  .obtain⟨h1,h2⟩:=h.1 x hx;exact⟨h1,by rw[List.getElem?_append_left (vk h2)];exact h2⟩
  .obtain⟨h1,h2⟩:=h'.1 x hx;refine⟨by omega,?_⟩;rw[List.getElem?_append_right (by omega),show x.1 - b - l.length=x.1 - (b+l.length)by omega];exact h2
 .refine List.pairwise_append.mpr ⟨h.2,h'.2,λx hx y hy=>?_⟩;obtain⟨h1,h2⟩:=h.1 x hx;obtain⟨h3,_⟩:=h'.1 y hy;have:=vk h2;omega
theorem dQ.none(b:Nat)(l:List Ins):dQ b l []:=⟨λx h=>(by cases h),List.Pairwise.nil⟩
theorem dQ.behind(h:dQ b l k):dQ b (l++l') k:=by
 have:=h.app (dQ.none (b+l.length) l')
 rwa [List.append_nil]at this
theorem dQ.cons(h:dQ (b+1) l k):dQ b (i::l) k:=(dQ.none b [i]).app h
theorem A8:∀(l:List Decl) (b:Nat),dQ b (uZ l b) (kQ l b)
 |[],b=>dQ.none _ _
 |d::r,b=>by
  rw[uZ,kQ];refine(dQ.ty d.ty b).app ?_;rw[dN];exact A8 r _
theorem Eh:∀(l:List Arm) (b:Nat) (e:Int),dQ b (pO l b e) (kD l b)
 |[],b,e=>dQ.none _ _
 |a::r,b,e=>by
  rw[pO,kD];refine(dQ.ty a.decl.ty b).app ?_;rw[dN];exact(Eh r _ e).cons
theorem RY(l:Option Decl)(b:Nat)(e:Int):dQ b (DW l b e) (tV l b):=by
 cases l with
 |none=>exact dQ.none _ _
 |some d=>exact(dQ.ty d.ty b).behind
theorem OO(defs:List (By×Def))(b tb:Nat)(k:Dk):dQ b (qZ defs b tb k) (gZ b k):=by
 cases k with
 |alias t=>exact(dQ.ty t b).behind
 |struct ds=>exact((A8 ds (b+1)).behind).cons
 |union of n arms els=>
  simp only[qZ,gZ,Eu,nM];refine dQ.behind (dQ.cons ((Eh arms (b+1) _).app ?_));rw[qp];exact RY els _ _
 |_=>exact dQ.none _ _
theorem BK.more(h:BK c t p)(l:List Ins)(k:List (Nat×By×Nat))(tb:List Tab):BK (c.more l k tb) t p:=
 ⟨h.1.app,λx hx=>List.mem_append_left _ (h.2 x hx)⟩
theorem LI.more{c:CS}(h:LI c){l:List Ins}{k:List (Nat×By×Nat)}(tb:List Tab)(hk:dQ c.L.length l k):LI (c.more l k tb):=by
 refine⟨?_,?_,?_,h.back,?_⟩
 .intro x hx;rcases List.mem_append.mp hx with hx|hx
  .have:=h.calls x hx;exact(by rw[CS.more];simp only;rw[List.getElem?_append_left (vk this)];exact this)
  .obtain⟨h1,h2⟩:=hk.1 x hx;rw[CS.more];simp only;rw[List.getElem?_append_right h1];exact h2
 .refine List.pairwise_append.mpr ⟨h.sorted,hk.2,λx hx y hy=>?_⟩;have:=vk (h.calls x hx);have:=(hk.1 y hy).1;omega
 .intro s p hs;obtain⟨d,i,h1,h2,h3,h4,h5,h6⟩:=h.start s p hs;exact⟨d,i,h1,h2,h3,h4.app,λx hx=>List.mem_append_left _ (h5 x hx),h6.app⟩
 .intro key v hv;obtain⟨ta,tr,h1,h2,h3,h4⟩:=h.procs key v hv;exact⟨ta,tr,h1.more _ _ _,h2.more _ _ _,h3,h4⟩
theorem LI.side(h:LI c)(t:Ty):LI (jV t c)/\BK (jV t c) t c.L.length:=by
 rw[sD,vS];refine⟨h.more [] ((dQ.ty t _).behind),Seg.last _ _,λx hx=>List.mem_append_right _ hx⟩
theorem LI.Lt(h:LI c)(g v:Int)(q:pG):LI (Lt g v c q):=by
 obtain⟨h1,h2⟩:=h.side q.res;obtain⟨h3,h4⟩:=h1.side q.arg;have h2':BK (jV q.arg (jV q.res c)) q.res c.L.length:=by
  have:=h2.more (gX q.arg (jV q.res c).L.length++[ins 16]) (iP q.arg (jV q.res c).L.length) [];rw[sD q.arg,vS];exact this
 refine⟨h3.calls,h3.sorted,h3.start,h3.back,?_⟩;intro key w hw;unfold M.Lt at hw;simp only[bM]at hw;split at hw
 .cases hw;exact⟨q.arg,q.res,h4,h2',rfl,rfl⟩
 .exact h3.procs key w hw
theorem LI.iW(g v:Int):∀(l:List pG) {c:CS},LI c->LI (iW g v c l)
 |[],c,h=>h
 |q::r,c,h=>LI.iW g v r (h.Lt g v q)
theorem LI.iU(g:Int):∀(l:List qw) {c:CS},LI c->LI (iU g c l)
 |[],c,h=>h
 |v::r,c,h=>by
  rw[M.iU];refine LI.iU g r (LI.iW g v.n v.procs ?_);exact⟨h.calls,h.sorted,h.start,h.back,h.procs⟩
theorem LI.defs(h:LI c)(d:Def)(hn:c.start.lookup d.name=none):LI { c with defs:=bK c.defs d.name d }\/isType d.k=true:=by
 cases ht:isType d.k with
 |true=>exact Or.inr rfl
 |false=>
 refine Or.inl ⟨h.calls,h.sorted,?_,?_,h.procs⟩
 .intro s p hs;have hs':c.start.lookup s=some p:=hs;obtain⟨x,i,h1,h2,h3,h4,h5,h6⟩:=h.start s p hs';have g:Grw c.defs (bK c.defs d.name d):=λs' d' e1 e2=>by
   rw[bM];have:=h.back s' d' e1 e2;cases hb:s'==d.name with
   |false=>exact e1
   |true=>rw[eq_of_beq hb,hn]at this;cases this
  obtain⟨e1,e2,e3⟩:=QW h3 g p i;exact⟨x,i,g s x h1 h2,h2,e3,by rw[e1];exact h4,h5,by rw[e2];exact h6⟩
 .intro s x hs hx;simp only[bM]at hs;split at hs
  .cases hs;rw[ht]at hx;cases hx
  .exact h.back s x hs hx
theorem LI.nV{c:CS}(h:LI c)(d:Def)(hn:c.start.lookup d.name=none)(hof:nT (bK c.defs d.name d) d.k=true):LI (nV c d):=by
 have g:Grw c.defs (bK c.defs d.name d):=λs' d' e1 e2=>by
  rw[bM];have:=h.back s' d' e1 e2;cases hb:s'==d.name with
  |false=>exact e1
  |true=>rw[eq_of_beq hb,hn]at this;cases this
 cases ht:isType d.k with
 |false=>
  have h0:=(h.defs d hn).resolve_right (by rw[ht];simp);unfold M.nV;cases hk:d.k with
  |prog n vs=>exact LI.iU n vs h0
  |const n=>simp only;rw[Gj _ _ ht];exact h0
  |_=>rw[hk]at ht;cases ht
 |true=>
  have e:M.nV c d=gy d { c with defs:=bK c.defs d.name d }:=by
   unfold M.nV;cases hk:d.k with
   |prog n vs=>rw[hk]at ht;cases ht
   |_=>rfl
  rw[e,lS _ _ ht];have hL:c.L.length=({ c with defs:=bK c.defs d.name d,start:=bK c.start d.name c.L.length }:CS).L.length:=rfl;have hc:=OO (bK c.defs d.name d) c.L.length c.tabs.length d.k;refine⟨?_,?_,?_,?_,?_⟩
  .intro x hx;rcases List.mem_append.mp hx with hx|hx
   .have:=h.calls x hx;show (c.L++_)[x.1]?=_;rw[List.getElem?_append_left (vk this)];exact this
   .obtain⟨h1,h2⟩:=hc.1 x hx;show (c.L++_)[x.1]?=_;rw[List.getElem?_append_right h1];exact h2
  .refine List.pairwise_append.mpr ⟨h.sorted,hc.2,λx hx y hy=>?_⟩;have:=vk (h.calls x hx);have:=(hc.1 y hy).1;omega
  .intro s p hs;simp only[CS.more,bM]at hs;split at hs
   .rename_i hb;cases hs;have hb:s=d.name:=eq_of_beq hb;subst hb;refine⟨d,c.tabs.length,?_,ht,hof,Seg.last _ _,λx hx=>List.mem_append_right _ hx,Seg.last _ _⟩;show (bK c.defs d.name d).lookup d.name=_;rw[bM,beq_self_eq_true];rfl
   .obtain⟨x,i,h1,h2,h3,h4,h5,h6⟩:=h.start s p hs;obtain⟨e1,e2,e3⟩:=QW h3 g p i;exact⟨x,i,g s x h1 h2,h2,e3,by show Seg _ _ (qZ (bK c.defs d.name d) p i x.k);rw[e1];exact h4.app,λy hy=>List.mem_append_left _ (h5 y hy),by show Seg _ _ (lM (bK c.defs d.name d) p x.k);rw[e2];exact h6.app⟩
  .intro s x hs hx;simp only[CS.more,bM]at hs ⊢;split
   .rfl
   .rename_i hb;rw[if_neg hb]at hs;exact h.back s x hs hx
  .intro key v hv;obtain⟨ta,tr,h1,h2,h3,h4⟩:=h.procs key v hv;exact⟨ta,tr,⟨h1.1.app,λy hy=>List.mem_append_left _ (h1.2 y hy)⟩,⟨h2.1.app,λy hy=>List.mem_append_left _ (h2.2 y hy)⟩,h3,h4⟩
theorem Nj(h:nH c of=true):nT c.defs (.union of n arms els)=true:=by
 cases of with
 |named s a=>
  simp only[nH,nT]at h ⊢;cases hl:c.defs.lookup s with
  |none=>rw[hl]at h;cases h
  |some d=>
   rw[hl]at h;obtain⟨x,y,k⟩:=d;cases k with
   |enum ns is=>rfl
   |_=>cases h
 |basic s=>rfl
 |_=>cases h
theorem LI.aP:∀(l:List Def) {c:CS},LI c->kK c l=true->LI (aP c l)
 |[],c,h,_=>h
 |d::r,c,h,hw=>by
  rw[M.aP];rw[kK]at hw;simp only[Bool.and_eq_true]at hw;obtain⟨⟨⟨h1,_⟩,h2⟩,h3⟩:=hw;refine LI.aP r (h.nV d (Option.isNone_iff_eq_none.mp h2) ?_) h3;cases hk:d.k with
  |union of n arms els=>
   rw[hk]at h1;exact Nj h1
  |_=>rfl
end Go.M

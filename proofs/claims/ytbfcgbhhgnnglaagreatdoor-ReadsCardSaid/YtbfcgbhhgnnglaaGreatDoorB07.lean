/- Texts of mine, one behind the other; nothing is assumed. -/
import Derived.Test.YtbfcgbhhgnnglaaGreatDoorB06
import Derived.Test.YtbfcgbhhgnnglaaGreatDoorB00
import Derived.KernelRfl
set_option autoImplicit true
set_option relaxedAutoImplicit true
set_option linter.unusedSimpArgs false
set_option linter.unusedVariables false
namespace Go.W
open Go
inductive Rf
 |v (l:Nat)
 |c {x:Value}
 |u
 |j (q s:Nat)
inductive Tp
 |bad
 |mv (x:Rf)
 |nk (x:Rf)
 |fa (x:Rf) (n:Nat)
 |ld (x:Rf)
 |ldn (x:Rf) (n:Nat)
 |st (x y:Rf)
 |stn (x y:Rf) (n:Nat)
 |nw (t:TypeId) (x:Rf)
 |nwz (t:TypeId) (x:Value)
 |bi (op:BinOp) (x y:Rf)
 |sh (op:BinOp) (x y:Rf)
 |bs (op:BinOp) (x y:Rf)
 |en (k:NK) (ng:Bool) (x:Rf)
 |eb (ng:Bool) (x y:Rf)
 |nt (x:Rf)
 |ng (x:Rf)
 |cv (k:IntKind) (x:Rf)
 |cvs (x:Rf)
 |cvb (x:Rf)
 |sls (x:Rf) (lo hi:Option Rf)
 |sll (n:Nat) (x:Rf) (lo hi:Option Rf)
 |ixs (x i:Rf)
 |ias (n:Nat) (x i:Rf)
 |iaa (m n:Nat) (x i:Rf)
 |ex (x:Rf) (i:Nat)
 |pk (c a b:Rf)
 |ln (s:Bool) (x:Rf)
 |ta (t:TypeId) (z:Value) (x:Rf)
 |ta1 (t:TypeId) (x:Rf)
 |bu (z:Value) (ps:List (Nat×Nat×Rf))
 |bus (t n:Nat) (l:List Rf)
 |lk (k:TypeDesc) (z:Value) (m x:Rf) (ok:Bool)
 |mu (k:TypeDesc) (m x v:Rf)
 |mm
 |ap (t n b:Nat) (z:Value) (s x:Rf)
 |cl (f:FuncId) (l:List Rf)
 |cf (f:FuncId) (l:List Rf)
 |cx (f:Rf) (l:List Rf)
 |ci (f:Rf) (s:String) (l:List Rf)
 |cb (b:Builtin) (ts:List TypeId) (t:TypeId) (cs:List Bool) (l:List Rf)
 |pn (x:Rf)
 |ifc (t:TypeId) (x:Rf)
 |fnc (f:Fn) (l m:List Rf)
 |rbld (t:TypeId) (l:List (Nat×Rf))
 |YZ (op:BinOp) (t:TypeId) (x y:Operand) (a b:Rf)
 |run (op:UnOp) (x:Rf)
 |rcv (s d:TypeId) (x:Rf)
 |rmm (t:TypeId) (x:Rf)
 |rms (t:TypeId) (x y:Rf)
 |rsl (t:TypeId) (x:Rf) (lo hi mx:Option Rf)
 |rfd (t:TypeId) (x:Rf) (f:Nat)
 |rix (t:TypeId) (x i:Rf)
 |rlk (t:TypeId) (m k:Rf) (ok:Bool)
 |rmu (t:TypeId) (m k x:Rf)
 |rrg (t:TypeId) (x:Rf)
 |rnx (x:Rf) (s:Bool) (t:TypeId)
 |ren (x:Rf)
 |rta (x:Rf) (xt t:TypeId) (ok:Bool)
 |rle (ts:List TypeId) (t:TypeId) (l:List Rf)
inductive Tm
 |no
 |tt
 |an (a b:Tm)
 |r1 (x:Rf)
 |rl (l:List Rf)
 |jl (i:Nat) (l:List Rf)
 |qv (a b:Rf)
 |dr (a:Tm)
 |o (t:Tp) (k:Tm)
 |gd (g:Rf) (t:Bool) (a:Tp) (k:Tm)
 |iff (c:Rf) (a b:Tm)
 |jn (n:Nat) (a b:Tm)
 |lp (l:List Rf) (n:Nat) (b:Tm)
def gtF{α:Type}(z:α):List α->Nat->α
 |[],_=>z
 |a::_,0=>a
 |_::l,n+1=>gtF z l n
def rvF(env:List Value)(jks:List (Nat->Value)):Rf->Value
 |.v i=>gtF undef env i
 |.c (x:=x)=>x
 |.u=>undef
 |.j q s=>gtF (λ_=>undef) jks q s
def VSF:Nat->List Value->(List Value->Prop)->Prop
 |0,l,K=>K []
 |1,l,K=>V1 l λa=>K [a]
 |2,l,K=>V2 l λa b=>K [a,b]
 |3,l,K=>V3 l λa b c=>K [a,b,c]
 |4,l,K=>V4 l λa b c d=>K [a,b,c,d]
 |5,l,K=>V5 l λa b c d e=>K [a,b,c,d,e]
 |6,l,K=>V6 l λa b c d e f=>K [a,b,c,d,e,f]
 |7,l,K=>V7 l λa b c d e f g=>K [a,b,c,d,e,f,g]
 |8,l,K=>V8 l λa b c d e f g h=>K [a,b,c,d,e,f,g,h]
 |n,l,K=>K ((List.range n).map λi=>l.getD i undef)
def yO(P:Program)(R:KR)(r:Rf->Value)(w:World)(K:KV):Tp->Prop
 |.bad=>False
 |.mv x=>K (r x) w
 |.nk x=>Nk (r x) λy=>K y w
 |.fa x n=>Fa (r x) n λy=>K y w
 |.ld x=>Ld (r x) w λy=>K y w
 |.ldn x n=>LdN (r x) n w λy=>K y w
 |.st x y=>St (r x) (r y) w (K undef)
 |.stn x y n=>StN (r x) (r y) n w (K undef)
 |.nw t x=>Nw t (r x) w K
 |.nwz t x=>Nw t x w K
 |.bi o x y=>Bi o (r x) (r y) λv=>K v w
 |.sh o x y=>Sh o (r x) (r y) λv=>K v w
 |.bs o x y=>Bs o (r x) (r y) λv=>K v w
 |.en k n x=>En k n (r x) λv=>K v w
 |.eb n x y=>Eb n (r x) (r y) λv=>K v w
 |.nt x=>Nt (r x) λv=>K v w
 |.ng x=>Ng (r x) λv=>K v w
 |.cv k x=>Cv k (r x) λv=>K v w
 |.cvs x=>CvS (r x) λv=>K v w
 |.cvb x=>CvB (r x) w λv=>K v w
 |.sls x lo hi=>SlS (r x) (lo.map r) (hi.map r) λv=>K v w
 |.sll n x lo hi=>SlL n (r x) (lo.map r) (hi.map r) λv=>K v w
 |.ixs x i=>IxS (r x) (r i) λv=>K v w
 |.ias n x i=>IaS n (r x) (r i) λv=>K v w
 |.iaa m n x i=>IaA m n (r x) (r i) λv=>K v w
 |.ex x i=>Ex (r x) i λv=>K v w
 |.pk c a b=>Pk (r c) (r a) (r b) λv=>K v w
 |.ln s x=>Ln s (r x) λv=>K v w
 |.ta t z x=>Ta t z (r x) λv=>K v w
 |.ta1 t x=>Ta1 t (r x) λv=>K v w
 |.bu z ps=>Bu z (ps.map λp=>(p.1,p.2.1,r p.2.2)) λv=>K v w
 |.bus t n l=>BuS t n (l.map r) w K
 |.lk k z m x ok=>Lk k z (r m) (r x) ok w λv=>K v w
 |.mu k m x v=>Mu k (r m) (r x) (r v) w (K undef)
 |.mm=>Mm w K
 |.ap t n b z s x=>Ap t n b z (r s) (r x) w K
 |.cl f l=>Cl P f (l.map r).toArray w (pE R) K
 |.cf f l=>pF P (callFunc f (l.map r).toArray) w (pE R) K
 |.cx f l=>oC P (r f) (l.map r).toArray w (pE R) K
 |.ci f s l=>zF P (r f) s (l.map r).toArray w (pE R) K
 |.cb b ts t cs l=>pF P (builtin b ts.toArray t cs.toArray (l.map r).toArray) w (pE R) K
 |.pn x=>Pn (r x) w (pE R)
 |.ifc t x=>K (.iface t (r x)) w
 |.fnc f l m=>K (.func f (l.map r).toArray (m.map r).toArray) w
 |.rbld t l=>fF P (Instr.build t (l.map λp=>(p.1,r p.2)).toArray) w K
 |.YZ op t x y a b=>fF P (do eqGuard op t x y (r a) (r b);binOp op t (r a) (r b)) w K
 |.run op x=>fF P (Op.unary op (r x)) w K
 |.rcv s d x=>fF P (convert s d (r x)) w K
 |.rmm t x=>fF P (Instr.makeMap t (some (r x))) w K
 |.rms t x y=>fF P (Instr.makeSlice t (r x) (r y)) w K
 |.rsl t x lo hi mx=>fF P (Instr.sliceAt t (r x) (lo.map r) (hi.map r) (mx.map r)) w K
 |.rfd t x f=>fF P (Instr.field t (r x) f) w K
 |.rix t x i=>fF P (Instr.index t (r x) (r i)) w K
 |.rlk t m k ok=>fF P (Instr.lookup t (r m) (r k) ok) w K
 |.rmu t m k x=>SI P (Instr.mapUpdate t (r m) (r k) (r x)) w (K undef)
 |.rrg t x=>fF P (Instr.range t (r x)) w K
 |.rnx x s t=>fF P (Instr.next (r x) s t) w K
 |.ren x=>fF P (Instr.entry (r x)) w K
 |.rta x xt t ok=>fF P (Instr.typeAssert (r x) xt t ok) w K
 |.rle ts t l=>fF P (Builtin.len_ ts.toArray t (l.map r).toArray) w K
def dnF(P:Program)(R:KR):Tm->List Value->List (Nat->Value)->List (List Value->World->Prop)->World->Prop
 |.no,_,_,_,_=>False
 |.tt,_,_,_,_=>True
 |.an a b,e,q,J,w=>dnF P R a e q J w/\dnF P R b e q J w
 |.r1 x,e,q,J,w=>R (.returned (rvF e q x)) w
 |.rl l,e,q,J,w=>R (.returned (.tuple (l.map (rvF e q)).toArray)) w
 |.jl i l,e,q,J,w=>gtF (λ_ _=>False) J i (l.map (rvF e q)) w
 |.qv a b,e,q,J,w=>rvF e q a=rvF e q b
 |.dr a,e,q,J,w=>dnF P R a e q J w.drew
 |.o t k,e,q,J,w=>yO P R (rvF e q) w (λv u=>dnF P R k (v::e) q J u) t
 |.gd g t a k,e,q,J,w=>Gd (rvF e q g) t w (λK=>yO P R (rvF e q) w K a) λv u=>dnF P R k (v::e) q J u
 |.iff c a b,e,q,J,w=>If (rvF e q c) (dnF P R a e q J w) (dnF P R b e q J w)
 |.jn n a b,e,q,J,w=>Jn (λK=>dnF P R a e q (K::J) w) λjk vals u=>VSF n vals λl=>dnF P R b (l++e) (jk::q) J u
 |.lp l n b,e,q,J,w=>Lp (l.map (rvF e q)) w λjk vals u C=>VSF n vals λl=>dnF P R b (l++e) (jk::q) (C::J) u
abbrev Fg:=Nat->Rf
def em(d q:Nat):Rf->Rf
 |.v l=>.v (d - 1 - l)
 |.j a s=>.j (q - 1 - a) s
 |x=>x
def evG(n:Nat)(γ:Fg):Operand->Rf
 |.tmp t=>bif Nat.ble (t+1) n then γ t else .u
 |.const v=>.c (x:=v)
 |.global g=>.c (x:=.pointer (some ⟨g,0,none⟩))
 |.func f=>.c (x:=.func (.func f) #[] #[])
def Nh(γ:Fg)(d:Option Tmp)(x:Rf):Fg:=
 match d with
 |some d=>λi=>bif Nat.beq i d then x else γ i
 |none=>γ
def isC:Operand->Bool
 |.const _=>true
 |_=>false
def spG(P:Program)(fs:Array Field):List (Nat×Rf)->Option (List (Nat×Nat×Rf))
 |[]=>some []
 |(i,v)::r=>match fs[i]?,spG P fs r with
  |some fl,some l=>some ((fl.offset,P.cellsOf fl.type,v)::l)
  |_,_=>none
def yj(P:Program)(o:Oper)(e:Operand->Rf):Tp:=
 match o.op with
 |.move x|.assign x=>.mv (e x)
 |.pick c a b=>.pk (e c) (e a) (e b)
 |.alloc t=>(match zeroOf P t with|some _=>.nwz t (zv P t)|none=>.bad)
 |.box t x=>.nw t (e x)
 |.build t parts=>(match P.underlying t,zeroOf P t with
  |some (.struct fs),some _=>bif qI P fs.toList then(match spG P fs (parts.toList.map λp=>(p.1,e p.2))with
   |some ps=>.bu (zv P t) ps
   |none=>.bad)else .bad
  |some (.array _ _),some _=>.rbld t (parts.toList.map λp=>(p.1,e p.2))
  |_,_=>.bad)
 |.buildSlice t len parts=>(match und P t,P.underlying t with
  |.slice size,some (.slice elem)=>bif Dj P elem size len parts then .bus elem size (parts.toList.map λp=>e p.2)else .bad
  |_,_=>.bad)
 |.load t a=>(match jm P t with
  |.one=>.ld (e a)
  |.many n=>.ldn (e a) n
  |.bad=>.bad)
 |.store t a x=>(match jm P t with
  |.one=>.st (e a) (e x)
  |.many n=>.stn (e a) (e x) n
  |.bad=>.bad)
 |.nilCheck x=>.nk (e x)
 |.binOp op t x y _=>(match op with
  |.shl|.shr=>.sh op (e x) (e y)
  |.eql|.neq=>(match und P t with
   |.int _=>.bi op (e x) (e y)
   |.str=>.bs op (e x) (e y)
   |.bool=>.eb (pK op) (e x) (e y)
   |.nilable nk=>bif dV nk y then .en nk (pK op) (e x)else .YZ op t x y (e x) (e y)
   |.slice _=>bif dV .slc y then .en .slc (pK op) (e x)else .YZ op t x y (e x) (e y)
   |_=>.YZ op t x y (e x) (e y))
  |_=>(match und P t with
   |.int _=>.bi op (e x) (e y)
   |.str=>.bs op (e x) (e y)
   |_=>.YZ op t x y (e x) (e y)))
 |.unOp .not _ x=>.nt (e x)
 |.unOp .neg _ x=>.ng (e x)
 |.unOp op _ x=>.run op (e x)
 |.convert src dst x=>(match und P src,und P dst with
  |.int _,.int k=>.cv k (e x)
  |.str,.str=>.cvs (e x)
  |.slice _,.str=>bif isBytes P src then .cvb (e x)else .rcv src dst (e x)
  |_,_=>.rcv src dst (e x))
 |.makeInterface t x=>bif isIface P t then .bad else .ifc t (e x)
 |.makeFunc fn first captured=>.fnc fn (first.toList.map e) (captured.toList.map e)
 |.makeMap t r=>(match r with
  |none=>.mm
  |some r=>.rmm t (e r))
 |.makeSlice t l c=>.rms t (e l) (e c)
 |.slice t x lo hi mx=>(match und P t,mx with
  |.str,none=>.sls (e x) (lo.map e) (hi.map e)
  |.slice size,none=>.sll size (e x) (lo.map e) (hi.map e)
  |_,_=>.rsl t (e x) (lo.map e) (hi.map e) (mx.map e))
 |.fieldAddr s x f=>(match zh P s f with
  |some off=>.fa (e x) off
  |none=>.bad)
 |.field t x f=>.rfd t (e x) f
 |.indexAddr t x i=>(match und P t with
  |.slice size=>.ias size (e x) (e i)
  |.arr n size=>.iaa n size (e x) (e i)
  |_=>.bad)
 |.index t x i=>(match und P t with
  |.str=>.ixs (e x) (e i)
  |_=>.rix t (e x) (e i))
 |.lookup t m k ok=>(match oU P t with
  |some (kind,el)=>(match zeroOf P el with
   |some _=>.lk kind (zv P el) (e m) (e k) ok
   |none=>.bad)
  |none=>.rlk t (e m) (e k) ok)
 |.mapUpdate t m k x=>(match oU P t with
  |some (kind,_)=>.mu kind (e m) (e k) (e x)
  |none=>.rmu t (e m) (e k) (e x))
 |.range t x=>.rrg t (e x)
 |.next it s=>.rnx (e it) s o.type
 |.entry it=>.ren (e it)
 |.typeAssert x xt t ok=>bif isIface P t then .rta (e x) xt t ok else
  (match ok,zeroOf P t with
  |true,some _=>.ta t (zv P t) (e x)
  |false,_=>.ta1 t (e x)
  |_,_=>.bad)
 |.extract x i=>.ex (e x) i
 |_=>.bad
def opG(P:Program)(o:Oper)(e:Operand->Rf):Tp:=
 match o.op with
 |.call c=>(match c.callee with
  |.builtin b=>(match b with
   |.len=>(match c.argTypes[0]?,c.args[0]? with
    |some t,some x=>(match und P t with
     |.str=>.ln true (e x)
     |.slice _=>.ln false (e x)
     |_=>.rle c.argTypes.toList o.type (c.args.toList.map e))
    |_,_=>.bad)
   |.append=>(match c.argTypes.toList,c.args.toList with
    |[t,u],[s,x]=>(match P.underlying t,und P u with
     |some (.slice el),.slice _|some (.slice el),.str=>(match P.info? el with
      |some i=>(match i.zero with
       |some z=>bif Nat.ble 1 i.bytes&&Nat.beq z.cells.size i.size then .ap el i.size i.bytes (zv P el) (e s) (e x)else .bad
       |none=>.bad)
      |none=>.bad)
     |_,_=>.bad)
    |_,_=>.bad)
   |_=>.cb b c.argTypes.toList o.type (c.args.toList.map isC) (c.args.toList.map e))
  |.invoke recv name=>.ci (e recv) name (c.args.toList.map e)
  |.value f=>(match f with
   |.func f=>bif nK P f then .cl f (c.args.toList.map e)else .cf f (c.args.toList.map e)
   |f=>.cx (e f) (c.args.toList.map e)))
 |.panic x=>.pn (e x)
 |_=>yj P o e
def gvG(n:Nat)(γ:Fg)(ops:Array Oper)(j:Nat):Rf:=
 match (ops[j]?).bind (·.dst)with
 |some d=>evG n γ (.tmp d)
 |none=>.u
def dirG:Op->Option Operand
 |.move x|.assign x=>some x
 |_=>none
def grG(P:Program)(n:Nat)(ops:Array Oper)(o:Oper)(γ:Fg)(d q:Nat)(K:Rf->Nat->Tm):Tm:=
 match o.guard with
 |none=>(match dirG o.op with
  |some x=>K (evG n γ x) d
  |none=>.o (opG P o λx=>em d q (evG n γ x)) (K (.v d) (d+1)))
 |some (j,want)=>.gd (em d q (gvG n γ ops j)) want (opG P o λx=>em d q (evG n γ x)) (K (.v d) (d+1))
def opsG(P:Program)(n:Nat)(ops:Array Oper)(q:Nat):List Oper->(Fg->Nat->Tm)->Fg->Nat->Tm
 |[],Q,γ,d=>Q γ d
 |o::rest,Q,γ,d=>grG P n ops o γ d q λx d'=>opsG P n ops q rest Q (Nh γ o.dst x) d'
def QZ(waits:Nat->Bool)(d:Nat):List (Nat×(Nat->Tm))->Tm->Tm
 |[],k=>k
 |(i,f)::r,k=>bif waits i then QZ waits d r k else .an (f d) (QZ waits d r k)
def Xg(i:Nat):List Nat->Bool
 |[]=>false
 |a::l=>bif Nat.beq i a then true else Xg i l
def subS(d:List Nat):List Nat->Bool
 |[]=>true
 |a::l=>bif Xg a d then subS d l else false
def uniS:List Nat->List Nat->List Nat
 |[],l=>l
 |a::r,l=>bif Xg a l then uniS r l else a::uniS r l
def dpS(o:Oper):List Nat:=o.after.toList.filterMap λe=>match e.ground with
 |.textOnly _|.gcOnly _=>none
 |_=>some e.on
def lookS(i:Nat):List (Nat×List Nat)->List Nat
 |[]=>[]
 |(j,l)::r=>bif Nat.beq i j then l else lookS i r
def pkS(P:Program)(qt:Bool)(done:List (Nat×List Nat)):Nat->List Oper->Option (Nat×List Nat)
 |_,[]=>none
 |i,o::r=>bif Xg i (done.map (·.1))then pkS P qt done (i+1) r else
  bif subS (done.map (·.1)) (dpS o)&&(!qt||quiet P o)then some (i,(dpS o).foldr (λa acc=>uniS (a::lookS a done) acc) [])else pkS P qt done (i+1) r
def YP(P:Program)(l:List Oper):Nat->List (Nat×List Nat)->List (Nat×Bool×List Nat)
 |0,_=>[]
 |n+1,done=>match pkS P true done 0 l with
  |some (i,an)=>(i,false,an)::YP P l n ((i,an)::done)
  |none=>match pkS P false done 0 l with
   |some (i,an)=>(i,true,an)::YP P l n ((i,an)::done)
   |none=>[]
def L6(P:Program)(n:Nat)(ops:Array Oper)(q:Nat)(Q:Fg->Nat->Tm):List (Nat×Bool×List Nat)->List (Nat×(Nat->Tm))->Fg->Nat->Tm
 |[],_,γ,d=>Q γ d
 |(i,ld,an)::r,G,γ,d=>match ops[i]? with
  |some o=>grG P n ops o γ d q λx d'=>
   bif ld then QZ (λj=>Xg j an) d' G (L6 P n ops q Q r G (Nh γ o.dst x) d')
   else L6 P n ops q Q r (bif looks o.op then G++[(i,λd=>grG P n ops o γ d q λy d'=>.qv (em d' q y) (em d' q x))]else G) (Nh γ o.dst x) d'
  |none=>.no
def Us(P:Program)(ops:Array Oper):List (Nat×Bool×List Nat)->Array Bool->List Nat->Bool
 |[],listed,_=>(Region.ready .any ops listed).isEmpty
 |(i,ld,an)::r,listed,g=>
  bif ld then(IV P ops listed).isNone&&(match Region.ready .any ops listed with|[j]=>Nat.beq i j|_=>false)&&g.all (λj=>uk ops ops.size i j==Xg j an)&&Us P ops r (listed.setIfInBounds i true) g
  else(match IV P ops listed with|some j=>Nat.beq i j|none=>false)&&Us P ops r (listed.setIfInBounds i true) (match ops[i]? with|some o=>bif looks o.op then g++[i]else g|none=>g)
def Fb(P:Program):Code->Bool
 |.region _ ops draw=>bif draw then P.follows .mixedOrders&&Region.noSelect ops&&Nat.beq (YP P ops.toList ops.size []).length ops.size&&Us P ops (YP P ops.toList ops.size []) (Array.replicate ops.size false) []else true
 |.seq a b=>Fb P a&&Fb P b
 |.cond _ a b=>Fb P a&&Fb P b
 |.block _ b=>Fb P b
 |.loop b=>Fb P b
 |_=>true
def LD(γ:Fg)(ws keep:List Nat)(d q:Nat):Fg:=λi=>
 match idx keep 0 i with
 |some k=>.v (d+keep.length - 1 - k)
 |none=>bif ws.contains i then .j q i else γ i
def wpG(P:Program)(n:Nat)(keep:List Nat):Code->(Exit->Fg->Nat->Nat->Nat->Tm)->Fg->Nat->Nat->Nat->Tm
 |.skip,Q,γ,d,q,m=>Q .normal γ d q m
 |.label _,Q,γ,d,q,m=>Q .normal γ d q m
 |.region _ ops draw,Q,γ,d,q,m=>
  bif draw then
   .dr (L6 P n ops q (λγ d=>Q .normal γ d q m) (YP P ops.toList ops.size []) [] γ d)
  else opsG P n ops q ops.toList (λγ d=>Q .normal γ d q m) γ d
 |.seq a b,Q,γ,d,q,m=>
  bif Nat.ble (ends a) 1 then
   wpG P n keep a (λe γ d q m=>match e with|.normal=>wpG P n keep b Q γ d q m|e=>Q e γ d q m) γ d q m
  else
   .jn (handed n keep (writes a)).length (wpG P n keep a (λe γ d q m'=>match e with|.normal=>.jl (m' - 1 - m) ((handed n keep (writes a)).map λi=>em d q (γ i))|e=>Q e γ d q m') γ d q (m+1))
    (wpG P n keep b Q (LD γ (writes a) (handed n keep (writes a)) d q) (d+(handed n keep (writes a)).length) (q+1) m)
 |.cond c a b,Q,γ,d,q,m=>.iff (em d q (evG n γ c)) (wpG P n keep a Q γ d q m) (wpG P n keep b Q γ d q m)
 |.block id b,Q,γ,d,q,m=>wpG P n keep b (λe γ d q m=>match e with
   |.exit i=>bif Nat.beq i id then Q .normal γ d q m else Q (.exit i) γ d q m
   |e=>Q e γ d q m) γ d q m
 |.loop b,Q,γ,d,q,m=>.lp ((handed n keep (writes b)).map λi=>em d q (γ i)) (handed n keep (writes b)).length
   (wpG P n keep b (λe γ d q m'=>match e with|.normal=>.jl (m' - 1 - m) ((handed n keep (writes b)).map λi=>em d q (γ i))|e=>Q e γ d q m')
    (LD γ (writes b) (handed n keep (writes b)) d q) (d+(handed n keep (writes b)).length) (q+1) (m+1))
 |.exit i,Q,γ,d,q,m=>Q (.exit i) γ d q m
 |.ret,Q,γ,d,q,m=>Q .ret γ d q m
 |_,_,_,_,_,_=>.no
def P8(P:Program)(n:Nat)(γ:Fg)(q:Nat):List ResultVar->(List Rf->Nat->Tm)->Nat->Tm
 |[],K,d=>K [] d
 |.tmp t::r,K,d=>P8 P n γ q r (λl d=>K (evG n γ (.tmp t)::l) d) d
 |.cell a t::r,K,d=>(match jm P t with
  |.one=>.o (.ld (em d q (evG n γ (.tmp a)))) (P8 P n γ q r (λl d'=>K (.v d::l) d') (d+1))
  |.many m=>.o (.ldn (em d q (evG n γ (.tmp a))) m) (P8 P n γ q r (λl d'=>K (.v d::l) d') (d+1))
  |.bad=>.no)
def retG:List Rf->Tm
 |[x]=>.r1 x
 |l=>.rl l
def fnG(P:Program)(fn:Func)(keep:List Nat)(k:Nat):Tm:=
 match fn.body with
 |some c=>wpG P fn.ntmps keep c (λe γ d q _=>match e with
  |.normal|.ret=>P8 P fn.ntmps γ q fn.results.toList (λl d=>retG (l.map (em d q))) d
  |_=>.no) (λi=>bif Nat.ble (i+1) k then .v (k - 1 - i)else .u) k 0 0
 |none=>.no
def Okr(d q:Nat):Rf->Prop
 |.v l=>l<d
 |.j a _=>a<q
 |_=>True
abbrev OkF(d q:Nat)(γ:Fg):Prop:=∀i,Okr d q (γ i)
abbrev rl(e:List Value)(q:List (Nat->Value))(x:Rf):Value:=rvF e q (em e.length q.length x)
def fr(e:List Value)(q:List (Nat->Value))(γ:Fg):Fr:=λi=>rl e q (γ i)
theorem Ol(z:α):∀(l e:List α) (k:Nat),gtF z (l++e) (l.length+k)=gtF z e k
 |[],e,k=>by simp
 |a::l,e,k=>by
  rw[List.cons_append,List.length_cons,show l.length+1+k=(l.length+k)+1 by omega,gtF];exact Ol z l e k
theorem Okr.mono(h:Okr d q x)(hd:d<=d')(hq:q<=q'):Okr d' q' x:=by
 cases x with
 |v l=>exact Nat.lt_of_lt_of_le h hd
 |j a s=>exact Nat.lt_of_lt_of_le h hq
 |_=>trivial
theorem NJ(a:List Value)(b:List (Nat->Value))(h:Okr e.length q.length x):rl (a++e) (b++q) x=rl e q x:=by
 cases x with
 |v l=>
  have h:l<e.length:=h;show gtF undef (a++e) ((a++e).length - 1 - l)=gtF undef e (e.length - 1 - l);have e1:(a++e).length - 1 - l=a.length+(e.length - 1 - l):=by rw[List.length_append];omega
  rw[e1,Ol]
 |j i s=>
  have h:i<q.length:=h;show gtF (λ_=>undef) (b++q) ((b++q).length - 1 - i) s=gtF (λ_=>undef) q (q.length - 1 - i) s;have e1:(b++q).length - 1 - i=b.length+(q.length - 1 - i):=by rw[List.length_append];omega
  rw[e1,Ol]
 |_=>rfl
theorem UZ(a:List Value)(h:Okr e.length q.length x):rl (a++e) q x=rl e q x:=NJ a [] h
theorem JA(a:List Value)(b:List (Nat->Value))(h:OkF e.length q.length γ):fr (a++e) (b++q) γ=fr e q γ:=funext λi=>NJ a b (h i)
theorem YX(v:Value)(e:List Value)(q:List (Nat->Value)):rl (v::e) q (.v e.length)=v:=by
 show gtF undef (v::e) ((v::e).length - 1 - e.length)=v;rw[List.length_cons,show e.length+1 - 1 - e.length=0 by omega];rfl
theorem E5(n:Nat)(e:List Value)(q:List (Nat->Value))(γ:Fg)(x:Operand):rl e q (evG n γ x)=ev n (fr e q γ) x:=by
 cases x with
 |tmp t=>
  show rl e q (bif Nat.ble (t+1) n then γ t else .u)=bif Nat.ble (t+1) n then fr e q γ t else undef
  cases Nat.ble (t+1) n<;>rfl
 |_=>rfl
theorem aak(h:OkF d q γ)(x:Operand):Okr d q (evG n γ x):=by
 cases x with
 |tmp t=>
  show Okr d q (bif Nat.ble (t+1) n then γ t else .u);cases Nat.ble (t+1) n
  .trivial
  .exact h t
 |_=>trivial
theorem Nc(e:List Value)(q:List (Nat->Value))(γ:Fg)(d:Option Tmp)(x:Rf):fr e q (Nh γ d x)=upd (fr e q γ) d (rl e q x):=by
 cases d with
 |none=>rfl
 |some d=>
  funext i;show rl e q (bif Nat.beq i d then x else γ i)=bif Nat.beq i d then rl e q x else rl e q (γ i)
  cases Nat.beq i d<;>rfl
theorem Na(h:OkF d q γ)(t:Option Tmp)(hx:Okr d q x):OkF d q (Nh γ t x):=by
 intro i;cases t with
 |none=>exact h i
 |some t=>
  show Okr d q (bif Nat.beq i t then x else γ i);cases Nat.beq i t
  .exact h i
  .exact hx
theorem OkF.mono(h:OkF d q γ)(hd:d<=d')(hq:q<=q'):OkF d' q' γ:=λi=>(h i).mono hd hq
section
variable {P:Program} {R:KR}
theorem YG(fs:Array Field)(r:Rf->Value):∀l:List (Nat×Rf),jo P fs (l.map λp=>(p.1,r p.2))=(spG P fs l).map λl=>l.map λp=>(p.1,p.2.1,r p.2.2)
 |[]=>rfl
 |(i,v)::l=>by
  rw[List.map_cons,jo,spG,YG fs r l];cases fs[i]?<;>cases spG P fs l<;>rfl
theorem am2(g:α->β)(f:β->γ)(a:Array α):((a.toList.map g).map f).toArray=a.map λx=>f (g x):=by
 rw[List.map_map];apply Array.toList_inj.mp;simp[Function.comp_def]
theorem am1(f:α->β)(a:Array α):(a.toList.map f).toArray=a.map f:=by
 apply Array.toList_inj.mp;simp
theorem aa7(o:Oper)(e:Operand->Rf)(r:Rf->Value)(w:World)(K:KV):yO P R r w K (yj P o e)=vop P o (λx=>r (e x)) w K:=by
 obtain⟨dst,op,type,pos,after,guard⟩:=o;cases op with
 |alloc t=>
  show yO P R r w K (match zeroOf P t with|some _=>.nwz t (zv P t)|none=>.bad)=_;show _=(match zeroOf P t with|some _=>Nw t (zv P t) w K|none=>False);cases zeroOf P t<;>rfl
 |build t parts=>
  unfold yj vop;simp only;have hs:=λfs=>YG (P:=P) fs r (parts.toList.map λp=>(p.1,e p.2));simp only[List.map_map,Function.comp_def]at hs;cases hu:P.underlying t with
  |none=>rfl
  |some d=>
   cases hz:zeroOf P t with
   |none=>cases d<;>rfl
   |some z=>
    cases d with
    |struct fs=>
     simp only;cases qI P fs.toList with
     |false=>rfl
     |true=>
      simp only[cond_true,hs];cases spG P fs (parts.toList.map λp=>(p.1,e p.2))<;>rfl
    |array n t'=>simp only[yO,am2]
    |_=>rfl
 |buildSlice t len parts=>
  unfold yj vop;simp only;cases und P t<;>try rfl
  cases hu:P.underlying t with
  |none=>rfl
  |some d=>
   cases d<;>try rfl
   rename_i n el;simp only;cases Dj P el _ len parts<;>simp[yO,Function.comp_def]
 |load t a=>
  unfold yj vop;simp only;cases jm P t<;>rfl
 |store t a x=>
  unfold yj vop;simp only;cases jm P t<;>rfl
 |binOp op t x y ty=>
  unfold yj vop;simp only;cases op<;>cases und P t<;>first|rfl|(simp only;generalize dV _ _=b;cases b<;>rfl)
 |unOp op t x=>cases op<;>rfl
 |convert s d x=>
  unfold yj vop;simp only;cases und P s<;>cases und P d<;>first|rfl|(cases isBytes P s<;>rfl)
 |makeInterface t x=>
  unfold yj vop;simp only;cases isIface P t<;>rfl
 |makeFunc f a b=>simp only[yj,vop,yO,am2]
 |makeMap t x=>cases x<;>rfl
 |slice t x lo hi mx=>
  unfold yj vop;simp only;cases und P t<;>cases mx<;>cases lo<;>cases hi<;>rfl
 |fieldAddr s x f=>
  unfold yj vop;simp only;cases zh P s f<;>rfl
 |indexAddr t x i=>
  unfold yj vop;simp only;cases und P t<;>rfl
 |index t x i=>
  unfold yj vop;simp only;cases und P t<;>rfl
 |lookup t m k ok=>
  unfold yj vop;simp only;cases oU P t with
  |none=>rfl
  |some x=>
   obtain⟨kind,el⟩:=x;simp only;cases zeroOf P el<;>rfl
 |mapUpdate t m k x=>
  unfold yj vop;simp only;cases oU P t<;>rfl
 |typeAssert x xt t ok=>
  unfold yj vop;simp only;cases isIface P t with
  |true=>rfl
  |false=>
   simp only[cond_false];cases ok<;>cases zeroOf P t<;>rfl
 |_=>rfl
theorem Zg(o:Oper)(e:Operand->Rf)(r:Rf->Value)(w:World)(K:KV):yO P R r w K (opG P o e)=opW P o (λx=>r (e x)) w (pE R) K:=by
 have hv:=aa7 (P:=P) (R:=R) o e r w K;obtain⟨dst,op,type,pos,after,guard⟩:=o;cases op with
 |call c=>
  obtain⟨callee,args,argTypes⟩:=c;unfold opG opW;simp only;cases callee with
  |builtin b=>
   cases b with
   |len=>
    simp only;cases argTypes[0]? with
    |none=>rfl
    |some t=>
     cases args[0]? with
     |none=>rfl
     |some x=>
      simp only;cases und P t<;>first|rfl|simp only[yO,am2,Array.toArray_toList]
   |append=>
    simp only;cases argTypes.toList with
    |nil=>rfl
    |cons t l=>cases l with
     |nil=>rfl
     |cons u l=>cases l with
      |cons=>rfl
      |nil=>cases args.toList with
       |nil=>rfl
       |cons s l=>cases l with
        |nil=>rfl
        |cons x l=>cases l with
         |cons=>rfl
         |nil=>
          simp only;cases P.underlying t with
          |none=>rfl
          |some d=>
           cases d<;>try rfl
           rename_i el;cases und P u<;>simp only[yO]<;>try rfl
           all_goals
            cases P.info? el with
            |none=>rfl
            |some i=>
             simp only;cases i.zero with
             |none=>rfl
             |some z=>
              simp only;cases (Nat.ble 1 i.bytes&&Nat.beq z.cells.size i.size)<;>rfl
   |_=>simp only[yO,am2,am1,Array.toArray_toList];rfl
  |invoke recv name=>simp only[yO,am2]
  |value f=>
   cases f with
   |func f=>
    simp only;cases nK P f<;>simp only[yO,am2,cond_true,cond_false]
   |_=>simp only[yO,am2]
 |panic x=>rfl
 |_=>exact hv
theorem Om(h:OkF e.length q.length γ)
  (hK:∀(a:List Value) (x:Rf) (u:World),Okr (a++e).length q.length x->dnF P R (K x (a++e).length) (a++e) q J u=K' (rl (a++e) q x) u):
  dnF P R (grG P n ops o γ e.length q.length K) e q J w=guarded n ops o (fr e q γ) w (opW P o (ev n (fr e q γ)) w (pE R)) K':=by
 have he:(λx=>rvF e q (em e.length q.length (evG n γ x)))=ev n (fr e q γ):=funext λx=>E5 n e q γ x;have hk:(λv u=>dnF P R (K (.v e.length) (e.length+1)) (v::e) q J u)=K':=by
  funext v u;have:=hK [v] (.v e.length) u (by show e.length<(v::e).length;simp);rw[show ([v]++e)=v::e from rfl,YX,List.length_cons]at this;exact this
 unfold grG guarded;cases o.guard with
 |none=>
  simp only;cases hd:dirG o.op with
  |some x=>
   simp only;have:=hK [] (evG n γ x) w (aak h x);rw[List.nil_append,E5]at this;rw[this];obtain⟨dst,op,type,pos,after,guard⟩:=o;cases op<;>first|(cases hd;rfl)|cases hd
  |none=>
   simp only[dnF,hk];rw[Zg,he]
 |some g=>
  obtain⟨j,want⟩:=g;simp only[dnF,hk];have hg:rvF e q (em e.length q.length (gvG n γ ops j))=Q8 n (fr e q γ) ops j:=by
   unfold gvG Q8;cases (ops[j]?).bind (·.dst)with
   |none=>rfl
   |some d=>exact E5 n e q γ (.tmp d)
  rw[hg];congr 1;funext K2;rw[Zg,he]
theorem U9:∀(l:List Oper) (γ:Fg) (b:List Value) (w:World),OkF (b++e0).length q.length γ ->
  (∀(γ:Fg) (a:List Value) (u:World),OkF (a++e0).length q.length γ->dnF P R (Q γ (a++e0).length) (a++e0) q J u=Q' (fr (a++e0) q γ) u) ->
  dnF P R (opsG P n ops q.length l Q γ (b++e0).length) (b++e0) q J w=J7 P n ops (pE R) l Q' (fr (b++e0) q γ) w
 |[],γ,b,w,h,hQ=>hQ γ b w h
 |o::r,γ,b,w,h,hQ=>by
  rw[opsG,J7];refine Om h λa x u hx=>?_;have h2:OkF (a++(b++e0)).length q.length γ:=h.mono (by simp) (Nat.le_refl _);have:=U9 (n:=n) (ops:=ops) r (Nh γ o.dst x) (a++b) u (by rw[List.append_assoc];exact Na h2 o.dst hx) hQ;rw[List.append_assoc]at this;rw[this,Nc,show fr (a++(b++e0)) q γ=fr (b++e0) q γ from JA a [] h]
def GR(P:Program)(R:KR)(e:List Value)(q:List (Nat->Value))(J:List (List Value->World->Prop)):List (Nat×(Nat->Tm))->List (Nat×(World->Prop))->Prop
 |[],[]=>True
 |(i,f)::r,(j,g)::s=>i=j/\(∀(a:List Value) (u:World),dnF P R (f (a++e).length) (a++e) q J u=g u)/\GR P R e q J r s
 |_,_=>False
theorem GR.push(b:List Value):∀{G:List (Nat×(Nat->Tm))} {G':List (Nat×(World->Prop))},GR P R e q J G G'->GR P R (b++e) q J G G'
 |[],[],_=>trivial
 |(i,f)::r,(j,g)::s,⟨h1,h2,h3⟩=>⟨h1,λa u=>by rw[<- List.append_assoc];exact h2 (a++b) u,GR.push b h3⟩
 |[],_::_,h=>h.elim
 |_::_,[],h=>h.elim
theorem GR.snoc(hf:∀(a:List Value) (u:World),dnF P R (f (a++e).length) (a++e) q J u=g u):∀{G:List (Nat×(Nat->Tm))} {G':List (Nat×(World->Prop))},GR P R e q J G G'->GR P R e q J (G++[(i,f)]) (G'++[(i,g)])
 |[],[],_=>⟨rfl,hf,trivial⟩
 |(_,_)::r,(_,_)::s,⟨h1,h2,h3⟩=>⟨h1,h2,GR.snoc hf h3⟩
 |[],_::_,h=>h.elim
 |_::_,[],h=>h.elim
theorem Jq:∀{G:List (Nat×(Nat->Tm))} {G':List (Nat×(World->Prop))},GR P R e q J G G'->((G.map (·.1)).all (λj=>V j==W j))=true ->
  dnF P R (QZ W e.length G t) e q J w=kept ops V w G' (dnF P R t e q J w)
 |[],[],_,_=>rfl
 |(i,f)::r,(j,g)::s,⟨h1,h2,h3⟩,hc=>by
  subst h1;rw[List.map_cons,List.all_cons,Bool.and_eq_true]at hc;have hW:V i=W i:=by simpa using hc.1
  rw[QZ,kept,hW];cases W i with
  |true=>exact Jq h3 hc.2
  |false=>
   simp only[cond_false,dnF];rw[Jq h3 hc.2];congr 1;exact h2 [] w
 |[],_::_,h,_=>h.elim
 |_::_,[],h,_=>h.elim
theorem JH
  (hQ:∀(γ:Fg) (a:List Value) (u:World),OkF (a++e0).length q.length γ->dnF P R (Q γ (a++e0).length) (a++e0) q J u=Q' (fr (a++e0) q γ) u):
  ∀(l:List (Nat×Bool×List Nat)) (listed:Array Bool) (G:List (Nat×(Nat->Tm))) (G':List (Nat×(World->Prop))) (γ:Fg) (b:List Value) (w:World),OkF (b++e0).length q.length γ->GR P R (b++e0) q J G G'->Us P ops l listed (G.map (·.1))=true ->
  dnF P R (L6 P n ops q.length Q l G γ (b++e0).length) (b++e0) q J w=AV P n ops (pE R) Q' l.length listed G' (fr (b++e0) q γ) w
 |[],listed,G,G',γ,b,w,h,hG,hc=>by
  rw[Us,List.isEmpty_iff]at hc;rw[List.length_nil,AV,hc];exact hQ γ b w h
 |(i,ld,an)::r,listed,G,G',γ,b,w,h,hG,hc=>by
  rw[Us]at hc;rw[List.length_cons,AV,L6];cases ld with
  |true=>
   simp only[cond_true,Bool.and_eq_true]at hc;obtain⟨⟨⟨h1,h2⟩,h3⟩,h4⟩:=hc;rw[Option.isNone_iff_eq_none]at h1;rw[h1];simp only;have hr:Region.ready .any ops listed=[i]:=by
    generalize Region.ready .any ops listed=rs at h2
    match rs,h2 with
    |[j],h2=>rw[Nat.eq_of_beq_eq_true h2]
   rw[hr];simp only[allOf];cases ops[i]? with
   |none=>rfl
   |some o=>
    simp only[cond_true];refine Om h λa x u hx=>?_;have h5:OkF (a++(b++e0)).length q.length γ:=h.mono (by simp) (Nat.le_refl _);rw[Jq (hG.push a) h3];congr 1;have:=JH (n:=n) hQ r (listed.setIfInBounds i true) G G' (Nh γ o.dst x) (a++b) u (by rw[List.append_assoc];exact Na h5 o.dst hx) (by rw[List.append_assoc];exact hG.push a) h4;rw[List.append_assoc]at this;rw[this,Nc,show fr (a++(b++e0)) q γ=fr (b++e0) q γ from JA a [] h]
  |false=>
   simp only[cond_false,Bool.and_eq_true]at hc;obtain⟨h1,h2⟩:=hc;have hp:IV P ops listed=some i:=by
    generalize IV P ops listed=pk at h1
    match pk,h1 with
    |some j,h1=>rw[Nat.eq_of_beq_eq_true h1]
   rw[hp];simp only;cases ho:ops[i]? with
   |none=>rfl
   |some o=>
    rw[ho]at h2;simp only[cond_false]at h2 ⊢;refine Om h λa x u hx=>?_;have h5:OkF (a++(b++e0)).length q.length γ:=h.mono (by simp) (Nat.le_refl _);have hfr:fr (a++(b++e0)) q γ=fr (b++e0) q γ:=JA a [] h;have hG2:=hG.push a
    have key:∀(H:List (Nat×(Nat->Tm))) (H':List (Nat×(World->Prop))),GR P R (a++(b++e0)) q J H H'->Us P ops r (listed.setIfInBounds i true) (H.map (·.1))=true ->
      dnF P R (L6 P n ops q.length Q r H (Nh γ o.dst x) (a++(b++e0)).length) (a++(b++e0)) q J u=AV P n ops (pE R) Q' r.length (listed.setIfInBounds i true) H' (upd (fr (b++e0) q γ) o.dst (rl (a++(b++e0)) q x)) u:=λH H' hH hc2=>by
     have:=JH (n:=n) hQ r (listed.setIfInBounds i true) H H' (Nh γ o.dst x) (a++b) u (by rw[List.append_assoc];exact Na h5 o.dst hx) (by rw[List.append_assoc];exact hH) hc2;rw[List.append_assoc]at this;rw[this,Nc,hfr]
    cases hl:looks o.op with
    |false=>
     rw[hl]at h2;exact key G G' hG2 h2
    |true=>
     rw[hl]at h2;refine key _ _ (GR.snoc (λc v=>?_) hG2) (by simpa using h2);have h6:OkF (c++(a++(b++e0))).length q.length γ:=h5.mono (by simp) (Nat.le_refl _);have hf2:fr (c++(a++(b++e0))) q γ=fr (b++e0) q γ:=(JA c [] h5).trans hfr;rw[<- hf2];refine Om h6 λz y v2 hy=>?_;show (rl _ q y=rl _ q x)=_;have hx2:rl (z++(c++(a++(b++e0)))) q x=rl (a++(b++e0)) q x:=by
      rw[<- List.append_assoc];exact NJ (z++c) [] hx
     rw[hx2]
theorem VS_eq:∀(n:Nat) (l:List Value) (K:List Value->Prop),VSF n l K=K ((List.range n).map λi=>l.getD i undef)
 |0,_,_|1,_,_|2,_,_|3,_,_|4,_,_|5,_,_|6,_,_|7,_,_|8,_,_=>rfl
 |_+9,_,_=>rfl
theorem ZH:∀{l:List Nat} {k:Nat},idx l k i=some m->k<=m/\m<k+l.length:=by
 intro l k h;obtain⟨j,h1,h2⟩:=Q3 l k i m h;have:=(List.getElem?_eq_some_iff.mp h2).1;omega
theorem Qh(h:OkF e.length q.length γ)(ws keep:List Nat)(jk:Nat->Value)(vals:List Value):
  fr (((List.range keep.length).map λi=>vals.getD i undef)++e) (jk::q) (LD γ ws keep e.length q.length)=overlay (fr e q γ) ws keep jk vals:=by
 funext i;show rl _ _ (match idx keep 0 i with|some k=>.v (e.length+keep.length - 1 - k)|none=>bif ws.contains i then .j q.length i else γ i)=(match idx keep 0 i with|some k=>vals.getD k undef|none=>bif ws.contains i then jk i else fr e q γ i);cases hi:idx keep 0 i with
 |some k=>
  have hk:=(ZH hi).2;rw[Nat.zero_add]at hk;show gtF undef (_++e) ((_++e).length - 1 - (e.length+keep.length - 1 - k))=vals.getD k undef;rw[List.length_append,List.length_map,List.length_range,show keep.length+e.length - 1 - (e.length+keep.length - 1 - k)=k by omega];have:∀(l:List Value) (k:Nat),k<l.length->gtF undef (l++e) k=l.getD k undef:=by
   intro l;induction l with
   |nil=>intro k hk;simp at hk
   |cons a l ih=>
    intro k hk;cases k with
    |zero=>rfl
    |succ k=>
     simp only[List.length_cons]at hk;rw[List.cons_append,gtF,ih k (by omega)];rfl
  rw[this _ _ (by simpa using hk)];simp[hk]
 |none=>
  cases hw:ws.contains i with
  |true=>
   show gtF (λ_=>undef) (jk::q) ((jk::q).length - 1 - q.length) i=jk i;rw[List.length_cons,show q.length+1 - 1 - q.length=0 by omega];rfl
  |false=>exact NJ (x:=γ i) ((List.range keep.length).map λi=>vals.getD i undef) [jk] (h i)
theorem Qg(h:OkF d q γ)(ws keep:List Nat):OkF (d+keep.length) (q+1) (LD γ ws keep d q):=by
 intro i;show Okr _ _ (match idx keep 0 i with|some k=>.v (d+keep.length - 1 - k)|none=>bif ws.contains i then .j q i else γ i);cases hi:idx keep 0 i with
 |some k=>
  have hk:=(ZH hi).2;show d+keep.length - 1 - k<d+keep.length;omega
 |none=>
  cases hw:ws.contains i with
  |true=>exact Nat.lt_succ_self q
  |false=>exact(h i).mono (by omega) (by omega)
theorem jl_eq(C:List Value->World->Prop)(E J:List (List Value->World->Prop))(L:List Nat):
  dnF P R (.jl ((E++C::J).length - 1 - J.length) (L.map λi=>em e.length q.length (γ i))) e q (E++C::J) w=C (L.map (fr e q γ)) w:=by
 show gtF (λ_ _=>False) (E++C::J) ((E++C::J).length - 1 - J.length) ((L.map λi=>em e.length q.length (γ i)).map (rvF e q)) w=_;have e1:(E++C::J).length - 1 - J.length=E.length+0:=by rw[List.length_append,List.length_cons];omega
 rw[e1,Ol,List.map_map];rfl
def QE(P:Program)(R:KR)(J:List (List Value->World->Prop))(Q:Exit->Fg->Nat->Nat->Nat->Tm)(Q':Exit->Fr->World->Prop):Prop:=
 ∀(x:Exit) (γ:Fg) (e:List Value) (q:List (Nat->Value)) (E:List (List Value->World->Prop)) (w:World),OkF e.length q.length γ ->
  dnF P R (Q x γ e.length q.length (E++J).length) e q (E++J) w=Q' x (fr e q γ) w
theorem wpG_eq:∀(c:Code) {J:List (List Value->World->Prop)} {Q:Exit->Fg->Nat->Nat->Nat->Tm} {Q':Exit->Fr->World->Prop} {γ:Fg} {e:List Value} {q:List (Nat->Value)} {w:World},Fb P c=true->OkF e.length q.length γ->QE P R J Q Q' ->
  dnF P R (wpG P n keep c Q γ e.length q.length J.length) e q J w=wpc P n keep (pE R) c Q' (fr e q γ) w:=by
 intro c;induction c with
 |skip=>intro J Q Q' γ e q w hc h hQ;exact hQ .normal γ e q [] w h
 |label l=>intro J Q Q' γ e q w hc h hQ;exact hQ .normal γ e q [] w h
 |exit i=>intro J Q Q' γ e q w hc h hQ;exact hQ (.exit i) γ e q [] w h
 |ret=>intro J Q Q' γ e q w hc h hQ;exact hQ .ret γ e q [] w h
 |goto l=>intro J Q Q' γ e q w hc h hQ;rfl
 |scope b=>intro J Q Q' γ e q w hc h hQ;rfl
 |rangeFunc f ps l b=>intro J Q Q' γ e q w hc h hQ;rfl
 |refuse s=>intro J Q Q' γ e q w hc h hQ;rfl
 |region id ops draw=>
  intro J Q Q' γ e q w hc h hQ;have hQ2:∀(γ:Fg) (a:List Value) (u:World),OkF (a++e).length q.length γ->dnF P R (Q .normal γ (a++e).length q.length J.length) (a++e) q J u=Q' .normal (fr (a++e) q γ) u:=λγ a u h=>hQ .normal γ (a++e) q [] u h;rw[wpG,wpc];cases draw with
  |false=>exact U9 ops.toList γ [] w h hQ2
  |true=>
   rw[Fb]at hc;simp only[cond_true,Bool.and_eq_true]at hc;obtain⟨⟨⟨h1,h2⟩,h3⟩,h4⟩:=hc;simp only[cond_true,h1,h2,Bool.and_self,dnF];have:=JH (n:=n) (Q:=λγ d=>Q .normal γ d q.length J.length) (Q':=Q' .normal) hQ2 _ _ [] [] γ [] w.drew h trivial h4;rw[Nat.eq_of_beq_eq_true h3]at this;exact this
 |seq a b iha ihb=>
  intro J Q Q' γ e q w hc h hQ;rw[Fb,Bool.and_eq_true]at hc;rw[wpG,wpc];cases Nat.ble (ends a) 1 with
  |true=>
   refine iha hc.1 h λx γ e q E w h=>?_;cases x with
   |normal=>
    refine ihb hc.2 h λx γ e q E2 w h=>?_;rw[<- List.append_assoc];exact hQ x γ e q (E2++E) w h
   |_=>exact hQ _ γ e q E w h
  |false=>
   simp only[cond_false,dnF];congr 1
   .funext C;refine iha (J:=C::J) hc.1 h λx γ e q E w h=>?_;cases x with
    |normal=>exact jl_eq C E J _
    |_=>
     have:=λx=>hQ x γ e q (E++[C]) w h;rw[List.append_assoc]at this;exact this _
   .funext jk vals u;rw[VS_eq];have:=ihb (J:=J) (Q:=Q) (Q':=Q') (γ:=LD γ (writes a) (handed n keep (writes a)) e.length q.length) (e:=((List.range (handed n keep (writes a)).length).map λi=>vals.getD i undef)++e) (q:=jk::q) (w:=u) hc.2
     (by rw[List.length_append,List.length_map,List.length_range,List.length_cons,Nat.add_comm];exact Qg h _ _) hQ
    rw[List.length_append,List.length_map,List.length_range,List.length_cons,Nat.add_comm (handed n keep (writes a)).length]at this;rw[this,Qh h]
 |cond c a b iha ihb=>
  intro J Q Q' γ e q w hc h hQ;rw[Fb,Bool.and_eq_true]at hc;rw[wpG,wpc,dnF,iha hc.1 h hQ,ihb hc.2 h hQ];congr 1;exact E5 n e q γ c
 |block id b ihb=>
  intro J Q Q' γ e q w hc h hQ;rw[Fb]at hc;rw[wpG,wpc];refine ihb hc h λx γ e q E w h=>?_;cases x with
  |exit i=>
   simp only;cases Nat.beq i id with
   |true=>exact hQ .normal γ e q E w h
   |false=>exact hQ (.exit i) γ e q E w h
  |_=>exact hQ _ γ e q E w h
 |loop b ihb=>
  intro J Q Q' γ e q w hc h hQ;rw[Fb]at hc;rw[wpG,wpc];simp only[dnF];congr 1
  .rw[List.map_map];rfl
  funext jk vals u C;rw[VS_eq];have:=ihb (J:=C::J) (Q:=λx γ d q m'=>match x with|.normal=>.jl (m' - 1 - J.length) ((handed n keep (writes b)).map λi=>em d q (γ i))|e=>Q e γ d q m')
   (Q':=λx ρ' w''=>match x with|.normal=>C ((handed n keep (writes b)).map ρ') w''|e=>Q' e ρ' w'')
   (γ:=LD γ (writes b) (handed n keep (writes b)) e.length q.length) (e:=((List.range (handed n keep (writes b)).length).map λi=>vals.getD i undef)++e) (q:=jk::q) (w:=u) hc
   (by rw[List.length_append,List.length_map,List.length_range,List.length_cons,Nat.add_comm];exact Qg h _ _)
   λx γ e q E w h=>by
    cases x with
    |normal=>exact jl_eq C E J _
    |_=>
     have:=λx=>hQ x γ e q (E++[C]) w h;rw[List.append_assoc]at this;exact this _
  rw[List.length_append,List.length_map,List.length_range,List.length_cons,List.length_cons,Nat.add_comm (handed n keep (writes b)).length]at this;rw[this,Qh h];congr 1
theorem GV:∀(r:List ResultVar) (e:List Value) (K:List Rf->Nat->Tm) (K':List Value->Prop),OkF e.length q.length γ ->
  (∀(l:List Rf) (a:List Value),(∀x∈l,Okr (a++e).length q.length x)->dnF P R (K l (a++e).length) (a++e) q J w=K' (l.map (rl (a++e) q))) ->
  dnF P R (P8 P n γ q.length r K e.length) e q J w=wU P n (fr e q γ) w r K'
 |[],e,K,K',h,hK=>hK [] [] (λx hx=>by cases hx)
 |.tmp t::r,e,K,K',h,hK=>by
  rw[P8,wU];refine GV r e _ _ h λl a hl=>?_;have hx:=aak (n:=n) h (.tmp t)
  rw[hK _ a (λx hx2=>by
   rcases List.mem_cons.mp hx2 with rfl|hx2
   .exact hx.mono (by simp) (Nat.le_refl _)
   .exact hl x hx2),List.map_cons,UZ a hx,E5]
 |.cell c t::r,e,K,K',h,hK=>by
  rw[P8,wU];have he:=E5 n e q γ (.tmp c);have go:∀v,dnF P R (P8 P n γ q.length r (λl d'=>K (.v e.length::l) d') (e.length+1)) (v::e) q J w=wU P n (fr e q γ) w r λl=>K' (v::l):=λv=>by
   have h2:OkF (v::e).length q.length γ:=h.mono (by simp) (Nat.le_refl _);have:=GV (n:=n) (J:=J) (w:=w) r (v::e) (λl d'=>K (.v e.length::l) d') (λl=>K' (v::l)) h2 λl a hl=>by
    have hx:Okr (v::e).length q.length (.v e.length):=by show e.length<(v::e).length;simp
    have:=hK (.v e.length::l) (a++[v]) (λx hx2=>by
     rw[List.append_assoc];rcases List.mem_cons.mp hx2 with rfl|hx2
     .exact hx.mono (by simp) (Nat.le_refl _)
     .exact hl x hx2)
    rw[List.append_assoc]at this;rw[show ([v]++e)=v::e from rfl]at this;rw[this,List.map_cons,UZ a hx,YX]
   rw[List.length_cons]at this;rw[this,show fr (v::e) q γ=fr e q γ from JA [v] [] h]
  cases jm P t with
  |one=>
   simp only[dnF,yO];rw[show rvF e q (em e.length q.length (evG n γ (.tmp c)))=_ from he];congr 1;funext v;exact go v
  |many m=>
   simp only[dnF,yO];rw[show rvF e q (em e.length q.length (evG n γ (.tmp c)))=_ from he];congr 1;funext v;exact go v
  |bad=>rfl
def chkF(P:Program)(fn:Func):Bool:=match fn.body with
 |some c=>Fb P c
 |none=>true
theorem fnG_eq(hc:chkF P fn=true):dnF P R (fnG P fn keep args.length) args [] [] w=fnB P fn keep args w R:=by
 unfold fnG fnB chkF at *;cases hb:fn.body with
 |none=>rfl
 |some c=>
  rw[hb]at hc;simp only;unfold fnW;have h0:OkF args.length ([]:List (Nat->Value)).length (λi=>bif Nat.ble (i+1) args.length then Rf.v (args.length - 1 - i)else .u):=λi=>by
   show Okr _ _ (bif Nat.ble (i+1) args.length then Rf.v (args.length - 1 - i)else .u);cases hi:Nat.ble (i+1) args.length with
   |false=>trivial
   |true=>have:=Nat.le_of_ble_eq_true hi;show args.length - 1 - i<args.length;omega
  have hf:fr args [] (λi=>bif Nat.ble (i+1) args.length then Rf.v (args.length - 1 - i)else .u)=λi=>args.getD i undef:=by
   funext i;show rl args [] (bif Nat.ble (i+1) args.length then Rf.v (args.length - 1 - i)else .u)=args.getD i undef;cases hi:Nat.ble (i+1) args.length with
   |false=>
    have:¬ i+1<=args.length:=λh=>by rw[Nat.ble_eq_true_of_le h]at hi;cases hi
    show undef=args.getD i undef;rw[List.getD_eq_getElem?_getD,List.getElem?_eq_none (by omega)];rfl
   |true=>
    have:=Nat.le_of_ble_eq_true hi;show gtF undef args (args.length - 1 - (args.length - 1 - i))=args.getD i undef;rw[show args.length - 1 - (args.length - 1 - i)=i by omega];have:∀(l:List Value) (k:Nat),gtF undef l k=l.getD k undef:=by
     intro l;induction l with
     |nil=>intro k;rfl
     |cons a l ih=>intro k;cases k with
      |zero=>rfl
      |succ k=>rw[gtF,ih k];rfl
    exact this args i
  rw[<- hf];refine wpG_eq (J:=[]) c hc h0 λx γ e q E w h=>?_;have hr:∀(l:List Rf) (a:List Value),dnF P R (retG (l.map (em (a++e).length q.length))) (a++e) q (E++[]) w=R (.returned (tup (l.map (rl (a++e) q)))) w:=λl a=>by
   match l with
   |[]=>rfl
   |[x]=>rfl
   |x::y::l=>
    show R (.returned (.tuple (((x::y::l).map (em (a++e).length q.length)).map (rvF (a++e) q)).toArray)) w=_;rw[List.map_map];rfl
  cases x with
  |normal=>exact GV fn.results.toList e _ _ h λl a hl=>hr l a
  |ret=>exact GV fn.results.toList e _ _ h λl a hl=>hr l a
  |_=>rfl
theorem amkF(l:List α):Array.mk l=l.toArray:=rfl
end
theorem cf(keep:List Nat)(hf:P.funcs[f]?=some fn)(k:S)
  (e:Wr S->dnF P R (fnG P fn keep args.length) args [] [] w:=by
   intro h;conv=>arg 3;(simp only[List.length]);reduce
   simp only[dnF,yO,VSF,rvF,gtF,amkF,Int.reduceOfNat,Int.reduceNegSucc,Int.reduceNeg,List.map,Option.map,List.append_eq,List.nil_append,List.cons_append]
   exact h.o)
  (hc:chkF P fn=true:=by kernel_rfl) (hl:Nat.ble args.length fn.ntmps=true:=by rfl):Calls P f args.toArray w R:=
 OM hf hl (fnG_eq hc▸e ⟨k⟩)
end Go.W

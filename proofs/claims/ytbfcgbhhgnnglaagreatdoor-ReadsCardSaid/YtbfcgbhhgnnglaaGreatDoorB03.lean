/- Texts of mine, one behind the other; nothing is assumed. -/
import Derived.Test.YtbfcgbhhgnnglaaGreatDoorB00
import Derived.Orders
import Derived.Laws.World
import Derived.Laws.Sem
set_option linter.unusedSimpArgs false
set_option linter.unusedVariables false
namespace Go.W
open Go
abbrev Fr:=Nat->Value
abbrev KV:=Value->World->Prop
abbrev KE:=List PanicEntry->World->Prop
def upd(ρ:Fr)(d:Option Tmp)(v:Value):Fr:=
 match d with
 |some d=>λi=>bif Nat.beq i d then v else ρ i
 |none=>ρ
def ev(n:Nat)(ρ:Fr):Operand->Value
 |.tmp t=>bif Nat.ble (t+1) n then ρ t else undef
 |.const v=>v
 |.global g=>.pointer (some ⟨g,0,none⟩)
 |.func f=>.func (.func f) #[] #[]
def act(n:Nat)(ρ:Fr)(ds:List Deferred):Act:=⟨((List.range n).map ρ).toArray,ds⟩
def NkD(v:Value)(K:Value->Prop):Prop:=
 match v with
 |.pointer none|.nilIface|.nilFunc=>False
 |.func (.method _) _ _=>False
 |x=>K x
structure Nk (v:Value) (K:Value->Prop):Prop where
 out:NkD v K
def FaD(v:Value)(off:Nat)(K:Value->Prop):Prop:=
 match v with
 |.pointer (some a)=>K (.pointer (some (a.add off)))
 |_=>False
structure Fa (v:Value) (off:Nat) (K:Value->Prop):Prop where
 out:FaD v off K
def LdD(v:Value)(w:World)(K:Value->Prop):Prop:=
 match v with
 |.pointer (some a)=>(match w.cell? a with|some x=>K x|none=>False)
 |_=>False
structure Ld (v:Value) (w:World) (K:Value->Prop):Prop where
 out:LdD v w K
def eY(w:World)(a:Addr):Nat->Nat->Option (List Value)
 |_,0=>some []
 |i,n+1=>match w.cell? (a.add i),eY w a (i+1) n with
  |some x,some l=>some (x::l)
  |_,_=>none
def SL(v:Value)(n:Nat)(w:World)(K:Value->Prop):Prop:=
 match v with
 |.pointer (some a)=>(match eY w a 0 n with|some l=>K (.agg l.toArray)|none=>False)
 |_=>False
structure LdN (v:Value) (n:Nat) (w:World) (K:Value->Prop):Prop where
 out:SL v n w K
def StD(v x:Value)(w:World)(K:World->Prop):Prop:=
 match v with
 |.pointer (some a)=>x.oneCell'=true/\(∃o,w.cell? a=some o)/\w.frozen? a=false/\K (w.setCell a x)
 |_=>False
structure St (v x:Value) (w:World) (K:World->Prop):Prop where
 out:StD v x w K
def setCells(w:World)(a:Addr):Nat->List Value->Option World
 |_,[]=>some w
 |i,v::r=>match w.cell? (a.add i)with
  |some _=>if w.frozen? (a.add i)=false/\v.oneCell'=true then setCells (w.setCell (a.add i) v) a (i+1) r else none
  |none=>none
def StND(v x:Value)(n:Nat)(w:World)(K:World->Prop):Prop:=
 match v,x with
 |.pointer (some a),.agg cs=>cs.size=n/\(match setCells w a 0 cs.toList with|some w'=>K w'|none=>False)
 |_,_=>False
structure StN (v x:Value) (n:Nat) (w:World) (K:World->Prop):Prop where
 out:StND v x n w K
def NwD(t:TypeId)(v:Value)(w:World)(K:KV):Prop:=K (.pointer (some ⟨w.heap.size,0,none⟩)) (w.alloc (.cells v.cells t))
structure Nw (t:TypeId) (v:Value) (w:World) (K:KV):Prop where
 out:NwD t v w K
def binI(op:BinOp)(k:IntKind)(a b:Int):Option Value:=
 match op with
 |.add=>some (.int k (k.wrap (a+b)))
 |.sub=>some (.int k (k.wrap (a - b)))
 |.mul=>some (.int k (k.wrap (a*b)))
 |.quo=>if b=0 then none else some (.int k (k.wrap (a.tdiv b)))
 |.rem=>if b=0 then none else some (.int k (a.tmod b))
 |.and=>some (.int k (k.wrap (BitVec.ofInt k.bits a &&& BitVec.ofInt k.bits b).toNat))
 |.or=>some (.int k (k.wrap (BitVec.ofInt k.bits a|||BitVec.ofInt k.bits b).toNat))
 |.xor=>some (.int k (k.wrap (BitVec.ofInt k.bits a ^^^ BitVec.ofInt k.bits b).toNat))
 |.andNot=>some (.int k (k.wrap (BitVec.ofInt k.bits a &&& ~~~ BitVec.ofInt k.bits b).toNat))
 |.eql=>some (.bool (a==b))
 |.neq=>some (.bool (a != b))
 |.lss=>some (.bool (a<b))
 |.leq=>some (.bool (a<=b))
 |.gtr=>some (.bool (a>b))
 |.geq=>some (.bool (a>=b))
 |_=>none
def BiD(op:BinOp)(x y:Value)(K:Value->Prop):Prop:=
 match x,y with
 |.int k a,.int k' b=>k=k'/\(match binI op k a b with|some v=>K v|none=>False)
 |_,_=>False
structure Bi (op:BinOp) (x y:Value) (K:Value->Prop):Prop where
 out:BiD op x y K
def ShD(op:BinOp)(x y:Value)(K:Value->Prop):Prop:=
 match x,y with
 |.int k a,.int _ b=>0<=b/\(match op with
  |.shl=>K (.int k (k.wrap (a*2 ^ min b.toNat k.bits)))
  |.shr=>K (.int k (a.fdiv (2 ^ min b.toNat k.bits)))
  |_=>False)
 |_,_=>False
structure Sh (op:BinOp) (x y:Value) (K:Value->Prop):Prop where
 out:ShD op x y K
def binS(op:BinOp)(a b:ByteArray):Option Value:=
 match op with
 |.add=>if((a.size+b.size:Nat):Int)>IntKind.i64.max then none else some (.string (a++b))
 |.eql=>some (.bool (a.toList==b.toList))
 |.neq=>some (.bool !(a.toList==b.toList))
 |_=>none
def BsD(op:BinOp)(x y:Value)(K:Value->Prop):Prop:=
 match x,y with
 |.string a,.string b=>(match binS op a b with|some v=>K v|none=>False)
 |_,_=>False
structure Bs (op:BinOp) (x y:Value) (K:Value->Prop):Prop where
 out:BsD op x y K
inductive NK where
 |ptr|ifc|fn|map|slc
def isNil:NK->Value->Option Bool
 |.ptr,.pointer a=>some a.isNone
 |.ifc,.nilIface=>some true
 |.ifc,.iface _ _=>some false
 |.fn,.nilFunc=>some true
 |.fn,.func _ _ _=>some false
 |.map,.map r=>some r.isNone
 |.slc,.slice a _ _=>some a.isNone
 |_,_=>none
def pK:BinOp->Bool
 |.neq=>true
 |_=>false
def EnD(k:NK)(neg:Bool)(x:Value)(K:Value->Prop):Prop:=
 match isNil k x with
 |some b=>K (.bool (b != neg))
 |none=>False
structure En (k:NK) (neg:Bool) (x:Value) (K:Value->Prop):Prop where
 out:EnD k neg x K
def EbD(neg:Bool)(x y:Value)(K:Value->Prop):Prop:=
 match x,y with
 |.bool a,.bool b=>K (.bool ((a==b) != neg))
 |_,_=>False
structure Eb (neg:Bool) (x y:Value) (K:Value->Prop):Prop where
 out:EbD neg x y K
def NtD(x:Value)(K:Value->Prop):Prop:=
 match x with
 |.bool b=>K (.bool !b)
 |_=>False
structure Nt (x:Value) (K:Value->Prop):Prop where
 out:NtD x K
def NgD(x:Value)(K:Value->Prop):Prop:=
 match x with
 |.int k n=>K (.int k (k.wrap (0 - n)))
 |_=>False
structure Ng (x:Value) (K:Value->Prop):Prop where
 out:NgD x K
def CvD(k:IntKind)(x:Value)(K:Value->Prop):Prop:=
 match x with
 |.int _ n=>K (.int k (k.wrap n))
 |_=>False
structure Cv (k:IntKind) (x:Value) (K:Value->Prop):Prop where
 out:CvD k x K
def CvSD(x:Value)(K:Value->Prop):Prop:=
 match x with
 |.string s=>K (.string s)
 |_=>False
structure CvS (x:Value) (K:Value->Prop):Prop where
 out:CvSD x K
def bytesOf:List Value->Option (List UInt8)
 |[]=>some []
 |.int .u8 n::r=>(bytesOf r).map λl=>UInt8.ofNat n.toNat::l
 |_=>none
def XT(x:Value)(w:World)(K:Value->Prop):Prop:=
 match x with
 |.slice none _ _=>K (.string .empty)
 |.slice (some a) n _=>(match eY w a 0 n with
  |some l=>(match bytesOf l with
   |some bs=>K (.string ⟨bs.toArray⟩)
   |none=>False)
  |none=>False)
 |_=>False
structure CvB (x:Value) (w:World) (K:Value->Prop):Prop where
 out:XT x w K
def bnd(v:Option Value)(dflt top:Nat):Option Nat:=
 match v with
 |none=>some dflt
 |some (.int _ i)=>if 0<=i/\i<=top then some i.toNat else none
 |some _=>none
def UC(x:Value)(lo hi:Option Value)(K:Value->Prop):Prop:=
 match x with
 |.string s=>(match bnd hi s.size s.size with
  |some h=>(match bnd lo 0 h with
   |some l=>K (.string (s.extract l h))
   |none=>False)
  |none=>False)
 |_=>False
structure SlS (x:Value) (lo hi:Option Value) (K:Value->Prop):Prop where
 out:UC x lo hi K
def SlLD(size:Nat)(x:Value)(lo hi:Option Value)(K:Value->Prop):Prop:=
 match x with
 |.slice a len cap=>(match bnd hi len cap with
  |some h=>(match bnd lo 0 h with
   |some l=>K (.slice (if cap=l then a else a.map (·.add (l*size))) (h - l) (cap - l))
   |none=>False)
  |none=>False)
 |_=>False
structure SlL (size:Nat) (x:Value) (lo hi:Option Value) (K:Value->Prop):Prop where
 out:SlLD size x lo hi K
def IxSD(x i:Value)(K:Value->Prop):Prop:=
 match x,i with
 |.string s,.int _ i=>0<=i/\(match s[i.toNat]? with|some b=>K (.int .u8 b.toNat)|none=>False)
 |_,_=>False
structure IxS (x i:Value) (K:Value->Prop):Prop where
 out:IxSD x i K
def IaSD(size:Nat)(x i:Value)(K:Value->Prop):Prop:=
 match x,i with
 |.slice (some a) len _,.int _ i=>0<=i/\i<len/\K (.pointer (some (a.add (i.toNat*size))))
 |_,_=>False
structure IaS (size:Nat) (x i:Value) (K:Value->Prop):Prop where
 out:IaSD size x i K
def IaAD(len size:Nat)(x i:Value)(K:Value->Prop):Prop:=
 match x,i with
 |.pointer (some a),.int _ i=>0<=i/\i<len/\K (.pointer (some (a.add (i.toNat*size))))
 |_,_=>False
structure IaA (len size:Nat) (x i:Value) (K:Value->Prop):Prop where
 out:IaAD len size x i K
def ExD(x:Value)(i:Nat)(K:Value->Prop):Prop:=
 match x with
 |.tuple vs=>(match vs[i]? with|some v=>K v|none=>False)
 |_=>False
structure Ex (x:Value) (i:Nat) (K:Value->Prop):Prop where
 out:ExD x i K
def PkD(c a b:Value)(K:Value->Prop):Prop:=
 match c with
 |.bool t=>K (if t then a else b)
 |_=>False
structure Pk (c a b:Value) (K:Value->Prop):Prop where
 out:PkD c a b K
def LnD(s:Bool)(x:Value)(K:Value->Prop):Prop:=
 match s,x with
 |true,.string s=>K (.int .i64 s.size)
 |false,.slice _ n _=>K (.int .i64 n)
 |_,_=>False
structure Ln (s:Bool) (x:Value) (K:Value->Prop):Prop where
 out:LnD s x K
def TaD(t:TypeId)(zero x:Value)(K:Value->Prop):Prop:=
 match x with
 |.nilIface=>K (.tuple #[zero,.bool false])
 |.iface u v=>K (if u=t then .tuple #[v,.bool true]else .tuple #[zero,.bool false])
 |_=>False
structure Ta (t:TypeId) (zero x:Value) (K:Value->Prop):Prop where
 out:TaD t zero x K
def Ta1D(t:TypeId)(x:Value)(K:Value->Prop):Prop:=
 match x with
 |.iface u v=>u=t/\K v
 |_=>False
structure Ta1 (t:TypeId) (x:Value) (K:Value->Prop):Prop where
 out:Ta1D t x K
def SH(P:Program)(s:Sem Value)(w:World)(K:KV):Prop:=
 match s.run P w with
 |.ok v w'=>K v w'
 |_=>False
structure fF (P:Program) (s:Sem Value) (w:World) (K:KV):Prop where
 out:SH P s w K
def aaP(P:Program)(s:Sem Unit)(w:World)(K:World->Prop):Prop:=
 match s.run P w with
 |.ok _ w'=>K w'
 |_=>False
structure SI (P:Program) (s:Sem Unit) (w:World) (K:World->Prop):Prop where
 out:aaP P s w K
def ClD(P:Program)(f:FuncId)(args:Array Value)(w:World)(E:KE)(K:KV):Prop:=
 Calls P f args w fun
  |.returned v,w'=>K v w'
  |.panicked ch,w'=>E ch w'
  |.outgrown,_=>False
structure Cl (P:Program) (f:FuncId) (args:Array Value) (w:World) (E:KE) (K:KV):Prop where
 out:ClD P f args w E K
def Fh(P:Program)(s:Sem Next)(w:World)(E:KE)(K:KV):Prop:=
 match s.run P w with
 |.ok (.value v) w'=>K v w'
 |.ok .skip w'=>K undef w'
 |.ok (.enter f args) w'=>Cl P f args w' E K
 |.halt (.panic v) w'=>E [{ v,recovered:=false }] w'
 |_=>False
structure pF (P:Program) (s:Sem Next) (w:World) (E:KE) (K:KV):Prop where
 out:Fh P s w E K
def aaR(P:Program)(f:Value)(args:Array Value)(w:World)(E:KE)(K:KV):Prop:=
 pF P (do let d <- Deferred.ofValue f args;invoke d.target d.args) w E K
structure oC (P:Program) (f:Value) (args:Array Value) (w:World) (E:KE) (K:KV):Prop where
 out:aaR P f args w E K
def UF(P:Program)(recv:Value)(name:String)(args:Array Value)(w:World)(E:KE)(K:KV):Prop:=
 pF P (callMethod recv name args) w E K
structure zF (P:Program) (recv:Value) (name:String) (args:Array Value) (w:World) (E:KE) (K:KV):Prop where
 out:UF P recv name args w E K
def nK(P:Program)(f:FuncId):Bool:=
 match P.funcs[f]? with
 |some fn=>fn.body.isSome&&fn.name != "runtime.NumGoroutine"
 |none=>false
inductive acY where
 |one
 |many (n:Nat)
 |bad
def jm(P:Program)(t:TypeId):acY:=
 match P.underlying t,P.info? t with
 |some (.struct _),some i|some (.array _ _),some i=>.many i.size
 |some _,some i=>bif Nat.beq i.size 1 then .one else .bad
 |_,_=>.bad
def zh(P:Program)(s:TypeId)(f:Nat):Option Nat:=
 match P.underlying s with
 |some (.struct fs)=>(match fs[f]? with
  |some fl=>(match P.info? fl.type with
   |some i=>bif Nat.beq i.size 0 then none else some fl.offset
   |none=>none)
  |none=>none)
 |_=>none
inductive Und where
 |int (k:IntKind)|str|bool|nilable (k:NK)|slice (e:Nat)|arr (n e:Nat)|other
def und(P:Program)(t:TypeId):Und:=
 match P.underlying t with
 |some (.int k)=>.int k
 |some .string=>.str
 |some .bool=>.bool
 |some (.pointer _)=>.nilable .ptr
 |some (.interface _)=>.nilable .ifc
 |some (.func ..)=>.nilable .fn
 |some (.map _ _)=>.nilable .map
 |some (.slice e)=>(match P.info? e with|some i=>.slice i.size|none=>.other)
 |some (.array n e)=>(match P.info? e with|some i=>.arr n i.size|none=>.other)
 |_=>.other
def zeroOf(P:Program)(t:TypeId):Option Value:=(P.info? t).bind (·.zero)
def dV:NK->Operand->Bool
 |.ifc,.const .nilIface|.fn,.const .nilFunc|.ptr,.const (.pointer none)|.map,.const (.map none)|.slc,.const (.slice none _ _)=>true
 |_,_=>false
def isIface(P:Program)(t:TypeId):Bool:=
 match P.underlying t with
 |some (.interface _)=>true
 |some _=>false
 |none=>true
def jo(P:Program)(fs:Array Field):List (Nat×Value)->Option (List (Nat×Nat×Value))
 |[]=>some []
 |(i,v)::r=>match fs[i]?,jo P fs r with
  |some fl,some l=>some ((fl.offset,P.cellsOf fl.type,v)::l)
  |_,_=>none
def qI(P:Program):List Field->Bool
 |[]=>true
 |f::r=>(P.info? f.type).isSome&&qI P r
def putCells(cells:List Value)(off:Nat):List Value->List Value
 |[]=>cells
 |v::r=>putCells (cells.set off v) (off+1) r
def o8:List Value->List (Nat×Nat×Value)->Option (List Value)
 |cells,[]=>some cells
 |cells,(off,size,v)::rest=>
  if v.cells.size=size/\off+size<=cells.length then o8 (putCells cells off v.cells.toList) rest else none
def BuD(zero:Value)(places:List (Nat×Nat×Value))(K:Value->Prop):Prop:=
 match o8 zero.cells.toList places with
 |some cells=>K (.agg cells.toArray)
 |none=>False
structure Bu (zero:Value) (places:List (Nat×Nat×Value)) (K:Value->Prop):Prop where
 out:BuD zero places K
def BuSD(elem size:Nat)(vals:List Value)(w:World)(K:KV):Prop:=
 (∀v∈vals,v.cells.size=size) /\
  K (.slice (some ⟨w.heap.size,0,none⟩) vals.length vals.length) (w.alloc (.cells (vals.flatMap (·.cells.toList)).toArray elem))
structure BuS (elem size:Nat) (vals:List Value) (w:World) (K:KV):Prop where
 out:BuSD elem size vals w K
def zv(P:Program)(t:TypeId):Value:=(zeroOf P t).getD undef
def ag(w:World)(r:Nat)(o:Obj):World:={ w with heap:=w.heap.setIfInBounds r o }
def LkD(kind:TypeDesc)(zero m k:Value)(ok:Bool)(w:World)(K:Value->Prop):Prop:=
 match m with
 |.map none=>K (if ok then .tuple #[zero,.bool false]else zero)
 |.map (some r)=>(match w.heap[r]? with
  |some (.map es _)=>(match Instr.findNow kind k es.toList 0 with
   |some (some (_,v))=>K (if ok then .tuple #[v,.bool true]else v)
   |some none=>K (if ok then .tuple #[zero,.bool false]else zero)
   |none=>False)
  |_=>False)
 |_=>False
structure Lk (kind:TypeDesc) (zero m k:Value) (ok:Bool) (w:World) (K:Value->Prop):Prop where
 out:LkD kind zero m k ok w K
def MuD(kind:TypeDesc)(m k v:Value)(w:World)(K:World->Prop):Prop:=
 match m with
 |.map (some r)=>(match w.heap[r]? with
  |some (.map es clock)=>(match Instr.findNow kind k es.toList 0 with
   |some (some (i,_))=>K (ag w r (.map (es.modify i λe=>{ e with key:=k,val:=v }) clock))
   |some none=>K (ag w r (.map (es.push { key:=k,val:=v,born:=clock }) (clock+1)))
   |none=>False)
  |_=>False)
 |_=>False
structure Mu (kind:TypeDesc) (m k v:Value) (w:World) (K:World->Prop):Prop where
 out:MuD kind m k v w K
def MmD(w:World)(K:KV):Prop:=K (.map (some w.heap.size)) (w.alloc (.map #[] 0))
structure Mm (w:World) (K:KV):Prop where
 out:MmD w K
def fU(size:Nat)(x:Value)(w:World):Option (Nat×List Value):=
 match x with
 |.slice (some a) n _=>(eY w a 0 (n*size)).map λl=>(n,l)
 |.slice none n _=>some (n,[])
 |.string s=>some (s.size,(s.data.toList.map λb=>.int .u8 b.toNat))
 |_=>none
def ApD(elem size bytes:Nat)(zero s x:Value)(w:World)(K:KV):Prop:=
 match s with
 |.slice base len cap=>∃n news,fU size x w=some (n,news) /\
   (if len+n<=cap then
    (match base with
    |some a=>(match setCells w (a.add (len*size)) 0 news with
     |some w'=>K (.slice base (len+n) cap) w'
     |none=>False)
    |none=>K (.slice base (len+n) cap) w)
   else(len+n)*bytes<=140737488355328/\∃olds m,fU size (.slice base len cap) w=some (m,olds) /\
    ∀c,len+n<=c->K (.slice (some ⟨w.heap.size,0,none⟩) (len+n) c)
     (w.drew.alloc (.cells (olds.toArray++news.toArray++Builtin.zeroCells zero.cells (c - (len+n))) elem)))
 |_=>False
structure Ap (elem size bytes:Nat) (zero s x:Value) (w:World) (K:KV):Prop where
 out:ApD elem size bytes zero s x w K
def isBytes(P:Program)(t:TypeId):Bool:=
 match P.underlying t with
 |some (.slice e)=>(match P.underlying e with|some (.int .u8)=>true|_=>false)
 |_=>false
def oU(P:Program)(t:TypeId):Option (TypeDesc×TypeId):=
 match P.underlying t with
 |some (.map k e)=>(match P.underlying k with
  |some (.int i)=>some (.int i,e)
  |some .string=>some (.string,e)
  |_=>none)
 |_=>none
def covers:Nat->List (Nat×Operand)->Bool
 |_,[]=>true
 |i,(j,_)::r=>Nat.beq i j&&covers (i+1) r
def Dj(P:Program)(elem:TypeId)(size len:Nat)(parts:Array (Nat×Operand)):Bool:=
 Nat.beq parts.toList.length len&&covers 0 parts.toList&&Nat.ble 1 size&&Nat.ble (len*size) 16777216&&(zeroOf P elem).isSome
def vop(P:Program)(o:Oper)(e:Operand->Value)(w:World)(K:KV):Prop:=
 match o.op with
 |.move x|.assign x=>K (e x) w
 |.pick c a b=>Pk (e c) (e a) (e b) λv=>K v w
 |.alloc t=>(match zeroOf P t with|some _=>Nw t (zv P t) w K|none=>False)
 |.box t x=>Nw t (e x) w K
 |.build t parts=>(match P.underlying t,zeroOf P t with
  |some (.struct fs),some _=>bif qI P fs.toList then(match jo P fs (parts.toList.map λp=>(p.1,e p.2))with
   |some ps=>Bu (zv P t) ps λv=>K v w
   |none=>False)else False
  |some (.array _ _),some _=>fF P (Instr.build t (parts.map λp=>(p.1,e p.2))) w K
  |_,_=>False)
 |.buildSlice t len parts=>(match und P t,P.underlying t with
  |.slice size,some (.slice elem)=>bif Dj P elem size len parts then BuS elem size (parts.toList.map λp=>e p.2) w K else False
  |_,_=>False)
 |.load t a=>(match jm P t with
  |.one=>Ld (e a) w λv=>K v w
  |.many n=>LdN (e a) n w λv=>K v w
  |.bad=>False)
 |.store t a x=>(match jm P t with
  |.one=>St (e a) (e x) w (K undef)
  |.many n=>StN (e a) (e x) n w (K undef)
  |.bad=>False)
 |.nilCheck x=>Nk (e x) λv=>K v w
 |.binOp op t x y _=>(match op with
  |.shl|.shr=>Sh op (e x) (e y) λv=>K v w
  |.eql|.neq=>(match und P t with
   |.int _=>Bi op (e x) (e y) λv=>K v w
   |.str=>Bs op (e x) (e y) λv=>K v w
   |.bool=>Eb (pK op) (e x) (e y) λv=>K v w
   |.nilable nk=>bif dV nk y then En nk (pK op) (e x) λv=>K v w
     else fF P (do eqGuard op t x y (e x) (e y);binOp op t (e x) (e y)) w K
   |.slice _=>bif dV .slc y then En .slc (pK op) (e x) λv=>K v w
     else fF P (do eqGuard op t x y (e x) (e y);binOp op t (e x) (e y)) w K
   |_=>fF P (do eqGuard op t x y (e x) (e y);binOp op t (e x) (e y)) w K)
  |_=>(match und P t with
   |.int _=>Bi op (e x) (e y) λv=>K v w
   |.str=>Bs op (e x) (e y) λv=>K v w
   |_=>fF P (do eqGuard op t x y (e x) (e y);binOp op t (e x) (e y)) w K))
 |.unOp .not _ x=>Nt (e x) λv=>K v w
 |.unOp .neg _ x=>Ng (e x) λv=>K v w
 |.unOp op _ x=>fF P (Op.unary op (e x)) w K
 |.convert src dst x=>(match und P src,und P dst with
  |.int _,.int k=>Cv k (e x) λv=>K v w
  |.str,.str=>CvS (e x) λv=>K v w
  |.slice _,.str=>bif isBytes P src then CvB (e x) w λv=>K v w else fF P (convert src dst (e x)) w K
  |_,_=>fF P (convert src dst (e x)) w K)
 |.makeInterface t x=>bif isIface P t then False else K (.iface t (e x)) w
 |.makeFunc fn first captured=>K (.func fn (first.map e) (captured.map e)) w
 |.makeMap t r=>(match r with
  |none=>Mm w K
  |some r=>fF P (Instr.makeMap t (some (e r))) w K)
 |.makeSlice t l c=>fF P (Instr.makeSlice t (e l) (e c)) w K
 |.slice t x lo hi mx=>(match und P t,mx with
  |.str,none=>SlS (e x) (lo.map e) (hi.map e) λv=>K v w
  |.slice size,none=>SlL size (e x) (lo.map e) (hi.map e) λv=>K v w
  |_,_=>fF P (Instr.sliceAt t (e x) (lo.map e) (hi.map e) (mx.map e)) w K)
 |.fieldAddr s x f=>(match zh P s f with
  |some off=>Fa (e x) off λv=>K v w
  |none=>False)
 |.field t x f=>fF P (Instr.field t (e x) f) w K
 |.indexAddr t x i=>(match und P t with
  |.slice size=>IaS size (e x) (e i) λv=>K v w
  |.arr n size=>IaA n size (e x) (e i) λv=>K v w
  |_=>False)
 |.index t x i=>(match und P t with
  |.str=>IxS (e x) (e i) λv=>K v w
  |_=>fF P (Instr.index t (e x) (e i)) w K)
 |.lookup t m k ok=>(match oU P t with
  |some (kind,el)=>(match zeroOf P el with
   |some _=>Lk kind (zv P el) (e m) (e k) ok w λv=>K v w
   |none=>False)
  |none=>fF P (Instr.lookup t (e m) (e k) ok) w K)
 |.mapUpdate t m k x=>(match oU P t with
  |some (kind,_)=>Mu kind (e m) (e k) (e x) w (K undef)
  |none=>SI P (Instr.mapUpdate t (e m) (e k) (e x)) w (K undef))
 |.range t x=>fF P (Instr.range t (e x)) w K
 |.next it s=>fF P (Instr.next (e it) s o.type) w K
 |.entry it=>fF P (Instr.entry (e it)) w K
 |.typeAssert x xt t ok=>bif isIface P t then fF P (Instr.typeAssert (e x) xt t ok) w K else
  (match ok,zeroOf P t with
  |true,some _=>Ta t (zv P t) (e x) λv=>K v w
  |false,_=>Ta1 t (e x) λv=>K v w
  |_,_=>False)
 |.extract x i=>Ex (e x) i λv=>K v w
 |_=>False
def quiet(P:Program)(o:Oper):Bool:=
 match o.op with
 |.move _|.assign _|.pick ..|.nilCheck _|.makeInterface ..|.makeFunc ..|.extract ..=>true
 |.fieldAddr ..=>true
 |.load ..=>true
 |.build t _=>(match P.underlying t with|some (.struct _)=>true|_=>false)
 |.binOp op t _ y _=>(match op with
  |.shl|.shr=>true
  |.eql|.neq=>(match und P t with
   |.int _|.str|.bool=>true
   |.nilable nk=>dV nk y
   |.slice _=>dV .slc y
   |_=>false)
  |_=>(match und P t with|.int _|.str=>true|_=>false))
 |.unOp .not _ _|.unOp .neg _ _=>true
 |.convert src dst _=>(match und P src,und P dst with|.int _,.int _=>true|.str,.str=>true|.slice _,.str=>isBytes P src|_,_=>false)
 |.slice t _ _ _ mx=>(match und P t,mx with|.str,none=>true|.slice _,none=>true|_,_=>false)
 |.indexAddr ..=>true
 |.index t _ _=>(match und P t with|.str=>true|_=>false)
 |.lookup t ..=>(oU P t).isSome
 |.typeAssert _ _ t _=>!isIface P t
 |.call { callee:=.builtin .len,argTypes,.. }=>(match argTypes[0]? with
  |some t=>(match und P t with|.str|.slice _=>true|_=>false)
  |none=>false)
 |_=>false
def looks:Op->Bool
 |.load ..|.lookup ..|.convert ..=>true
 |_=>false
def PnD(x:Value)(w:World)(E:KE):Prop:=
 match x with
 |.iface t v=>E [{ v:=.iface t v,recovered:=false }] w
 |_=>False
structure Pn (x:Value) (w:World) (E:KE):Prop where
 out:PnD x w E
def opW(P:Program)(o:Oper)(e:Operand->Value)(w:World)(E:KE)(K:KV):Prop:=
 match o.op with
 |.call c=>(match c.callee with
  |.builtin b=>(match b with
   |.len=>(match c.argTypes[0]?,c.args[0]? with
    |some t,some x=>(match und P t with
     |.str=>Ln true (e x) λv=>K v w
     |.slice _=>Ln false (e x) λv=>K v w
     |_=>fF P (Builtin.len_ c.argTypes o.type (c.args.map e)) w K)
    |_,_=>False)
   |.append=>(match c.argTypes.toList,c.args.toList with
    |[t,u],[s,x]=>(match P.underlying t,und P u with
     |some (.slice el),.slice _|some (.slice el),.str=>(match P.info? el with
      |some i=>(match i.zero with
       |some z=>bif Nat.ble 1 i.bytes&&Nat.beq z.cells.size i.size then Ap el i.size i.bytes (zv P el) (e s) (e x) w K else False
       |none=>False)
      |none=>False)
     |_,_=>False)
    |_,_=>False)
   |_=>pF P (builtin b c.argTypes o.type (c.args.map λ|.const _=>true|_=>false) (c.args.map e)) w E K)
  |.invoke recv name=>zF P (e recv) name (c.args.map e) w E K
  |.value f=>(match f with
   |.func f=>bif nK P f then Cl P f (c.args.map e) w E K else pF P (callFunc f (c.args.map e)) w E K
   |f=>oC P (e f) (c.args.map e) w E K))
 |.panic x=>Pn (e x) w E
 |_=>vop P o e w K
def GdD(g:Value)(want:Bool)(w:World)(A:KV->Prop)(K:KV):Prop:=
 match g with
 |.bool b=>if b=want then A K else K undef w
 |_=>K undef w
structure Gd (g:Value) (want:Bool) (w:World) (A:KV->Prop) (K:KV):Prop where
 out:GdD g want w A K
def Q8(n:Nat)(ρ:Fr)(ops:Array Oper)(j:Nat):Value:=
 match (ops[j]?).bind (·.dst)with
 |some d=>ev n ρ (.tmp d)
 |none=>undef
def guarded(n:Nat)(ops:Array Oper)(o:Oper)(ρ:Fr)(w:World)(A:KV->Prop)(K:KV):Prop:=
 match o.guard with
 |none=>A K
 |some (j,want)=>Gd (Q8 n ρ ops j) want w A K
def J7(P:Program)(n:Nat)(ops:Array Oper)(E:KE):List Oper->(Fr->World->Prop)->Fr->World->Prop
 |[],Q,ρ,w=>Q ρ w
 |o::rest,Q,ρ,w=>guarded n ops o ρ w (opW P o (ev n ρ) w E) λv w'=>J7 P n ops E rest Q (upd ρ o.dst v) w'
def kept(ops:Array Oper)(waits:Nat->Bool)(w:World):List (Nat×(World->Prop))->Prop->Prop
 |[],k=>k
 |(i,f)::r,k=>bif waits i then kept ops waits w r k else f w/\kept ops waits w r k
def uk(ops:Array Oper):Nat->Nat->Nat->Bool
 |0,_,_=>false
 |fuel+1,j,i=>match ops[j]? with
  |some o=>o.after.toList.any λed=>Region.binds .any ed&&(Nat.beq ed.on i||uk ops fuel ed.on i)
  |none=>false
def IV(P:Program)(ops:Array Oper)(listed:Array Bool):Option Nat:=
 let rs:=Region.ready .any ops listed
 rs.find? λi=>(match ops[i]? with|some o=>quiet P o|none=>false)&&Region.free .any ops listed i
def allOf{α:Type}:List α->(α->Prop)->Prop
 |[],_=>True
 |[i],f=>f i
 |i::j::r,f=>f i/\allOf (j::r) f
def AV(P:Program)(n:Nat)(ops:Array Oper)(E:KE)(Q:Fr->World->Prop):Nat->Array Bool->List (Nat×(World->Prop))->Fr->World->Prop
 |0,listed,_,ρ,w=>(match Region.ready .any ops listed with|[]=>Q ρ w|_=>False)
 |fuel+1,listed,G,ρ,w=>
  match IV P ops listed with
  |some i=>(match ops[i]? with
   |some o=>guarded n ops o ρ w (opW P o (ev n ρ) w E) λv w'=>AV P n ops E Q fuel (listed.setIfInBounds i true)
     (bif looks o.op then G++[(i,λu=>guarded n ops o ρ u (opW P o (ev n ρ) u E) λv' _=>v'=v)]else G) (upd ρ o.dst v) w'
   |none=>False)
  |none=>(match Region.ready .any ops listed with
   |[]=>False
   |rs=>allOf rs λi=>(match ops[i]? with
    |some o=>guarded n ops o ρ w (opW P o (ev n ρ) w E) λv w'=>kept ops (uk ops ops.size i) w' G
      (AV P n ops E Q fuel (listed.setIfInBounds i true) G (upd ρ o.dst v) w')
    |none=>False))
def IfD(c:Value)(A B:Prop):Prop:=
 match c with
 |.bool b=>if b=true then A else B
 |_=>False
structure If (c:Value) (A B:Prop):Prop where
 out:IfD c A B
def JnD(A:(List Value->World->Prop)->Prop)(B:(Nat->Value)->List Value->World->Prop):Prop:=
 ∃J:List Value->World->Prop,A J/\∀vals w jk,J vals w->B jk vals w
structure Jn (A:(List Value->World->Prop)->Prop) (B:(Nat->Value)->List Value->World->Prop):Prop where
 out:JnD A B
def LpD(init:List Value)(w:World)(body:(Nat->Value)->List Value->World->(List Value->World->Prop)->Prop):Prop:=
 ∃(J:List Value->World->Prop) (μ:List Value->World->Nat),J init w /\
  ∀vals w jk,J vals w->body jk vals w λAh w'=>J Ah w'/\μ Ah w'<μ vals w
structure Lp (init:List Value) (w:World) (body:(Nat->Value)->List Value->World->(List Value->World->Prop)->Prop):Prop where
 out:LpD init w body
def writes:Code->List Nat
 |.region _ ops _=>ops.toList.filterMap (·.dst)
 |.seq a b=>writes a++writes b
 |.cond _ a b=>writes a++writes b
 |.block _ b=>writes b
 |.loop b=>writes b
 |.scope b=>writes b
 |_=>[]
def xJ(id:Nat):Code->Nat
 |.exit i=>bif Nat.beq i id then 1 else 0
 |.seq a b=>xJ id a+xJ id b
 |.cond _ a b=>xJ id a+xJ id b
 |.block i b=>bif Nat.beq i id then 0 else xJ id b
 |.loop b=>xJ id b
 |_=>0
def ends:Code->Nat
 |.skip=>1
 |.region ..=>1
 |.seq a b=>bif Nat.beq (ends a) 0 then 0 else ends b
 |.cond _ a b=>ends a+ends b
 |.block i b=>ends b+xJ i b
 |.label _=>1
 |_=>0
def idx:List Nat->Nat->Nat->Option Nat
 |[],_,_=>none
 |a::l,k,i=>bif Nat.beq i a then some k else idx l (k+1) i
def overlay(ρ:Fr)(ws keep:List Nat)(jk:Nat->Value)(vals:List Value):Fr:=λi=>
 match idx keep 0 i with
 |some k=>vals.getD k undef
 |none=>bif ws.contains i then jk i else ρ i
def handed(n:Nat)(keep ws:List Nat):List Nat:=keep.filter λi=>ws.contains i&&Nat.ble (i+1) n
def wpc(P:Program)(n:Nat)(keep:List Nat)(E:KE):Code->(Exit->Fr->World->Prop)->Fr->World->Prop
 |.skip,Q,ρ,w=>Q .normal ρ w
 |.label _,Q,ρ,w=>Q .normal ρ w
 |.region _ ops draw,Q,ρ,w=>
  bif draw then
   bif P.follows .mixedOrders&&Region.noSelect ops then AV P n ops E (Q .normal) ops.size (Array.replicate ops.size false) [] ρ w.drew else False
  else J7 P n ops E ops.toList (Q .normal) ρ w
 |.seq a b,Q,ρ,w=>
  bif Nat.ble (ends a) 1 then
   wpc P n keep E a (λe ρ' w'=>match e with|.normal=>wpc P n keep E b Q ρ' w'|e=>Q e ρ' w') ρ w
  else
   Jn (λJ=>wpc P n keep E a (λe ρ' w'=>match e with|.normal=>J ((handed n keep (writes a)).map ρ') w'|e=>Q e ρ' w') ρ w)
    (λjk vals w'=>wpc P n keep E b Q (overlay ρ (writes a) (handed n keep (writes a)) jk vals) w')
 |.cond c a b,Q,ρ,w=>If (ev n ρ c) (wpc P n keep E a Q ρ w) (wpc P n keep E b Q ρ w)
 |.block id b,Q,ρ,w=>wpc P n keep E b (λe ρ' w'=>match e with
   |.exit i=>bif Nat.beq i id then Q .normal ρ' w' else Q (.exit i) ρ' w'
   |e=>Q e ρ' w') ρ w
 |.loop b,Q,ρ,w=>Lp ((handed n keep (writes b)).map ρ) w λjk vals w' C=>
   wpc P n keep E b (λe ρ' w''=>match e with|.normal=>C ((handed n keep (writes b)).map ρ') w''|e=>Q e ρ' w'')
    (overlay ρ (writes b) (handed n keep (writes b)) jk vals) w'
 |.exit i,Q,ρ,w=>Q (.exit i) ρ w
 |.ret,Q,ρ,w=>Q .ret ρ w
 |_,_,_,_=>False
def wU(P:Program)(n:Nat)(ρ:Fr)(w:World):List ResultVar->(List Value->Prop)->Prop
 |[],K=>K []
 |.tmp t::r,K=>wU P n ρ w r λl=>K (ev n ρ (.tmp t)::l)
 |.cell a t::r,K=>(match jm P t with
  |.one=>Ld (ev n ρ (.tmp a)) w λv=>wU P n ρ w r λl=>K (v::l)
  |.many m=>LdN (ev n ρ (.tmp a)) m w λv=>wU P n ρ w r λl=>K (v::l)
  |.bad=>False)
def tup:List Value->Value
 |[v]=>v
 |l=>.tuple l.toArray
def fnW(P:Program)(fn:Func)(keep:List Nat)(c:Code)(args:List Value)(w:World)(R:Ending->World->Prop):Prop:=
 wpc P fn.ntmps keep (λch w'=>R (.panicked ch) w') c (λe ρ w'=>match e with
  |.normal|.ret=>wU P fn.ntmps ρ w' fn.results.toList λl=>R (.returned (tup l)) w'
  |_=>False) (λi=>args.getD i undef) w
def fnB(P:Program)(fn:Func)(keep:List Nat)(args:List Value)(w:World)(R:Ending->World->Prop):Prop:=
 match fn.body with
 |some c=>fnW P fn keep c args w R
 |none=>False
def pE(R:Ending->World->Prop):KE:=λch w=>R (.panicked ch) w
def V1(l:List Value)(f:Value->Prop):Prop:=f (l.getD 0 undef)
def V2(l:List Value)(f:Value->Value->Prop):Prop:=f (l.getD 0 undef) (l.getD 1 undef)
def V3(l:List Value)(f:Value->Value->Value->Prop):Prop:=f (l.getD 0 undef) (l.getD 1 undef) (l.getD 2 undef)
def V4(l:List Value)(f:Value->Value->Value->Value->Prop):Prop:=f (l.getD 0 undef) (l.getD 1 undef) (l.getD 2 undef) (l.getD 3 undef)
def V5(l:List Value)(f:Value->Value->Value->Value->Value->Prop):Prop:=f (l.getD 0 undef) (l.getD 1 undef) (l.getD 2 undef) (l.getD 3 undef) (l.getD 4 undef)
def V6(l:List Value)(f:Value->Value->Value->Value->Value->Value->Prop):Prop:=f (l.getD 0 undef) (l.getD 1 undef) (l.getD 2 undef) (l.getD 3 undef) (l.getD 4 undef) (l.getD 5 undef)
def V7(l:List Value)(f:Value->Value->Value->Value->Value->Value->Value->Prop):Prop:=f (l.getD 0 undef) (l.getD 1 undef) (l.getD 2 undef) (l.getD 3 undef) (l.getD 4 undef) (l.getD 5 undef) (l.getD 6 undef)
def V8(l:List Value)(f:Value->Value->Value->Value->Value->Value->Value->Value->Prop):Prop:=f (l.getD 0 undef) (l.getD 1 undef) (l.getD 2 undef) (l.getD 3 undef) (l.getD 4 undef) (l.getD 5 undef) (l.getD 6 undef) (l.getD 7 undef)
abbrev KR:=Ending->World->Prop
end Go.W

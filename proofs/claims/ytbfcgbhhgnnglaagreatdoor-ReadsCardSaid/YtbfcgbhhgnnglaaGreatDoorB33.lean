/- Texts of mine, one behind the other; nothing is assumed. -/
import Derived.Test.YtbfcgbhhgnnglaaGreatDoorB24
import Derived.Stop.Asserts
set_option autoImplicit true
set_option relaxedAutoImplicit true
set_option linter.unusedSimpArgs false
set_option linter.unusedVariables false
set_option maxRecDepth 100000
namespace Go.W.T
open Go Go.Proofs Go.M Go.Extern Go.Stop
theorem pF.by(h:s.run P w=.ok (.value v) w')(hK:K v w'):pF P s w E K:=⟨by unfold Fh;rw[h];exact hK⟩
theorem zF.by(h:(callMethod r nm args).run P w=.ok (.value v) w')(hK:K v w'):zF P r nm args w E K:=⟨pF.by h hK⟩
theorem XL(w:World):(callMethod (.iface 369 (.agg #[.pointer (some ⟨12,189,none⟩)])) "Kind" #[]).run P w=.ok (.value (.int .u8 22)) w:=by kernel_rfl
theorem XM(w:World):(callMethod (.iface 369 (.agg #[.pointer (some ⟨12,98,none⟩)])) "Kind" #[]).run P w=.ok (.value (.int .u8 22)) w:=by kernel_rfl
theorem XP(w:World):(callMethod (.iface 369 (.agg #[.pointer (some ⟨12,189,none⟩)])) "Elem" #[]).run P w=.ok (.value (.iface 369 (.agg #[.pointer (some ⟨12,98,none⟩)]))) w:=by kernel_rfl
theorem acV(w:World):(callMethod (.iface 369 (.agg #[.pointer (some ⟨12,98,none⟩)])) "Implements" #[.iface 369 (.agg #[.pointer (some ⟨12,55,none⟩)])]).run P w=.ok (.value (.bool true)) w:=by kernel_rfl
theorem XQ(w:World):(callMethod (.iface 369 (.agg #[.pointer (some ⟨12,98,none⟩)])) "AssignableTo" #[.iface 369 (.agg #[.pointer (some ⟨12,98,none⟩)])]).run P w=.ok (.value (.bool true)) w:=by kernel_rfl
theorem Ux(t:Addr)(w:World):(callFunc 134 #[.iface 189 (.pointer (some t))]).run P w=.ok (.value (.agg #[.pointer (some ⟨12,189,none⟩),.pointer (some ⟨w.heap.size,0,none⟩),.int .u64 150])) (w.alloc (.cells #[.pointer (some t)] 189)):=by kernel_rfl
theorem Uy(t:Addr)(w:World):(callFunc 134 #[.iface 98 (.pointer (some t))]).run P w=.ok (.value (.agg #[.pointer (some ⟨12,98,none⟩),.pointer (some ⟨w.heap.size,0,none⟩),.int .u64 150])) (w.alloc (.cells #[.pointer (some t)] 98)):=by kernel_rfl
theorem XK(a:Addr)(w:World):(callFunc 135 #[.agg #[.pointer (some ⟨12,189,none⟩),.pointer (some a),.int .u64 150]]).run P w=.ok (.value (.iface 369 (.agg #[.pointer (some ⟨12,189,none⟩)]))) w:=by kernel_rfl
theorem Sm(v:Value)(w:World):(callFunc 189 #[.iface 98 v]).run P w=.ok (.value (.iface 369 (.agg #[.pointer (some ⟨12,98,none⟩)]))) w:=by kernel_rfl
theorem rlm(z:Sem Value)(f:TypeId->Addr->Nat->Nat->Sem Value)(v:Value):
  ReflectliteValue.method z f #[v]=(do match <- ReflectliteValue.parts v with|none=>z|some (t,a,fl)=>f t a fl (fl % 32)):=rfl
theorem JQ(a:Addr)(w:World):(ReflectliteValue.parts (.agg #[.pointer (some ⟨12,189,none⟩),.pointer (some a),.int .u64 150])).run P w=.ok (some (189,a,150)) w:=by kernel_rfl
theorem XN(a p:Addr)(W:World)(ha:W.cell? a=some (.pointer (some p))):
  (ReflectliteValue.method (ReflectliteValue.valueError "reflectlite.Value.IsNil" 0) ReflectliteValue.isNil #[.agg #[.pointer (some ⟨12,189,none⟩),.pointer (some a),.int .u64 150]]).run P W=.ok (.bool false) W:=by
 rw[rlm];simp only[Sem.run_bind,JQ,Result.andThen];simp[ReflectliteValue.isNil,loadVar,isAgg,underlying,Tryz.underlying189,ha,Result.andThen]
theorem Su(w:World):(Rtype.elem? 189).run P w=.ok (some 98) w:=by kernel_rfl
theorem acU(p:Addr)(w:World):(ReflectliteValue.mk 98 p ReflectliteValue.flagAddr).run P w=.ok (.agg #[.pointer (some ⟨12,98,none⟩),.pointer (some p),.int .u64 406]) w:=by kernel_rfl
theorem XO(a p:Addr)(W:World)(ha:W.cell? a=some (.pointer (some p))):
  (ReflectliteValue.method (ReflectliteValue.valueError "reflectlite.Value.Elem" 0) ReflectliteValue.elem #[.agg #[.pointer (some ⟨12,189,none⟩),.pointer (some a),.int .u64 150]]).run P W
   = .ok (.agg #[.pointer (some ⟨12,98,none⟩),.pointer (some p),.int .u64 406]) W:=by
 rw[rlm];simp only[Sem.run_bind,JQ,Result.andThen];simp[ReflectliteValue.elem,loadVar,isAgg,underlying,Tryz.underlying189,ha,Result.andThen,Su,acU]
theorem rls(v x:Value):ReflectliteValue.set #[v,x]=(do
  let (some (dst,a,fl),some (src,b,_)):=(<- ReflectliteValue.parts v,<- ReflectliteValue.parts x)
   |unsupported (.noEntry "extern/(internal/reflectlite.Value).Set.zeroValue")
  if fl / ReflectliteValue.flagAddr % 2==0 then unsupported (.noEntry "extern/(internal/reflectlite.Value).Set.unaddressable")
  let val <- loadVar src b
  if <- Rtype.directlyAssignable dst src then storeVar dst a val
  else if <- Rtype.implements dst src then
   if(<- Rtype.kind src)==20 then
    match val with
    |.nilIface=>unsupported (.noEntry "extern/reflectlite: a nil value of one interface type handed on as a value of another")
    |_=>storeVar dst a val
   else storeVar dst a (.iface src val)
  else panicString ("reflectlite.Set: value of type "++(<- Rtype.spelt src)++ " is not assignable to type "++(<- Rtype.spelt dst))
  pure (.tuple #[])):=rfl
theorem Sr(a:Addr)(w:World):(ReflectliteValue.parts (.agg #[.pointer (some ⟨12,98,none⟩),.pointer (some a),.int .u64 406])).run P w=.ok (some (98,a,406)) w:=by kernel_rfl
theorem Uz(a:Addr)(w:World):(ReflectliteValue.parts (.agg #[.pointer (some ⟨12,98,none⟩),.pointer (some a),.int .u64 150])).run P w=.ok (some (98,a,150)) w:=by kernel_rfl
theorem Sv(w:World):(Rtype.directlyAssignable 98 98).run P w=.ok true w:=by kernel_rfl
theorem acT(ta b e:Addr)(old:Value)(W:World)(hb:W.cell? b=some (.pointer (some e)))(ht:W.cell? ta=some old)(hf:W.frozen? ta=false):
  (ReflectliteValue.set #[.agg #[.pointer (some ⟨12,98,none⟩),.pointer (some ta),.int .u64 406],.agg #[.pointer (some ⟨12,98,none⟩),.pointer (some b),.int .u64 150]]).run P W
   = .ok (.tuple #[]) (W.setCell ta (.pointer (some e))):=by
 rw[rls];simp only[Sem.run_bind,Sr,Uz,Result.andThen];simp[ReflectliteValue.flagAddr,loadVar,isAgg,underlying,Tryz.underlying98,hb,Result.andThen,Sv,storeVar,Value.cells,storeCells,Addr.add];rw[run_store P W ta _ _ (by rfl)];simp[ht,hf]
theorem aaI(a p:Addr)(W:World)(ha:W.cell? a=some (.pointer (some p))):(callFunc 136 #[.agg #[.pointer (some ⟨12,189,none⟩),.pointer (some a),.int .u64 150]]).run P W=.ok (.value (.bool false)) W:=by
 rw[@run_callFunc_extern P 136 _ (ReflectliteValue.method (ReflectliteValue.valueError "reflectlite.Value.IsNil" 0) ReflectliteValue.isNil) Tryz.func136 (by kernel_rfl) (by kernel_rfl) (by kernel_rfl) (by kernel_rfl),XN a p W ha];rfl
theorem aaJ(a p:Addr)(W:World)(ha:W.cell? a=some (.pointer (some p))):(callFunc 190 #[.agg #[.pointer (some ⟨12,189,none⟩),.pointer (some a),.int .u64 150]]).run P W=.ok (.value (.agg #[.pointer (some ⟨12,98,none⟩),.pointer (some p),.int .u64 406])) W:=by
 rw[@run_callFunc_extern P 190 _ (ReflectliteValue.method (ReflectliteValue.valueError "reflectlite.Value.Elem" 0) ReflectliteValue.elem) Tryz.func190 (by kernel_rfl) (by kernel_rfl) (by kernel_rfl) (by kernel_rfl),XO a p W ha];rfl
theorem as_set(ta b e:Addr)(old:Value)(W:World)(hb:W.cell? b=some (.pointer (some e)))(ht:W.cell? ta=some old)(hf:W.frozen? ta=false):
  (callFunc 191 #[.agg #[.pointer (some ⟨12,98,none⟩),.pointer (some ta),.int .u64 406],.agg #[.pointer (some ⟨12,98,none⟩),.pointer (some b),.int .u64 150]]).run P W=.ok (.value (.tuple #[])) (W.setCell ta (.pointer (some e))):=by
 rw[@run_callFunc_extern P 191 _ ReflectliteValue.set Tryz.func191 (by kernel_rfl) (by kernel_rfl) (by kernel_rfl) (by kernel_rfl),acT ta b e old W hb ht hf];rfl
end Go.W.T
namespace Go.W.T
open Go Go.Proofs Go.M Go.Extern Go.Stop
theorem cell_of{w:World}{b o:Nat}{l:List Value}{t:TypeId}{x:Value}(h:w.heap[b]?=some (cl l t))(hx:l[o]?=some x):w.cell? ⟨b,o,none⟩=some x:=by
 unfold World.cell?;simp[h,hx]
theorem acC{w:World}{b o:Nat}{l:List Value}{t:TypeId}(h:w.heap[b]?=some (cl l t)):w.frozen? ⟨b,o,none⟩=false:=by
 unfold World.frozen?;simp[h]
theorem set_of(h:w.heap[b]?=some (cl [x] t)):w.setCell ⟨b,0,none⟩ v=ag w b (cl [v] t):=by
 rw[yJ h];rfl
theorem w_as{w:World}{e t b:Nat}{old:Value}{tt:TypeId}(hb:w.heap[b]?=some (cl [pt t 0] 189))(ht:w.heap[t]?=some (cl [old] tt)):
  Calls P 137 #[.iface 98 (pt e 0),.iface 189 (pt t 0),.agg #[pt 12 189,pt b 0,.int .u64 150],.iface 369 (.agg #[pt 12 98])] w (Ret λv w'=>v=.bool true/\w'.heap[t]?=some (cl [pt e 0] tt)/\Kp [(t,t+1)] w w'):=by
 refine Ret.R λR hR=>?_;refine cf [0,50] Tryz.func137 ?_;have lb:=lt_of_heap hb;have lt:=lt_of_heap ht;refine gg ?_;refine Lp.intro (λvals w'=>vals=[.iface 98 (pt e 0),undef]/\w'=w.alloc (cl [pt 12 189,pt b 0,.int .u64 150] 301)) (λ_ _=>0) ⟨rfl,rfl⟩ ?_;rintro _ _ jk ⟨rfl,rfl⟩;refine gg ?_;refine pF.by (Sm _ _) ?_;refine zF.by (XQ _) ?_;refine gg ?_;have hb1:=(cZ (o:=cl [pt 12 189,pt b 0,.int .u64 150] 301) lb).trans hb;have ht1:=(cZ (o:=cl [pt 12 189,pt b 0,.int .u64 150] 301) lt).trans ht;refine pF.by (aaJ _ _ _ (cell_of hb1 rfl)) ?_;refine pF.by (Uy _ _) ?_;have lt1:=lt_of_heap ht1;have ht2:=(cZ (o:=cl [pt e 0] 98) lt1).trans ht1;refine pF.by (as_set _ _ _ _ _ (cell_of (bH _ (cl [pt e 0] 98)) rfl) (cell_of ht2 rfl) (acC ht2)) ?_;rw[set_of ht2];exact hR _ _ ⟨rfl,lookA,kpA⟩
theorem w_As{w:World}{e t:Nat}{old:Value}{tt te:TypeId}(hg:w.heap[0]?=some (cl [.iface 369 (.agg #[pt 12 55])] te))(ht:w.heap[t]?=some (cl [old] tt)):
  Calls P 82 #[.iface 98 (pt e 0),.iface 189 (pt t 0)] w (Ret λv w'=>v=.bool true/\w'.heap[t]?=some (cl [pt e 0] tt)/\Kp [(t,t+1)] w w'):=by
 refine Ret.R λR hR=>?_;refine cf [] Tryz.func82 ?_;have lt:=lt_of_heap ht;have l0:=lt_of_heap hg;refine gg ?_;refine Jn.direct ?_;refine gg ?_;intro jk;refine pF.by (Ux _ _) ?_;refine gg ?_;refine pF.by (XK _ _) ?_;refine gg ?_;refine Jn.direct ?_;refine zF.by (XL _) ?_;refine gg ?_;refine pF.by (aaI _ ⟨t,0,none⟩ _ (cell_of (b:=w.heap.size) (l:=[pt t 0]) (t:=189) lookA rfl)) ?_;refine gg ?_;intro jk2;refine zF.by (XP _) ?_;refine Jn.direct ?_;refine zF.by (XM _) ?_;refine gg ?_;refine zF.by (acV _) ?_;refine gg ?_;intro jk3;refine gg ?_;refine Cl.ret (w_as (b:=w.heap.size) (t:=t) (e:=e) (old:=old) (tt:=tt) lookA lookA) ?_;rintro _ w2 ⟨rfl,h1,h2⟩;exact hR _ _ ⟨rfl,h1,kpA⟩
end Go.W.T
namespace Go.W.T
open Go Go.W Go.M Go.Proofs
def JW(w:World):Prop:=∃te,w.heap[0]?=some (cl [.iface 369 (.agg #[pt 12 55])] te)
theorem JW.kp(h:JW w)(k:Kp [] w w'):JW w':=by
 obtain⟨te,h⟩:=h;exact⟨te,(k.same 0 (lt_of_heap h) trivial).trans h⟩
theorem w_Told(hg:JW w)(h:ErrAt w e a v):Calls P 45 #[v] w (Ret λr w'=>r=.tuple #[i64 e,i64 a]/\Kp [] w w'):=by
 obtain⟨fb,rfl,hf⟩:=h;obtain⟨te,hg⟩:=hg;refine Ret.R λR hR=>?_;refine cf [] Tryz.func45 ?_;have l0:=lt_of_heap hg;have lf:=lt_of_heap hf;refine gg ?_;refine Cl.ret (w_As (t:=w.heap.size) (te:=te) (tt:=98) (old:=.pointer none) lookA lookA) ?_;rintro _ w5 ⟨rfl,h5,k5⟩;have hf5:w5.heap[fb]?=some (cl [i64 e,i64 a] yA):=by exact lookA
 have k05:Kp [] w w5:=by exact kpA
 refine gg ?_;exact hR _ _ ⟨rfl,kpA⟩
end Go.W.T

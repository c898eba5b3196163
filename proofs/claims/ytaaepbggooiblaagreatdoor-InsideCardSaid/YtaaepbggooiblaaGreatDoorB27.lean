/- Texts of mine, one behind the other; nothing is assumed. -/
import Derived.Test.YtaaepbggooiblaaGreatDoorB15
import Derived.RangeFuncLeaves
import Derived.RangeFuncCalls
import Derived.RangeFuncFrom
import Derived.TacticsIn
import Derived.Test.YtaaepbggooiblaaGreatDoorB04
import Derived.KernelRfl
set_option linter.unusedSimpArgs false
set_option linter.unusedVariables false
namespace Go.W
open Go
def uZ(F:Fence):Prop:=F=Fence.wide∨∃l,F=Fence.wide.inRound l
theorem uZ.fn{F:Fence}(h:uZ F)(f:FuncId):F.fn f:=by
 rcases h with rfl|⟨l,rfl⟩<;>trivial
theorem uZ.depth{F:Fence}(h:uZ F):F.depth=none:=by
 rcases h with rfl|⟨l,rfl⟩<;>rfl
theorem uZ.calls{F:Fence}(h:uZ F){n:Nat}{P:Program}{f:FuncId}{args:Array Value}{w:World}{R:Ending→World→Prop}(hc:Calls P f args w R):CallsIn F n P f args w R:=by
 rcases h with rfl|⟨l,rfl⟩
 ·exact callsIn_wide.2 hc
 ·exact CallsIn.inRound l (callsIn_wide.2 hc)
theorem uZ.rows{F:Fence}(h:uZ F){n:Nat}{P:Program}{row:String}{args:Array Value}{w:World}{R:Value→World→Prop}(hc:Rows P row args w R):RowsIn F n P row args w R:=by
 rcases h with rfl|⟨l,rfl⟩
 ·exact fun c cs _=>let ⟨v,w',r,s⟩:=hc c cs;⟨v,w',r,stepsIn_wide.2 s⟩
 ·exact fun c cs _=>let ⟨v,w',r,s⟩:=hc c cs;⟨v,w',r,stepsIn_wide.2 s⟩
theorem op_in{F:Fence}(hF:uZ F){m:Nat}{P:Program}{o:Oper}{a:Act}{w:World}{next:Act→World→Prop}{Q:Exit→Act→World→Prop}(hnd:∀c,o.op≠.defer c)(h:o.wp P a w next Q):o.wpIn F m P a w next Q:=by
 unfold Oper.wp at h
 unfold Oper.wpIn
 refine⟨fun f _=>hF.fn f,?_⟩
 rw[Oper.semAt_eq _ _ _ hnd]
 have hd:F.depth.isSome=true→1≤m:=fun e=>by rw[hF.depth]at e;cases e
 cases hr:(execOp a.eval o).run P w with
 |ok nxt w'=>
  rw[hr]at h
  cases nxt with
  |value v=>exact h
  |skip=>exact h
  |defer d=>exact h
  |enter f args=>exact⟨hd,hF.calls h⟩
  |row row args=>exact⟨hd,hF.rows h⟩
  |_=>exact h.elim
 |halt hh w'=>
  rw[hr]at h
  cases hh with
  |panic v=>exact h
  |_=>exact h.elim
def P9(F:Fence)(m:Nat)(P:Program)(x:Value)(args:Array Value)(w:World)(E:KE)(K:KV):Prop:=
 match x with
 |.func (.yield l) f c=>f=#[]∧c=#[]∧YieldAt F m P l args w fun e w'=>∃v,e=.returned v∧K v w'
 |x=>Qa P x args w E K
structure Vj (F:Fence) (m:Nat) (P:Program) (x:Value) (args:Array Value) (w:World) (E:KE) (K:KV):Prop where
 out:P9 F m P x args w E K
def YM(F:Fence)(m:Nat)(P:Program)(o:Oper)(e:Operand→Value)(w:World)(E:KE)(K:KV):Prop:=
 match o.op with
 |.call c=>(match c.callee with
  |.value (.tmp t)=>Vj F m P (e (.tmp t)) (c.args.map e) w E K
  |_=>opW P o e w E K)
 |.defer _=>False
 |_=>opW P o e w E K
section
variable {F:Fence} {m:Nat} {P:Program} {n:Nat} {keep:List Nat} {ds:List Deferred} {E:KE} {ops:Array Oper} {Q':Exit→Act→World→Prop}
theorem Pq(hF:uZ F){o:Oper}{e:Operand→Value}{K:KV}{a:Act}{w:World}{next:Act→World→Prop}{Q:Exit→Act→World→Prop}
  (ha:a.eval=e) (he:∀v,e (.const v)=v) (hef:∀f,e (.func f)=.func (.func f) #[] #[]) (h:YM F (m - 1) P o e w E K) (hK:∀v w',K v w'→next (a.put o.dst v) w') (hE:∀ch w',E ch w'→Q (.panic ch) a w'):
  o.wpIn F m P a w next Q:=by
 have base:(∀c,o.op≠.defer c)→opW P o e w E K→o.wpIn F m P a w next Q:=fun hnd h=>op_in hF hnd (EJ ha he hef h hK hE)
 unfold YM at h
 split at h
 ·rename_i c hc
  have hnd:∀c,o.op≠.defer c:=fun c' e'=>by rw[hc]at e';cases e'
  split at h
  ·rename_i t ht
   replace h:=h.out
   unfold P9 at h
   split at h
   ·rename_i l f cp hx
    obtain⟨rfl,rfl,fn,tmps,assign,body,hy,hR⟩:=h
    refine⟨fun f _=>hF.fn f,?_⟩
    rw[Oper.semAt_eq _ _ _ hnd,ha]
    have hrun:execOp e o=Instr.yield l (c.args.map e):=by
     obtain⟨dst,op,type,pos,after,guard⟩:=o
     simp only at hc
     subst hc
     obtain⟨callee,args,argTypes⟩:=c
     simp only at ht
     subst ht
     simp[execOp,resolve,hx,Deferred.ofValue,invoke]
    rw[hrun,hy]
    refine⟨fun e=>(by rw[hF.depth]at e;cases e),hR.mono ?_⟩
    rintro en w' ⟨v,rfl,hk⟩
    exact hK v w' hk
   ·refine base hnd ?_
    unfold opW
    rw[hc]
    simp only[ht]
    exact⟨h⟩
  ·exact base hnd h
 ·exact h.elim
 ·rename_i h1 h2
  exact base (fun c hc=>h2 c hc) h
def MZ(F:Fence)(m:Nat)(P:Program)(n:Nat)(ops:Array Oper)(E:KE):List Oper→(Fr→World→Prop)→Fr→World→Prop
 |[],Q,ρ,w=>Q ρ w
 |o::rest,Q,ρ,w=>guarded n ops o ρ w (YM F m P o (ev n ρ) w E) fun v w'=>MZ F m P n ops E rest Q (upd ρ o.dst v) w'
theorem Gu(hF:uZ F){o:Oper}{ρ:Fr}{w:World}{A:KV→Prop}{K:KV}{next:Act→World→Prop}
  (h:guarded n ops o ρ w A K)
  (hA1:∀K':KV,A K'→(∀v w',K' v w'→next (act n (upd ρ o.dst v) ds) w')→o.wpIn F m P (act n ρ ds) w next Q')
  (hK:∀v w',K v w'→next (act n (upd ρ o.dst v) ds) w'):
  if Region.wanted o (yielded ops (act n ρ ds).tmps)then o.wpIn F m P (act n ρ ds) w next Q' else(∀f,o.about P w (act n ρ ds).eval=some f→F.fn f)∧next ((act n ρ ds).put o.dst undef) w:=by
 unfold guarded at h
 split at h
 ·rename_i hg
  simp only[Region.wanted,hg,if_true]
  exact hA1 K h hK
 ·rename_i j want hg
  simp only[Region.wanted,hg,yj]
  replace h:=h.out;unfold GdD at h
  split at h
  ·rename_i b hb
   simp only[hb]
   split at h
   ·rename_i hbw
    subst hbw
    simp only[beq_self_eq_true,if_true]
    exact hA1 K h hK
   ·rename_i hbw
    have:((some b==some want):Bool)=false:=by simpa using hbw
    simp only[this,Bool.false_eq_true,if_false]
    rw[jT]
    exact⟨fun f _=>hF.fn f,hK _ _ h⟩
  ·rename_i hb
   have:((match PL n ρ ops j with|.bool b=>some b|_=>none)==some want)=false:=by
    split
    ·rename_i b hb';exact absurd hb' (hb b)
    ·rfl
   simp only[this,Bool.false_eq_true,if_false]
   rw[jT]
   exact⟨fun f _=>hF.fn f,hK _ _ h⟩
theorem MX(hF:uZ F){S:List Nat}(hE:∀ch w' ρ',E ch w'→Q' (.panic ch) (act n ρ' ds) w'):∀(l:List Oper) (Q:Fr→World→Prop) (ρ:Fr) (w:World),
  (∀o∈l,∀d,o.dst=some d→d∈S)→(∀ρ' w',(∀i,i ∉ S→ρ' i=ρ i)→Q ρ' w'→Q' .normal (act n ρ' ds) w')→MZ F (m - 1) P n ops E l Q ρ w→wpListIn F m P ops Q' l (act n ρ ds) w:=by
 intro l
 induction l with
 |nil=>intro Q ρ w _ hQ h;exact hQ _ _ (fun _ _=>rfl) h
 |cons o rest ih=>
  intro Q ρ w hS hQ h
  simp only[MZ]at h
  refine wpListIn_step fun K hK=>?_
  refine Gu hF (K:=fun v w'=>MZ F (m - 1) P n ops E rest Q (upd ρ o.dst v) w') h ?_ ?_
  ·intro K' hA hK'
   exact Pq hF (gQ n ρ ds) (Ea n ρ) (KQ n ρ) hA (fun v w' hk=>by rw[jT];exact hK' v w' hk) (fun ch w' he=>hE ch w' ρ he)
  ·intro v w' h'
   refine hK _ _ (ih Q _ w' (fun o' ho'=>hS o' (List.mem_cons_of_mem _ ho')) (fun ρ' w'' hag hq=>hQ ρ' w'' (fun i hi=>?_) hq) h')
   rw[hag i hi]
   exact AZ (fun d hd=>by rintro rfl;exact hi (hS o (List.mem_cons_self ..) _ hd))
def qy(F:Fence)(m:Nat)(P:Program)(n:Nat)(keep:List Nat)(E:KE):Code→(Exit→Fr→World→Prop)→Fr→World→Prop
 |.skip,Q,ρ,w=>Q .normal ρ w
 |.label _,Q,ρ,w=>Q .normal ρ w
 |.region _ ops false,Q,ρ,w=>MZ F m P n ops E ops.toList (Q .normal) ρ w
 |.seq a b,Q,ρ,w=>
  bif Nat.ble (ends a) 1 then
   qy F m P n keep E a (fun e ρ' w'=>match e with|.normal=>qy F m P n keep E b Q ρ' w'|e=>Q e ρ' w') ρ w
  else
   Jn (fun J=>qy F m P n keep E a (fun e ρ' w'=>match e with|.normal=>J ((handed n keep (writes a)).map ρ') w'|e=>Q e ρ' w') ρ w)
    (fun jk vals w'=>qy F m P n keep E b Q (overlay ρ (writes a) (handed n keep (writes a)) jk vals) w')
 |.cond c a b,Q,ρ,w=>If (ev n ρ c) (qy F m P n keep E a Q ρ w) (qy F m P n keep E b Q ρ w)
 |.block id b,Q,ρ,w=>qy F m P n keep E b (fun e ρ' w'=>match e with
   |.exit i=>bif Nat.beq i id then Q .normal ρ' w' else Q (.exit i) ρ' w'
   |e=>Q e ρ' w') ρ w
 |.loop b,Q,ρ,w=>Lp ((handed n keep (writes b)).map ρ) w fun jk vals w' C=>
   qy F m P n keep E b (fun e ρ' w''=>match e with|.normal=>C ((handed n keep (writes b)).map ρ') w''|e=>Q e ρ' w'')
    (overlay ρ (writes b) (handed n keep (writes b)) jk vals) w'
 |.exit i,Q,ρ,w=>Q (.exit i) ρ w
 |.ret,Q,ρ,w=>Q .ret ρ w
 |_,_,_,_=>False
theorem xy(hF:uZ F):∀(c:Code) (Q:Exit→Fr→World→Prop) (ρ:Fr) (w:World),qy F (m - 1) P n keep E c Q ρ w→c.wpIn F m P (Post n ds E (writes c) ρ Q) (act n ρ ds) w:=by
 intro c
 induction c with
 |skip=>intro Q ρ w h;exact wpIn_skip ⟨ρ,rfl,fun _ _=>rfl,h⟩
 |label l=>intro Q ρ w h;exact wpIn_label ⟨ρ,rfl,fun _ _=>rfl,h⟩
 |exit i=>intro Q ρ w h;exact wpIn_exit ⟨ρ,rfl,fun _ _=>rfl,h⟩
 |ret=>intro Q ρ w h;exact wpIn_ret ⟨ρ,rfl,fun _ _=>rfl,h⟩
 |goto l=>intro Q ρ w h;exact h.elim
 |scope b=>intro Q ρ w h;exact h.elim
 |rangeFunc f ps ax b=>intro Q ρ w h;exact h.elim
 |refuse s=>intro Q ρ w h;exact h.elim
 |region id ops draw=>
  intro Q ρ w h
  cases draw with
  |true=>exact h.elim
  |false=>
   simp only[qy]at h
   have hE:∀ch w' (ρ':Fr),E ch w'→Post n ds E (writes (.region id ops false)) ρ Q (.panic ch) (act n ρ' ds) w':=fun ch w' ρ' he=>⟨rfl,he⟩
   have hS:∀o∈ops.toList,∀d,o.dst=some d→d∈writes (.region id ops false):=fun o ho d hd=>by
    simp only[writes]
    exact List.mem_filterMap.2 ⟨o,ho,hd⟩
   refine wpIn_region_list (MX hF (S:=writes (.region id ops false)) hE ops.toList (Q .normal) ρ w hS ?_ h)
   intro ρ' w' hag hq
   exact⟨ρ',rfl,hag,hq⟩
 |seq a b iha ihb=>
  intro Q ρ w h
  simp only[qy]at h
  cases hj:Nat.ble (ends a) 1 with
  |true=>
   simp only[hj,cond_true]at h
   refine wpIn_seq (wpIn_mono (iha _ ρ w h) ?_)
   intro e a' w' hp
   cases e with
   |normal=>
    obtain⟨ρ',rfl,hag,hq⟩:=hp
    refine wpIn_mono (ihb Q ρ' w' hq) (Post.mono (fun i hi=>?_) (fun i hi=>hag i ?_) (fun _ _ _ h=>h))
    ·simp only[writes,List.mem_append,not_or]at hi;exact hi.2
    ·simp only[writes,List.mem_append,not_or]at hi;exact hi.1
   |panic ch=>exact hp
   |outgrown=>exact hp
   |exit i=>obtain⟨ρ',h1,h2,h3⟩:=hp;exact⟨ρ',h1,fun i hi=>h2 i (by simp only[writes,List.mem_append,not_or]at hi;exact hi.1),h3⟩
   |goto i=>obtain⟨ρ',h1,h2,h3⟩:=hp;exact⟨ρ',h1,fun i hi=>h2 i (by simp only[writes,List.mem_append,not_or]at hi;exact hi.1),h3⟩
   |ret=>obtain⟨ρ',h1,h2,h3⟩:=hp;exact⟨ρ',h1,fun i hi=>h2 i (by simp only[writes,List.mem_append,not_or]at hi;exact hi.1),h3⟩
  |false=>
   simp only[hj,cond_false]at h
   obtain⟨J,hA,hB⟩:=h
   refine wpIn_seq (wpIn_mono (iha _ ρ w hA) ?_)
   intro e a' w' hp
   cases e with
   |normal=>
    obtain⟨ρ',rfl,hag,hq⟩:=hp
    have hb:qy F (m - 1) P n keep E b Q (overlay ρ (writes a) (handed n keep (writes a)) ρ' ((handed n keep (writes a)).map ρ')) w':=hB _ _ ρ' hq
    rw[mr hag]at hb
    refine wpIn_mono (ihb Q ρ' w' hb) (Post.mono (fun i hi=>?_) (fun i hi=>hag i ?_) (fun _ _ _ h=>h))
    ·simp only[writes,List.mem_append,not_or]at hi;exact hi.2
    ·simp only[writes,List.mem_append,not_or]at hi;exact hi.1
   |panic ch=>exact hp
   |outgrown=>exact hp
   |exit i=>obtain⟨ρ',h1,h2,h3⟩:=hp;exact⟨ρ',h1,fun i hi=>h2 i (by simp only[writes,List.mem_append,not_or]at hi;exact hi.1),h3⟩
   |goto i=>obtain⟨ρ',h1,h2,h3⟩:=hp;exact⟨ρ',h1,fun i hi=>h2 i (by simp only[writes,List.mem_append,not_or]at hi;exact hi.1),h3⟩
   |ret=>obtain⟨ρ',h1,h2,h3⟩:=hp;exact⟨ρ',h1,fun i hi=>h2 i (by simp only[writes,List.mem_append,not_or]at hi;exact hi.1),h3⟩
 |cond c a b iha ihb=>
  intro Q ρ w h
  simp only[qy]at h
  replace h:=h.out;unfold IfD at h
  split at h
  ·rename_i t ht
   refine wpIn_cond (t:=t) (by rw[gQ];exact ht) ?_
   cases t with
   |true=>
    simp only[if_true]at h ⊢
    exact wpIn_mono (iha Q ρ w h) (Post.mono (fun i hi=>by simp only[writes,List.mem_append,not_or]at hi;exact hi.1) (fun _ _=>rfl) (fun _ _ _ h=>h))
   |false=>
    simp only[Bool.false_eq_true,if_false]at h ⊢
    exact wpIn_mono (ihb Q ρ w h) (Post.mono (fun i hi=>by simp only[writes,List.mem_append,not_or]at hi;exact hi.2) (fun _ _=>rfl) (fun _ _ _ h=>h))
  ·exact h.elim
 |block id b ihb=>
  intro Q ρ w h
  simp only[qy]at h
  refine wpIn_block (wpIn_mono (ihb _ ρ w h) ?_)
  intro e a' w' hp
  cases e with
  |exit i=>
   obtain⟨ρ',h1,h2,h3⟩:=hp
   simp only[Exit.inBlock]
   cases hb:Nat.beq i id with
   |true=>
    simp only[hb,cond_true]at h3
    rw[if_pos (Nat.eq_of_beq_eq_true hb)]
    exact⟨ρ',h1,h2,h3⟩
   |false=>
    simp only[hb,cond_false]at h3
    rw[if_neg (fun he=>by rw[he]at hb;simp at hb)]
    exact⟨ρ',h1,h2,h3⟩
  |_=>exact hp
 |loop b ihb=>
  intro Q ρ w h
  simp only[qy]at h
  obtain⟨J,μ,h0,hstep⟩:=h
  refine wpIn_loop (fun a w=>∃ρ',a=act n ρ' ds∧(∀i,i ∉ writes b→ρ' i=ρ i)∧J ((handed n keep (writes b)).map ρ') w)
   (fun a w=>μ ((handed n keep (writes b)).map fun i=>a.tmps.getD i undef) w) ⟨ρ,rfl,fun _ _=>rfl,h0⟩ ?_
  rintro a₁ w₁ ⟨o9,rfl,hag,hJ⟩
  have hb:qy F (m - 1) P n keep E b (fun e ρ' w''=>match e with
    |.normal=>J ((handed n keep (writes b)).map ρ') w''∧μ ((handed n keep (writes b)).map ρ') w''<μ ((handed n keep (writes b)).map o9) w₁
    |e=>Q e ρ' w'') (overlay ρ (writes b) (handed n keep (writes b)) o9 ((handed n keep (writes b)).map o9)) w₁:=hstep _ _ o9 hJ
  rw[mr hag]at hb
  refine wpIn_mono (ihb _ o9 w₁ hb) ?_
  intro e a' w' hp
  cases e with
  |normal=>
   obtain⟨ρ',rfl,h2,h3,h4⟩:=hp
   refine⟨⟨ρ',rfl,fun i hi=>(h2 i hi).trans (hag i hi),h3⟩,?_⟩
   simp only[QL]
   exact h4
  |panic ch=>exact hp
  |outgrown=>exact hp
  |exit i=>obtain⟨ρ',h1,h2,h3⟩:=hp;exact⟨ρ',h1,fun i hi=>(h2 i hi).trans (hag i hi),h3⟩
  |goto i=>obtain⟨ρ',h1,h2,h3⟩:=hp;exact⟨ρ',h1,fun i hi=>(h2 i hi).trans (hag i hi),h3⟩
  |ret=>obtain⟨ρ',h1,h2,h3⟩:=hp;exact⟨ρ',h1,fun i hi=>(h2 i hi).trans (hag i hi),h3⟩
def fnY(F:Fence)(m:Nat)(P:Program)(fn:Func)(keep:List Nat)(args:List Value)(w:World)(R:Ending→World→Prop):Prop:=
 match fn.body with
 |some c=>qy F m P fn.ntmps keep (fun ch w'=>R (.panicked ch) w') c (VW P fn.ntmps fn.results.toList R) (fun i=>args.getD i undef) w
 |none=>False
theorem KW{f:FuncId}{fn:Func}{args:List Value}{w:World}{R:Ending→World→Prop}(hf:P.funcs[f]?=some fn)(hlen:Nat.ble args.length fn.ntmps=true)
  (h:fnY Fence.wide (m - 1) P fn keep args w R):CallsIn Fence.wide m P f args.toArray w R:=by
 unfold fnY at h
 split at h
 ·rename_i c hc
  refine callsIn_of_wp hf hc trivial ?_
  rw[Ei hlen]
  refine wpIn_mono (xy (Or.inl rfl) (ds:=[]) c _ _ w h) ?_
  intro e a w' hp
  cases e with
  |panic ch=>exact hp
  |outgrown=>exact hp.elim
  |normal=>
   obtain⟨ρ',rfl,_,hq⟩:=hp
   obtain⟨v,h1,h2⟩:=dS (ds:=[]) (R:=fun v=>R (.returned v) w') hq
   exact⟨rfl,v,h1,h2⟩
  |ret=>
   obtain⟨ρ',rfl,_,hq⟩:=hp
   obtain⟨v,h1,h2⟩:=dS (ds:=[]) (R:=fun v=>R (.returned v) w') hq
   exact⟨rfl,v,h1,h2⟩
  |exit i=>obtain⟨_,_,_,hq⟩:=hp;exact hq.elim
  |goto i=>obtain⟨_,_,_,hq⟩:=hp;exact hq.elim
 ·exact h.elim
end
end Go.W
set_option maxRecDepth 100000
namespace Go.W.T
open Go Go.Proofs
abbrev JJ:FuncId:=62
def gq(m:Nat)(R:Ending→World→Prop)(a0 a1 a2 a3 a4:Value)(w:World):Prop:=Ld a1 w fun x1=>Ld a2 w fun x2=>Ld a3 w fun x3=>LdN a4 3 w fun x4=>Cl P 19 #[x1,x2,x3,x4] w (pE R) fun x5 w6=>Ex x5 0 fun x7=>Ex x5 1 fun x8=>En .ifc true x8 fun x9=>If x9 ( R (.returned (.tuple #[])) w6) ( Ln false x7 fun x10=>Lp [(.int .i64 0)] w6 fun YW vals w12 C13=>V1 vals fun v14=>Bi .lss v14 x10 fun x15=>If x15 ( IaS 5 x7 v14 fun x16=>LdN x16 5 w12 fun x17=>Nw 52 (.agg #[.int .i64 0,.int .i64 0,.string ⟨#[]⟩,.int .i64 0,.int .i64 0]) w12 fun x18 w19=>StN x18 x17 5 w19 fun w20=>Fa x18 0 fun x21=>Ld x21 w20 fun x22=>Bi .eql x22 (.int .i64 2) fun x23=>Gd x23 true w20 (fun K24=>K24 a0 w20) fun x25 w26=>Gd x23 true w26 (fun K27=>LdN x18 5 w26 fun x28=>K27 x28 w26) fun x29 w30=>Gd x23 true w30 (fun K31=>Vj Fence.wide m P x25 #[x29] w30 (pE R) fun x32 w33=>K31 x32 w33) fun x34 w35=>Gd x23 true w35 (fun K36=>Nt x34 fun x37=>K36 x37 w35) fun x38 w39=>Pk x23 x38 (.bool false) fun x40=>If x40 ( R (.returned (.tuple #[])) w39) ( Bi .add v14 (.int .i64 1) fun x41=>C13 [x41] w39)) ( R (.returned (.tuple #[])) w12))
theorem vk(m:Nat)(R:Ending→World→Prop)(a0 a1 a2 a3 a4:Value)(w:World):fnY Fence.wide m P Tryz.f62 [22] [a0,a1,a2,a3,a4] w R=gq m R a0 a1 a2 a3 a4 w:=by kernel_rfl
theorem vg{m:Nat}{R:Ending→World→Prop}{a0 a1 a2 a3 a4:Value}{w:World}(h:gq (m - 1) R a0 a1 a2 a3 a4 w):CallsIn Fence.wide m P JJ #[a0,a1,a2,a3,a4] w R:=KW (fn:=Tryz.f62) (keep:=[22]) (args:=[a0,a1,a2,a3,a4]) Tryz.func62 rfl (by rw[vk];exact h)
end Go.W.T
namespace Go.W.T
open Go Go.Proofs
def nE:KE:=fun _ _=>False
def sL:Code→Code|.seq a _=>a|c=>c
def sR:Code→Code|.seq _ b=>b|c=>c
def bB:Code→Code|.block _ b=>b|c=>c
def rA:Code→Code|.rangeFunc _ _ a _=>a|c=>c
def nQ(K:Fr→World→Prop):Exit→Fr→World→Prop:=fun e ρ w=>match e with|.normal=>K ρ w|_=>False
def sQ(K:Value→World→Prop):Exit→Fr→World→Prop:=fun e ρ w=>match e with|.ret=>K (ρ 10) w|_=>False
def bQ(K X:World→Prop):Exit→Fr→World→Prop:=fun e _ w=>match e with|.normal=>K w|.exit i=>bif Nat.beq i 0 then X w else False|_=>False
def rB:Code→Code|.rangeFunc _ _ _ b=>b|c=>c
noncomputable def o8:Code:=match Tryz.f25.body with|some c=>c|none=>.skip
noncomputable def Es:Code:=bB (sR (sL (sR (sR (sR o8)))))
noncomputable def GK:Code:=sR (sR (sR (sR o8)))
theorem PY:Tryz.f25.body=some (.seq (sL o8) (.seq (sL (sR o8)) (.seq (sL (sR (sR o8))) (.seq (.seq (sL (sL (sR (sR (sR o8))))) (.block 0 (.rangeFunc (.tmp 19) #[20] (rA Es) (rB Es)))) GK)))):=by kernel_rfl
noncomputable def QS (ρ:Fr) (w:World) (K:Fr→World→Prop):Prop:=Nw 32 (ρ 3) w fun x1 w2=>Nw 3 (ρ 4) w2 fun x3 w4=>K (upd (upd (upd ρ (some 8) x1) (some 9) x3) (some 10) (.slice none 0 0)) w4
theorem P7(m:Nat)(ρ:Fr)(w:World)(K:Fr→World→Prop):qy Fence.wide m P 30 [] nE (sL o8) (nQ K) ρ w=QS ρ w K:=by kernel_rfl
noncomputable def QR (ρ:Fr) (w:World) (K:Fr→World→Prop):Prop:=Nw 34 (.slice none 0 0) w fun x1 w2=>K (upd ρ (some 11) x1) w2
theorem P6(m:Nat)(ρ:Fr)(w:World)(K:Fr→World→Prop):qy Fence.wide m P 30 [] nE (sL (sR o8)) (nQ K) ρ w=QR ρ w K:=by kernel_rfl
noncomputable def QQ (ρ:Fr) (w:World) (K:Fr→World→Prop):Prop:=Ld (ρ 9) w fun x1=>Bi .lss x1 (.int .i64 1) fun x2=>If x2 ( St (ρ 9) (.int .i64 0) w fun w3=>K (upd (upd ρ (some 13) x1) (some 14) x2) w3) ( K (upd (upd ρ (some 13) x1) (some 14) x2) w)
theorem P5(m:Nat)(ρ:Fr)(w:World)(K:Fr→World→Prop):qy Fence.wide m P 30 [] nE (sL (sR (sR o8))) (nQ K) ρ w=QQ ρ w K:=by kernel_rfl
noncomputable def QP (ρ:Fr) (w:World) (K:Fr→World→Prop):Prop:=LdN (ρ 8) 3 w fun x1=>Cl P 39 #[(ρ 0),(ρ 1),(ρ 2),x1] w nE fun x2 w3=>K (upd (upd (upd (upd (upd ρ (some 15) (ρ 0)) (some 16) (ρ 1)) (some 17) (ρ 2)) (some 18) x1) (some 19) x2) w3
theorem PZ(m:Nat)(ρ:Fr)(w:World)(K:Fr→World→Prop):qy Fence.wide m P 30 [] nE (sL (sL (sR (sR (sR o8))))) (nQ K) ρ w=QP ρ w K:=by kernel_rfl
noncomputable def JG (ρ:Fr) (w:World) (K:Fr→World→Prop):Prop:=Nw 52 (.agg #[.int .i64 0,.int .i64 0,.string ⟨#[]⟩,.int .i64 0,.int .i64 0]) w fun x1 w2=>StN x1 (ρ 20) 5 w2 fun w3=>K (upd ρ (some 12) x1) w3
theorem Lh(m:Nat)(ρ:Fr)(w:World)(K:Fr→World→Prop)(l:Nat):qy (Fence.wide.inRound l) m P 30 [] nE (rA Es) (nQ K) ρ w=JG ρ w K:=by kernel_rfl
noncomputable def JF (ρ:Fr) (w:World) (K X:World→Prop):Prop:=Ld (ρ 11) w fun x1=>Ln false x1 fun x2=>Ld (ρ 9) w fun x3=>Bi .eql x2 x3 fun x4=>If x4 ( X w) ( Ld (ρ 11) w fun x5=>LdN (ρ 12) 5 w fun x6=>BuS 52 5 [x6] w fun x7 w8=>Ap 52 5 48 (.agg #[.int .i64 0,.int .i64 0,.string ⟨#[]⟩,.int .i64 0,.int .i64 0]) x5 x7 w8 fun x9 w10=>St (ρ 11) x9 w10 fun w11=>K w11)
theorem Le(m:Nat)(ρ:Fr)(w:World)(K X:World→Prop)(l:Nat):qy (Fence.wide.inRound l) m P 30 [] nE (rB Es) (bQ K X) ρ w=JF ρ w K X:=by kernel_rfl
noncomputable def JE (ρ:Fr) (w:World) (K:Value→World→Prop):Prop:=Ld (ρ 11) w fun x1=>K x1 w
theorem Lc(m:Nat)(ρ:Fr)(w:World)(K:Value→World→Prop):qy Fence.wide m P 30 [] nE GK (sQ K) ρ w=JE ρ w K:=by kernel_rfl
end Go.W.T

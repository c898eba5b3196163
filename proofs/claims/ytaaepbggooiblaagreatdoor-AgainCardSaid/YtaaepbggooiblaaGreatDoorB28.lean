/- Texts of mine, one behind the other; nothing is assumed. -/
import Derived.Test.YtaaepbggooiblaaGreatDoorB14
import Derived.Test.YtaaepbggooiblaaGreatDoorB27
import Derived.Lib.ItoaLen
import Derived.Test.YtaaepbggooiblaaGreatDoorB05
set_option linter.unusedSimpArgs false
set_option linter.unusedVariables false
set_option maxRecDepth 100000
namespace Go.W.T
open Go Go.W Go.M Go.Proofs Go.Lib
theorem fH.enter{P:Program}{r:Value}{nm:String}{args bs':Array Value}{f:FuncId}{w:World}{E:KE}{K:KV}(h:(callMethod r nm args).run P w=.ok (.enter f bs') w)(hK:Cl P f bs' w E K):fH P r nm args w E K:=⟨⟨by unfold ED;rw[h];exact hK⟩⟩
theorem LD(x:Value)(w:World):(callMethod (.iface uM x) "marshal/syntax.front" #[]).run P w=.ok (.enter 373 #[x]) w:=by kernel_rfl
theorem Og(x:Value)(w:World):(callMethod (.iface wS x) "marshal/syntax.front" #[]).run P w=.ok (.enter 371 #[x]) w:=by kernel_rfl
theorem LC(x:Value)(w:World):(callMethod (.iface uK x) "marshal/syntax.front" #[]).run P w=.ok (.enter 375 #[x]) w:=by kernel_rfl
theorem LG(x:Value)(w:World):(callMethod (.iface jW x) "marshal/syntax.front" #[]).run P w=.ok (.enter 356 #[x]) w:=by kernel_rfl
theorem Lu(x:Value)(w:World):(callMethod (.iface qx x) "marshal/syntax.front" #[]).run P w=.ok (.enter 354 #[x]) w:=by kernel_rfl
theorem P6(x:Value)(w:World):(callMethod (.iface iE x) "marshal/syntax.front" #[]).run P w=.ok (.enter 377 #[x]) w:=by kernel_rfl
theorem Oh(x:Value)(w:World):(callMethod (.iface iE x) "marshal/syntax.behind" #[]).run P w=.ok (.enter 376 #[x]) w:=by kernel_rfl
theorem Kr(x:Value)(w:World):(callMethod (.iface uM x) "marshal/syntax.behind" #[]).run P w=.ok (.enter 372 #[x]) w:=by kernel_rfl
theorem LH(x:Value)(w:World):(callMethod (.iface wS x) "marshal/syntax.behind" #[]).run P w=.ok (.enter 370 #[x]) w:=by kernel_rfl
theorem Ko(x:Value)(w:World):(callMethod (.iface uK x) "marshal/syntax.behind" #[]).run P w=.ok (.enter 374 #[x]) w:=by kernel_rfl
theorem Kt(x:Value)(w:World):(callMethod (.iface jW x) "marshal/syntax.behind" #[]).run P w=.ok (.enter 355 #[x]) w:=by kernel_rfl
theorem J8(x:Value)(w:World):(callMethod (.iface qx x) "marshal/syntax.behind" #[]).run P w=.ok (.enter 353 #[x]) w:=by kernel_rfl
theorem YE(w:World)(k:Nat)(os:Array Obj):Kp [] w (Go.Sort.grow (w.drewN k) os):=
 ⟨rfl,rfl,rfl,by show w.heap.size≤(w.heap++os).size;rw[Array.size_append];omega,fun b hb _=>by show (w.heap++os)[b]?=_;rw[Array.getElem?_append_left hb]⟩
theorem w_num{w:World}(hg:Gl w){n:Int}(hn : -9223372036854775808≤n∧n≤9223372036854775807):Calls P 309 #[.int .i64 n,.int .i64 10] w (Ret fun v w'=>v=κs (uY n)∧Kp [] w w'):=by
 refine(Tryz.strconv_FormatInt_10 n hn.1 hn.2 w hg.pow).mono fun e w' h=>?_
 obtain⟨rfl,k,os,rfl⟩:=h
 exact⟨_,rfl,rfl,YE _ _ _⟩
theorem jQ(n:Int)(hn : -9223372036854775808≤n∧n≤9223372036854775807):(uY n).length≤21:=itoa_length_le n hn.1 hn.2
theorem I7{w:World}(hg:Gl w)(f:Bool){n:Int}(hn : -9223372036854775808≤n∧n≤9223372036854775807):Calls P wG #[.bool f,.int .i64 n] w (Ret fun v w'=>v=κs (ji f n)∧Kp [] w w'):=by
 refine Ret.R fun R hR=>?_
 apply Fj
 unfold vY
 refine Cl.ret (w_num hg hn) ?_
 rintro _ w2 ⟨rfl,k2⟩
 have hl:=jQ n hn
 cases f with
 |true=>
  repeat' first|refine .x ?_|refine .y ?_|refine .z ?_|fail
  exact hR _ _ ⟨rfl,k2⟩
 |false=>
  repeat' first|refine .x ?_|refine .y ?_|refine .z ?_|fail
  exact hR _ _ ⟨rfl,k2⟩
def Fit:Ty→Prop
 |.basic s=>s.length≤2000
 |.named s _=>s.length≤2000
 |.bytes _ _ n=>0≤n∧n≤4294967295
 |.array t _ n=>Fit t∧0≤n∧n≤4294967295
 |.opt t=>Fit t
 |.void=>True
theorem kQ:∀(t:Ty) (k:Nat),Fit t→(dU t).length≤2001+tsz t
 |.basic s,_,h=>by simp only[dU,List.length_append,List.length_singleton];have:s.length≤2000:=h;omega
 |.named s _,_,h=>by simp only[dU,List.length_append,List.length_singleton];have:s.length≤2000:=h;omega
 |.bytes t _ _,_,_=>by rw[dU];split<;>(simp;omega)
 |.array t _ _,k,h=>by rw[dU,tsz];have:=kQ t k h.1;omega
 |.opt t,k,h=>by rw[dU,tsz,List.length_append,List.length_singleton];have:=kQ t k h;omega
 |.void,_,_=>by simp[dU];omega
theorem Sub.al{H:Hp}{w w':World}(h:Sub H w)(k:Kp [] w w'):Sub H w':=h.kp k fun _ _ _=>trivial
theorem F8{H:Hp}:∀(t:Ty) {v:Value} {w:World} {E:KE} {K:KV},gK H t v→Sub H w→Fit t→tsz t≤1000→(∀w',Kp [] w w'→K (κs (dU t)) w')→fH P v "marshal/syntax.front" #[] w E K
 |.basic s,v,w,E,K,hv,hs,hf,ht,hK=>by
  have hf':s.length≤2000:=hf
  obtain rfl:v=_:=hv
  refine fH.enter (LD _ _) (Cl.ret (Q:=fun v w'=>v=κs (s++[32])∧Kp [] w w') ?_ ?_)
  ·refine Ret.R fun R hR=>?_
   apply AY
   unfold qZ
   repeat' first|refine .x ?_|refine .y ?_|refine .z ?_|fail
   exact hR _ _ ⟨rfl,by exact kpA⟩
  ·rintro _ w' ⟨rfl,k⟩;exact hK w' k
 |.named s a,v,w,E,K,hv,hs,hf,ht,hK=>by
  have hf':s.length≤2000:=hf
  obtain⟨b,rfl,hb⟩:=hv
  have hb':=hs _ _ _ hb
  refine fH.enter (Lu _ _) (Cl.ret (Q:=fun v w'=>v=κs (s++[32])∧Kp [] w w') ?_ ?_)
  ·refine Ret.R fun R hR=>?_
   apply AQ
   unfold qW
   repeat' first|refine .x ?_|refine .y ?_|refine .z ?_|fail
   exact hR _ _ ⟨rfl,by exact kpA⟩
  ·rintro _ w' ⟨rfl,k⟩;exact hK w' k
 |.bytes t f n,v,w,E,K,hv,hs,hf,ht,hK=>by
  obtain rfl:v=_:=hv
  refine fH.enter (LC _ _) (Cl.ret (Q:=fun v w'=>v=κs (dU (.bytes t f n))∧Kp [] w w') ?_ ?_)
  ·refine Ret.R fun R hR=>?_
   apply AX
   unfold jZ
   cases t with
   |true=>
    repeat' first|refine .x ?_|refine .y ?_|refine .z ?_|fail
    exact hR _ _ ⟨rfl,by exact kpA⟩
   |false=>
    repeat' first|refine .x ?_|refine .y ?_|refine .z ?_|fail
    exact hR _ _ ⟨rfl,by exact kpA⟩
  ·rintro _ w' ⟨rfl,k⟩;exact hK w' k
 |.array t f n,v,w,E,K,hv,hs,hf,ht,hK=>by
  obtain⟨u,rfl,hu⟩:=hv
  refine fH.enter (LG _ _) (Cl.ret (Q:=fun v w'=>v=κs (dU t)∧Kp [] w w') ?_ ?_)
  ·refine Ret.R fun R hR=>?_
   apply AZ
   unfold rf
   repeat' first|refine .x ?_|refine .y ?_|refine .z ?_|fail
   refine F8 t hu (hs.al (by exact kpA)) hf.1 (by rw[tsz]at ht;omega) fun w' k=>?_
   exact hR _ _ ⟨rfl,by exact kpA⟩
  ·rintro _ w' ⟨rfl,k⟩;exact hK w' k
 |.opt t,v,w,E,K,hv,hs,hf,ht,hK=>by
  obtain⟨u,rfl,hu⟩:=hv
  have hl:=kQ t 0 hf
  rw[tsz]at ht
  refine fH.enter (P6 _ _) (Cl.ret (Q:=fun v w'=>v=κs (dU t++[42])∧Kp [] w w') ?_ ?_)
  ·refine Ret.R fun R hR=>?_
   apply xK
   unfold jc
   repeat' first|refine .x ?_|refine .y ?_|refine .z ?_|fail
   refine F8 t hu (hs.al (by exact kpA)) hf (by omega) fun w' k=>?_
   repeat' first|refine .x ?_|refine .y ?_|refine .z ?_|fail
   exact hR _ _ ⟨rfl,by exact kpA⟩
  ·rintro _ w' ⟨rfl,k⟩;exact hK w' k
 |.void,v,w,E,K,hv,hs,hf,ht,hK=>by
  obtain rfl:v=_:=hv
  refine fH.enter (Og _ _) (Cl.ret (Q:=fun v w'=>v=κs [118,111,105,100]∧Kp [] w w') ?_ ?_)
  ·refine Ret.R fun R hR=>?_
   apply Df
   unfold tH
   repeat' first|refine .x ?_|refine .y ?_|refine .z ?_|fail
   exact hR _ _ ⟨rfl,by exact kpA⟩
  ·rintro _ w' ⟨rfl,k⟩;exact hK w' k
theorem KY{t:Ty}(h:Fit t):(wK t).length≤23:=by
 have br:∀(f:Bool) (n:Int),0≤n∧n≤4294967295→(ji f n).length≤23:=fun f n hn=>by
  have:=jQ n (by omega)
  unfold ji
  split<;>(simp only[List.length_append,List.length_singleton];omega)
 cases t with
 |bytes _ f n=>exact br f n h
 |array t f n=>exact br f n h.2
 |_=>simp[wK]
theorem Xm{H:Hp}{t:Ty}{v:Value}{w:World}{E:KE}{K:KV}(hv:gK H t v)(hg:Gl w)(hf:Fit t)(hK:∀w',Kp [] w w'→K (κs (wK t)) w'):fH P v "marshal/syntax.behind" #[] w E K:=by
 cases t with
 |basic s=>
  obtain rfl:v=_:=hv
  refine fH.enter (Kr _ _) (Cl.ret (Q:=fun v w'=>v=κs []∧Kp [] w w') ?_ ?_)
  ·refine Ret.R fun R hR=>?_
   apply zJ
   unfold pO
   exact hR _ _ ⟨rfl,Kp.refl _ _⟩
  ·rintro _ w' ⟨rfl,k⟩;exact hK w' k
 |named s a=>
  obtain⟨b,rfl,hb⟩:=hv
  refine fH.enter (J8 _ _) (Cl.ret (Q:=fun v w'=>v=κs []∧Kp [] w w') ?_ ?_)
  ·refine Ret.R fun R hR=>?_
   apply zF
   unfold pJ
   exact hR _ _ ⟨rfl,Kp.refl _ _⟩
  ·rintro _ w' ⟨rfl,k⟩;exact hK w' k
 |void=>
  obtain rfl:v=_:=hv
  refine fH.enter (LH _ _) (Cl.ret (Q:=fun v w'=>v=κs []∧Kp [] w w') ?_ ?_)
  ·refine Ret.R fun R hR=>?_
   apply AP
   unfold qV
   repeat' first|refine .x ?_|refine .y ?_|refine .z ?_|fail
   exact hR _ _ ⟨rfl,by exact kpA⟩
  ·rintro _ w' ⟨rfl,k⟩;exact hK w' k
 |opt t=>
  obtain⟨u,rfl,hu⟩:=hv
  refine fH.enter (Oh _ _) (Cl.ret (Q:=fun v w'=>v=κs []∧Kp [] w w') ?_ ?_)
  ·refine Ret.R fun R hR=>?_
   apply wY
   unfold iL
   repeat' first|refine .x ?_|refine .y ?_|refine .z ?_|fail
   exact hR _ _ ⟨rfl,by exact kpA⟩
  ·rintro _ w' ⟨rfl,k⟩;exact hK w' k
 |bytes x f n=>
  obtain rfl:v=_:=hv
  refine fH.enter (Ko _ _) (Cl.ret (Q:=fun v w'=>v=κs (ji f n)∧Kp [] w w') ?_ ?_)
  ·refine Ret.R fun R hR=>?_
   apply zH
   unfold pM
   repeat' first|refine .x ?_|refine .y ?_|refine .z ?_|fail
   have k1:Kp [] w (w.alloc (cl [.bool x,.bool f,i64 n] 306)):=by exact kpA
   refine Cl.ret (I7 (hg.kp k1 fun _ _=>trivial) f (by have:0≤n∧n≤4294967295:=hf;omega)) ?_
   rintro _ w2 ⟨rfl,k2⟩
   exact hR _ _ ⟨rfl,k1.tt k2⟩
  ·rintro _ w' ⟨rfl,k⟩;exact hK w' k
 |array t f n=>
  obtain⟨u,rfl,hu⟩:=hv
  refine fH.enter (Kt _ _) (Cl.ret (Q:=fun v w'=>v=κs (ji f n)∧Kp [] w w') ?_ ?_)
  ·refine Ret.R fun R hR=>?_
   apply zK
   unfold pR
   repeat' first|refine .x ?_|refine .y ?_|refine .z ?_|fail
   have k1:Kp [] w (w.alloc (cl [u,.bool f,i64 n] 231)):=by exact kpA
   refine Cl.ret (I7 (hg.kp k1 fun _ _=>trivial) f (by have:=hf.2;omega)) ?_
   rintro _ w2 ⟨rfl,k2⟩
   exact hR _ _ ⟨rfl,k1.tt k2⟩
  ·rintro _ w' ⟨rfl,k⟩;exact hK w' k
def IE(d:Decl):Prop:=Fit d.ty∧tsz d.ty≤3∧d.name.length≤2000
theorem oO{d:Decl}(h:IE d):(oP d).length≤5000:=by
 have h1:=kQ d.ty 0 h.1
 have h2:=KY h.1
 have h3:=h.2.1
 have h4:=h.2.2
 simp only[oP,List.length_append];omega
theorem uy{H:Hp}{d:Decl}{v:Value}{w:World}(hv:gK H d.ty v)(hs:Sub H w)(hg:Gl w)(hf:IE d):Calls P rW #[.agg #[κs d.name,v]] w (Ret fun r w'=>r=κs (oP d)∧Kp [] w w'):=by
 refine Ret.R fun R hR=>?_
 apply AV
 unfold qY
 have h1:=kQ d.ty 0 hf.1
 have h2:=KY hf.1
 have h3:=hf.2.1
 have h4:=hf.2.2
 repeat' first|refine .x ?_|refine .y ?_|refine .z ?_|fail
 have k1:Kp [] w (w.alloc (cl [κs d.name,v] 223)).drew:=by exact kpA
 have n1:(w.alloc (cl [κs d.name,v] 223)).drew.heap[w.heap.size]?=some (cl [κs d.name,v] 223):=by exact lookA
 generalize (w.alloc (cl [κs d.name,v] 223)).drew=w1 at *
 have l1:=lt_of_heap n1
 refine F8 d.ty hv (hs.al k1) hf.1 (by omega) fun w2 k2=>?_
 have n2:=(k2.same _ l1 trivial).trans n1
 repeat' first|refine .x ?_|refine .y ?_|refine .z ?_|fail
 have kk2:=k1.tt k2
 refine Xm hv (hg.kp kk2 fun _ _=>trivial) hf.1 fun w3 k3=>?_
 have n3:=(k3.same _ (lt_of_heap n2) trivial).trans n2
 refine⟨?_,?_⟩
 ·repeat' first|refine .x ?_|refine .y ?_|refine .z ?_|fail
  rfl
 repeat' first|refine .x ?_|refine .y ?_|refine .z ?_|fail
 exact hR _ _ ⟨rfl,kk2.tt k3⟩
theorem SS{H:Hp}{t:Ty}{v:Value}{w:World}(hv:gK H t v)(hs:Sub H w)(hf:Fit t)(ht:tsz t≤3):Calls P DD #[v] w (Ret fun r w'=>r=κs (sW t)∧Kp [] w w'):=by
 refine Ret.R fun R hR=>?_
 apply Lt
 unfold Dx
 have h1:=kQ t 0 hf
 refine F8 t hv hs hf (by omega) fun w2 k2=>?_
 have h3:=(Tryz.strings_TrimSuffix (bs (dU t)) (bs [32]) w2 (by rw[jB];omega))
 have h4:Calls P 308 #[κs (dU t),.string ⟨#[32]⟩] w2 (Ret fun r w'=>r=κs (sW t)∧Kp [] w2 w'):=h3.mono fun e w' h=>by
  obtain⟨rfl,rfl⟩:=h
  exact⟨_,rfl,rfl,Kp.refl _ _⟩
 refine Cl.ret h4 ?_
 rintro _ w3 ⟨rfl,k3⟩
 exact hR _ _ ⟨rfl,k2.tt k3⟩
end Go.W.T
namespace Go.W.T
open Go Go.W Go.M Go.Proofs
theorem Wu:liesAt P P.depth 139 (2 / P.cellsOf 139) 0 139 1=true:=by kernel_rfl
theorem Nq{w:World}{eb:Nat}{a buf:Value}(h:w.heap[eb]?=some (cl [a,buf] 139))(ha:a=.pointer none∨a=pt eb 0):
  Calls P jR #[pt eb 0] w (Ret fun _ w'=>w'.heap[eb]?=some (cl [pt eb 0,buf] 139)∧Kp [(eb,eb+1)] w w'):=by
 refine Ret.R fun R hR=>?_
 apply uD
 unfold jP
 obtain⟨j,hj,hjs⟩:=Option.map_eq_some_iff.1 Yf
 have hlt:=lt_of_heap h
 have hsh:w.shape? eb=some (139,2):=by simp[World.shape?,h,cl]
 rcases ha with rfl|rfl
 ·repeat' first|refine .x ?_|refine .y ?_|refine .z ?_|fail
  refine dM.ok (Lib.run_to_unsafe w ⟨eb,0,none⟩ u136 u167 hj (by rw[hjs];decide) hsh (by decide:(0:Nat)<2)) ?_
  refine lL.val (v:=pt eb 0) (w':=w) ?_ ?_
  ·rw[run_callFunc_extern Tryz.func132 (by kernel_rfl) (by kernel_rfl) (by kernel_rfl) (e:=Extern.AbiNoEscape.same) (by kernel_rfl),Lib.run_noEscape]
   rfl
  refine dM.ok (Lib.run_from_unsafe w ⟨eb,0,none⟩ u167 u136 hj hsh Wu) ?_
  repeat' first|refine .x ?_|refine .y ?_|refine .z ?_|fail
  exact hR _ _ ⟨by exact lookA,by exact kpA⟩
 ·refine .s ?_
  refine .s ?_
  refine .s ?_
  refine .s ?_
  refine If.f ?_ rfl
  repeat' first|refine .x ?_|refine .y ?_|refine .z ?_|fail
  refine dM.ok (v:=.bool false) (w':=w) ?_ ?_
  ·have h1:=Lib.run_neq_ptr_same w ⟨eb,0,none⟩ u136 hj
   simp[eqGuard]
   exact h1
  refine If.f ?_ rfl
  exact hR _ _ ⟨h,Kp.refl _ _⟩
theorem SQ{w:World}{eb:Nat}{a buf:Value}{n:Nat}{l:List Value}{o:Option Nat}(s:By)(h:w.heap[eb]?=some (cl [a,buf] 139))(ha:a=.pointer none∨a=pt eb 0)
  (hg:Gw w 5 1 buf n l o) (ho:∀b,o=some b→b≠eb) (hn:n+s.length≤4000000000):
  Calls P dN #[pt eb 0,κs s] w (Ret fun _ w'=>∃buf' o',w'.heap[eb]?=some (cl [pt eb 0,buf'] 139)∧Gw w' 5 1 buf' (n+s.length) (l++fB s) o'∧(∀b,o'=some b→b≠eb∧(o=some b∨w.heap.size≤b))∧Kp ((eb,eb+1)::own o) w w'):=by
 refine Ret.R fun R hR=>?_
 apply rF
 unfold jm
 have hlt:=lt_of_heap h
 refine Cl.ret (Nq h ha) ?_
 rintro v w1 ⟨h1,k1⟩
 have s1:=k1.size
 have g1:=hg.kp k1 (fun b hb=>⟨by have:=ho b hb;omega,trivial⟩)
 obtain⟨va,vc,rfl⟩:=g1.len
 repeat' first|refine .x ?_|refine .y ?_|refine .z ?_|fail
 refine Ap.str g1 ?_ (by omega)
 intro v' w2 o' g2 ho' k2
 have z2:=k2.size
 obtain⟨aa',ca',rfl⟩:=g2.len
 have c2':w2.heap[eb]?=some (cl [pt eb 0,.slice va n vc] 139):=(k2.same _ (by omega) (aU fun e=>ho eb e rfl)).trans h1
 repeat' first|refine .x ?_|refine .y ?_|refine .z ?_|fail
 refine(fun(Q:∀w9,Kp [(eb,eb+1)] w2 w9∧w9.heap[eb]?=some (cl [pt eb 0,.slice aa' (n+s.length) ca'] 139)→R (.returned (.tuple #[i64 (s.length:Nat),.nilIface])) w9)=>Q _ ⟨by exact kpA,by exact lookA⟩) ?_
 rintro w3 ⟨k3,c3'⟩
 have hoo:∀b,o'=some b→b≠eb∧(o=some b∨w.heap.size≤b):=by
  rintro b rfl
  rcases ho' with r|r
  ·exact⟨ho b r.symm,Or.inl r.symm⟩
  ·have:=Option.some.inj r;exact⟨by omega,Or.inr (by omega)⟩
 refine hR _ _ ⟨_,o',c3',g2.kp k3 (fun b hb=>⟨by have:=(hoo b hb).1;omega,trivial⟩),hoo,?_⟩
 exact((k1.trans k2 (fun i _ ho=>⟨⟨ho.1,trivial⟩,ho.2⟩):Kp ((eb,eb+1)::own o) w w2)).trans k3 (fun i _ ho=>⟨ho,ho.1,trivial⟩)
theorem XO{w:World}{eb:Nat}{a buf:Value}{o:Option Nat}(out:By)(h:w.heap[eb]?=some (cl [a,buf] 139))(hg:Gw w 5 1 buf out.length (fB out) o)(ho:∀b,o=some b→b≠eb)(hn:out.length≤4000000000):
  Calls P iQ #[pt eb 0] w (Ret fun v w'=>v=κs out∧Kp (own o) w w'):=by
 refine Ret.R fun R hR=>?_
 apply xe
 unfold lg
 have hlt:=lt_of_heap h
 obtain⟨hl,hg2⟩:=hg
 cases o with
 |none=>
  obtain⟨rfl,hz⟩:=hg2
  have ho0:out=[]:=List.length_eq_zero_iff.mp hz
  subst ho0
  repeat' first|refine .x ?_|refine .y ?_|refine .z ?_|fail
  refine lL.val (wV (Lib.run_unsafeSliceData_nil _ _ _ _ _)) ?_
  refine ⟨by repeat' (first | refine .a ?_ | refine .d ?_ | refine .s ?_ | refine .t ?_ | refine .f ?_ | fail)
             rfl, ?_⟩
  refine lL.val (uB (Lib.run_unsafeString_none _ _ _ _ _)) ?_
  exact hR _ _ ⟨rfl,by exact kpA⟩
 |some b=>
  obtain⟨rest,cap,rfl,hbb,hcap⟩:=hg2
  have hblt:=lt_of_heap hbb
  have hbe:=ho b rfl
  rw[y9]at hcap
  repeat' first|refine .x ?_|refine .y ?_|refine .z ?_|fail
  by_cases hz:cap=0
  ·subst hz
   have ho0:out=[]:=List.length_eq_zero_iff.mp (by omega)
   subst ho0
   refine lL.val (wV (Lib.run_unsafeSliceData_zero _ _ _ 5 u238 ⟨b,0,none⟩ _ (5,rest.length) (by have hb':w.drew.heap[b]?=_:=hbb;simp[World.shape?,hb',cl,fB]))) ?_
   refine ⟨by repeat' (first | refine .a ?_ | refine .d ?_ | refine .s ?_ | refine .t ?_ | refine .f ?_ | fail)
              rfl, ?_⟩
   refine lL.val (uB (Lib.run_unsafeString_none _ _ _ _ _)) ?_
   exact hR _ _ ⟨rfl,by exact kpA⟩
  ·refine lL.val (wV (Lib.run_unsafeSliceData_row _ _ _ _ _ _ hz)) ?_
   refine ⟨by repeat' (first | refine .a ?_ | refine .d ?_ | refine .s ?_ | refine .t ?_ | refine .f ?_ | fail)
              rfl, ?_⟩
   by_cases ho0:out=[]
   ·subst ho0
    refine lL.val (uB (Lib.run_unsafeString_none _ _ _ _ _)) ?_
    exact hR _ _ ⟨rfl,by exact kpA⟩
   ·refine lL.val (uB (Lib.run_unsafeString_row _ _ _ _ 5 u238 cells5 b (fB out++rest).length (by have hb':w.drew.heap[b]?=_:=hbb;simp[World.shape?,hb',cl]) out ho0 (by rw[List.length_append,y9];omega) (by omega) ?_)) ?_
    ·intro j x hx
     have hb':w.drew.heap[b]?=_:=hbb
     rw[add_eq,oU,hb']
     simp only[Option.bind_some,jA,Nat.zero_add]
     rw[List.getElem?_toArray,List.getElem?_append_left (by rw[y9];exact(List.getElem?_eq_some_iff.mp hx).1),fB,List.getElem?_map,hx]
     rfl
    exact hR _ _ ⟨rfl,(by exact kpA:Kp [] w w.drew).trans (Kp.freeze _ _ _) (fun i _ h=>⟨trivial,h⟩)⟩
def Bw(w0 w:World)(b:Nat)(s:By):Prop:=Kp [] w0 w∧w0.heap.size≤b∧∃o a buf,w.heap[b]?=some (cl [a,buf] 139)∧(a=.pointer none∨a=pt b 0)∧Gw w 5 1 buf s.length (fB s) o∧∀x,o=some x→x≠b∧w0.heap.size≤x
theorem Bw.k{w0 w:World}{b:Nat}{s:By}(h:Bw w0 w b s):Kp [] w0 w:=h.1
theorem Bw.kp{w0 w w':World}{b:Nat}{s:By}(h:Bw w0 w b s)(k:Kp [] w w'):Bw w0 w' b s:=by
 obtain⟨h1,h2,o,a,buf,h3,h4,h5,h6⟩:=h
 exact⟨h1.tt k,h2,o,a,buf,(k.same _ (lt_of_heap h3) trivial).trans h3,h4,h5.kp k fun _ _=>trivial,h6⟩
theorem Bw.new(w0:World):Bw w0 (w0.alloc (cl [.pointer none,.slice none 0 0] 139)) w0.heap.size []:=
 ⟨by exact kpA,Nat.le_refl _,none,_,_,by exact lookA,Or.inl rfl,Gw.nil _ _ _,fun x hx=>by cases hx⟩
theorem GZ{w0 w:World}{b:Nat}{s:By}(h:Bw w0 w b s)(t:By)(hn:s.length+t.length≤4000000000):Calls P dN #[pt b 0,κs t] w (Ret fun _ w'=>Bw w0 w' b (s++t)):=by
 obtain⟨h1,h2,o,a,buf,h3,h4,h5,h6⟩:=h
 refine(SQ t h3 h4 h5 (fun x hx=>(h6 x hx).1) hn).mono fun e w' hh=>?_
 obtain⟨v,rfl,buf',o',g1,g2,g3,g4⟩:=hh
 have k:Kp [] w0 w':=h1.trans g4 fun i hi _=>⟨trivial,by omega,aU fun e=>by have:=(h6 i e).2;omega⟩
 refine⟨v,rfl,k,h2,o',_,buf',g1,Or.inr rfl,?_,fun x hx=>?_⟩
 ·rw[List.length_append]
  have:fB (s++t)=fB s++fB t:=by simp[fB]
  rw[this];exact g2
 ·obtain⟨q1,q2⟩:=g3 x hx
  refine⟨q1,?_⟩
  rcases q2 with q2|q2
  ·exact(h6 x q2).2
  ·have:=h1.size;omega
theorem Nj{w0 w:World}{b:Nat}{s:By}(h:Bw w0 w b s)(hn:s.length≤4000000000):Calls P iQ #[pt b 0] w (Ret fun v w'=>v=κs s∧Kp [] w0 w'):=by
 obtain⟨h1,h2,o,a,buf,h3,h4,h5,h6⟩:=h
 refine(XO s h3 h5 (fun x hx=>(h6 x hx).1) hn).mono fun e w' hh=>?_
 obtain⟨v,rfl,rfl,k⟩:=hh
 exact⟨_,rfl,rfl,h1.trans k fun i hi _=>⟨trivial,aU fun e=>by have:=(h6 i e).2;omega⟩⟩
end Go.W.T
namespace Go.W.T
open Go Go.W Go.M Go.Proofs
theorem Gm{w:World}(hg:Gl w){n:Int}(hn : -9223372036854775808≤n∧n≤9223372036854775807):Calls P Fz #[i64 n] w (Ret fun v w'=>v=κs (uY n)∧Kp [] w w'):=by
 refine Ret.R fun R hR=>?_
 apply NZ
 unfold ET
 refine Cl.ret (w_num hg hn) ?_
 rintro _ w2 ⟨rfl,k2⟩
 exact hR _ _ ⟨rfl,k2⟩
theorem Lj{w:World}{b:Nat}{name:By}{at_:Nat}{n:Int}(h:w.heap[b]?=some (cl [κs name,i64 at_,i64 n] uJ))(hg:Gl w)(hn : -9223372036854775808≤n∧n≤9223372036854775807)(hl:name.length≤2000):
  Calls P qj #[pt b 0] w (Ret fun r w'=>r=κs (lV ⟨name,at_,.const n⟩)∧Kp [] w w'):=by
 refine Ret.R fun R hR=>?_
 apply zG
 unfold pK
 have hlt:=lt_of_heap h
 have hl2:=jQ n hn
 have kd:Kp [] w w.drew:=by exact kpA
 repeat' first|refine .x ?_|refine .y ?_|refine .z ?_|fail
 refine Cl.ret (Gm (hg.kp kd fun _ _=>trivial) hn) ?_
 rintro _ w2 ⟨rfl,k2⟩
 have h2:=((kd.tt k2).same _ hlt trivial).trans h
 refine⟨?_,?_⟩
 ·repeat' first|refine .x ?_|refine .y ?_|refine .z ?_|fail
  rfl
 repeat' first|refine .x ?_|refine .y ?_|refine .z ?_|fail
 refine hR _ _ ⟨?_,kd.tt k2⟩
 simp[lV,κs]
theorem Ll{H:Hp}{w:World}{b:Nat}{name:By}{at_:Nat}{t:Ty}{u:Value}(h:w.heap[b]?=some (cl [κs name,i64 at_,u] nR))(hu:gK H t u)(hs:Sub H w)(hg:Gl w)(hf:IE ⟨name,t⟩):
  Calls P ql #[pt b 0] w (Ret fun r w'=>r=κs (lV ⟨name,at_,.alias t⟩)∧Kp [] w w'):=by
 refine Ret.R fun R hR=>?_
 apply zM
 unfold pU
 have hlt:=lt_of_heap h
 have hl:=oO hf
 have kd:Kp [] w w.drew:=by exact kpA
 obtain⟨ua,ub,rfl⟩:=hu.form
 repeat' first|refine .x ?_|refine .y ?_|refine .z ?_|fail
 refine Cl.ret (uy (d:=⟨name,t⟩) hu (hs.al kd) (hg.kp kd fun _ _=>trivial) hf) ?_
 rintro _ w2 ⟨rfl,k2⟩
 repeat' first|refine .x ?_|refine .y ?_|refine .z ?_|fail
 refine hR _ _ ⟨?_,kd.tt k2⟩
 simp[lV,κs]
theorem Pz{H:Hp}:∀{ds:List Decl} {l:List Value} {k:Nat} {d:Decl},iJ H ds l→ds[k]?=some d→∃u,l.drop (k*2)=κs d.name::u::l.drop (k*2+2)∧gK H d.ty u
 |[],_,_,_,_,h=>by cases h
 |a::r,s::t::l,0,d,h,hd=>by
  cases hd
  exact⟨t,by rw[h.1];rfl,h.2.1⟩
 |a::r,s::t::l,k+1,d,h,hd=>by
  obtain⟨u,h1,h2⟩:=Pz (l:=l) (k:=k) h.2.2 hd
  refine⟨u,?_,h2⟩
  rw[show (k+1)*2=k*2+2 by omega]
  exact h1
 |a::r,[],_,_,h,_=>h.elim
 |a::r,[_],_,_,h,_=>h.elim
theorem CE:∀{ds:List Decl},(∀d∈ds,IE d)→(jd ds).length≤5002*ds.length
 |[],_=>Nat.zero_le _
 |d::r,h=>by
  have h1:=oO (h d (List.mem_cons_self ..))
  have h2:=CE fun x hx=>h x (List.mem_cons_of_mem _ hx)
  simp only[jd,List.length_append,List.length_cons,List.length_nil];omega
theorem JC:∀{ds:List Decl} {i:Nat} {d:Decl},ds[i]?=some d→jd (ds.take (i+1))=jd (ds.take i)++(oP d++[59,32])
 |[],_,_,h=>by cases h
 |a::r,0,d,h=>by cases h;simp[jd]
 |a::r,i+1,d,h=>by
  have:=JC (ds:=r) (i:=i) (d:=d) h
  rw[List.take_succ_cons,List.take_succ_cons,jd,jd,this];simp only[List.append_assoc]
theorem I9{H:Hp}{w:World}{b:Nat}{name:By}{at_:Nat}{ds:List Decl}{u:Value}{l:List Value}(h:w.heap[b]?=some (cl [κs name,i64 at_,u] dQ))(hl:iJ H ds l)(hu:SlF H fO ds.length l u)(hs:Sub H w)(hg:Gl w)
  (hf:∀d∈ds,IE d) (hn:name.length≤2000) (hk:ds.length≤1000):
  Calls P oI #[pt b 0] w (Ret fun r w'=>r=κs (lV ⟨name,at_,.struct ds⟩)∧Kp [] w w'):=by
 refine Ret.R fun R hR=>?_
 apply yO
 unfold nZ
 have hlt:=lt_of_heap h
 obtain⟨sb,rest,cap,rfl,hsb⟩:=hu
 have hsl:=hs _ _ _ hsb
 repeat' first|refine .x ?_|refine .y ?_|refine .z ?_|fail
 refine Cl.ret (GZ (Bw.new w) _ (by simp only[List.length_append,List.length_cons,List.length_nil];omega)) ?_
 intro v w10 hb
 rw[List.nil_append]at hb
 generalize hpre:([115,116,114,117,99,116,32]++name++[32,123,32]:By)=pre at hb
 have ZB:pre.length≤2010:=by rw[← hpre];simp only[List.length_append,List.length_cons,List.length_nil];omega
 have h10:=(hb.k.same _ hlt trivial).trans h
 repeat' first|refine .x ?_|refine .y ?_|refine .z ?_|fail
 refine Lp.nat (fun n vals w'=>∃i:Nat,n+i=ds.length∧vals=[i64 i]∧Bw w w' w.heap.size (pre++jd (ds.take i))) (n:=ds.length) ⟨0,by omega,rfl,by simpa [jd] using hb⟩ ?_
 rintro n _ w16 jk C ⟨i,hi,rfl,hB⟩ hC
 repeat' first|refine .x ?_|refine .y ?_|refine .z ?_|fail
 by_cases hlast:i=ds.length
 ·refine .split (fun hh=>?_) (fun hh=>?_)
  ·exfalso;have:=of_decide_eq_true hh;omega
  subst hlast
  rw[List.take_length]at hB
  have hpl:=CE hf
  refine Cl.ret (Nj hB (by rw[List.length_append];omega)) ?_
  rintro _ w33 ⟨rfl,k33⟩
  repeat' first|refine .x ?_|refine .y ?_|refine .z ?_|fail
  refine hR _ _ ⟨?_,k33⟩
  rw[← hpre]
  simp[lV,κs]
 ·refine .split (fun hh=>?_) (fun hh=>?_)
  ·have hi':i<ds.length:=by omega
   obtain⟨d,hd⟩:∃d,ds[i]?=some d:=⟨_,List.getElem?_eq_getElem hi'⟩
   obtain⟨u,hu1,hu2⟩:=Pz hl hd
   obtain⟨ua,ub,rfl⟩:=hu2.form
   have KG:=(hB.k.same _ (lt_of_heap hsl) trivial).trans hsl
   repeat' first|refine .x ?_|refine .y ?_|refine .z ?_|fail
   have hlen:=congrArg List.length hu1
   simp only[List.length_drop,List.length_cons]at hlen
   have hl0:((l++rest).drop (0+i*2)).take 2=[κs d.name,.iface ua ub]:=by
    rw[Nat.zero_add,List.drop_append_of_le_length (by omega),hu1];rfl
   refine LdN.s (l':=[κs d.name,.iface ua ub]) ?_ KG (by rw[List.length_append];omega) hl0
   refine .s ?_
   refine .s ?_
   refine .s ?_
   have hfd:=hf d (List.mem_of_getElem? hd)
   refine Cl.w (fun w24=>Kp [] w16 w24) (by exact kpA) ?_
   intro w24 k24
   have kk:=hB.k.tt k24
   have hdl:=oO hfd
   have hpl:=CE fun x hx=>hf x (List.mem_of_mem_take (i:=i) hx)
   have htl:(ds.take i).length≤1000:=by rw[List.length_take];omega
   refine Cl.ret (uy (d:=d) hu2 (hs.al kk) (hg.kp kk fun _ _=>trivial) hfd) ?_
   rintro _ w27 ⟨rfl,k27⟩
   repeat' first|refine .x ?_|refine .y ?_|refine .z ?_|fail
   refine Cl.ret (GZ ((hB.kp k24).kp k27) _ (by simp only[List.length_append,List.length_cons,List.length_nil];omega)) ?_
   intro v w30 hb30
   repeat' first|refine .x ?_|refine .y ?_|refine .z ?_|fail
   refine hC (n - 1) _ _ (by omega) ⟨i+1,by omega,rfl,?_⟩
   have e:pre++jd (ds.take (i+1))=pre++jd (ds.take i)++(oP d++[59,32]):=by
    rw[JC hd,List.append_assoc]
   rw[e];exact hb30
  ·exfalso;have:=of_decide_eq_false hh;omega
end Go.W.T

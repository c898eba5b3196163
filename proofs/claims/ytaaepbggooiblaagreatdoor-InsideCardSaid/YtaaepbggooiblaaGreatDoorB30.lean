/- Texts of mine, one behind the other; nothing is assumed. -/
import Derived.Test.YtaaepbggooiblaaGreatDoorB29
import Derived.Test.YtaaepbggooiblaaGreatDoorB27
import Derived.Test.YtaaepbggooiblaaGreatDoorB25
import Derived.RangeFuncNested
set_option linter.unusedSimpArgs false
set_option linter.unusedVariables false
set_option maxRecDepth 100000
namespace Go.W.T
open Go Go.W Go.M Go.Proofs Go.RowKit
theorem kr_kp{Bo:Nat}{A B:World}(k:Kp [] A B)(ho:Bo<A.heap.size):Kr Bo A B:=
 ⟨k.size,fun b o hb _ _=>(k.same b (lt_of_heap hb) trivial).trans hb,fun b h=>Or.inl (Mine.grow k ho h)⟩
theorem XE{n:Nat}{A B:World}(k:Kp [] A B):KeepsFrom n A B:=
 ⟨k.size,fun b o _ hb _=>(k.same b (lt_of_heap hb) trivial).trans hb⟩
theorem vY{A B:World}{row:Option Nat}(hg:A.grownBy B row)(hr:∀r,row=some r→∃o:Obj,A.heap[r]?=some o∧o.isCells=false){b:Nat}{l:List Value}{t:TypeId}(h:A.heap[b]?=some (cl l t)):B.heap[b]?=some (cl l t):=by
 refine(hg.block b (lt_of_heap h) fun e=>?_).trans h
 obtain⟨o,h1,h2⟩:=hr b e.symm
 rw[h]at h1
 cases h1
 cases h2
structure FI (w:World) (Bm Bo:Nat) (most:Int) (pre:List Nd) (W:World):Prop where
 out:∃v o,W.heap[Bo]?=some (cl [v] 34)∧Gw W dK 5 v pre.length (aJ pre) o∧∀b,o=some b→w.heap.size≤b
 cap:W.heap[Bm]?=some (cl [.int .i64 most] 3)
 le:(pre.length:Int)≤most
 kp:Kp [] w W
theorem FI.ext{w:World}{Bm Bo:Nat}{most:Int}{pre:List Nd}{W W':World}(h:FI w Bm Bo most pre W)(k:Kp [] W W'):FI w Bm Bo most pre W':=by
 obtain⟨⟨v,o,h1,h2,h3⟩,h4,h5,h6⟩:=h
 exact⟨⟨v,o,(k.same _ (lt_of_heap h1) trivial).trans h1,h2.kp k fun _ _=>trivial,h3⟩,(k.same _ (lt_of_heap h4) trivial).trans h4,h5,h6.tt k⟩
theorem FI.own{w:World}{Bm Bo:Nat}{most:Int}{pre:List Nd}{W W':World}{row:Option Nat}(h:FI w Bm Bo most pre W)(hg:W.grownBy W' row)(hr:∀r,row=some r→w.heap.size≤r∧∃o:Obj,W.heap[r]?=some o∧o.isCells=false):FI w Bm Bo most pre W':=by
 have hr':=fun r e=>(hr r e).2
 obtain⟨⟨v,o,h1,h2,h3⟩,h4,h5,h6⟩:=h
 refine⟨⟨v,o,vY hg hr' h1,?_,h3⟩,vY hg hr' h4,h5,⟨hg.os.trans h6.os,hg.tape.trans h6.tape,hg.output.trans h6.output,Nat.le_trans h6.size hg.size,fun i hi _=>?_⟩⟩
 ·obtain⟨a,b⟩:=h2
  refine⟨a,?_⟩
  cases o with
  |none=>exact b
  |some ob=>obtain⟨rest,c,x,y,z⟩:=b;exact⟨rest,c,x,vY hg hr' y,z⟩
 ·refine(hg.block i (by have:=h6.size;omega) fun e=>?_).trans (h6.same i hi trivial)
  have:=(hr i e.symm).1
  omega
def FX(w:World)(Bm Bo:Nat)(most:Int)(c:Code)(pre:List Nd)(W:World):Prop:=c=.exit 0∧∃p x,pre=p++[x]∧(p.length:Int)=most∧FI w Bm Bo most p W
def FA(Bm Bo:Nat)(x:Nd)(a:Act)(W:World):Prop:=∃(ρ:Fr) (b:Nat),a=act 30 ρ []∧ρ 9=pt Bm 0∧ρ 11=pt Bo 0∧ρ 12=pt b 0∧W.heap[b]?=some (cl [.int .i64 x.kind,.int .i64 x.n,κs x.s,.int .i64 x.at_,.int .i64 x.len] 52)
theorem piece{F:Fence}(hF:uZ F){m:Nat}{c:Code}{ρ:Fr}{w:World}{ds:List Deferred}{K:Fr→World→Prop}{X:Act→World→Prop}{Q:Exit→Act→World→Prop}
  (h:qy F (m - 1) P 30 [] nE c (nQ K) ρ w) (hX:∀ρ' w',K ρ' w'→X (act 30 ρ' ds) w'):c.wpIn F m P (Exit.then X Q) (act 30 ρ ds) w:=by
 refine wpIn_mono (xy (ds:=ds) hF c _ _ w h) ?_
 intro e a w' hp
 cases e with
 |normal=>obtain⟨ρ',rfl,_,hq⟩:=hp;exact hX _ _ hq
 |panic ch=>exact hp.2.elim
 |outgrown=>exact hp.elim
 |ret=>obtain⟨_,_,_,hq⟩:=hp;exact hq.elim
 |exit i=>obtain⟨_,_,_,hq⟩:=hp;exact hq.elim
 |goto i=>obtain⟨_,_,_,hq⟩:=hp;exact hq.elim
theorem XV{a b:List Value}{t u:TypeId}(h:t≠u)(e:cl a t=cl b u):False:=by
 simp only[cl,clf,Obj.cells.injEq]at e
 exact h e.2.1
theorem Tu{w:World}{xb:Nat}{name b:By}{lim:Lim}:Calls P oz #[pt xb 0,κs name,κs b,E5 lim] w (Ret fun r w'=>Kp [] w w'∧∃c1 c2 c3 c4,r=.func (.func 62) #[] #[pt c1 0,pt c2 0,pt c3 0,pt c4 0]∧w'.heap[c1]?=some (cl [pt xb 0] 22)∧w'.heap[c2]?=some (cl [κs name] 9)∧w'.heap[c3]?=some (cl [κs b] 9)∧w'.heap[c4]?=some (cl [.int .i64 lim.depth,.int .i64 lim.fuel,.int .i64 lim.size] 32)):=by
 refine Ret.R fun R hR=>?_
 apply yS
 unfold nO
 repeat' first|refine .x ?_|refine .y ?_|refine .z ?_|fail
 refine hR _ _ ⟨by exact kpA,_,_,_,_,rfl,by exact lookA,by exact lookA,by exact lookA,by exact lookA⟩
abbrev fst(d:CS)(lim:Lim)(name b:By)(most:Int):List Nd:=(cZ (ocL (uD d lim name b))).take most.toNat
theorem Qg{w:World}{d:CS}{xb:Nat}{name b:By}{lim:Lim}{most:Int}(hk:vN w d (pt xb 0))(hdl:(ocL (uD d lim name b)).length≤10000):
  Calls P 25 #[pt xb 0,κs name,κs b,E5 lim,.int .i64 most] w (Ret fun r w'=>Kp [] w w'∧∃o,Gw w' dK 5 r (fst d lim name b most).length (aJ (fst d lim name b most)) o∧∀b,o=some b→w.heap.size≤b):=by
 refine Ret.R fun R hR=>?_
 refine(callsIn_wide (n:=9)).1 ?_
 refine callsIn_of_wp_marks Tryz.func25 PY trivial ?_
 have ha:=Ei (N:=30) (args:=[pt xb 0,κs name,κs b,E5 lim,.int .i64 most]) rfl
 have ha':({ tmps:=#[pt xb 0,κs name,κs b,E5 lim,.int .i64 most]++Array.replicate (Tryz.f25.ntmps - (#[pt xb 0,κs name,κs b,E5 lim,.int .i64 most]:Array Value).size) undef,defers:=[] }:Act)=act 30 (fun i=>[pt xb 0,κs name,κs b,E5 lim,.int .i64 most].getD i undef) []:=ha
 rw[ha']
 clear ha ha'
 obtain⟨ρ0,hρ⟩:∃ρ0:Fr,(fun i=>[pt xb 0,κs name,κs b,E5 lim,.int .i64 most].getD i undef)=ρ0:=⟨_,rfl⟩
 rw[hρ]
 have r0:ρ0 0=pt xb 0:=by rw[← hρ];rfl
 have r1:ρ0 1=κs name:=by rw[← hρ];rfl
 have r2:ρ0 2=κs b:=by rw[← hρ];rfl
 have r3:ρ0 3=E5 lim:=by rw[← hρ];rfl
 have r4:ρ0 4=.int .i64 most:=by rw[← hρ];rfl
 clear hρ
 refine wpIn_seq (piece (Or.inl rfl) (K:=fun ρ1 w1=>ρ1 0=pt xb 0∧ρ1 1=κs name∧ρ1 2=κs b∧ρ1 8=pt w.heap.size 0∧ρ1 9=pt (w.heap.size+1) 0∧Kp [] w w1∧w1.heap[w.heap.size]?=some (cl [.int .i64 lim.depth,.int .i64 lim.fuel,.int .i64 lim.size] 32)∧w1.heap[w.heap.size+1]?=some (cl [.int .i64 most] 3)∧w1.heap.size=w.heap.size+2) (by
  rw[P7]
  unfold QS
  rw[r3,r4]
  repeat' first|refine .x ?_|refine .y ?_|refine .z ?_|fail
  exact⟨r0,r1,r2,rfl,rfl,by exact kpA,by exact lookA,by exact lookA,by simp only[size_alloc]⟩) ?_)
 rintro ρ1 w1 ⟨e0,e1,e2,e8,e9,k1,h1,h2,z1⟩
 refine wpIn_seq (piece (Or.inl rfl) (K:=fun ρ2 w2=>ρ2 0=pt xb 0∧ρ2 1=κs name∧ρ2 2=κs b∧ρ2 8=pt w.heap.size 0∧ρ2 9=pt (w.heap.size+1) 0∧ρ2 11=pt (w.heap.size+2) 0∧Kp [] w w2∧w2.heap[w.heap.size]?=some (cl [.int .i64 lim.depth,.int .i64 lim.fuel,.int .i64 lim.size] 32)∧w2.heap[w.heap.size+1]?=some (cl [.int .i64 most] 3)∧w2.heap[w.heap.size+2]?=some (cl [.slice none 0 0] 34)∧w2.heap.size=w.heap.size+3) (by
  rw[P6]
  unfold QR
  refine .s ?_ (hb:=z1)
  exact⟨e0,e1,e2,e8,e9,rfl,by exact kpA,by exact lookA,by exact lookA,by exact lookA,by simp only[size_alloc];omega⟩) ?_)
 clear e0 e1 e2 e8 e9 k1 h1 h2 z1
 rintro ρ2 w2 ⟨e0,e1,e2,e8,e9,e11,k2,h1,h2,h3,z2⟩
 refine wpIn_seq (piece (Or.inl rfl) (K:=fun ρ3 w3=>ρ3 0=pt xb 0∧ρ3 1=κs name∧ρ3 2=κs b∧ρ3 8=pt w.heap.size 0∧ρ3 9=pt (w.heap.size+1) 0∧ρ3 11=pt (w.heap.size+2) 0∧Kp [] w w3∧w3.heap[w.heap.size]?=some (cl [.int .i64 lim.depth,.int .i64 lim.fuel,.int .i64 lim.size] 32)∧w3.heap[w.heap.size+1]?=some (cl [.int .i64 most.toNat] 3)∧w3.heap[w.heap.size+2]?=some (cl [.slice none 0 0] 34)∧w3.heap.size=w.heap.size+3) (by
  rw[P5]
  unfold QQ
  rw[e9]
  repeat' first|refine .x ?_|refine .y ?_|refine .z ?_|fail
  refine .split (fun hh=>?_) (fun hh=>?_)
  ·have hh':most<1:=of_decide_eq_true hh
   have hm:(0:Int)=(most.toNat:Int):=by omega
   repeat' first|refine .x ?_|refine .y ?_|refine .z ?_|fail
   rw[hm]
   exact⟨e0,e1,e2,e8,e9,e11,by exact kpA,by exact lookA,by exact lookA,by exact lookA,by simp only[ag];omega⟩
  ·have hh':¬ most<1:=of_decide_eq_false hh
   have hm:most=(most.toNat:Int):=by omega
   refine⟨e0,e1,e2,e8,e9,e11,k2,h1,?_,h3,z2⟩
   rw[← hm];exact h2) ?_)
 clear e0 e1 e2 e8 e9 e11 k2 h1 h2 h3 z2
 rintro ρ3 w3 ⟨e0,e1,e2,e8,e9,e11,k3,h1,h2,h3,z3⟩
 refine wpIn_seq (wpIn_seq (piece (Or.inl rfl) (K:=fun ρ4 w4=>ρ4 9=pt (w.heap.size+1) 0∧ρ4 11=pt (w.heap.size+2) 0∧(∃c1 c2 c3 c4,ρ4 19=.func (.func 62) #[] #[pt c1 0,pt c2 0,pt c3 0,pt c4 0]∧w4.heap[c1]?=some (cl [pt xb 0] 22)∧w4.heap[c2]?=some (cl [κs name] 9)∧w4.heap[c3]?=some (cl [κs b] 9)∧w4.heap[c4]?=some (cl [.int .i64 lim.depth,.int .i64 lim.fuel,.int .i64 lim.size] 32))∧Kp [] w w4∧w4.heap[w.heap.size+1]?=some (cl [.int .i64 most.toNat] 3)∧w4.heap[w.heap.size+2]?=some (cl [.slice none 0 0] 34)) (by
  rw[PZ]
  unfold QP
  rw[e0,e1,e2,e8]
  repeat' first|refine .x ?_|refine .y ?_|refine .z ?_|fail
  refine Cl.ret Tu ?_
  rintro v w4 ⟨k4,c1,c2,c3,c4,rfl,g1,g2,g3,g4⟩
  exact⟨e9,e11,⟨c1,c2,c3,c4,rfl,g1,g2,g3,g4⟩,k3.tt k4,by exact lookA,by exact lookA⟩) ?_))
 clear e0 e1 e2 e8 e9 e11 k3 h1 h2 h3 z3
 rintro ρ4 w4 ⟨e9,e11,⟨c1,c2,c3,c4,e19,g1,g2,g3,g4⟩,k4,h2,h3⟩
 have z4:=k4.size
 have hb3:=lt_of_heap h3
 have hfin:∀(D:Nat) (pre:List Nd) (W:World),w4.heap.size≤D→pre=fst d lim name b most→FI w (w.heap.size+1) (w.heap.size+2) most.toNat pre W→W.heap[D]?=some (.deferred (some []))→GK.wpIn Fence.wide 9 P (bodyPostM Fence.wide 9 P Tryz.f25 R) (act 30 ρ4 [{ target:=.collected D,args:=#[] }]) W:=by
  intro D pre W hD hpre hI hdef
  have hI':=hI.own (grownBy_putObj' W D (.deferred none)) (fun r e=>by cases e;exact⟨by omega,_,hdef,rfl⟩)
  obtain⟨⟨v,o,x1,x2,x3⟩,x4,x5,x6⟩:=hI'
  obtain⟨⟨v',o',y1,y2,y3⟩,y4,y5,y6⟩:=hI
  have hv:v=v':=by
   have:=vY (grownBy_putObj' W D (.deferred none)) (fun r e=>by cases e;exact⟨_,hdef,rfl⟩) y1
   rw[x1]at this
   simpa [cl] using this
  subst hv
  obtain⟨K,hK⟩:∃K:Value→World→Prop,K=fun u w'=>u=v∧w'=W:=⟨_,rfl⟩
  refine wpIn_mono (xy (keep:=[]) (E:=nE) (Or.inl rfl) (ds:=[{ target:=.collected D,args:=#[] }]) GK (sQ K) ρ4 W (by
   rw[Lc]
   unfold JE
   rw[e11]
   repeat' first|refine .x ?_|refine .y ?_|refine .z ?_|fail
   rw[hK]
   exact⟨rfl,rfl⟩)) ?_
  intro e a w' hp
  cases e with
  |ret=>
   obtain⟨ρ',rfl,_,hu⟩:=hp
   rw[hK]at hu
   obtain⟨hu,rfl⟩:=hu
   refine⟨by simp,.inl ⟨_,_,rfl,run_takeDeferred hdef,?_⟩⟩
   obtain⟨u,q1,q2⟩:=dS (P:=P) (n:=30) (ds:=[{ target:=.collected D,args:=#[] }]) (fn:=Tryz.f25) (ρ:=ρ') (w:=w'.putObj D (.deferred none)) (R:=fun u=>R (.returned u) (w'.putObj D (.deferred none))) (by
    show R (.returned (ρ' 10)) _
    rw[hu]
    subst hpre
    exact hR _ _ ⟨x6,o,x2,x3⟩)
   exact⟨u,q1,q2⟩
  |panic ch=>exact hp.2.elim
  |outgrown=>exact hp.elim
  |normal=>obtain⟨_,_,_,hq⟩:=hp;exact hq.elim
  |exit i=>obtain⟨_,_,_,hq⟩:=hp;exact hq.elim
  |goto i=>obtain⟨_,_,_,hq⟩:=hp;exact hq.elim
 refine wpIn_block ?_
 refine wpIn_rangeFunc_ownH (α:=Nd) (gf:=62) (lb:=#[pt c1 0,pt c2 0,pt c3 0,pt c4 0]) rfl (by decide) (by rw[gQ];exact e19) trivial (enters_of Tryz.func62 (by kernel_rfl) rfl)
  (KI (hk.kp0 k4) hdl (Bo:=w.heap.size+2) h3 g1 g2 g3 g4) (fun h k=>h.trans k) ?hkb (Below.refl _ _) (fun _=>rfl)
  (FI w (w.heap.size+1) (w.heap.size+2) most.toNat) (FX w (w.heap.size+1) (w.heap.size+2) most.toNat) ?hI ?hIx ?h0 (FA (w.heap.size+1) (w.heap.size+2)) ?hAx ?assign ?body ?done ?stop
 case hkb=>
  intro W l o o' hl h ho _
  have hg:=grownBy_putObj' W l o'
  refine⟨hg.size,fun i ob hi hc _=>(hg.block i (lt_of_heap hi) fun e=>?_).trans hi,fun i hm=>Or.inl ?_⟩
  ·cases e;rw[hi]at h;cases h;rw[hc]at ho;cases ho
  ·rcases hm with rfl|⟨n,c,hm⟩
   ·exact Or.inl rfl
   ·refine Or.inr ⟨n,c,(hg.block _ ?_ fun e=>?_).symm.trans hm⟩
    ·have:=lt_of_heap h;omega
    ·cases e;omega
 case hI=>
  intro s W W' row hs hg hr
  exact hs.own hg fun r e=>⟨by have:=(hr r e).1;omega,(hr r e).2⟩
 case hIx=>
  rintro c s W W' row ⟨hc,p,x,hp,hl,hs⟩ hg hr
  exact⟨hc,p,x,hp,hl,hs.own hg fun r e=>⟨by have:=(hr r e).1;omega,(hr r e).2⟩⟩
 case h0=>exact⟨⟨_,none,h3,Gw.nil _ _ _,fun _ h=>by cases h⟩,h2,by simp only[List.length_nil];omega,k4⟩
 case hAx=>
  rintro x a' _ W W' row ⟨ρ,bx,q1,q2,q3,q4,q5⟩ hg hr
  exact⟨ρ,bx,q1,q2,q3,q4,vY hg (fun r e=>(hr r e).2) q5⟩
 case assign=>
  intro l pre x W K hI hK
  have hact:({ tmps:=(#[20].zip (Zw x)).foldl (fun t (p,v)=>t.setIfInBounds p v) (act 30 ρ4 []).tmps,defers:=[] }:Act)=act 30 (upd ρ4 (some 20) (.agg (List.toArray [.int .i64 x.kind,.int .i64 x.n,κs x.s,.int .i64 x.at_,.int .i64 x.len]))) []:=by
   rw[← jT]
   simp[Zw,gz,Act.put]
   rfl
  rw[hact]
  refine piece (Or.inr ⟨l,rfl⟩) (K:=fun ρ W'=>Kp [] W W'∧ρ 9=pt (w.heap.size+1) 0∧ρ 11=pt (w.heap.size+2) 0∧∃bx,ρ 12=pt bx 0∧W'.heap[bx]?=some (cl [.int .i64 x.kind,.int .i64 x.n,κs x.s,.int .i64 x.at_,.int .i64 x.len] 52)) ?_ ?_
  ·rw[Lh]
   unfold JG
   rw[show upd ρ4 (some 20) (.agg (List.toArray [.int .i64 x.kind,.int .i64 x.n,κs x.s,.int .i64 x.at_,.int .i64 x.len])) 20=.agg (List.toArray [.int .i64 x.kind,.int .i64 x.n,κs x.s,.int .i64 x.at_,.int .i64 x.len])from rfl]
   repeat' first|refine .x ?_|refine .y ?_|refine .z ?_|fail
   exact⟨by exact kpA,e9,e11,_,rfl,by exact lookA⟩
  ·rintro ρ' W' ⟨k,q9,q11,bx,q12,hbx⟩
   have:=lt_of_heap hI.out.choose_spec.choose_spec.1
   exact hK _ W' (XE k) (kr_kp k this) (hI.ext k) ⟨ρ',bx,rfl,q9,q11,q12,hbx⟩
 case body=>
  rintro l pre x a' W hl _ hI ⟨ρ,bx,rfl,q9,q11,q12,hbx⟩ hlt
  obtain⟨K,hK⟩:∃K:World→Prop,K=fun W'=>KeepsFrom w4.heap.size W W'∧Kr (w.heap.size+2) W W'∧FI w (w.heap.size+1) (w.heap.size+2) most.toNat (pre++[x]) W':=⟨_,rfl⟩
  obtain⟨X,hX⟩:∃X:World→Prop,X=fun W'=>KeepsFrom w4.heap.size W W'∧FX w (w.heap.size+1) (w.heap.size+2) most.toNat (.exit 0) (pre++[x]) W':=⟨_,rfl⟩
  refine wpIn_mono (xy (keep:=[]) (E:=nE) (Or.inr ⟨l,rfl⟩) (ds:=[]) (rB Es) (bQ K X) ρ W ?_) ?_
  ·rw[Le]
   unfold JF
   rw[q9,q11,q12]
   have hI0:=hI
   obtain⟨⟨v,o,x1,x2,x3⟩,x4,x5,x6⟩:=hI
   obtain⟨va,vc,rfl⟩:=x2.len
   repeat' first|refine .x ?_|refine .y ?_|refine .z ?_|fail
   refine .split (fun hh=>?_) (fun hh=>?_)
   ·have hh':(pre.length:Int)=most.toNat:=of_decide_eq_true hh
    rw[hX]
    exact⟨XE (Kp.refl _ _),rfl,pre,x,rfl,hh',hI0⟩
   ·have hh':¬ (pre.length:Int)=most.toNat:=of_decide_eq_false hh
    have o1:o≠some (w.heap.size+2):=fun e=>by
     obtain⟨a,y⟩:=x2
     subst e
     obtain⟨_,_,_,y,_⟩:=y
     rw[x1]at y
     exact XV (by decide) (Option.some.inj y)
    have o2:o≠some (w.heap.size+1):=fun e=>by
     obtain⟨a,y⟩:=x2
     subst e
     obtain⟨_,_,_,y,_⟩:=y
     rw[x4]at y
     exact XV (by decide) (Option.some.inj y)
    have hz:=lt_of_heap x1
    have hz1:=lt_of_heap x4
    repeat' first|refine .x ?_|refine .y ?_|refine .z ?_|fail
    refine Ap.w (fun w9=>Kp [] W w9∧W.heap.size<w9.heap.size∧w9.heap[W.heap.size]?=some (cl (gz x) 52)) ⟨by exact kpA,by simp,by unfold gz;exact lookA⟩ ?_
    rintro w9 ⟨k9,z9,n9⟩
    refine Ap.g (x2.kp k9 (fun _ _=>trivial)) n9 rfl rfl ?_ (by omega)
    intro v' w10 o' g10 ho' k10
    have z10:=k10.size
    have c10:w10.heap[w.heap.size+2]?=some (cl [.slice va pre.length vc] 34):=(k10.same _ (by omega) (aB o1)).trans ((k9.same _ hz trivial).trans x1)
    obtain⟨aa',ca',rfl⟩:=g10.len
    repeat' first|refine .x ?_|refine .y ?_|refine .z ?_|fail
    have k11:Kp [(w.heap.size+2,w.heap.size+2+1)] w10 (ah w10 (w.heap.size+2) (cl [.slice aa' (pre.length+1) ca'] 34)):=by exact kpA
    have c11:(ah w10 (w.heap.size+2) (cl [.slice aa' (pre.length+1) ca'] 34)).heap[w.heap.size+2]?=some (cl [.slice aa' (pre.length+1) ca'] 34):=by exact lookA
    generalize ah w10 (w.heap.size+2) (cl [.slice aa' (pre.length+1) ca'] 34)=w11 at *
    have z11:=k11.size
    have same:∀i,i<W.heap.size→o≠some i→i≠w.heap.size+2→w11.heap[i]?=W.heap[i]?:=fun i hi ho hne=>
     (k11.same i (by omega) ⟨by omega,trivial⟩).trans ((k10.same i (by omega) (aB ho)).trans (k9.same i hi trivial))
    have hoc:∀i,o=some i→∃l,va=some ⟨i,0,none⟩∧W.heap[i]?=some (cl l 52):=by
     rintro i rfl
     obtain⟨_,rest,cp,y1,y2,_⟩:=x2
     cases y1
     exact⟨_,rfl,y2⟩
    rw[hK]
    refine⟨⟨by omega,fun k ob _ hk hc=>(same k (lt_of_heap hk) (fun e=>?_) (fun e=>?_)).trans hk⟩,⟨by omega,fun i ob hi _ hm=>(same i (lt_of_heap hi) (fun e=>?_) (fun e=>hm (Or.inl e))).trans hi,fun i hm=>?_⟩,⟨⟨_,o',c11,?_,?_⟩,(same _ hz1 o2 (by omega)).trans x4,?_,?_⟩⟩
    ·obtain⟨l,_,y⟩:=hoc k e
     rw[y]at hk;cases hk;cases hc
    ·subst e;rw[x1]at hk;cases hk;cases hc
    ·obtain⟨l,y,_⟩:=hoc i e
     exact hm (Or.inr ⟨_,_,by rw[x1,y]⟩)
    ·rcases hm with rfl|⟨n,c,hm⟩
     ·exact Or.inl (Or.inl rfl)
     ·rw[c11]at hm
      have hm:aa'=some ⟨i,0,none⟩:=by simp[cl]at hm;exact hm.1
      subst hm
      have ho2:o'=some i:=by
       obtain⟨_,y⟩:=g10
       cases o' with
       |none=>obtain⟨y,_⟩:=y;cases y
       |some q=>obtain⟨_,_,y,_⟩:=y;cases y;rfl
      rcases ho' with e|e
      ·obtain⟨l,y,_⟩:=hoc i (e.symm.trans ho2)
       exact Or.inl (Or.inr ⟨_,_,by rw[x1,y]⟩)
      ·rw[ho2]at e;cases e;exact Or.inr (by omega)
    ·have g11:=g10.kp k11 (fun i hi=>⟨?_,trivial⟩)
     ·rw[List.length_append,Ac];exact g11
     ·rcases ho' with e|e
      ·rw[e]at hi;have:i≠w.heap.size+2:=fun q=>o1 (by rw[hi,q]);omega
      ·rw[hi]at e;cases e;omega
    ·intro i hi
     rcases ho' with e|e
     ·exact x3 i (e▸hi)
     ·rw[hi]at e;cases e;have:=x6.size;omega
    ·rw[List.length_append];simp only[List.length_cons,List.length_nil];omega
    ·refine⟨k11.os.trans (k10.os.trans (k9.os.trans x6.os)),k11.tape.trans (k10.tape.trans (k9.tape.trans x6.tape)),k11.output.trans (k10.output.trans (k9.output.trans x6.output)),by have:=x6.size;omega,fun i hi _=>(same i (by have:=x6.size;omega) (fun e=>?_) (by omega)).trans (x6.same i hi trivial)⟩
     have:=x3 i e
     omega
  ·intro e a w' hp
   cases e with
   |normal=>obtain⟨ρ',rfl,_,hq⟩:=hp;rw[hK]at hq;exact hq
   |exit i=>
    obtain⟨ρ',rfl,_,hq⟩:=hp
    cases i with
    |zero=>rw[hX]at hq;exact hq
    |succ i=>exact hq.elim
   |panic ch=>exact hp.2.elim
   |outgrown=>exact hp.elim
   |ret=>obtain⟨_,_,_,hq⟩:=hp;exact hq.elim
   |goto i=>obtain⟨_,_,_,hq⟩:=hp;exact hq.elim
 case done=>
  rintro D xs W hD rfl hI hdef
  exact hfin D _ W hD (List.take_of_length_le (by have:=hI.le;omega)).symm hI hdef
 case stop=>
  rintro D c pre W hD hpre ⟨rfl,p,x,rfl,hl,hI⟩ hdef
  refine wpIn_exit ?_
  refine hfin D p W hD ?_ hI hdef
  have:=List.prefix_iff_eq_take.mp ((List.prefix_append p [x]).trans hpre)
  rw[show p.length=most.toNat by omega]at this
  exact this
end Go.W.T

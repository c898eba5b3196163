/- Texts of mine, one behind the other; nothing is assumed. -/
import Derived.Test.YtaaepbggooiblaaGreatDoorB15
import Derived.Test.YtaaepbggooiblaaGreatDoorB24
import Derived.Test.YtaaepbggooiblaaGreatDoorB05
import Derived.Test.YtaaepbggooiblaaGreatDoorB07
set_option linter.unusedSimpArgs false
set_option linter.unusedVariables false
set_option maxRecDepth 4000
namespace Go.W.T
open Go Go.W Go.M Go.Proofs
theorem WC:Idle P 57:=fun v1 v2 w=>by
 refine(F7 (keep:=[]) (args:=[v1,v2]) (R:=fun en w'=>(∃v,en=.returned v)∧w'=w) Tryz.func57 rfl rfl ?_).mono ?_
 ·rw[qU]
  unfold jX
  repeat' first|refine .x ?_|refine .y ?_|refine .z ?_|fail
  exact⟨⟨_,rfl⟩,rfl⟩
 ·rintro en u' w' ⟨h1,h2,h3⟩
  exact⟨h2,h1,h3⟩
theorem WE:Idle P 30:=fun v1 v2 w=>by
 refine(F7 (keep:=[]) (args:=[v1,v2]) (R:=fun en w'=>(∃v,en=.returned v)∧w'=w) Tryz.func30 rfl rfl ?_).mono ?_
 ·rw[uP]
  unfold oM
  repeat' first|refine .x ?_|refine .y ?_|refine .z ?_|fail
  exact⟨⟨_,rfl⟩,rfl⟩
 ·rintro en u' w' ⟨h1,h2,h3⟩
  exact⟨h2,h1,h3⟩
def ErrAt(w:World)(e a:Nat)(v:Value):Prop:=∃fb,v=.iface BI (pt fb 0)∧w.heap[fb]?=some (cl [i64 e,i64 a] FD)
theorem XT{R:Ending→World→Prop}{w:World}{lb eb e a:Nat}{x y:Value}{t1 t2:TypeId}{ch:List PanicEntry}(hf:Flt e a ch w)(hl:w.heap[lb]?=some (cl [x] t1))(he:w.heap[eb]?=some (cl [y] t2))(hne:lb≠eb)
  (h:∀v w3,Kp [(lb,lb+1),(eb,eb+1)] w w3→ErrAt w3 e a v→R (.returned (.tuple #[.slice none 0 0,v])) w3):dE R 57 (pt lb 0) (pt eb 0) ch w:=by
 obtain⟨b,rfl,hb⟩:=hf
 have hbl:b≠lb:=by rintro rfl;rw[hl]at hb;simp[cl]at hb
 have hbe:b≠eb:=by rintro rfl;rw[he]at hb;simp[cl]at hb
 have hll:=lt_of_heap hl
 have hle:=lt_of_heap he
 have hlb:=lt_of_heap hb
 refine⟨pt b 0,rfl,?_⟩
 refine(Eg (keep:=[]) (args:=[pt lb 0,pt eb 0]) (R:=fun en w'=>en=.returned (.tuple #[])∧w'=ah (ah w lb (cl [.slice none 0 0] t1)) eb (cl [.iface 63 (pt b 0)] t2)) Tryz.func57 rfl rfl ?_).mono ?_
 ·rw[qU]
  unfold jX
  repeat' first|refine .x ?_|refine .y ?_|refine .z ?_|fail
  rfl
 ·rintro en u' w' ⟨rfl,rfl,rfl⟩
  refine⟨⟨_,rfl⟩,rfl,?_⟩
  have k:Kp [(lb,lb+1),(eb,eb+1)] w (ah (ah w lb (cl [.slice none 0 0] t1)) eb (cl [.iface 63 (pt b 0)] t2)):=by exact kpA
  repeat' first|refine .x ?_|refine .y ?_|refine .z ?_|fail
  refine h _ _ k ⟨b,rfl,?_⟩
  exact(k.same b hlb ⟨by omega,by omega,trivial⟩).trans hb
def UW(b:By)(r:Res (MS DS)):Res (List Nd):=r.andThen fun s=>if s.d.pos<b.length then .no 20 s.d.pos else .ok s.d.l
def DecAt(n0:Nat)(w:World)(m:Res (List Nd))(v:Value):Prop:=match m with
 |.ok l=>∃lv o,v=.tuple #[lv,.nilIface]∧Gw w dK 5 lv l.length (aJ l) o∧∀b,o=some b→n0≤b
 |.no e a=>∃ev,v=.tuple #[.slice none 0 0,ev]∧ErrAt w e a ev
theorem TA{w:World}{cp:Value}{T:List Nat}{L:List Ins}{tabs:List Tab}(hc:MC w cp T L tabs)(hL:∀i∈L,wY L.length tabs i=true){lim:Lim}{b:By}{pc n:Nat}{r:Res (MS DS)}
  (hr:rH L lim (Bc L tabs lim) n ⟨pc,[],[],⟨b,0,[]⟩⟩=some r) (hd:lim.depth≤1000000) (hf:lim.fuel≤1000000) (hb:b.length<1000000000):
  Calls P ER #[cp,i64 (pc:Nat),κs b,.agg #[.int .i64 lim.depth,.int .i64 lim.fuel,.int .i64 lim.size]] w (Ret fun v w'=>Kp [] w w'∧DecAt w.heap.size w' (UW b r) v):=by
 refine Ret.R fun R hR=>?_
 refine Dy WC ?_
 unfold oN
 obtain⟨cb,rfl⟩:∃cb,cp=pt cb 0:=by obtain⟨cb,lb,m1,m2,m3,cells,rest,cap,h,_⟩:=hc.c;exact⟨cb,h⟩
 refine .s ?_
 refine .s ?_
 refine .s ?_
 have s6:(((w.alloc (cl [.int .i64 lim.depth,.int .i64 lim.fuel,.int .i64 lim.size] 32)).alloc (cl [.slice none 0 0] 34)).alloc (cl [.nilIface] 24)).heap.size=w.heap.size+3:=by simp only[size_alloc]
 have k6:Kp [] w (((w.alloc (cl [.int .i64 lim.depth,.int .i64 lim.fuel,.int .i64 lim.size] 32)).alloc (cl [.slice none 0 0] 34)).alloc (cl [.nilIface] 24)):=by exact kpA
 have n1:(((w.alloc (cl [.int .i64 lim.depth,.int .i64 lim.fuel,.int .i64 lim.size] 32)).alloc (cl [.slice none 0 0] 34)).alloc (cl [.nilIface] 24)).heap[w.heap.size]?=some (cl [.int .i64 lim.depth,.int .i64 lim.fuel,.int .i64 lim.size] 32):=by exact lookA
 have n3:(((w.alloc (cl [.int .i64 lim.depth,.int .i64 lim.fuel,.int .i64 lim.size] 32)).alloc (cl [.slice none 0 0] 34)).alloc (cl [.nilIface] 24)).heap[w.heap.size+1]?=some (cl [.slice none 0 0] 34):=by exact lookA
 have n5:(((w.alloc (cl [.int .i64 lim.depth,.int .i64 lim.fuel,.int .i64 lim.size] 32)).alloc (cl [.slice none 0 0] 34)).alloc (cl [.nilIface] 24)).heap[w.heap.size+2]?=some (cl [.nilIface] 24):=by exact lookA
 generalize (((w.alloc (cl [.int .i64 lim.depth,.int .i64 lim.fuel,.int .i64 lim.size] 32)).alloc (cl [.slice none 0 0] 34)).alloc (cl [.nilIface] 24))=w6 at *
 repeat' first|refine .x ?_|refine .y ?_|refine .z ?_|fail
 refine Cl.w (fun w9=>Kp [] w6 w9∧w6.heap.size+2≤w9.heap.size∧w9.heap[w6.heap.size]?=some (cl (uo ⟨b,0,[]⟩ (.slice none 0 0) lim (pt cb 0)) bz)∧w9.heap[w6.heap.size+1]?=some (cl (Am (pt cb 0) (.iface 142 (pt w6.heap.size 0)) lim 0 (.slice none 0 0) (.slice none 0 0)) az))
  ⟨by exact kpA,by simp only[size_alloc];omega,by show _=some (cl [κs b,.int .i64 0,.slice none 0 0,.int .i64 lim.depth,.int .i64 lim.fuel,.int .i64 lim.size,pt cb 0] 146);exact lookA,by show _=some (cl [pt cb 0,.int .i64 lim.depth,.int .i64 lim.fuel,.int .i64 lim.size,.iface 142 (pt w6.heap.size 0),.int .i64 0,.slice none 0 0,.slice none 0 0] 154);exact lookA⟩ ?_
 rintro w9 ⟨k9,z9,nd,nm⟩
 have hrun:=Yk (w0:=w6) (mb:=w6.heap.size+1) (cp:=pt cb 0) (iv:=.iface 142 (pt w6.heap.size 0)) (me:=pt w6.heap.size 0) (lim:=lim) (io:=Bc L tabs lim) (Inv:=fun F w d=>DR w6.heap.size w6.heap.size (pt cb 0) lim F w d)
  (T:=T) (L:=L) (tabs:=tabs) (n:=n) (s:=⟨pc,[],[],⟨b,0,[]⟩⟩) (F:=fun i=>i=w6.heap.size) (G:=fun i=>i=w6.heap.size+1) (w:=w9) (r:=r) (readC (hc.kp k6) hL) (hc.kp k6) hL hd
  {hM:=Nat.le_refl _,c:=⟨_,none,nd,Gw.nil _ _ _,(fun b h=>by cases h)⟩,fd:=rfl,fM:=fun b e=>by rw[e];exact Nat.le_refl _,fl:=fun b e=>by rw[e];omega,pos:=Nat.zero_le _,bl:=hb,lf:=hf }
  {hM:=by omega,c:=⟨_,_,none,none,nm,Gw.nil _ _ _,Gw.nil _ _ _,(fun b h=>by cases h),(fun b h=>by cases h)⟩,gm:=rfl,gM:=fun b e=>by rw[e];omega,gl:=fun b e=>by rw[e];omega,bl:=by simp,ll:=by simp,lv:=by simp }
  (fun i h1 h2=>by omega) k9 hr
 have hlc:∀{w':World},Kp [] w6 w'→w'.heap[w.heap.size+1]?=some (cl [.slice none 0 0] 34):=fun k=>(k.same _ (by omega) trivial).trans n3
 have hec:∀{w':World},Kp [] w6 w'→w'.heap[w.heap.size+1+1]?=some (cl [.nilIface] 24):=fun k=>(k.same _ (by omega) trivial).trans n5
 refine Cl.by hrun ?_ ?_ ?_
 ·rintro v w1 ⟨k1,h2⟩
  cases r with
  |no e a=>obtain⟨ch,hv,_⟩:=h2;cases hv
  |ok s'=>
   obtain⟨F',hv,hD⟩:=h2
   cases hv
   obtain⟨lv,o,c1,c2,c3⟩:=hD.c
   have hdb:=hD.fM
   have hlt:=lt_of_heap c1
   refine Jn.by (fun _ w'=>w'=w1∧¬ s'.d.pos<b.length) (fun J hJ=>?_) ?_
   ·repeat' first|refine .x ?_|refine .y ?_|refine .z ?_|fail
    refine .split (fun hc=>?_) (fun hc=>?_)
    ·have hc':(s'.d.pos:Int)<(b.length:Nat):=of_decide_eq_true hc
     repeat' first|refine .x ?_|refine .y ?_|refine .z ?_|fail
     refine Cl.BP fun ch w2 hF k2=>?_
     refine XT hF (hlc (k1.tt k2)) (hec (k1.tt k2)) (by omega) ?_
     intro v w3 k3 hE
     refine hR _ _ ⟨(k6.tt (k1.tt k2)).trans k3 (fun i hi _=>⟨trivial,by omega,by omega,trivial⟩),?_⟩
     rw[UW,Res.dw,if_pos (by omega)]
     exact⟨v,rfl,hE⟩
    ·have hc':¬ (s'.d.pos:Int)<(b.length:Nat):=of_decide_eq_false hc
     exact hJ _ _ ⟨rfl,by omega⟩
   ·rintro _ w' jk ⟨rfl,hle⟩
    have hl1:=hlc k1
    have he1:=hec k1
    obtain⟨la,lc,rfl⟩:=c2.len
    have hob:∀b,o=some b→w6.heap.size≤b:=fun b hb=>hdb b (c3 b hb).2
    have hz:=k1.size
    repeat' first|refine .x ?_|refine .y ?_|refine .z ?_|fail
    refine(fun(Q:∀w9,Kp [(w.heap.size+1,w.heap.size+2),(w.heap.size+1+1,w.heap.size+3)] w' w9→R (.returned (.tuple #[.slice la s'.d.l.length lc,.nilIface])) w9)=>Q _ (by exact kpA)) ?_
    intro w3 k3
    refine hR _ _ ⟨(k6.tt k1).trans k3 (fun i hi _=>⟨trivial,by omega,by omega,trivial⟩),?_⟩
    rw[UW,Res.dw,if_neg hle]
    exact⟨_,o,rfl,c2.kp k3 (fun b hb=>by have:=hob b hb;exact⟨by omega,by omega,trivial⟩),fun b hb=>by have:=hob b hb;omega⟩
 ·rintro ch w1 ⟨k1,h2⟩
  cases r with
  |ok s'=>obtain⟨_,hv,_⟩:=h2;cases hv
  |no e a=>
   obtain⟨ch',hv,hF⟩:=h2
   cases hv
   refine XT hF (hlc k1) (hec k1) (by omega) ?_
   intro v w3 k3 hE
   refine hR _ _ ⟨?_,v,rfl,hE⟩
   exact(k6.tt k1).trans k3 (fun i hi _=>⟨trivial,by omega,by omega,trivial⟩)
 ·rintro w1 ⟨k1,h2⟩
  cases r with
  |ok s'=>obtain⟨_,hv,_⟩:=h2;cases hv
  |no e a=>obtain⟨_,hv,_⟩:=h2;cases hv
end Go.W.T
namespace Go.W.T
open Go Go.W Go.M Go.Proofs
end Go.W.T
namespace Go.W.T
open Go Go.W Go.M Go.Proofs
theorem XU{R:Ending→World→Prop}{w:World}{lb eb e a:Nat}{x y:Value}{t1 t2:TypeId}{ch:List PanicEntry}(hf:Flt e a ch w)(hl:w.heap[lb]?=some (cl [x] t1))(he:w.heap[eb]?=some (cl [y] t2))(hne:lb≠eb)
  (h:∀v w3,Kp [(lb,lb+1),(eb,eb+1)] w w3→ErrAt w3 e a v→R (.returned (.tuple #[.pointer none,v])) w3):dE R 30 (pt lb 0) (pt eb 0) ch w:=by
 obtain⟨b,rfl,hb⟩:=hf
 have hbl:b≠lb:=by rintro rfl;rw[hl]at hb;simp[cl]at hb
 have hbe:b≠eb:=by rintro rfl;rw[he]at hb;simp[cl]at hb
 have hll:=lt_of_heap hl
 have hle:=lt_of_heap he
 have hlb:=lt_of_heap hb
 refine⟨pt b 0,rfl,?_⟩
 refine(Eg (keep:=[]) (args:=[pt lb 0,pt eb 0]) (R:=fun en w'=>en=.returned (.tuple #[])∧w'=ah (ah w lb (cl [.pointer none] t1)) eb (cl [.iface 63 (pt b 0)] t2)) Tryz.func30 rfl rfl ?_).mono ?_
 ·rw[uP]
  unfold oM
  repeat' first|refine .x ?_|refine .y ?_|refine .z ?_|fail
  rfl
 ·rintro en u' w' ⟨rfl,rfl,rfl⟩
  refine⟨⟨_,rfl⟩,rfl,?_⟩
  have k:Kp [(lb,lb+1),(eb,eb+1)] w (ah (ah w lb (cl [.pointer none] t1)) eb (cl [.iface 63 (pt b 0)] t2)):=by exact kpA
  repeat' first|refine .x ?_|refine .y ?_|refine .z ?_|fail
  refine h _ _ k ⟨b,rfl,?_⟩
  exact(k.same b hlb ⟨by omega,by omega,trivial⟩).trans hb
def Eo(n:Nat)(w2 w:World):Prop:=w2.heap.size≤w.heap.size∧∀b,n≤b→b<w2.heap.size→w.heap[b]?=w2.heap[b]?
theorem Eo.kp{n:Nat}{w2 w w':World}{X:List (Nat×Nat)}(h:Eo n w2 w)(k:Kp X w w')(hx:∀b,n≤b→Out X b):Eo n w2 w':=
 ⟨Nat.le_trans h.1 k.size,fun b hb hl=>(k.same b (Nat.lt_of_lt_of_le hl h.1) (hx b hb)).trans (h.2 b hb hl)⟩
def uA(w:World)(ds:List Def)(c:CS)(v:Value):Prop:=∃sb dv n w1 w2 B H ρ T,v=pt sb 0∧w.heap[sb]?=some (cl [dv,pt (B+3) 0] 71)∧P8 n w1 ds dv∧Eo n w1 w∧n≤B∧CR B H ρ T w2 c∧Eo n w2 w
theorem uA.kp0{w w':World}{ds:List Def}{c:CS}{v:Value}(h:uA w ds c v)(k:Kp [] w w'):uA w' ds c v:=by
 obtain⟨sb,dv,n,w1,w2,B,H,ρ,T,h1,h2,h3,h4,h5,h6,h7⟩:=h
 exact⟨sb,dv,n,w1,w2,B,H,ρ,T,h1,(k.same _ (lt_of_heap h2) trivial).trans h2,h3,h4.kp k (fun _ _=>trivial),h5,h6,h7.kp k (fun _ _=>trivial)⟩
theorem Gl.kp0{w w':World}(h:Gl w)(k:Kp [] w w'):Gl w':=h.kp k (fun _ _=>trivial)
def IM(w:World)(txt:By)(v:Value):Prop:=
 if 1200<txt.length then ∃ev,v=.tuple #[.pointer none,ev]∧ErrAt w 1 0 ev
 else match parse txt with
  |.no e a=>∃ev,v=.tuple #[.pointer none,ev]∧ErrAt w e a ev
  |.ok ds=>match compile ds with
   |.no e a=>∃ev,v=.tuple #[.pointer none,ev]∧ErrAt w e a ev
   |.ok c=>∃sv names,v=.tuple #[sv,.nilIface]∧List.Perm names (c.start.map (·.1))∧uA w ds (bC c names) sv
theorem Yp{w:World}{txt:By}(hg:Gl w)(hf:∀ds,parse txt=.ok ds→fine ds=true)(hlen:txt.length≤140737488355328):
  Calls P Ih #[κs txt] w (Ret fun v w'=>Kp [] w w'∧Gl w'∧IM w' txt v):=by
 refine Ret.R fun R hR=>?_
 refine Gi WE ?_
 unfold sU
 unfold IM at hR
 refine .s ?_
 refine .s ?_
 have k4:Kp [] w ((w.alloc (cl [.pointer none] 22)).alloc (cl [.nilIface] 24)):=by exact kpA
 have n1:((w.alloc (cl [.pointer none] 22)).alloc (cl [.nilIface] 24)).heap[w.heap.size]?=some (cl [.pointer none] 22):=by exact lookA
 have n3:((w.alloc (cl [.pointer none] 22)).alloc (cl [.nilIface] 24)).heap[w.heap.size+1]?=some (cl [.nilIface] 24):=by exact lookA
 have z4:((w.alloc (cl [.pointer none] 22)).alloc (cl [.nilIface] 24)).heap.size=w.heap.size+2:=by simp only[size_alloc]
 generalize ((w.alloc (cl [.pointer none] 22)).alloc (cl [.nilIface] 24))=w4 at *
 have hg4:=hg.kp0 k4
 have hlc:∀{w':World},Kp [] w4 w'→w'.heap[w.heap.size]?=some (cl [.pointer none] 22):=fun k=>(k.same _ (by omega) trivial).trans n1
 have hec:∀{w':World},Kp [] w4 w'→w'.heap[w.heap.size+1]?=some (cl [.nilIface] 24):=fun k=>(k.same _ (by omega) trivial).trans n3
 repeat' first|refine .x ?_|refine .y ?_|refine .z ?_|fail
 refine .split (fun hc=>?_) (fun hc=>?_)
 ·have hc':(txt.length:Int)>1200:=of_decide_eq_true hc
  simp only[if_pos (show 1200<txt.length by omega)]at hR
  repeat' first|refine .x ?_|refine .y ?_|refine .z ?_|fail
  refine(fun(Q:∀w9,Kp [(w.heap.size,w.heap.size+1),(w.heap.size+1,w.heap.size+2)] w4 w9∧w9.heap[w4.heap.size]?=some (cl [i64 1,i64 0] 65)→R (.returned (.tuple #[.pointer none,.iface 63 (pt w4.heap.size 0)])) w9)=>Q _ ⟨by exact kpA,by exact lookA⟩) ?_
  rintro w9 ⟨k9,n9⟩
  have k09:Kp [] w w9:=k4.trans k9 (fun i hi _=>⟨trivial,by omega,by omega,trivial⟩)
  exact hR _ _ ⟨k09,hg.kp0 k09,_,rfl,_,rfl,n9⟩
 ·have hc':¬ (txt.length:Int)>1200:=of_decide_eq_false hc
  simp only[if_neg (show ¬ 1200<txt.length by omega)]at hR
  refine Cl.by (VC hg4 (by omega)) ?_ ?_ ?_
  ·rintro v w1 ⟨k1,h2⟩
   cases hp:parse txt with
   |no e a=>rw[hp]at h2;obtain⟨_,hv,_⟩:=h2;cases hv
   |ok ds=>
    rw[hp]at h2
    simp only[hp]at hR
    obtain⟨dv,hv,hg1,hds⟩:=h2
    cases hv
    refine Cl.by (Rj hg1 hds (hf ds hp)) ?_ ?_ ?_
    ·rintro v w2 ⟨k2,h3⟩
     cases hcm:compile ds with
     |no e a=>rw[hcm]at h3;obtain⟨_,hv,_⟩:=h3;cases hv
     |ok c=>
      rw[hcm]at h3
      simp only[hcm]at hR
      obtain⟨cv,hv,hg2,names,hperm,hcode⟩:=h3
      cases hv
      have k42:=k1.tt k2
      have z2:=k42.size
      have hl1:=hlc k42
      have he1:=hec k42
      obtain⟨H',l',o',q1,q2,q3,q4,q5⟩:=hds
      have q4:=q4
      obtain⟨da,dc,rfl⟩:=q4.len
      obtain⟨B,Hc,ρ,Tc,r1,rfl,r3⟩:=hcode
      repeat' first|refine .x ?_|refine .y ?_|refine .z ?_|fail
      refine(fun(Q:∀w9,Kp [(w.heap.size,w.heap.size+1),(w.heap.size+1,w.heap.size+2)] w2 w9∧w9.heap[w2.heap.size]?=some (cl [.slice da ds.length dc,pt (B+3) 0] 71)→R (.returned (.tuple #[pt w2.heap.size 0,.nilIface])) w9)=>Q _ ⟨by exact kpA,by exact lookA⟩) ?_
      rintro w9 ⟨k9,n9⟩
      have k09:Kp [] w w9:=(k4.tt k42).trans k9 (fun i hi _=>⟨trivial,by omega,by omega,trivial⟩)
      have o1:Eo w4.heap.size w1 w9:=(show Eo w4.heap.size w1 w2 from ⟨k2.size,fun b _ hl=>k2.same b hl trivial⟩).kp k9 (fun b hb=>⟨by omega,by omega,trivial⟩)
      have o2:Eo w4.heap.size w2 w9:=(show Eo w4.heap.size w2 w2 from ⟨Nat.le_refl _,fun b _ _=>rfl⟩).kp k9 (fun b hb=>⟨by omega,by omega,trivial⟩)
      exact hR _ _ ⟨k09,hg.kp0 k09,_,names,rfl,hperm,w2.heap.size,_,w4.heap.size,w1,w2,B,Hc,ρ,Tc,rfl,n9,⟨H',l',o',q1,q2,q3,q4,q5⟩,o1,by have:=k1.size;omega,r3,o2⟩
    ·rintro ch w2 ⟨k2,h3⟩
     cases hcm:compile ds with
     |ok c=>rw[hcm]at h3;obtain⟨_,hv,_⟩:=h3;cases hv
     |no e a=>
      rw[hcm]at h3
      simp only[hcm]at hR
      obtain⟨ch',hv,hF⟩:=h3
      cases hv
      refine XU hF (hlc (k1.tt k2)) (hec (k1.tt k2)) (by omega) ?_
      intro v w3 k3 hE
      have k03:Kp [] w w3:=(k4.tt (k1.tt k2)).trans k3 (fun i hi _=>⟨trivial,by omega,by omega,trivial⟩)
      exact hR _ _ ⟨k03,hg.kp0 k03,v,rfl,hE⟩
    ·rintro w2 ⟨k2,h3⟩
     cases hcm:compile ds with
     |ok c=>rw[hcm]at h3;obtain⟨_,hv,_⟩:=h3;cases hv
     |no e a=>rw[hcm]at h3;obtain⟨_,hv,_⟩:=h3;cases hv
  ·rintro ch w1 ⟨k1,h2⟩
   cases hp:parse txt with
   |ok ds=>rw[hp]at h2;obtain⟨_,hv,_⟩:=h2;cases hv
   |no e a=>
    rw[hp]at h2
    simp only[hp]at hR
    obtain⟨ch',hv,hF⟩:=h2
    cases hv
    refine XU hF (hlc k1) (hec k1) (by omega) ?_
    intro v w3 k3 hE
    have k03:Kp [] w w3:=(k4.tt k1).trans k3 (fun i hi _=>⟨trivial,by omega,by omega,trivial⟩)
    exact hR _ _ ⟨k03,hg.kp0 k03,v,rfl,hE⟩
  ·rintro w1 ⟨k1,h2⟩
   cases hp:parse txt with
   |ok ds=>rw[hp]at h2;obtain⟨_,hv,_⟩:=h2;cases hv
   |no e a=>rw[hp]at h2;obtain⟨_,hv,_⟩:=h2;cases hv
end Go.W.T
namespace Go.W.T
open Go Go.W Go.M Go.Proofs
abbrev E5(l:Lim):Value:=.agg #[.int .i64 l.depth,.int .i64 l.fuel,.int .i64 l.size]
theorem Vq{w:World}(l:Lim):Calls P yH #[E5 l] w (Ret fun v w'=>v=.bool l.valid∧Kp [] w w'):=by
 refine Ret.R fun R hR=>?_
 apply Gq
 unfold yE
 have hR':∀(b:Bool) w',b=l.valid→Kp [] w w'→R (.returned (.bool b)) w':=fun b w' hb hk=>hR _ _ ⟨by rw[hb],hk⟩
 unfold Lim.valid at hR'
 refine .s ?_
 have k1:Kp [] w (w.alloc (cl [.int .i64 l.depth,.int .i64 l.fuel,.int .i64 l.size] 32)):=by exact kpA
 have n1:(w.alloc (cl [.int .i64 l.depth,.int .i64 l.fuel,.int .i64 l.size] 32)).heap[w.heap.size]?=some (cl [.int .i64 l.depth,.int .i64 l.fuel,.int .i64 l.size] 32):=by exact lookA
 generalize w.alloc (cl [.int .i64 l.depth,.int .i64 l.fuel,.int .i64 l.size] 32)=w1 at *
 refine .s ?_
 refine .s ?_
 refine .s ?_
 have g:∀a b:Int,decide (a≥b)=decide (b≤a):=fun _ _=>rfl
 rw[g]
 cases h1:decide (0≤l.depth)with
 |false=>
  rw[h1]at hR'
  repeat' first|refine .x ?_|refine .y ?_|refine .z ?_|fail
  exact hR' _ _ (by simp) k1
 |true=>
 cases h2:decide (l.depth≤64)with
 |false=>
  rw[h1,h2]at hR'
  repeat' first|refine .x ?_|refine .y ?_|refine .z ?_|fail
  exact hR' _ _ (by simp) k1
 |true=>
 have h3':decide (l.fuel≥0)=decide (0≤l.fuel):=rfl
 cases h3:decide (0≤l.fuel)with
 |false=>
  rw[h1,h2,h3]at hR'
  rw[h3]at h3'
  repeat' first|refine .x ?_|refine .y ?_|refine .z ?_|fail
  exact hR' _ _ (by simp) k1
 |true=>
 rw[h3]at h3'
 cases h4:decide (l.fuel≤10000)with
 |false=>
  rw[h1,h2,h3,h4]at hR'
  repeat' first|refine .x ?_|refine .y ?_|refine .z ?_|fail
  exact hR' _ _ (by simp) k1
 |true=>
 have h5':decide (l.size≥0)=decide (0≤l.size):=rfl
 cases h5:decide (0≤l.size)with
 |false=>
  rw[h1,h2,h3,h4,h5]at hR'
  rw[h5]at h5'
  repeat' first|refine .x ?_|refine .y ?_|refine .z ?_|fail
  exact hR' _ _ (by simp) k1
 |true=>
 rw[h5]at h5'
 rw[h1,h2,h3,h4,h5]at hR'
 repeat' first|refine .x ?_|refine .y ?_|refine .z ?_|fail
 exact hR' _ _ (by simp) k1
theorem uA.types{w:World}{ds:List Def}{d:CS}{v:Value}(h:uA w ds d v):∃sb dv B lv es ck,v=pt sb 0∧w.heap[sb]?=some (cl [dv,pt (B+3) 0] 71)∧w.heap[B+3]?=some (cl [lv,.map (some B),.map (some (B+1)),.map (some (B+2))] gU) ∧
  w.heap[B]?=some (.map es ck)∧MK κs es ck (d.types.map fun x=>(x.1,i64 (x.2:Nat)))∧(0<d.L.length→d.L.length<1000000→∃T,MC w (pt (B+3) 0) T d.L d.tabs):=by
 obtain⟨sb,dv,n,w1,w2,B,H,ρ,T,h1,h2,h3,h4,h5,h6,h7⟩:=h
 have hlt:=h6.lt
 have same:∀b,n≤b→b<w2.heap.size→w.heap[b]?=w2.heap[b]?:=h7.2
 obtain⟨lv,cells,o,a1,a2,a3,a4⟩:=h6.L
 obtain⟨es,ck,t1,t2⟩:=h6.types
 refine⟨sb,dv,B,lv,es,ck,h1,h2,(same _ (by omega) (by omega)).trans a1,(same _ (by omega) (by omega)).trans t1,t2,fun hl hm=>⟨T,?_⟩⟩
 have big:∀b,ρ b≠(0,0)→B+7≤b:=fun b hb=>by
  rcases Nat.lt_or_ge b (B+7)with h|h
  ·exact absurd (h6.low b h) hb
  ·exact h
 refine⟨?_,⟨h6.jU,fun i b l hb hl=>?_⟩,hm⟩
 ·cases o with
  |none=>obtain⟨_,_,h0⟩:=a2;omega
  |some b=>
   obtain⟨_,rest,cap,rfl,b2,b3⟩:=a2
   have hb:=big b (by rw[a4 b rfl];simp)
   exact⟨B+3,b,_,_,_,cells,rest,cap,rfl,(same _ (by omega) (by omega)).trans a1,(same b (by omega) (lt_of_heap b2)).trans b2,a3⟩
 ·obtain⟨x1,x2⟩:=h6.tabs i b l hb hl
  obtain⟨es,ck,y1,y2⟩:=x1
  have hbb:=big b (by rw[x2];simp)
  exact⟨es,ck,(same b (by omega) (lt_of_heap y1)).trans y1,y2⟩
theorem Ym{w:World}{ds:List Def}{d:CS}{v:Value}(h:uA w ds d v)(name:By)(lim:Lim):
  Calls P rq #[v,κs name,E5 lim] w (Ret fun r w'=>Kp [] w w'∧r=match d.types.lookup name with
   |none=>.tuple #[i64 0,.iface 54 (i64 10)]
   |some p=>if lim.valid then .tuple #[i64 (p:Nat),.nilIface]else .tuple #[i64 0,.iface 54 (i64 11)]):=by
 refine Ret.R fun R hR=>?_
 apply BD
 unfold qP
 obtain⟨sb,dv,B,lv,es,ck,rfl,h2,h3,h4,h5,_⟩:=h.types
 have hR':∀(r:Value) (w':World),Kp [] w w'→(r=match d.types.lookup name with
   |none=>.tuple #[i64 0,.iface 54 (i64 10)]
   |some p=>if lim.valid then .tuple #[i64 (p:Nat),.nilIface]else .tuple #[i64 0,.iface 54 (i64 11)])→R (.returned r) w':=fun r w' hk hr=>hR _ _ ⟨hk,hr⟩
 clear hR
 refine .s ?_
 have k1:Kp [] w (w.alloc (cl [.int .i64 lim.depth,.int .i64 lim.fuel,.int .i64 lim.size] 32)):=by exact kpA
 have n1:(w.alloc (cl [.int .i64 lim.depth,.int .i64 lim.fuel,.int .i64 lim.size] 32)).heap[w.heap.size]?=some (cl [.int .i64 lim.depth,.int .i64 lim.fuel,.int .i64 lim.size] 32):=by exact lookA
 generalize w.alloc (cl [.int .i64 lim.depth,.int .i64 lim.fuel,.int .i64 lim.size] 32)=w1 at *
 have e2:w1.heap[sb]?=_:=(k1.same _ (lt_of_heap h2) trivial).trans h2
 have e3:w1.heap[B+3]?=_:=(k1.same _ (lt_of_heap h3) trivial).trans h3
 have e4:w1.heap[B]?=_:=(k1.same _ (lt_of_heap h4) trivial).trans h4
 repeat' first|refine .x ?_|refine .y ?_|refine .z ?_|fail
 refine Lk.str h5 e4 ?_
 rw[ku (fun k:Nat=>i64 (k:Nat))]
 cases hl:d.types.lookup name with
 |none=>
  rw[hl]at hR'
  repeat' first|refine .x ?_|refine .y ?_|refine .z ?_|fail
  exact hR' _ _ k1 rfl
 |some p=>
  rw[hl]at hR'
  simp only[Option.map_some,Option.isSome_some,Option.getD_some]
  repeat' first|refine .x ?_|refine .y ?_|refine .z ?_|fail
  refine Cl.ret (Vq lim) ?_
  rintro v w2 ⟨rfl,k2⟩
  cases hv:lim.valid with
  |false=>
   rw[hv]at hR'
   repeat' first|refine .x ?_|refine .y ?_|refine .z ?_|fail
   exact hR' _ _ (k1.tt k2) rfl
  |true=>
   rw[hv]at hR'
   repeat' first|refine .x ?_|refine .y ?_|refine .z ?_|fail
   exact hR' _ _ (k1.tt k2) rfl
def Ve(n0:Nat)(w:World)(m:Oc (List Nd))(v:Value):Prop:=match m with
 |.ok l=>∃lv o,v=.tuple #[lv,.nilIface]∧Gw w dK 5 lv l.length (aJ l) o∧∀b,o=some b→n0≤b
 |.flt e a=>∃ev,v=.tuple #[.slice none 0 0,ev]∧ErrAt w e a ev
 |.num e=>v=.tuple #[.slice none 0 0,.iface 54 (i64 e)]
theorem Ri{w:World}{ds:List Def}{c d:CS}{v:Value}(h:uA w ds d v)(hw:Whole ds c d)(name b:By)(lim:Lim):
  Calls P iL #[v,κs name,κs b,E5 lim] w (Ret fun r w'=>Kp [] w w'∧Ve w.heap.size w' (uD d lim name b) r):=by
 refine Ret.R fun R hR=>?_
 apply yT
 unfold nP
 refine .s ?_
 have k1:Kp [] w (w.alloc (cl [.int .i64 lim.depth,.int .i64 lim.fuel,.int .i64 lim.size] 32)):=by exact kpA
 have n1:(w.alloc (cl [.int .i64 lim.depth,.int .i64 lim.fuel,.int .i64 lim.size] 32)).heap[w.heap.size]?=some (cl [.int .i64 lim.depth,.int .i64 lim.fuel,.int .i64 lim.size] 32):=by exact lookA
 generalize w.alloc (cl [.int .i64 lim.depth,.int .i64 lim.fuel,.int .i64 lim.size] 32)=w1 at *
 have h1:=h.kp0 k1
 refine .s ?_
 refine Cl.ret (Ym h1 name lim) ?_
 rintro r w2 ⟨k2,rfl⟩
 have k02:=k1.tt k2
 have hR':∀(r:Value) (w':World),Kp [] w w'→Ve w.heap.size w' (uD d lim name b) r→R (.returned r) w':=fun r w' hk hr=>hR _ _ ⟨hk,hr⟩
 clear hR
 have hhas:=hw.has name
 unfold uD at hR'
 cases hl:d.types.lookup name with
 |none=>
  rw[hl]at hhas
  rw[show (d.start.lookup name).isNone=true by cases hs:d.start.lookup name<;>simp[hs]at hhas ⊢]at hR'
  repeat' first|refine .x ?_|refine .y ?_|refine .z ?_|fail
  exact hR' _ _ k02 (by simp only[if_true];rfl)
 |some p=>
  rw[hl]at hhas
  rw[show (d.start.lookup name).isNone=false by cases hs:d.start.lookup name<;>simp[hs]at hhas ⊢]at hR'
  cases hv:lim.valid with
  |false=>
   rw[hv]at hR'
   repeat' first|refine .x ?_|refine .y ?_|refine .z ?_|fail
   exact hR' _ _ k02 rfl
  |true=>
   rw[hv]at hR'
   have n2:w2.heap[w.heap.size]?=_:=(k2.same _ (by have:=lt_of_heap n1;omega) trivial).trans n1
   obtain⟨⟨v1,v2⟩,⟨v3,v4⟩,v5,v6⟩:=Lim.Ru.mp hv
   simp only[Bool.false_eq_true,if_false,Bool.not_true]at hR'
   simp only[if_true]
   repeat' first|refine .x ?_|refine .y ?_|refine .z ?_|fail
   refine .split (fun hc=>?_) (fun hc=>?_)
   ·have hc':(b.length:Int)>lim.size:=of_decide_eq_true hc
    rw[if_pos (by omega)]at hR'
    repeat' first|refine .x ?_|refine .y ?_|refine .z ?_|fail
    refine hR' _ _ (by exact kpA) ⟨_,rfl,w2.heap.size,rfl,aK ..⟩
   ·have hc':¬ (b.length:Int)>lim.size:=of_decide_eq_false hc
    rw[if_neg (by omega)]at hR'
    have h2:=h.kp0 k02
    obtain⟨sb,dv,B,lv,es,ck,rfl,a2,a3,a4,a5,a6⟩:=h2.types
    obtain⟨t,e1,e2,e3⟩:=hw.ent name p hl
    obtain⟨T,hmc⟩:=a6 (by have:=mV e2;omega) hw.len
    repeat' first|refine .x ?_|refine .y ?_|refine .z ?_|fail
    obtain⟨n,hr⟩:=hw.run (lim:=lim) (QZ d.L d.tabs lim) (by omega) hl ⟨b,0,[]⟩
    refine Cl.ret (TA (hmc.kp (by exact kpA)) hw.all hr (by omega) (by omega) (by omega)) ?_
    rintro r w3 ⟨k3,hd⟩
    have k03:Kp [] w w3:=k02.tt ((by exact kpA:Kp [] w2 w2.drew).tt k3)
    have he:UW b ((sem (nz lim) d.defs lim.depth.toNat name ⟨b,0,[]⟩).andThen fun y=>.ok ⟨p+1,[],[],y⟩)=IG d.defs lim (.named name 0) b:=by
     unfold UW IG
     rw[Res.assoc,sG]
     rfl
    rw[he]at hd
    cases hm:IG d.defs lim (.named name 0) b with
    |no e a=>
     rw[hm]at hd hR'
     obtain⟨ev,rfl,hE⟩:=hd
     repeat' first|refine .x ?_|refine .y ?_|refine .z ?_|fail
     exact hR' _ _ k03 ⟨_,rfl,hE⟩
    |ok l=>
     rw[hm]at hd hR'
     obtain⟨lv,o,rfl,hg,ho⟩:=hd
     repeat' first|refine .x ?_|refine .y ?_|refine .z ?_|fail
     refine hR' _ _ k03 ⟨_,o,rfl,hg,fun b hb=>?_⟩
     have:=ho b hb
     have:=k02.size
     simp only[size_drew]at *
     omega
end Go.W.T
namespace Go.W
open Go
theorem En.a{ng:Bool}{b o:Nat}{K:Value→Prop}(hK:K (.bool ng)):En .ptr ng (pt b o) K:=En.s (b:=false) (by cases ng<;>exact hK) rfl
abbrev En.x:=@En.a
theorem En.d{ng:Bool}{t:TypeId}{v:Value}{K:Value→Prop}(hK:K (.bool ng)):En .ifc ng (.iface t v) K:=En.s (b:=false) (by cases ng<;>exact hK) rfl
abbrev En.y:=@En.d
theorem En.t{ng:Bool}{K:Value→Prop}(hK:K (.bool !ng)):En .ifc ng .nilIface K:=En.s (b:=true) (by cases ng<;>exact hK) rfl
end Go.W
namespace Go.W.T
open Go Go.W Go.M Go.Proofs
theorem Gw.ns{w:World}{lv:Value}{l:List Nd}{o:Option Nat}(h:Gw w dK 5 lv l.length (aJ l) o):Ep w lv l:=by
 obtain⟨h1,h2⟩:=h
 cases o with
 |none=>
  obtain⟨rfl,h3⟩:=h2
  have hl:l=[]:=List.length_eq_zero_iff.mp h3
  subst hl
  exact⟨⟨none,0,rfl⟩,fun hn=>absurd rfl hn⟩
 |some b=>
  obtain⟨rest,cap,rfl,h4,h5⟩:=h2
  refine⟨⟨_,_,rfl⟩,fun _=>⟨b,0,_,_,_,cap,rfl,h4,?_,?_⟩⟩
  ·rw[List.length_append,h1];omega
  ·rw[List.drop_zero,← h1,List.take_left]
def vW(c n:Int):Int:=(if c<0 then -(c+1)else c) % n
theorem zH{c n:Int}(h:0<n):0≤vW c n∧vW c n<n:=⟨Int.emod_nonneg _ (by omega),Int.emod_lt_of_pos _ h⟩
theorem Tf{w:World}(c n:Int)(hc : -9223372036854775808≤c∧c≤9223372036854775807)(hn:0<n)(hn2:n≤9223372036854775807):Calls P tK #[.int .i64 c,.int .i64 n] w (Ret fun v w'=>v=.int .i64 (vW c n)∧w'=w):=by
 refine Ret.R fun R hR=>?_
 apply CO
 unfold sO
 refine Jn.by (fun vals w'=>w'=w∧vals=[.int .i64 (if c<0 then -(c+1)else c)]) (fun J hJ=>?_) ?_
 ·refine .s ?_
  refine .split (fun h=>?_) (fun h=>?_)
  ·have h':c<0:=of_decide_eq_true h
   refine .a ?_
   refine .s ?_
   refine hJ _ _ ⟨rfl,?_⟩
   rw[if_pos h',fB (by omega) (by omega)]
   simp
  ·have h':¬ c<0:=of_decide_eq_false h
   exact hJ _ _ ⟨rfl,by rw[if_neg h']⟩
 ·rintro _ w' jk ⟨rfl,rfl⟩
  refine Bi.s (v:=.int .i64 (vW c n)) ?_ ?_
  ·exact hR _ _ ⟨rfl,rfl⟩
  ·have hx:0≤(if c<0 then -(c+1)else c):=by split<;>omega
   have:Int.tmod (if c<0 then -(c+1)else c) n=vW c n:=by
    unfold vW
    rw[Int.tmod_eq_emod_of_nonneg hx]
   simp only[U5,if_neg (show ¬ n=0 by omega),List.getD_cons_zero,this]
def wV(c:Int):By:=(dI[(vW c 8).toNat]?).getD []
theorem Vz{w:World}(c:Int)(hc : -9223372036854775808≤c∧c≤9223372036854775807):Calls P rf #[.int .i64 c] w (Ret fun v w'=>v=κs (wV c)∧Kp [] w w'):=by
 refine Ret.R fun R hR=>?_
 apply BC
 unfold qO
 refine BuS.s (l:=dI.map κs) (n:=8) ?_
 have k1:Kp [] w (w.alloc (cl (dI.map κs) 9)):=by exact kpA
 have n1:(w.alloc (cl (dI.map κs) 9)).heap[w.heap.size]?=some (cl (dI.map κs) 9):=by exact lookA
 generalize w.alloc (cl (dI.map κs) 9)=w1 at *
 refine .t ?_
 refine Cl.ret (Tf c 8 hc (by omega) (by omega)) ?_
 rintro v w2 ⟨rfl,rfl⟩
 have hp:=zH (c:=c) (n:=8) (by omega)
 rw[show vW c 8=(((vW c 8).toNat:Nat):Int)by omega]
 have hlt:(vW c 8).toNat<8:=by omega
 refine .s ?_
 refine Ld.s (x:=κs (wV c)) ?_ n1 ?_
 ·exact hR _ _ ⟨rfl,k1⟩
 ·unfold wV
  rw[Nat.zero_add,Nat.mul_one,List.getElem?_map,List.getElem?_eq_getElem (show (vW c 8).toNat<dI.length from hlt)]
  rfl
theorem KO(c:Int):wV c∈dI:=by
 have hp:=zH (c:=c) (n:=8) (by omega)
 have hlt:(vW c 8).toNat<dI.length:=by show _<8;omega
 unfold wV
 rw[List.getElem?_eq_getElem hlt]
 exact List.getElem_mem hlt
def kz:Lim:=⟨64,10000,100000⟩
theorem Yf{w:World}:Calls P tC #[] w (Ret fun v w'=>v=E5 kz∧Kp [] w w'):=by
 refine Ret.R fun R hR=>?_
 apply CB
 unfold sJ
 repeat' first|refine .x ?_|refine .y ?_|refine .z ?_|fail
 exact hR _ _ ⟨rfl,by exact kpA⟩
def vN(w:World)(d:CS)(v:Value):Prop:=∃ds c,Keep ds c∧uA w ds d v∧Whole ds c d
theorem vN.kp0{w w':World}{d:CS}{v:Value}(h:vN w d v)(k:Kp [] w w'):vN w' d v:=by
 obtain⟨ds,c,h0,h1,h2⟩:=h
 exact⟨ds,c,h0,h1.kp0 k,h2⟩
theorem IM.good{w:World}{txt:By}{ds:List Def}{c:CS}{v:Value}(h:IM w txt v)(hl:txt.length≤1200)(hp:parse txt=.ok ds)(hc:compile ds=.ok c):
  ∃sv names,v=.tuple #[sv,.nilIface]∧List.Perm names (c.start.map (·.1))∧uA w ds (bC c names) sv:=by
 unfold IM at h
 rw[if_neg (by omega),hp]at h
 simp only[hc]at h
 exact h
theorem Vt{w:World}{txt:By}(R:Ending→World→Prop)(hg:Gl w){ds:List Def}{c:CS}(hl:txt.length≤1200)(hp:parse txt=.ok ds)(hc:compile ds=.ok c)(ht:Tidy ds)
  (hR:∀b d w1,uA w1 ds d (pt b 0)→Whole ds c d→Gl w1→Kp [] w w1→R (.returned (pt b 0)) w1):
  Cl P 14 #[κs txt] w (pE R) fun x1 w2=>Ex x1 0 fun x3=>Ex x1 1 fun x4=>En .ifc true x4 fun x5=>If x5 (R (.returned (.pointer none)) w2) (R (.returned x3) w2):=by
 refine Cl.ret (Yp hg (fun ds' h=>by rw[hp]at h;cases h;exact ht.fine) (by omega)) ?_
 rintro v w1 ⟨k1,hg1,h⟩
 obtain⟨sv,names,rfl,hperm,hs⟩:=h.good hl hp hc
 obtain⟨sb,dv,B,lv,es,ck,rfl,_⟩:=hs.types
 repeat' first|refine .x ?_|refine .y ?_|refine .z ?_|fail
 exact hR _ _ _ hs (Jf ht hc hperm) hg1 k1
theorem Yh{w:World}(hg:Gl w):Calls P tH #[] w (Ret fun v w'=>(∃b,v=pt b 0)∧(∃d,vN w' d v)∧Gl w'∧Kp [] w w'):=by
 refine Ret.R fun R hR=>?_
 apply CE
 unfold sK
 obtain⟨ds,c,hk⟩:=Wu
 refine Vt (txt:=Au) R hg KN hk.parse hk.compile hk.tidy ?_
 intro b d w1 h1 h2 h3 h4
 exact hR _ _ ⟨⟨b,rfl⟩,⟨d,ds,c,hk,h1,h2⟩,h3,h4⟩
end Go.W.T
namespace Go.W.T
open Go Go.W Go.M Go.Proofs
def Law(w:World):Ending→World→Prop:=fun en w'=>en=.returned (.bool true)∧Kp [] w w'
theorem Law.R{f:FuncId}{args:Array Value}{w:World}(h:∀R:Ending→World→Prop,(∀b w',b=true→Kp [] w w'→R (.returned (.bool b)) w')→Calls P f args w R):Calls P f args w (Law w):=h _ fun b w' hb hk=>⟨by rw[hb],hk⟩
structure KS (d:CS):Prop where
 ok:vF d.defs
 has:∀n∈dI,(d.start.lookup n).isSome=true
theorem vN.ks{w:World}{d:CS}{v:Value}(h:vN w d v):KS d:=by
 obtain⟨ds,c,h1,h2,h3⟩:=h
 exact⟨by rw[h3.defs];exact h3.comp.UU,fun n hn=>by rw[h3.start];exact h1.has n hn⟩
theorem KS.dec{d:CS}(h:KS d){n:By}(hn:n∈dI){lim:Lim}(hl:lim.valid=true){b:By}(hb:(b.length:Int)≤lim.size):uD d lim n b=(IG d.defs lim (.named n 0) b).oc:=by
 unfold uD
 have:=h.has n hn
 rw[if_neg (by cases hs:d.start.lookup n<;>simp[hs]at this ⊢),hl,if_neg (by simp),if_neg (by omega)]
theorem OH:kz.valid=true:=by decide
theorem vN.decode{w:World}{d:CS}{v:Value}(h:vN w d v)(name b:By)(lim:Lim):Calls P iL #[v,κs name,κs b,E5 lim] w (Ret fun r w'=>Kp [] w w'∧Ve w.heap.size w' (uD d lim name b) r):=by
 obtain⟨ds,c,_,h1,h2⟩:=h
 exact Ri h1 h2 name b lim
theorem N7(lim:Lim):Each (nz lim) fun d d'=>(d.l.length:Int)≤max 0 lim.fuel→(d'.l.length:Int)≤max 0 lim.fuel:=by
 refine⟨fun d h=>h,fun a b c h k x=>k (h x),?_,?_,?_,?_⟩
 ·intro op f n set d d' ho _ h hN
  obtain⟨hf,_,h⟩:=MP h ho
  rcases h with⟨_,_,k,_,_,_,_,rfl⟩|⟨_,_,k,_,_,_,_,_,rfl⟩|⟨_,a,b,_,_,_,rfl⟩|⟨_,_,w,_,_,_,rfl⟩<;>(simp only[List.length_append,List.length_singleton];omega)
 ·intro v n d x _ h hN
  obtain⟨hf,h⟩:=MO h
  rcases h with⟨_,rfl⟩|⟨_,w,_,_,_,rfl⟩<;>(simp only[List.length_append,List.length_singleton];omega)
 ·intro d x h hN
  obtain⟨hf,w,_,_,_,rfl⟩:=Qn h
  simp only[List.length_append,List.length_singleton];omega
 ·intro of_ set which d x h hN
  obtain⟨hf,w,v,_,_,_,_,rfl⟩:=Jq h
  simp only[List.length_append,List.length_singleton];omega
theorem Xh{defs:List (By×Def)}{lim:Lim}{t:Ty}{b:By}{v:List Nd}(ho:vF defs)(ht:okT t=true)(h:IG defs lim t b=.ok v):(v.length:Int)≤max 0 lim.fuel:=by
 obtain⟨d,h1,rfl,_⟩:=N8 ho ht h
 exact(N7 lim).ty ((N7 lim).sem ho _) t ht h1 (by simp only[List.length_nil];omega)
end Go.W.T
namespace Go.W.T
open Go Go.W Go.M Go.Proofs
def Ig(x y:Nd)(at_:Bool):Bool:=x.kind==y.kind&&x.n==y.n&&x.s==y.s&&x.len==y.len&&(!at_||x.at_==y.at_)
def zq:List Nd→List Nd→Bool→Bool
 |[],[],_=>true
 |x::a,y::b,at_=>Ig x y at_&&zq a b at_
 |_,_,_=>false
theorem Jo:∀{a b:List Nd} {at_:Bool},zq a b at_=true→a.length=b.length
 |[],[],_,_=>rfl
 |x::a,y::b,at_,h=>by
  rw[zq,Bool.and_eq_true]at h
  simp only[List.length_cons,Jo h.2]
 |[],_::_,_,h=>by cases h
 |_::_,[],_,h=>by cases h
theorem Ep.fields{w:World}{v:Value}{l:List Nd}{k:Nat}{n:Nd}(h:Ep w v l)(hk:l[k]?=some n):∃b off t fr cs c,v=.slice (some ⟨b,off,none⟩) l.length c∧w.heap[b]?=some (clf cs t fr) ∧
  cs[off+k*5+0]?=some (.int .i64 n.kind)∧cs[off+k*5+1]?=some (.int .i64 n.n)∧cs[off+k*5+2]?=some (κs n.s)∧cs[off+k*5+3]?=some (.int .i64 n.at_)∧cs[off+k*5+4]?=some (.int .i64 n.len)∧off+k*5+5≤cs.length:=by
 obtain⟨b,off,t,fr,cs,c,h1,h2,h3,h4⟩:=h.at hk
 have g:∀j x,j<5→(gz n)[j]?=some x→cs[off+k*5+j]?=some x:=fun j x hj hx=>by
  rw[← h4,List.getElem?_take_of_lt hj,List.getElem?_drop]at hx
  exact hx
 exact⟨b,off,t,fr,cs,c,h1,h2,g 0 _ (by omega) rfl,g 1 _ (by omega) rfl,g 2 _ (by omega) rfl,g 3 _ (by omega) rfl,g 4 _ (by omega) rfl,h3⟩
theorem Yj{w:World}{a b:List Nd}{av bv:Value}(ha:Ep w av a)(hb:Ep w bv b)(hl:a.length≤140737488355328)(hl2:b.length≤140737488355328)(at_:Bool):
  Calls P tJ #[av,bv,.bool at_] w (Ret fun v w'=>v=.bool (zq a b at_)∧Kp [] w w'):=by
 refine Ret.R fun R hR=>?_
 apply CJ
 unfold sN
 have ha':=ha
 have hb':=hb
 obtain⟨⟨aa,ac,rfl⟩,_⟩:=ha'
 obtain⟨⟨ba,bc,rfl⟩,_⟩:=hb'
 have hR':∀(x:Bool) (w':World),x=zq a b at_→Kp [] w w'→R (.returned (.bool x)) w':=fun x w' h1 h2=>hR _ _ ⟨by rw[h1],h2⟩
 clear hR
 cases hlen:(((a.length:Nat):Int) != ((b.length:Nat):Int))with
 |true=>
  repeat' first|refine .x ?_|refine .y ?_|refine .z ?_|fail
  refine hR' _ _ ?_ (by exact kpA)
  cases hs:zq a b at_ with
  |false=>rfl
  |true=>
   have:=Jo hs
   rw[this]at hlen
   simp at hlen
 |false=>
  have hlen':a.length=b.length:=by
   have:((a.length:Nat):Int)=((b.length:Nat):Int):=by simpa using hlen
   omega
  repeat' first|refine .x ?_|refine .y ?_|refine .z ?_|fail
  refine Lp.nat (n:=a.length) (fun n vals w'=>∃i:Nat,vals=[.int .i64 i]∧i+n=a.length∧Kp [] w w'∧zq (a.drop i) (b.drop i) at_=zq a b at_) ⟨0,rfl,by omega,Kp.refl _ _,by simp⟩ ?_
  rintro n _ w5 jk C ⟨i,rfl,hi,k5,hs⟩ hC
  refine .s ?_
  refine .t ?_
  refine .s ?_
  refine .split (fun h=>?_) (fun h=>?_)
  ·have hlt:i<a.length:=by have:=of_decide_eq_true h;omega
   have hlt2:i<b.length:=by omega
   obtain⟨x,hx⟩:∃x,a[i]?=some x:=⟨_,List.getElem?_eq_getElem hlt⟩
   obtain⟨y,hy⟩:∃y,b[i]?=some y:=⟨_,List.getElem?_eq_getElem hlt2⟩
   obtain⟨b1,o1,t1,f1,cs1,c1,e1,g1,x0,x1,x2,x3,x4,_⟩:=(ha.kp k5).fields hx
   obtain⟨b2,o2,t2,f2,cs2,c2,e2,g2,y0,y1,y2,y3,y4,_⟩:=(hb.kp k5).fields hy
   cases e1
   cases e2
   have hd1:a.drop i=x::a.drop (i+1):=by rw[List.drop_eq_getElem_cons hlt];rw[List.getElem?_eq_getElem hlt]at hx;cases hx;rfl
   have hd2:b.drop i=y::b.drop (i+1):=by rw[List.drop_eq_getElem_cons hlt2];rw[List.getElem?_eq_getElem hlt2]at hy;cases hy;rfl
   rw[hd1,hd2,zq]at hs
   have no:Ig x y at_=false→∀w',Kp [] w w'→R (.returned (.bool false)) w':=fun h w' k=>hR' _ _ (by rw[← hs,h];rfl) k
   have yes:Ig x y at_=true→∀w',Kp [] w w'→C [.int .i64 ((i:Int)+1)] w':=fun h w' k=>hC (n - 1) _ _ (by omega) ⟨i+1,by simp,by omega,k,by rw[← hs,h];rfl⟩
   unfold Ig at no yes
   cases q0:(x.kind != y.kind)with
   |true=>
    have p0:(x.kind==y.kind)=false:=by simpa [bne] using q0
    repeat' first|refine .x ?_|refine .y ?_|refine .z ?_|fail
    exact no (by rw[p0];rfl) _ (by exact kpA)
   |false=>
   have p0:(x.kind==y.kind)=true:=by simpa [bne] using q0
   cases q1:(x.n != y.n)with
   |true=>
    have p1:(x.n==y.n)=false:=by simpa [bne] using q1
    repeat' first|refine .x ?_|refine .y ?_|refine .z ?_|fail
    exact no (by rw[p0,p1];rfl) _ (by exact kpA)
   |false=>
   have p1:(x.n==y.n)=true:=by simpa [bne] using q1
   cases q2:!(x.s==y.s)with
   |true=>
    have p2:(x.s==y.s)=false:=by simpa using q2
    repeat' first|refine .x ?_|refine .y ?_|refine .z ?_|fail
    exact no (by rw[p0,p1,p2];rfl) _ (by exact kpA)
   |false=>
   have p2:(x.s==y.s)=true:=by simpa using q2
   cases q3:(x.len != y.len)with
   |true=>
    have p3:(x.len==y.len)=false:=by simpa [bne] using q3
    repeat' first|refine .x ?_|refine .y ?_|refine .z ?_|fail
    exact no (by rw[p0,p1,p2,p3];rfl) _ (by exact kpA)
   |false=>
   have p3:(x.len==y.len)=true:=by simpa [bne] using q3
   cases at_ with
   |false=>
    repeat' first|refine .x ?_|refine .y ?_|refine .z ?_|fail
    exact yes (by rw[p0,p1,p2,p3];rfl) _ (by exact kpA)
   |true=>
   cases q4:(x.at_ != y.at_)with
   |true=>
    have p4:(x.at_==y.at_)=false:=by simpa [bne] using q4
    repeat' first|refine .x ?_|refine .y ?_|refine .z ?_|fail
    exact no (by rw[p0,p1,p2,p3,p4];rfl) _ (by exact kpA)
   |false=>
    have p4:(x.at_==y.at_)=true:=by simpa [bne] using q4
    repeat' first|refine .x ?_|refine .y ?_|refine .z ?_|fail
    exact yes (by rw[p0,p1,p2,p3,p4];rfl) _ (by exact kpA)
  ·have hge:¬ i<a.length:=by have:=of_decide_eq_false h;omega
   refine hR' _ _ ?_ k5
   rw[← hs,List.drop_eq_nil_of_le (by omega),List.drop_eq_nil_of_le (by omega)]
   rfl
end Go.W.T
namespace Go.W.T
open Go Go.W Go.M Go.Proofs
theorem Hu:∀(l:List Nd) (at_:Bool),zq l l at_=true
 |[],_=>rfl
 |x::l,at_=>by rw[zq,Hu l];simp[Ig]
end Go.W.T

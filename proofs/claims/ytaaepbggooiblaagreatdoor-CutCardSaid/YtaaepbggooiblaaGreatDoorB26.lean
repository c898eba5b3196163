/- Texts of mine, one behind the other; nothing is assumed. -/
import Derived.Test.YtaaepbggooiblaaGreatDoorB16
import Derived.Test.YtaaepbggooiblaaGreatDoorB25
import Derived.Test.YtaaepbggooiblaaGreatDoorB05
import Derived.Test.YtaaepbggooiblaaGreatDoorB07
set_option linter.unusedSimpArgs false
set_option linter.unusedVariables false
set_option maxRecDepth 4000
namespace Go.W.T
open Go Go.W Go.M Go.Proofs
theorem abQ:Idle P 57:=fun v1 v2 w=>by
 refine(Fp (keep:=[]) (args:=[v1,v2]) (R:=fun en w'=>(∃v,en=.returned v)∧w'=w) Tryz.func57 rfl rfl ?_).mono ?_
 ·rw[wG]
  unfold nM
  repeat' first|refine .x ?_|refine .y ?_|refine .z ?_|fail
  exact⟨⟨_,rfl⟩,rfl⟩
 ·rintro en u' w' ⟨h1,h2,h3⟩
  exact⟨h2,h1,h3⟩
theorem abP:Idle P 60:=fun v1 v2 w=>by
 refine(Fp (keep:=[]) (args:=[v1,v2]) (R:=fun en w'=>(∃v,en=.returned v)∧w'=w) Tryz.func60 rfl rfl ?_).mono ?_
 ·rw[wF]
  unfold nK
  repeat' first|refine .x ?_|refine .y ?_|refine .z ?_|fail
  exact⟨⟨_,rfl⟩,rfl⟩
 ·rintro en u' w' ⟨h1,h2,h3⟩
  exact⟨h2,h1,h3⟩
theorem abR:Idle P 30:=fun v1 v2 w=>by
 refine(Fp (keep:=[]) (args:=[v1,v2]) (R:=fun en w'=>(∃v,en=.returned v)∧w'=w) Tryz.func30 rfl rfl ?_).mono ?_
 ·rw[yT]
  unfold tH
  repeat' first|refine .x ?_|refine .y ?_|refine .z ?_|fail
  exact⟨⟨_,rfl⟩,rfl⟩
 ·rintro en u' w' ⟨h1,h2,h3⟩
  exact⟨h2,h1,h3⟩
def ErrAt(w:World)(e a:Nat)(v:Value):Prop:=∃fb,v=.iface GI (pt fb 0)∧w.heap[fb]?=some (cl [i64 e,i64 a] Lu)
theorem dE_57{R:Ending→World→Prop}{w:World}{lb eb e a:Nat}{x y:Value}{t1 t2:TypeId}{ch:List PanicEntry}(hf:Flt e a ch w)(hl:w.heap[lb]?=some (cl [x] t1))(he:w.heap[eb]?=some (cl [y] t2))(hne:lb≠eb)
  (h:∀v w3,Kp [(lb,lb+1),(eb,eb+1)] w w3→ErrAt w3 e a v→R (.returned (.tuple #[.slice none 0 0,v])) w3):dE R 57 (pt lb 0) (pt eb 0) ch w:=by
 obtain⟨b,rfl,hb⟩:=hf
 have hbl:b≠lb:=by rintro rfl;rw[hl]at hb;simp[cl]at hb
 have hbe:b≠eb:=by rintro rfl;rw[he]at hb;simp[cl]at hb
 have hll:=lt_of_heap hl
 have hle:=lt_of_heap he
 have hlb:=lt_of_heap hb
 refine⟨pt b 0,rfl,?_⟩
 refine(Ci (keep:=[]) (args:=[pt lb 0,pt eb 0]) (R:=fun en w'=>en=.returned (.tuple #[])∧w'=ag (ag w lb (cl [.slice none 0 0] t1)) eb (cl [.iface 63 (pt b 0)] t2)) Tryz.func57 rfl rfl ?_).mono ?_
 ·rw[wG]
  unfold nM
  repeat' first|refine .x ?_|refine .y ?_|refine .z ?_|fail
  rfl
 ·rintro en u' w' ⟨rfl,rfl,rfl⟩
  refine⟨⟨_,rfl⟩,rfl,?_⟩
  have k:Kp [(lb,lb+1),(eb,eb+1)] w (ag (ag w lb (cl [.slice none 0 0] t1)) eb (cl [.iface 63 (pt b 0)] t2)):=by exact kpA
  repeat' first|refine .x ?_|refine .y ?_|refine .z ?_|fail
  refine h _ _ k ⟨b,rfl,?_⟩
  exact(k.same b hlb ⟨by omega,by omega,trivial⟩).trans hb
theorem dE_60{R:Ending→World→Prop}{w:World}{lb eb e a:Nat}{x y:Value}{t1 t2:TypeId}{ch:List PanicEntry}(hf:Flt e a ch w)(hl:w.heap[lb]?=some (cl [x] t1))(he:w.heap[eb]?=some (cl [y] t2))(hne:lb≠eb)
  (h:∀v w3,Kp [(lb,lb+1),(eb,eb+1)] w w3→ErrAt w3 e a v→R (.returned (.tuple #[κs [],v])) w3):dE R 60 (pt lb 0) (pt eb 0) ch w:=by
 obtain⟨b,rfl,hb⟩:=hf
 have hbl:b≠lb:=by rintro rfl;rw[hl]at hb;simp[cl]at hb
 have hbe:b≠eb:=by rintro rfl;rw[he]at hb;simp[cl]at hb
 have hll:=lt_of_heap hl
 have hle:=lt_of_heap he
 have hlb:=lt_of_heap hb
 refine⟨pt b 0,rfl,?_⟩
 refine(Ci (keep:=[]) (args:=[pt lb 0,pt eb 0]) (R:=fun en w'=>en=.returned (.tuple #[])∧w'=ag (ag w lb (cl [.string ⟨#[]⟩] t1)) eb (cl [.iface 63 (pt b 0)] t2)) Tryz.func60 rfl rfl ?_).mono ?_
 ·rw[wF]
  unfold nK
  repeat' first|refine .x ?_|refine .y ?_|refine .z ?_|fail
  rfl
 ·rintro en u' w' ⟨rfl,rfl,rfl⟩
  refine⟨⟨_,rfl⟩,rfl,?_⟩
  have k:Kp [(lb,lb+1),(eb,eb+1)] w (ag (ag w lb (cl [.string ⟨#[]⟩] t1)) eb (cl [.iface 63 (pt b 0)] t2)):=by exact kpA
  repeat' first|refine .x ?_|refine .y ?_|refine .z ?_|fail
  refine h _ _ k ⟨b,rfl,?_⟩
  exact(k.same b hlb ⟨by omega,by omega,trivial⟩).trans hb
def decM(b:By)(r:Res (MS DS)):Res (List Nd):=r.andThen fun s=>if s.d.pos<b.length then .no 20 s.d.pos else .ok s.d.l
def DecAt(n0:Nat)(w:World)(m:Res (List Nd))(v:Value):Prop:=match m with
 |.ok l=>∃lv o,v=.tuple #[lv,.nilIface]∧Gw w Bo 5 lv l.length (gQ l) o∧∀b,o=some b→n0≤b
 |.no e a=>∃ev,v=.tuple #[.slice none 0 0,ev]∧ErrAt w e a ev
theorem YV{w:World}{cp:Value}{T:List Nat}{L:List Ins}{tabs:List Tab}(hc:MC w cp T L tabs)(hL:∀i∈L,wW L.length tabs i=true){lim:Lim}{b:By}{pc n:Nat}{r:Res (MS DS)}
  (hr:vS L lim (FU L tabs lim) n ⟨pc,[],[],⟨b,0,[]⟩⟩=some r) (hd:lim.depth≤1000000) (hf:lim.fuel≤1000000) (hb:b.length<1000000000):
  Calls P AP #[cp,i64 (pc:Nat),κs b,.agg #[.int .i64 lim.depth,.int .i64 lim.fuel,.int .i64 lim.size]] w (Ret fun v w'=>Kp [] w w'∧DecAt w.heap.size w' (decM b r) v):=by
 refine Ret.R fun R hR=>?_
 refine Jb abQ ?_
 unfold tK
 obtain⟨cb,rfl⟩:∃cb,cp=pt cb 0:=by obtain⟨cb,lb,m1,m2,m3,cells,rest,cap,h,_⟩:=hc.c;exact⟨cb,h⟩
 refine .s ?_
 refine .s ?_
 refine .s ?_
 have s6:(((w.alloc (cl [.int .i64 lim.depth,.int .i64 lim.fuel,.int .i64 lim.size] 32)).alloc (cl [.slice none 0 0] 34)).alloc (cl [.nilIface] 24)).heap.size=w.heap.size+3:=by simp only[size_alloc]
 have k6:Kp [] w (((w.alloc (cl [.int .i64 lim.depth,.int .i64 lim.fuel,.int .i64 lim.size] 32)).alloc (cl [.slice none 0 0] 34)).alloc (cl [.nilIface] 24)):=by exact kpA
 have n1:(((w.alloc (cl [.int .i64 lim.depth,.int .i64 lim.fuel,.int .i64 lim.size] 32)).alloc (cl [.slice none 0 0] 34)).alloc (cl [.nilIface] 24)).heap[w.heap.size]?=some (cl [.int .i64 lim.depth,.int .i64 lim.fuel,.int .i64 lim.size] 32):=by exact lookA
 have n3:(((w.alloc (cl [.int .i64 lim.depth,.int .i64 lim.fuel,.int .i64 lim.size] 32)).alloc (cl [.slice none 0 0] 34)).alloc (cl [.nilIface] 24)).heap[w.heap.size+1]?=some (cl [.slice none 0 0] 34):=by exact lookA
 have n5:(((w.alloc (cl [.int .i64 lim.depth,.int .i64 lim.fuel,.int .i64 lim.size] 32)).alloc (cl [.slice none 0 0] 34)).alloc (cl [.nilIface] 24)).heap[w.heap.size+2]?=some (cl [.nilIface] 24):=by exact lookA
 generalize (((w.alloc (cl [.int .i64 lim.depth,.int .i64 lim.fuel,.int .i64 lim.size] 32)).alloc (cl [.slice none 0 0] 34)).alloc (cl [.nilIface] 24))=w6 at *
 repeat' first|refine .x ?_|refine .y ?_|refine .z ?_|fail
 refine Cl.w (fun w9=>Kp [] w6 w9∧w6.heap.size+2≤w9.heap.size∧w9.heap[w6.heap.size]?=some (cl (yA ⟨b,0,[]⟩ (.slice none 0 0) lim (pt cb 0)) bT)∧w9.heap[w6.heap.size+1]?=some (cl (BR (pt cb 0) (.iface 142 (pt w6.heap.size 0)) lim 0 (.slice none 0 0) (.slice none 0 0)) aA))
  ⟨by exact kpA,by simp only[size_alloc];omega,by show _=some (cl [κs b,.int .i64 0,.slice none 0 0,.int .i64 lim.depth,.int .i64 lim.fuel,.int .i64 lim.size,pt cb 0] 146);exact lookA,by show _=some (cl [pt cb 0,.int .i64 lim.depth,.int .i64 lim.fuel,.int .i64 lim.size,.iface 142 (pt w6.heap.size 0),.int .i64 0,.slice none 0 0,.slice none 0 0] 154);exact lookA⟩ ?_
 rintro w9 ⟨k9,z9,nd,nm⟩
 have hrun:=YL (w0:=w6) (mb:=w6.heap.size+1) (cp:=pt cb 0) (iv:=.iface 142 (pt w6.heap.size 0)) (me:=pt w6.heap.size 0) (lim:=lim) (io:=FU L tabs lim) (Inv:=fun F w d=>DR w6.heap.size w6.heap.size (pt cb 0) lim F w d)
  (T:=T) (L:=L) (tabs:=tabs) (n:=n) (s:=⟨pc,[],[],⟨b,0,[]⟩⟩) (F:=fun i=>i=w6.heap.size) (G:=fun i=>i=w6.heap.size+1) (w:=w9) (r:=r) (readC (hc.kp k6) hL) (hc.kp k6) hL hd
  {hM:=Nat.le_refl _,c:=⟨_,none,nd,Gw.nil _ _ _,(fun b h=>by cases h)⟩,fd:=rfl,fM:=fun b e=>by rw[e];exact Nat.le_refl _,fl:=fun b e=>by rw[e];omega,pos:=Nat.zero_le _,bl:=hb,lf:=hf }
  {hM:=by omega,c:=⟨_,_,none,none,nm,Gw.nil _ _ _,Gw.nil _ _ _,(fun b h=>by cases h),(fun b h=>by cases h)⟩,gm:=rfl,gM:=fun b e=>by rw[e];omega,gl:=fun b e=>by rw[e];omega,bl:=by simp,ll:=by simp,lv:=by simp }
  (fun i h1 h2=>by omega) k9 hr
 have hlc:∀{w':World},Kp [] w6 w'→w'.heap[w.heap.size+1]?=some (cl [.slice none 0 0] 34):=fun k=>(k.same _ (by omega) trivial).trans n3
 have hec:∀{w':World},Kp [] w6 w'→w'.heap[w.heap.size+1+1]?=some (cl [.nilIface] 24):=fun k=>(k.same _ (by omega) trivial).trans n5
 refine Cl.by hrun ?_ ?_ ?_
 ·rintro v w1 ⟨k1,h2⟩
  cases r with
  |no e a=>obtain⟨ch,hv,_⟩:=h2;cases hv
  |ok s'=>
   obtain⟨F',hv,hD⟩:=h2
   cases hv
   obtain⟨lv,o,c1,c2,c3⟩:=hD.c
   have hdb:=hD.fM
   have hlt:=lt_of_heap c1
   refine Jn.by (fun _ w'=>w'=w1∧¬ s'.d.pos<b.length) (fun J hJ=>?_) ?_
   ·repeat' first|refine .x ?_|refine .y ?_|refine .z ?_|fail
    refine .split (fun hc=>?_) (fun hc=>?_)
    ·have hc':(s'.d.pos:Int)<(b.length:Nat):=of_decide_eq_true hc
     repeat' first|refine .x ?_|refine .y ?_|refine .z ?_|fail
     refine Cl.wV fun ch w2 hF k2=>?_
     refine dE_57 hF (hlc (k1.tt k2)) (hec (k1.tt k2)) (by omega) ?_
     intro v w3 k3 hE
     refine hR _ _ ⟨(k6.tt (k1.tt k2)).trans k3 (fun i hi _=>⟨trivial,by omega,by omega,trivial⟩),?_⟩
     rw[decM,Res.bW,if_pos (by omega)]
     exact⟨v,rfl,hE⟩
    ·have hc':¬ (s'.d.pos:Int)<(b.length:Nat):=of_decide_eq_false hc
     exact hJ _ _ ⟨rfl,by omega⟩
   ·rintro _ w' jk ⟨rfl,hle⟩
    have hl1:=hlc k1
    have he1:=hec k1
    obtain⟨la,lc,rfl⟩:=c2.len
    have hob:∀b,o=some b→w6.heap.size≤b:=fun b hb=>hdb b (c3 b hb).2
    have hz:=k1.size
    repeat' first|refine .x ?_|refine .y ?_|refine .z ?_|fail
    refine(fun(Q:∀w9,Kp [(w.heap.size+1,w.heap.size+2),(w.heap.size+1+1,w.heap.size+3)] w' w9→R (.returned (.tuple #[.slice la s'.d.l.length lc,.nilIface])) w9)=>Q _ (by exact kpA)) ?_
    intro w3 k3
    refine hR _ _ ⟨(k6.tt k1).trans k3 (fun i hi _=>⟨trivial,by omega,by omega,trivial⟩),?_⟩
    rw[decM,Res.bW,if_neg hle]
    exact⟨_,o,rfl,c2.kp k3 (fun b hb=>by have:=hob b hb;exact⟨by omega,by omega,trivial⟩),fun b hb=>by have:=hob b hb;omega⟩
 ·rintro ch w1 ⟨k1,h2⟩
  cases r with
  |ok s'=>obtain⟨_,hv,_⟩:=h2;cases hv
  |no e a=>
   obtain⟨ch',hv,hF⟩:=h2
   cases hv
   refine dE_57 hF (hlc k1) (hec k1) (by omega) ?_
   intro v w3 k3 hE
   refine hR _ _ ⟨?_,v,rfl,hE⟩
   exact(k6.tt k1).trans k3 (fun i hi _=>⟨trivial,by omega,by omega,trivial⟩)
 ·rintro w1 ⟨k1,h2⟩
  cases r with
  |ok s'=>obtain⟨_,hv,_⟩:=h2;cases hv
  |no e a=>obtain⟨_,hv,_⟩:=h2;cases hv
end Go.W.T
namespace Go.W.T
open Go Go.W Go.M Go.Proofs
theorem u238:P.underlying 238=some (.pointer 5):=by kernel_rfl
theorem cells5:P.cellsOf 5=1:=by kernel_rfl
theorem jQ{w w':World}{v x:Value}(h:(Builtin.unsafeSliceData_ #[137] 238 #[x]).run P w=.ok v w'):(builtin .unsafeSliceData #[137] 238 #[false] #[x]).run P w=.ok (.value v) w':=by
 show Sem.run P (do pure (Next.value (← Builtin.unsafeSliceData_ #[137] 238 #[x]))) w=_
 simp only[Sem.run_bind,h,Result.andThen_ok,Sem.run_pure]
theorem iL{w w':World}{v x y:Value}(h:(Builtin.unsafeString_ #[238,3] 9 #[x,y]).run P w=.ok v w'):(builtin .unsafeString #[238,3] 9 #[false,false] #[x,y]).run P w=.ok (.value v) w':=by
 show Sem.run P (do pure (Next.value (← Builtin.unsafeString_ #[238,3] 9 #[x,y]))) w=_
 simp only[Sem.run_bind,h,Result.andThen_ok,Sem.run_pure]
theorem Kp.freeze(w:World)(b n:Nat):Kp [(b,b+1)] w (w.freeze ⟨b,0,none⟩ n):=by
 unfold World.freeze
 split
 ·exact Kp.refl _ _
 ·refine⟨rfl,rfl,rfl,by simp,fun i hi ho=>?_⟩
  have hne:b≠i:=by have:=ho.1;omega
  simp only[Array.getElem?_modify,hne,if_false]
theorem w_bstr{w:World}{eb:Nat}{c0 c1 c2 c3 c4 c5 a buf:Value}{o:Option Nat}(out:By)(h:w.heap[eb]?=some (cl [c0,c1,c2,c3,c4,c5,a,buf] aO))(hg:Gw w 5 1 buf out.length (aG out) o)(ho:∀b,o=some b→b≠eb)(hn:out.length≤4000000000):
  Calls P iZ #[pt eb 6] w (Ret fun v w'=>v=κs out∧Kp (own o) w w'):=by
 refine Ret.R fun R hR=>?_
 apply mJ
 unfold iV
 have hlt:=lt_of_heap h
 obtain⟨hl,hg2⟩:=hg
 cases o with
 |none=>
  obtain⟨rfl,hz⟩:=hg2
  have ho0:out=[]:=List.length_eq_zero_iff.mp hz
  subst ho0
  repeat' first|refine .x ?_|refine .y ?_|refine .z ?_|fail
  refine eH.val (jQ (Lib.run_unsafeSliceData_nil _ _ _ _ _)) ?_
  refine⟨by repeat' first|refine .x ?_|refine .y ?_|refine .z ?_|fail
            rfl, ?_⟩
  refine eH.val (iL (Lib.run_unsafeString_none _ _ _ _ _)) ?_
  exact hR _ _ ⟨rfl,by exact kpA⟩
 |some b=>
  obtain⟨rest,cap,rfl,hbb,hcap⟩:=hg2
  have hblt:=lt_of_heap hbb
  have hbe:=ho b rfl
  rw[fJ]at hcap
  repeat' first|refine .x ?_|refine .y ?_|refine .z ?_|fail
  by_cases hz:cap=0
  ·subst hz
   have ho0:out=[]:=List.length_eq_zero_iff.mp (by omega)
   subst ho0
   refine eH.val (jQ (Lib.run_unsafeSliceData_zero _ _ _ 5 u238 ⟨b,0,none⟩ _ (5,rest.length) (by have hb':w.drew.heap[b]?=_:=hbb;simp[World.shape?,hb',cl,aG]))) ?_
   refine⟨by repeat' first|refine .x ?_|refine .y ?_|refine .z ?_|fail
             rfl, ?_⟩
   refine eH.val (iL (Lib.run_unsafeString_none _ _ _ _ _)) ?_
   exact hR _ _ ⟨rfl,by exact kpA⟩
  ·refine eH.val (jQ (Lib.run_unsafeSliceData_row _ _ _ _ _ _ hz)) ?_
   refine⟨by repeat' first|refine .x ?_|refine .y ?_|refine .z ?_|fail
             rfl, ?_⟩
   by_cases ho0:out=[]
   ·subst ho0
    refine eH.val (iL (Lib.run_unsafeString_none _ _ _ _ _)) ?_
    exact hR _ _ ⟨rfl,by exact kpA⟩
   ·refine eH.val (iL (Lib.run_unsafeString_row _ _ _ _ 5 u238 cells5 b (aG out++rest).length (by have hb':w.drew.heap[b]?=_:=hbb;simp[World.shape?,hb',cl]) out ho0 (by rw[List.length_append,fJ];omega) (by omega) ?_)) ?_
    ·intro j x hx
     have hb':w.drew.heap[b]?=_:=hbb
     rw[add_eq,eG,hb']
     simp only[Option.bind_some,bC,Nat.zero_add]
     rw[List.getElem?_toArray,List.getElem?_append_left (by rw[fJ];exact(List.getElem?_eq_some_iff.mp hx).1),aG,List.getElem?_map,hx]
     rfl
    exact hR _ _ ⟨rfl,(by exact kpA:Kp [] w w.drew).trans (Kp.freeze _ _ _) (fun i _ h=>⟨trivial,h⟩)⟩
def encM(l:List Nd)(r:Res (MS ES)):Res By:=r.andThen fun s=>if s.d.k<l.length then .no 12 s.d.k else .ok s.d.out
def EncAt(w:World)(m:Res By)(v:Value):Prop:=match m with
 |.ok s=>v=.tuple #[κs s,.nilIface]
 |.no e a=>∃ev,v=.tuple #[κs [],ev]∧ErrAt w e a ev
theorem YU{w:World}{cp:Value}{T:List Nat}{L:List Ins}{tabs:List Tab}(hc:MC w cp T L tabs)(hL:∀i∈L,wW L.length tabs i=true){lim:Lim}{l:List Nd}{lv:Value}{pc n:Nat}{r:Res (MS ES)}
  (hl:FK w lv l) (hnb:∀n∈l,n.s.length≤140737488355328) (hlb:l.length≤140737488355328)
  (hr:vS L lim (zK L tabs lim) n ⟨pc,[],[],⟨l,0,[]⟩⟩=some r) (hd:lim.depth≤1000000) (hf:lim.fuel≤1000000) (hs:lim.size≤1000000):
  Calls P AO #[cp,i64 (pc:Nat),lv,.agg #[.int .i64 lim.depth,.int .i64 lim.fuel,.int .i64 lim.size]] w (Ret fun v w'=>Kp [] w w'∧EncAt w' (encM l r) v):=by
 refine Ret.R fun R hR=>?_
 refine Ja abP ?_
 unfold tJ
 obtain⟨cb,rfl⟩:∃cb,cp=pt cb 0:=by obtain⟨cb,lb,m1,m2,m3,cells,rest,cap,h,_⟩:=hc.c;exact⟨cb,h⟩
 refine .s ?_
 refine .s ?_
 refine .s ?_
 have s6:(((w.alloc (cl [.int .i64 lim.depth,.int .i64 lim.fuel,.int .i64 lim.size] 32)).alloc (cl [.string ⟨#[]⟩] 9)).alloc (cl [.nilIface] 24)).heap.size=w.heap.size+3:=by simp only[size_alloc]
 have k6:Kp [] w (((w.alloc (cl [.int .i64 lim.depth,.int .i64 lim.fuel,.int .i64 lim.size] 32)).alloc (cl [.string ⟨#[]⟩] 9)).alloc (cl [.nilIface] 24)):=by exact kpA
 have n1:(((w.alloc (cl [.int .i64 lim.depth,.int .i64 lim.fuel,.int .i64 lim.size] 32)).alloc (cl [.string ⟨#[]⟩] 9)).alloc (cl [.nilIface] 24)).heap[w.heap.size]?=some (cl [.int .i64 lim.depth,.int .i64 lim.fuel,.int .i64 lim.size] 32):=by exact lookA
 have n3:(((w.alloc (cl [.int .i64 lim.depth,.int .i64 lim.fuel,.int .i64 lim.size] 32)).alloc (cl [.string ⟨#[]⟩] 9)).alloc (cl [.nilIface] 24)).heap[w.heap.size+1]?=some (cl [.string ⟨#[]⟩] 9):=by exact lookA
 have n5:(((w.alloc (cl [.int .i64 lim.depth,.int .i64 lim.fuel,.int .i64 lim.size] 32)).alloc (cl [.string ⟨#[]⟩] 9)).alloc (cl [.nilIface] 24)).heap[w.heap.size+2]?=some (cl [.nilIface] 24):=by exact lookA
 generalize (((w.alloc (cl [.int .i64 lim.depth,.int .i64 lim.fuel,.int .i64 lim.size] 32)).alloc (cl [.string ⟨#[]⟩] 9)).alloc (cl [.nilIface] 24))=w6 at *
 obtain⟨⟨la,lc,rfl⟩,hl2⟩:=hl
 have hl6:FK w6 (.slice la l.length lc) l:=FK.kp ⟨⟨la,lc,rfl⟩,hl2⟩ k6
 repeat' first|refine .x ?_|refine .y ?_|refine .z ?_|fail
 refine Cl.w (fun w9=>Kp [] w6 w9∧w6.heap.size+2≤w9.heap.size∧w9.heap[w6.heap.size]?=some (cl (RU (.slice la l.length lc) 0 lim (pt cb 0) (.pointer none) (.slice none 0 0)) aO)∧w9.heap[w6.heap.size+1]?=some (cl (BR (pt cb 0) (.iface 156 (pt w6.heap.size 0)) lim 0 (.slice none 0 0) (.slice none 0 0)) aA))
  ⟨by exact kpA,by simp only[size_alloc];omega,by show _=some (cl [.slice la l.length lc,.int .i64 0,.int .i64 lim.depth,.int .i64 lim.fuel,.int .i64 lim.size,pt cb 0,.pointer none,.slice none 0 0] 158);exact lookA,by show _=some (cl [pt cb 0,.int .i64 lim.depth,.int .i64 lim.fuel,.int .i64 lim.size,.iface 156 (pt w6.heap.size 0),.int .i64 0,.slice none 0 0,.slice none 0 0] 154);exact lookA⟩ ?_
 rintro w9 ⟨k9,z9,nd,nm⟩
 have hrun:=YL (w0:=w6) (mb:=w6.heap.size+1) (cp:=pt cb 0) (iv:=.iface 156 (pt w6.heap.size 0)) (me:=pt w6.heap.size 0) (lim:=lim) (io:=zK L tabs lim) (Inv:=fun F w e=>ER w6 w6.heap.size (pt cb 0) lim F w e)
  (T:=T) (L:=L) (tabs:=tabs) (n:=n) (s:=⟨pc,[],[],⟨l,0,[]⟩⟩) (F:=fun i=>i=w6.heap.size) (G:=fun i=>i=w6.heap.size+1) (w:=w9) (r:=r) (writeC (hc.kp k6) hL) (hc.kp k6) hL hd
  {hM:=Nat.le_refl _,c:=⟨_,_,_,none,nd,Or.inl rfl,hl6,Gw.nil _ _ _,(fun b h=>by cases h)⟩,fd:=rfl,fM:=fun b e=>by rw[e];exact Nat.le_refl _,fl:=fun b e=>by rw[e];omega,kb:=Nat.zero_le _,ob:=Nat.zero_le _,lf:=hf,ls:=hs,nb:=hnb,lb:=hlb }
  {hM:=by omega,c:=⟨_,_,none,none,nm,Gw.nil _ _ _,Gw.nil _ _ _,(fun b h=>by cases h),(fun b h=>by cases h)⟩,gm:=rfl,gM:=fun b e=>by rw[e];omega,gl:=fun b e=>by rw[e];omega,bl:=by simp,ll:=by simp,lv:=by simp }
  (fun i h1 h2=>by omega) k9 hr
 have hlc:∀{w':World},Kp [] w6 w'→w'.heap[w.heap.size+1]?=some (cl [.string ⟨#[]⟩] 9):=fun k=>(k.same _ (by omega) trivial).trans n3
 have hec:∀{w':World},Kp [] w6 w'→w'.heap[w.heap.size+1+1]?=some (cl [.nilIface] 24):=fun k=>(k.same _ (by omega) trivial).trans n5
 refine Cl.by hrun ?_ ?_ ?_
 ·rintro v w1 ⟨k1,h2⟩
  cases r with
  |no e a=>obtain⟨ch,hv,_⟩:=h2;cases hv
  |ok s'=>
   obtain⟨F',hv,hD⟩:=h2
   cases hv
   obtain⟨lv,a,buf,o,c1,c2,c3,c4,c5⟩:=hD.c
   have hdb:=hD.fM
   have hlt:=lt_of_heap c1
   have hob:=hD.ob
   refine Jn.by (fun _ w'=>w'=w1∧¬ s'.d.k<l.length) (fun J hJ=>?_) ?_
   ·repeat' first|refine .x ?_|refine .y ?_|refine .z ?_|fail
    refine .split (fun hc=>?_) (fun hc=>?_)
    ·have hc':(s'.d.k:Int)<(l.length:Nat):=of_decide_eq_true hc
     repeat' first|refine .x ?_|refine .y ?_|refine .z ?_|fail
     refine Cl.wV fun ch w2 hF k2=>?_
     refine dE_60 hF (hlc (k1.tt k2)) (hec (k1.tt k2)) (by omega) ?_
     intro v w3 k3 hE
     refine hR _ _ ⟨(k6.tt (k1.tt k2)).trans k3 (fun i hi _=>⟨trivial,by omega,by omega,trivial⟩),?_⟩
     rw[encM,Res.bW,if_pos (by omega)]
     exact⟨v,rfl,hE⟩
    ·have hc':¬ (s'.d.k:Int)<(l.length:Nat):=of_decide_eq_false hc
     exact hJ _ _ ⟨rfl,by omega⟩
   ·rintro _ w' jk ⟨rfl,hle⟩
    have hoo:∀b,o=some b→w6.heap.size≤b:=fun b hb=>hdb b (c5 b hb).2
    have hz:=k1.size
    repeat' first|refine .x ?_|refine .y ?_|refine .z ?_|fail
    refine Cl.ret (w_bstr s'.d.out c1 c4 (fun b hb=>(c5 b hb).1) (by omega)) ?_
    rintro v w2 ⟨rfl,k2⟩
    have k12:Kp [] w6 w2:=k1.trans k2 (fun i hi _=>⟨trivial,aB (fun e=>by have:=hoo i e;omega)⟩)
    have hl1:=hlc k12
    have he1:=hec k12
    have hz2:=k12.size
    repeat' first|refine .x ?_|refine .y ?_|refine .z ?_|fail
    refine(fun(Q:∀w9,Kp [(w.heap.size+1,w.heap.size+2),(w.heap.size+1+1,w.heap.size+3)] w2 w9→R (.returned (.tuple #[κs s'.d.out,.nilIface])) w9)=>Q _ (by exact kpA)) ?_
    intro w3 k3
    refine hR _ _ ⟨(k6.tt k12).trans k3 (fun i hi _=>⟨trivial,by omega,by omega,trivial⟩),?_⟩
    rw[encM,Res.bW,if_neg hle]
    exact rfl
 ·rintro ch w1 ⟨k1,h2⟩
  cases r with
  |ok s'=>obtain⟨_,hv,_⟩:=h2;cases hv
  |no e a=>
   obtain⟨ch',hv,hF⟩:=h2
   cases hv
   refine dE_60 hF (hlc k1) (hec k1) (by omega) ?_
   intro v w3 k3 hE
   refine hR _ _ ⟨?_,v,rfl,hE⟩
   exact(k6.tt k1).trans k3 (fun i hi _=>⟨trivial,by omega,by omega,trivial⟩)
 ·rintro w1 ⟨k1,h2⟩
  cases r with
  |ok s'=>obtain⟨_,hv,_⟩:=h2;cases hv
  |no e a=>obtain⟨_,hv,_⟩:=h2;cases hv
end Go.W.T
namespace Go.W.T
open Go Go.W Go.M Go.Proofs
theorem dE_30{R:Ending→World→Prop}{w:World}{lb eb e a:Nat}{x y:Value}{t1 t2:TypeId}{ch:List PanicEntry}(hf:Flt e a ch w)(hl:w.heap[lb]?=some (cl [x] t1))(he:w.heap[eb]?=some (cl [y] t2))(hne:lb≠eb)
  (h:∀v w3,Kp [(lb,lb+1),(eb,eb+1)] w w3→ErrAt w3 e a v→R (.returned (.tuple #[.pointer none,v])) w3):dE R 30 (pt lb 0) (pt eb 0) ch w:=by
 obtain⟨b,rfl,hb⟩:=hf
 have hbl:b≠lb:=by rintro rfl;rw[hl]at hb;simp[cl]at hb
 have hbe:b≠eb:=by rintro rfl;rw[he]at hb;simp[cl]at hb
 have hll:=lt_of_heap hl
 have hle:=lt_of_heap he
 have hlb:=lt_of_heap hb
 refine⟨pt b 0,rfl,?_⟩
 refine(Ci (keep:=[]) (args:=[pt lb 0,pt eb 0]) (R:=fun en w'=>en=.returned (.tuple #[])∧w'=ag (ag w lb (cl [.pointer none] t1)) eb (cl [.iface 63 (pt b 0)] t2)) Tryz.func30 rfl rfl ?_).mono ?_
 ·rw[yT]
  unfold tH
  repeat' first|refine .x ?_|refine .y ?_|refine .z ?_|fail
  rfl
 ·rintro en u' w' ⟨rfl,rfl,rfl⟩
  refine⟨⟨_,rfl⟩,rfl,?_⟩
  have k:Kp [(lb,lb+1),(eb,eb+1)] w (ag (ag w lb (cl [.pointer none] t1)) eb (cl [.iface 63 (pt b 0)] t2)):=by exact kpA
  repeat' first|refine .x ?_|refine .y ?_|refine .z ?_|fail
  refine h _ _ k ⟨b,rfl,?_⟩
  exact(k.same b hlb ⟨by omega,by omega,trivial⟩).trans hb
def JP(n:Nat)(w2 w:World):Prop:=w2.heap.size≤w.heap.size∧∀b,n≤b→b<w2.heap.size→w.heap[b]?=w2.heap[b]?
theorem JP.kp{n:Nat}{w2 w w':World}{X:List (Nat×Nat)}(h:JP n w2 w)(k:Kp X w w')(hx:∀b,n≤b→Out X b):JP n w2 w':=
 ⟨Nat.le_trans h.1 k.size,fun b hb hl=>(k.same b (Nat.lt_of_lt_of_le hl h.1) (hx b hb)).trans (h.2 b hb hl)⟩
def rf(w:World)(ds:List Def)(c:CS)(v:Value):Prop:=∃sb dv n w1 w2 B H ρ T,v=pt sb 0∧w.heap[sb]?=some (cl [dv,pt (B+3) 0] 71)∧Wj n w1 ds dv∧JP n w1 w∧n≤B∧CR B H ρ T w2 c∧JP n w2 w
theorem rf.kp0{w w':World}{ds:List Def}{c:CS}{v:Value}(h:rf w ds c v)(k:Kp [] w w'):rf w' ds c v:=by
 obtain⟨sb,dv,n,w1,w2,B,H,ρ,T,h1,h2,h3,h4,h5,h6,h7⟩:=h
 exact⟨sb,dv,n,w1,w2,B,H,ρ,T,h1,(k.same _ (lt_of_heap h2) trivial).trans h2,h3,h4.kp k (fun _ _=>trivial),h5,h6,h7.kp k (fun _ _=>trivial)⟩
theorem Gl.kp0{w w':World}(h:Gl w)(k:Kp [] w w'):Gl w':=h.kp k (fun _ _=>trivial)
def PT(w:World)(txt:By)(v:Value):Prop:=
 if 1200<txt.length then ∃ev,v=.tuple #[.pointer none,ev]∧ErrAt w 1 0 ev
 else match parse txt with
  |.no e a=>∃ev,v=.tuple #[.pointer none,ev]∧ErrAt w e a ev
  |.ok ds=>match compile ds with
   |.no e a=>∃ev,v=.tuple #[.pointer none,ev]∧ErrAt w e a ev
   |.ok c=>∃sv names,v=.tuple #[sv,.nilIface]∧List.Perm names (c.start.map (·.1))∧rf w ds (bU c names) sv
theorem w_Read{w:World}{txt:By}(hg:Gl w)(hf:∀ds,parse txt=.ok ds→fine ds=true)(hlen:txt.length≤140737488355328):
  Calls P O1 #[κs txt] w (Ret fun v w'=>Kp [] w w'∧Gl w'∧PT w' txt v):=by
 refine Ret.R fun R hR=>?_
 refine MP abR ?_
 unfold xM
 unfold PT at hR
 refine .s ?_
 refine .s ?_
 have k4:Kp [] w ((w.alloc (cl [.pointer none] 22)).alloc (cl [.nilIface] 24)):=by exact kpA
 have n1:((w.alloc (cl [.pointer none] 22)).alloc (cl [.nilIface] 24)).heap[w.heap.size]?=some (cl [.pointer none] 22):=by exact lookA
 have n3:((w.alloc (cl [.pointer none] 22)).alloc (cl [.nilIface] 24)).heap[w.heap.size+1]?=some (cl [.nilIface] 24):=by exact lookA
 have z4:((w.alloc (cl [.pointer none] 22)).alloc (cl [.nilIface] 24)).heap.size=w.heap.size+2:=by simp only[size_alloc]
 generalize ((w.alloc (cl [.pointer none] 22)).alloc (cl [.nilIface] 24))=w4 at *
 have hg4:=hg.kp0 k4
 have hlc:∀{w':World},Kp [] w4 w'→w'.heap[w.heap.size]?=some (cl [.pointer none] 22):=fun k=>(k.same _ (by omega) trivial).trans n1
 have hec:∀{w':World},Kp [] w4 w'→w'.heap[w.heap.size+1]?=some (cl [.nilIface] 24):=fun k=>(k.same _ (by omega) trivial).trans n3
 repeat' first|refine .x ?_|refine .y ?_|refine .z ?_|fail
 refine .split (fun hc=>?_) (fun hc=>?_)
 ·have hc':(txt.length:Int)>1200:=of_decide_eq_true hc
  simp only[if_pos (show 1200<txt.length by omega)]at hR
  repeat' first|refine .x ?_|refine .y ?_|refine .z ?_|fail
  refine(fun(Q:∀w9,Kp [(w.heap.size,w.heap.size+1),(w.heap.size+1,w.heap.size+2)] w4 w9∧w9.heap[w4.heap.size]?=some (cl [i64 1,i64 0] 65)→R (.returned (.tuple #[.pointer none,.iface 63 (pt w4.heap.size 0)])) w9)=>Q _ ⟨by exact kpA,by exact lookA⟩) ?_
  rintro w9 ⟨k9,n9⟩
  have k09:Kp [] w w9:=k4.trans k9 (fun i hi _=>⟨trivial,by omega,by omega,trivial⟩)
  exact hR _ _ ⟨k09,hg.kp0 k09,_,rfl,_,rfl,n9⟩
 ·have hc':¬ (txt.length:Int)>1200:=of_decide_eq_false hc
  simp only[if_neg (show ¬ 1200<txt.length by omega)]at hR
  refine Cl.by (aa1 hg4 (by omega)) ?_ ?_ ?_
  ·rintro v w1 ⟨k1,h2⟩
   cases hp:parse txt with
   |no e a=>rw[hp]at h2;obtain⟨_,hv,_⟩:=h2;cases hv
   |ok ds=>
    rw[hp]at h2
    simp only[hp]at hR
    obtain⟨dv,hv,hg1,hds⟩:=h2
    cases hv
    refine Cl.by (XE hg1 hds (hf ds hp)) ?_ ?_ ?_
    ·rintro v w2 ⟨k2,h3⟩
     cases hcm:compile ds with
     |no e a=>rw[hcm]at h3;obtain⟨_,hv,_⟩:=h3;cases hv
     |ok c=>
      rw[hcm]at h3
      simp only[hcm]at hR
      obtain⟨cv,hv,hg2,names,hperm,hcode⟩:=h3
      cases hv
      have k42:=k1.tt k2
      have z2:=k42.size
      have hl1:=hlc k42
      have he1:=hec k42
      obtain⟨H',l',o',q1,q2,q3,q4,q5⟩:=hds
      have q4:=q4
      obtain⟨da,dc,rfl⟩:=q4.len
      obtain⟨B,Hc,ρ,Tc,r1,rfl,r3⟩:=hcode
      repeat' first|refine .x ?_|refine .y ?_|refine .z ?_|fail
      refine(fun(Q:∀w9,Kp [(w.heap.size,w.heap.size+1),(w.heap.size+1,w.heap.size+2)] w2 w9∧w9.heap[w2.heap.size]?=some (cl [.slice da ds.length dc,pt (B+3) 0] 71)→R (.returned (.tuple #[pt w2.heap.size 0,.nilIface])) w9)=>Q _ ⟨by exact kpA,by exact lookA⟩) ?_
      rintro w9 ⟨k9,n9⟩
      have k09:Kp [] w w9:=(k4.tt k42).trans k9 (fun i hi _=>⟨trivial,by omega,by omega,trivial⟩)
      have o1:JP w4.heap.size w1 w9:=(show JP w4.heap.size w1 w2 from ⟨k2.size,fun b _ hl=>k2.same b hl trivial⟩).kp k9 (fun b hb=>⟨by omega,by omega,trivial⟩)
      have o2:JP w4.heap.size w2 w9:=(show JP w4.heap.size w2 w2 from ⟨Nat.le_refl _,fun b _ _=>rfl⟩).kp k9 (fun b hb=>⟨by omega,by omega,trivial⟩)
      exact hR _ _ ⟨k09,hg.kp0 k09,_,names,rfl,hperm,w2.heap.size,_,w4.heap.size,w1,w2,B,Hc,ρ,Tc,rfl,n9,⟨H',l',o',q1,q2,q3,q4,q5⟩,o1,by have:=k1.size;omega,r3,o2⟩
    ·rintro ch w2 ⟨k2,h3⟩
     cases hcm:compile ds with
     |ok c=>rw[hcm]at h3;obtain⟨_,hv,_⟩:=h3;cases hv
     |no e a=>
      rw[hcm]at h3
      simp only[hcm]at hR
      obtain⟨ch',hv,hF⟩:=h3
      cases hv
      refine dE_30 hF (hlc (k1.tt k2)) (hec (k1.tt k2)) (by omega) ?_
      intro v w3 k3 hE
      have k03:Kp [] w w3:=(k4.tt (k1.tt k2)).trans k3 (fun i hi _=>⟨trivial,by omega,by omega,trivial⟩)
      exact hR _ _ ⟨k03,hg.kp0 k03,v,rfl,hE⟩
    ·rintro w2 ⟨k2,h3⟩
     cases hcm:compile ds with
     |ok c=>rw[hcm]at h3;obtain⟨_,hv,_⟩:=h3;cases hv
     |no e a=>rw[hcm]at h3;obtain⟨_,hv,_⟩:=h3;cases hv
  ·rintro ch w1 ⟨k1,h2⟩
   cases hp:parse txt with
   |ok ds=>rw[hp]at h2;obtain⟨_,hv,_⟩:=h2;cases hv
   |no e a=>
    rw[hp]at h2
    simp only[hp]at hR
    obtain⟨ch',hv,hF⟩:=h2
    cases hv
    refine dE_30 hF (hlc k1) (hec k1) (by omega) ?_
    intro v w3 k3 hE
    have k03:Kp [] w w3:=(k4.tt k1).trans k3 (fun i hi _=>⟨trivial,by omega,by omega,trivial⟩)
    exact hR _ _ ⟨k03,hg.kp0 k03,v,rfl,hE⟩
  ·rintro w1 ⟨k1,h2⟩
   cases hp:parse txt with
   |ok ds=>rw[hp]at h2;obtain⟨_,hv,_⟩:=h2;cases hv
   |no e a=>rw[hp]at h2;obtain⟨_,hv,_⟩:=h2;cases hv
end Go.W.T
namespace Go.W.T
open Go Go.W Go.M Go.Proofs
abbrev VJ(l:Lim):Value:=.agg #[.int .i64 l.depth,.int .i64 l.fuel,.int .i64 l.size]
theorem aaM{w:World}(l:Lim):Calls P CW #[VJ l] w (Ret fun v w'=>v=.bool l.valid∧Kp [] w w'):=by
 refine Ret.R fun R hR=>?_
 apply Na
 unfold CQ
 have hR':∀(b:Bool) w',b=l.valid→Kp [] w w'→R (.returned (.bool b)) w':=fun b w' hb hk=>hR _ _ ⟨by rw[hb],hk⟩
 unfold Lim.valid at hR'
 refine .s ?_
 have k1:Kp [] w (w.alloc (cl [.int .i64 l.depth,.int .i64 l.fuel,.int .i64 l.size] 32)):=by exact kpA
 have n1:(w.alloc (cl [.int .i64 l.depth,.int .i64 l.fuel,.int .i64 l.size] 32)).heap[w.heap.size]?=some (cl [.int .i64 l.depth,.int .i64 l.fuel,.int .i64 l.size] 32):=by exact lookA
 generalize w.alloc (cl [.int .i64 l.depth,.int .i64 l.fuel,.int .i64 l.size] 32)=w1 at *
 refine .s ?_
 refine .s ?_
 refine .s ?_
 have g:∀a b:Int,decide (a≥b)=decide (b≤a):=fun _ _=>rfl
 rw[g]
 cases h1:decide (0≤l.depth)with
 |false=>
  rw[h1]at hR'
  repeat' first|refine .x ?_|refine .y ?_|refine .z ?_|fail
  exact hR' _ _ (by simp) k1
 |true=>
 cases h2:decide (l.depth≤64)with
 |false=>
  rw[h1,h2]at hR'
  repeat' first|refine .x ?_|refine .y ?_|refine .z ?_|fail
  exact hR' _ _ (by simp) k1
 |true=>
 have h3':decide (l.fuel≥0)=decide (0≤l.fuel):=rfl
 cases h3:decide (0≤l.fuel)with
 |false=>
  rw[h1,h2,h3]at hR'
  rw[h3]at h3'
  repeat' first|refine .x ?_|refine .y ?_|refine .z ?_|fail
  exact hR' _ _ (by simp) k1
 |true=>
 rw[h3]at h3'
 cases h4:decide (l.fuel≤10000)with
 |false=>
  rw[h1,h2,h3,h4]at hR'
  repeat' first|refine .x ?_|refine .y ?_|refine .z ?_|fail
  exact hR' _ _ (by simp) k1
 |true=>
 have h5':decide (l.size≥0)=decide (0≤l.size):=rfl
 cases h5:decide (0≤l.size)with
 |false=>
  rw[h1,h2,h3,h4,h5]at hR'
  rw[h5]at h5'
  repeat' first|refine .x ?_|refine .y ?_|refine .z ?_|fail
  exact hR' _ _ (by simp) k1
 |true=>
 rw[h5]at h5'
 rw[h1,h2,h3,h4,h5]at hR'
 repeat' first|refine .x ?_|refine .y ?_|refine .z ?_|fail
 exact hR' _ _ (by simp) k1
theorem rf.types{w:World}{ds:List Def}{d:CS}{v:Value}(h:rf w ds d v):∃sb dv B lv es ck,v=pt sb 0∧w.heap[sb]?=some (cl [dv,pt (B+3) 0] 71)∧w.heap[B+3]?=some (cl [lv,.map (some B),.map (some (B+1)),.map (some (B+2))] gG) ∧
  w.heap[B]?=some (.map es ck)∧MK κs es ck (d.types.map fun x=>(x.1,i64 (x.2:Nat)))∧(0<d.L.length→d.L.length<1000000→∃T,MC w (pt (B+3) 0) T d.L d.tabs):=by
 obtain⟨sb,dv,n,w1,w2,B,H,ρ,T,h1,h2,h3,h4,h5,h6,h7⟩:=h
 have hlt:=h6.lt
 have same:∀b,n≤b→b<w2.heap.size→w.heap[b]?=w2.heap[b]?:=h7.2
 obtain⟨lv,cells,o,a1,a2,a3,a4⟩:=h6.L
 obtain⟨es,ck,t1,t2⟩:=h6.types
 refine⟨sb,dv,B,lv,es,ck,h1,h2,(same _ (by omega) (by omega)).trans a1,(same _ (by omega) (by omega)).trans t1,t2,fun hl hm=>⟨T,?_⟩⟩
 have big:∀b,ρ b≠(0,0)→B+7≤b:=fun b hb=>by
  rcases Nat.lt_or_ge b (B+7)with h|h
  ·exact absurd (h6.low b h) hb
  ·exact h
 refine⟨?_,⟨h6.nD,fun i b l hb hl=>?_⟩,hm⟩
 ·cases o with
  |none=>obtain⟨_,_,h0⟩:=a2;omega
  |some b=>
   obtain⟨_,rest,cap,rfl,b2,b3⟩:=a2
   have hb:=big b (by rw[a4 b rfl];simp)
   exact⟨B+3,b,_,_,_,cells,rest,cap,rfl,(same _ (by omega) (by omega)).trans a1,(same b (by omega) (lt_of_heap b2)).trans b2,a3⟩
 ·obtain⟨x1,x2⟩:=h6.tabs i b l hb hl
  obtain⟨es,ck,y1,y2⟩:=x1
  have hbb:=big b (by rw[x2];simp)
  exact⟨es,ck,(same b (by omega) (lt_of_heap y1)).trans y1,y2⟩
end Go.W.T
namespace Go.W
open Go
theorem En.a{ng:Bool}{b o:Nat}{K:Value→Prop}(hK:K (.bool ng)):En .ptr ng (pt b o) K:=En.s (b:=false) (by cases ng<;>exact hK) rfl
abbrev En.x:=@En.a
theorem En.d{ng:Bool}{t:TypeId}{v:Value}{K:Value→Prop}(hK:K (.bool ng)):En .ifc ng (.iface t v) K:=En.s (b:=false) (by cases ng<;>exact hK) rfl
abbrev En.y:=@En.d
theorem En.t{ng:Bool}{K:Value→Prop}(hK:K (.bool !ng)):En .ifc ng .nilIface K:=En.s (b:=true) (by cases ng<;>exact hK) rfl
end Go.W
namespace Go.W.T
open Go Go.W Go.M Go.Proofs
theorem Gw.ns{w:World}{lv:Value}{l:List Nd}{o:Option Nat}(h:Gw w Bo 5 lv l.length (gQ l) o):FK w lv l:=by
 obtain⟨h1,h2⟩:=h
 cases o with
 |none=>
  obtain⟨rfl,h3⟩:=h2
  have hl:l=[]:=List.length_eq_zero_iff.mp h3
  subst hl
  exact⟨⟨none,0,rfl⟩,fun hn=>absurd rfl hn⟩
 |some b=>
  obtain⟨rest,cap,rfl,h4,h5⟩:=h2
  refine⟨⟨_,_,rfl⟩,fun _=>⟨b,0,_,_,_,cap,rfl,h4,?_,?_⟩⟩
  ·rw[List.length_append,h1];omega
  ·rw[List.drop_zero,← h1,List.take_left]
def LJ(c n:Int):Int:=(if c<0 then -(c+1)else c) % n
theorem TI{c n:Int}(h:0<n):0≤LJ c n∧LJ c n<n:=⟨Int.emod_nonneg _ (by omega),Int.emod_lt_of_pos _ h⟩
theorem YK{w:World}(c n:Int)(hc : -9223372036854775808≤c∧c≤9223372036854775807)(hn:0<n)(hn2:n≤9223372036854775807):Calls P xZ #[.int .i64 c,.int .i64 n] w (Ret fun v w'=>v=.int .i64 (LJ c n)∧w'=w):=by
 refine Ret.R fun R hR=>?_
 apply Ij
 unfold xJ
 refine Jn.by (fun vals w'=>w'=w∧vals=[.int .i64 (if c<0 then -(c+1)else c)]) (fun J hJ=>?_) ?_
 ·refine .s ?_
  refine .split (fun h=>?_) (fun h=>?_)
  ·have h':c<0:=of_decide_eq_true h
   refine .a ?_
   refine .s ?_
   refine hJ _ _ ⟨rfl,?_⟩
   rw[if_pos h',iG (by omega) (by omega)]
   simp
  ·have h':¬ c<0:=of_decide_eq_false h
   exact hJ _ _ ⟨rfl,by rw[if_neg h']⟩
 ·rintro _ w' jk ⟨rfl,rfl⟩
  refine Bi.s (v:=.int .i64 (LJ c n)) ?_ ?_
  ·exact hR _ _ ⟨rfl,rfl⟩
  ·have hx:0≤(if c<0 then -(c+1)else c):=by split<;>omega
   have:Int.tmod (if c<0 then -(c+1)else c) n=LJ c n:=by
    unfold LJ
    rw[Int.tmod_eq_emod_of_nonneg hx]
   simp only[binI,if_neg (show ¬ n=0 by omega),List.getD_cons_zero,this]
def vV:Lim:=⟨64,10000,100000⟩
theorem w_wide{w:World}:Calls P xX #[] w (Ret fun v w'=>v=VJ vV∧Kp [] w w'):=by
 refine Ret.R fun R hR=>?_
 apply Ih
 unfold xH
 repeat' first|refine .x ?_|refine .y ?_|refine .z ?_|fail
 exact hR _ _ ⟨rfl,by exact kpA⟩
def Sm(w:World)(d:CS)(v:Value):Prop:=∃ds c,Keep ds c∧rf w ds d v∧Whole ds c d
theorem Sm.kp0{w w':World}{d:CS}{v:Value}(h:Sm w d v)(k:Kp [] w w'):Sm w' d v:=by
 obtain⟨ds,c,h0,h1,h2⟩:=h
 exact⟨ds,c,h0,h1.kp0 k,h2⟩
theorem PT.good{w:World}{txt:By}{ds:List Def}{c:CS}{v:Value}(h:PT w txt v)(hl:txt.length≤1200)(hp:parse txt=.ok ds)(hc:compile ds=.ok c):
  ∃sv names,v=.tuple #[sv,.nilIface]∧List.Perm names (c.start.map (·.1))∧rf w ds (bU c names) sv:=by
 unfold PT at h
 rw[if_neg (by omega),hp]at h
 simp only[hc]at h
 exact h
theorem aaP{w:World}{txt:By}(R:Ending→World→Prop)(hg:Gl w){ds:List Def}{c:CS}(hl:txt.length≤1200)(hp:parse txt=.ok ds)(hc:compile ds=.ok c)(ht:Tidy ds)
  (hR:∀b d w1,rf w1 ds d (pt b 0)→Whole ds c d→Gl w1→Kp [] w w1→R (.returned (pt b 0)) w1):
  Cl P 14 #[κs txt] w (pE R) fun x1 w2=>Ex x1 0 fun x3=>Ex x1 1 fun x4=>En .ifc true x4 fun x5=>If x5 (R (.returned (.pointer none)) w2) (R (.returned x3) w2):=by
 refine Cl.ret (w_Read hg (fun ds' h=>by rw[hp]at h;cases h;exact ht.fine) (by omega)) ?_
 rintro v w1 ⟨k1,hg1,h⟩
 obtain⟨sv,names,rfl,hperm,hs⟩:=h.good hl hp hc
 obtain⟨sb,dv,B,lv,es,ck,rfl,_⟩:=hs.types
 repeat' first|refine .x ?_|refine .y ?_|refine .z ?_|fail
 exact hR _ _ _ hs (Qh ht hc hperm) hg1 k1
theorem w_spec{w:World}(hg:Gl w):Calls P xY #[] w (Ret fun v w'=>(∃b,v=pt b 0)∧(∃d,Sm w' d v)∧Gl w'∧Kp [] w w'):=by
 refine Ret.R fun R hR=>?_
 apply Ii
 unfold xI
 obtain⟨ds,c,hk⟩:=abK
 refine aaP (txt:=Fe) R hg RP hk.parse hk.compile hk.tidy ?_
 intro b d w1 h1 h2 h3 h4
 exact hR _ _ ⟨⟨b,rfl⟩,⟨d,ds,c,hk,h1,h2⟩,h3,h4⟩
end Go.W.T
namespace Go.W.T
open Go Go.W Go.M Go.Proofs
def Law(w:World):Ending→World→Prop:=fun en w'=>en=.returned (.bool true)∧Kp [] w w'
theorem Law.R{f:FuncId}{args:Array Value}{w:World}(h:∀R:Ending→World→Prop,(∀b w',b=true→Kp [] w w'→R (.returned (.bool b)) w')→Calls P f args w R):Calls P f args w (Law w):=h _ fun b w' hb hk=>⟨by rw[hb],hk⟩
theorem NV:vV.valid=true:=by decide
theorem Kw{b:By}:∀{l:List Nd} {p q:Nat},M.Ord b p l q→∀n∈l,n.kind=2→n.s.length≤b.length
 |[],_,_,_,n,hn,_=>by cases hn
 |a::l,p,q,h,n,hn,hk=>by
  rw[M.Ord]at h
  rcases List.mem_cons.mp hn with rfl|hn
  ·rw[if_pos hk]at h
   obtain⟨x,_,_,h3,_⟩:=h
   omega
  ·split at h
   ·obtain⟨x,_,_,_,_,h5⟩:=h
    exact Kw h5 n hn hk
   ·exact Kw h n hn hk
theorem LP{lim:Lim}(n0:Nat):Each (nU lim) fun d d'=>(∀n∈d.l,n.kind≠2→n.s=[])→∀n∈d'.l,n.kind≠2→n.s=[]:=by
 have app:∀{l:List Nd} {x:Nd},(x.kind≠2→x.s=[])→(∀n∈l,n.kind≠2→n.s=[])→∀n∈l++[x],n.kind≠2→n.s=[]:=fun hx hl n hn hk=>by
  rcases List.mem_append.mp hn with hn|hn
  ·exact hl n hn hk
  ·rw[List.mem_singleton]at hn;subst hn;exact hx hk
 refine⟨fun d h=>h,fun a b c h k x=>k (h x),?_,?_,?_,?_⟩
 ·intro op f n set d d' ho _ h hN
  obtain⟨_,_,h⟩:=OB h ho
  rcases h with⟨_,_,k,_,_,_,_,rfl⟩|⟨_,_,k,_,_,_,_,_,rfl⟩|⟨_,a,b,_,_,_,rfl⟩|⟨_,_,w,_,_,_,rfl⟩
  ·exact app (fun h=>absurd rfl h) hN
  ·exact app (fun h=>absurd rfl h) hN
  ·exact app (fun _=>rfl) hN
  ·exact app (fun _=>rfl) hN
 ·intro v n d x _ h hN
  obtain⟨_,h⟩:=OA h
  rcases h with⟨_,rfl⟩|⟨_,w,_,_,_,rfl⟩<;>exact app (fun _=>rfl) hN
 ·intro d x h hN
  obtain⟨_,w,_,_,_,rfl⟩:=Rq h
  exact app (fun _=>rfl) hN
 ·intro of_ set which d x h hN
  obtain⟨_,w,v,_,_,_,_,rfl⟩:=Kt h
  exact app (fun _=>rfl) hN
theorem Yj{defs:List (By×Def)}{lim:Lim}{t:Ty}{b:By}{v:List Nd}(ho:qF defs)(ht:okT t=true)(hv:t≠.void)(h:KU defs lim t b=.ok v):∀n∈v,n.s.length≤b.length:=by
 obtain⟨_,_,_,h4,_⟩:=bigT ho ht hv h
 obtain⟨d,h1,rfl,_⟩:=Pz ho ht h
 have:=(LP (lim:=lim) 0).ty ((LP 0).sem ho _) t ht h1 (fun n hn=>by cases hn)
 intro n hn
 by_cases hk:n.kind=2
 ·exact Kw h4 n hn hk
 ·rw[this n hn hk];exact Nat.zero_le _
theorem UD(lim:Lim):Each (nU lim) fun d d'=>(d.l.length:Int)≤max 0 lim.fuel→(d'.l.length:Int)≤max 0 lim.fuel:=by
 refine⟨fun d h=>h,fun a b c h k x=>k (h x),?_,?_,?_,?_⟩
 ·intro op f n set d d' ho _ h hN
  obtain⟨hf,_,h⟩:=OB h ho
  rcases h with⟨_,_,k,_,_,_,_,rfl⟩|⟨_,_,k,_,_,_,_,_,rfl⟩|⟨_,a,b,_,_,_,rfl⟩|⟨_,_,w,_,_,_,rfl⟩<;>(simp only[List.length_append,List.length_singleton];omega)
 ·intro v n d x _ h hN
  obtain⟨hf,h⟩:=OA h
  rcases h with⟨_,rfl⟩|⟨_,w,_,_,_,rfl⟩<;>(simp only[List.length_append,List.length_singleton];omega)
 ·intro d x h hN
  obtain⟨hf,w,_,_,_,rfl⟩:=Rq h
  simp only[List.length_append,List.length_singleton];omega
 ·intro of_ set which d x h hN
  obtain⟨hf,w,v,_,_,_,_,rfl⟩:=Kt h
  simp only[List.length_append,List.length_singleton];omega
theorem aco{defs:List (By×Def)}{lim:Lim}{t:Ty}{b:By}{v:List Nd}(ho:qF defs)(ht:okT t=true)(h:KU defs lim t b=.ok v):(v.length:Int)≤max 0 lim.fuel:=by
 obtain⟨d,h1,rfl,_⟩:=Pz ho ht h
 exact(UD lim).ty ((UD lim).sem ho _) t ht h1 (by simp only[List.length_nil];omega)
end Go.W.T
namespace Go.W.T
open Go Go.W Go.M Go.Proofs
end Go.W.T
namespace Go.W.T
open Go Go.W Go.M Go.Proofs
end Go.W.T

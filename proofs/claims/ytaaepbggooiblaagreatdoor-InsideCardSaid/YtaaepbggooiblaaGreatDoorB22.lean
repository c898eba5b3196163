/- Texts of mine, one behind the other; nothing is assumed. -/
import Derived.Test.YtaaepbggooiblaaGreatDoorB21
set_option linter.unusedSimpArgs false
set_option linter.unusedVariables false
set_option maxRecDepth 4000
namespace Go.W.T
open Go Go.W Go.M Go.Proofs
theorem _root_.Go.W.Kp.tt{a b c:World}(h:Kp [] a b)(k:Kp [] b c):Kp [] a c:=h.trans k (fun _ _ _=>⟨trivial,trivial⟩)
structure WayC {σ:Type} (w0:World) (iv me:Value) (io:Wy σ) (Inv:(Nat→Prop)→World→σ→Prop) (T:List Nat) (L:List Ins):Prop where
 low:∀F w d,Inv F w d→∀b,F b→w0.heap.size≤b∧b<w.heap.size
 ext:∀F G w w' d,Inv F w d→Kf G w w'→(∀i,F i→¬ G i)→Inv F w' d
 leaf:∃f,(∀a w E K,Cl P f #[me,a] w E K→ny P iv "marshal/machine.leaf" #[a] w E K)∧∀F w d i t u,Inv F w d→Kp [] w0 w→i∈L→df T i.table t→df T i.set u →
  Calls P f #[me,CW i t u] w (PostF F w (io.leaf i d) fun x _ F' w'=>Inv F' w' x)
 list:∃f,(∀a w E K,Cl P f #[me,a] w E K→ny P iv "marshal/machine.list" #[a] w E K)∧∀F w d i t u,Inv F w d→Kp [] w0 w→i∈L→df T i.table t→df T i.set u →
  Calls P f #[me,CW i t u] w (PostF F w (io.list i d) fun x v F' w'=>v=.int .i64 x.1∧0≤x.1∧x.1≤4294967295∧Inv F' w' x.2)
 option:∃f,(∀w E K,Cl P f #[me] w E K→ny P iv "marshal/machine.option" #[] w E K)∧∀F w d,Inv F w d→Kp [] w0 w →
  Calls P f #[me] w (PostF F w (io.option d) fun x v F' w'=>v=.bool x.1∧Inv F' w' x.2)
 union:∃f,(∀a w E K,Cl P f #[me,a] w E K→ny P iv "marshal/machine.union" #[a] w E K)∧∀F w d i t u,Inv F w d→Kp [] w0 w→i∈L→i.op=13→df T i.table t→df T i.set u →
  Calls P f #[me,CW i t u] w (PostF F w (io.union i d) fun x v F' w'=>v=.int .i64 x.1∧0≤x.1∧Inv F' w' x.2)
 place:∃f,(∀w E K,Cl P f #[me] w E K→ny P iv "marshal/machine.place" #[] w E K)∧∀F w d,Inv F w d→Calls P f #[me] w (Ret fun v w'=>v=i64 (io.place d:Nat)∧w'=w)
def oZ{σ:Type}(w0:World)(Inv:(Nat→Prop)→World→σ→Prop)(r:Res (MS σ)):Ending→World→Prop:=fun en w'=>Kp [] w0 w'∧match r with
 |.ok s'=>∃F',en=.returned (.tuple #[])∧Inv F' w' s'.d
 |.no e a=>∃ch,en=.panicked ch∧Flt e a ch w'
theorem oZ.ok{σ:Type}{w0 w':World}{Inv:(Nat→Prop)→World→σ→Prop}{r:Res (MS σ)}{s':MS σ}{F':Nat→Prop}(h0:r=.ok s')(h1:Kp [] w0 w')(h2:Inv F' w' s'.d):oZ w0 Inv r (.returned (.tuple #[])) w':=by
 subst h0;exact⟨h1,F',rfl,h2⟩
theorem oZ.no{σ:Type}{w0 w':World}{Inv:(Nat→Prop)→World→σ→Prop}{r:Res (MS σ)}{e a:Nat}{ch:List PanicEntry}(h0:r=.no e a)(h1:Kp [] w0 w')(h2:Flt e a ch w'):oZ w0 Inv r (.panicked ch) w':=by
 subst h0;exact⟨h1,ch,rfl,h2⟩
theorem Wj{σ:Type}{L:List Ins}{lim:Lim}{io:Wy σ}{k:Nat}{s s':MS σ}{r:Res (MS σ)}(h:rH L lim io (k+1) s=some r)(hs:tX L lim io s=some (.ok (true,s'))):rH L lim io k s'=some r:=by rw[rH,hs]at h;exact h
theorem Wi{σ:Type}{L:List Ins}{lim:Lim}{io:Wy σ}{k:Nat}{s:MS σ}{r:Res (MS σ)}{e a:Nat}(h:rH L lim io (k+1) s=some r)(hs:tX L lim io s=some (.no e a)):r=.no e a:=by rw[rH,hs]at h;exact(Option.some.inj h).symm
theorem Yk{σ:Type}{w0:World}{mb:Nat}{cp iv me:Value}{lim:Lim}{io:Wy σ}{Inv:(Nat→Prop)→World→σ→Prop}{T:List Nat}{L:List Ins}{tabs:List Tab}(ic:WayC w0 iv me io Inv T L)(hc:MC w0 cp T L tabs)(hL:∀i∈L,wY L.length tabs i=true)(hlim:lim.depth≤1000000)
  {n:Nat} {s:MS σ} {F G:Nat→Prop} {w:World} {r:Res (MS σ)} (hi:Inv F w s.d) (hm:MR w0.heap.size mb cp iv lim G w s.back s.loops) (hd:∀i,F i→¬ G i) (k0:Kp [] w0 w) (hr:rH L lim io n s=some r):
  Calls P oC #[pt mb 0,i64 (s.pc:Nat)] w (oZ w0 Inv r):=by
 apply yU
 have hok:∀w' s' F',r=.ok s'→Kp [] w0 w'→Inv F' w' s'.d→oZ w0 Inv r (.returned (.tuple #[])) w':=fun w' s' F' h0 h1 h2=>oZ.ok h0 h1 h2
 have hno:∀w' e a ch,r=.no e a→Kp [] w0 w'→Flt e a ch w'→oZ w0 Inv r (.panicked ch) w':=fun w' e a ch h0 h1 h2=>oZ.no h0 h1 h2
 generalize oZ w0 Inv r=R at *
 unfold nR
 refine Lp.nat (n:=n) (fun n vals w'=>∃(s:MS σ) (F G:Nat→Prop) (vb:Value),vals=[i64 (s.pc:Nat),vb]∧Inv F w' s.d∧MR w0.heap.size mb cp iv lim G w' s.back s.loops∧(∀i,F i→¬ G i)∧Kp [] w0 w'∧rH L lim io n s=some r) ?_ ?_
 ·exact⟨s,F,G,undef,rfl,hi,hm,hd,k0,hr⟩
 clear hi hm hd k0 hr s F G w
 rintro n _ w jk C ⟨s,F,G,vb,rfl,hi,hm,hd,k0,hr⟩ hC
 cases n with
 |zero=>cases hr
 |succ k=>
 replace hC:∀(s':MS σ) (F' G':Nat→Prop) (vb':Value) w',Inv F' w' s'.d→MR w0.heap.size mb cp iv lim G' w' s'.back s'.loops→(∀i,F' i→¬ G' i)→Kp [] w0 w'→tX L lim io s=some (.ok (true,s'))→C [i64 (s'.pc:Nat),vb'] w':=
  fun s' F' G' vb' w' h1 h2 h3 h4 h5=>hC k _ _ (Nat.lt_succ_self k) ⟨s',F',G',vb',rfl,h1,h2,h3,h4,Wj hr h5⟩
 have hno':∀w' e a ch,tX L lim io s=some (.no e a)→Kp [] w0 w'→Flt e a ch w'→R (.panicked ch) w':=fun w' e a ch h1 h2 h3=>hno w' e a ch (Wi hr h1) h2 h3
 clear hno
 obtain⟨vb',vl,ob,ol,a1,a2,a3,a4,a5⟩:=hm.c
 obtain⟨cb,lb,m1,m2,m3,cells,rest,cap,rfl,b2,b3,b4⟩:=(hc.kp k0).c
 have hpc:s.pc<L.length:=by
  rcases Nat.lt_or_ge s.pc L.length with h|h
  ·exact h
  ·rw[rH,tX,List.getElem?_eq_none h]at hr;cases hr
 obtain⟨i,hj⟩:∃j,L[s.pc]?=some j:=⟨_,List.getElem?_eq_getElem hpc⟩
 have hmem:i∈L:=List.mem_of_getElem? hj
 have hio:=hL i hmem
 have hn:=hc.n
 obtain⟨jf,jg,y1,y2,y3,y4⟩:=b4.at hj
 have hst:tX L lim io s=bK lim io i s:=by unfold tX;rw[hj]
 rw[hst]at hC hno'
 obtain⟨fb,rfl⟩:=y1.one
 obtain⟨gb,rfl⟩:=y2.one
 repeat' first|refine .x ?_|refine .y ?_|refine .z ?_|fail
 refine LdN.s (l':=[i64 (i.op:Nat),.int .i64 i.n,.int .i64 i.to,.bool i.fixed,i64 (i.of_:Nat),.map fb,.map gb]) ?_ b3 (by rw[List.length_append,b4.len];omega) ((dU (by rw[b4.len];omega)).trans (by rw[Nat.zero_add];exact y3))
 refine .s ?_
 refine .s ?_
 have k1:Kp [] w (ah (w.alloc (cl [.int .i64 0,.int .i64 0,.int .i64 0,.bool false,.int .i64 0,.map none,.map none] 135)) w.heap.size (cl [i64 (i.op:Nat),.int .i64 i.n,.int .i64 i.to,.bool i.fixed,i64 (i.of_:Nat),.map fb,.map gb] aA)):=by exact kpA
 have n1:(ah (w.alloc (cl [.int .i64 0,.int .i64 0,.int .i64 0,.bool false,.int .i64 0,.map none,.map none] 135)) w.heap.size (cl [i64 (i.op:Nat),.int .i64 i.n,.int .i64 i.to,.bool i.fixed,i64 (i.of_:Nat),.map fb,.map gb] aA)).heap[w.heap.size]?=some (cl [i64 (i.op:Nat),.int .i64 i.n,.int .i64 i.to,.bool i.fixed,i64 (i.of_:Nat),.map fb,.map gb] aA):=by exact lookA
 generalize ah (w.alloc (cl [.int .i64 0,.int .i64 0,.int .i64 0,.bool false,.int .i64 0,.map none,.map none] 135)) w.heap.size (cl [i64 (i.op:Nat),.int .i64 i.n,.int .i64 i.to,.bool i.fixed,i64 (i.of_:Nat),.map fb,.map gb] aA)=w1 at *
 have z1:=lt_of_heap n1
 have k01:Kp [] w0 w1:=k0.tt k1
 have hi1:=ic.ext F (fun _=>False) w w1 s.d hi (Kp.kf k1) (fun _ _ f=>f)
 have hm1:=hm.ext (Kp.kf k1:Kf (fun _=>False) w w1) (fun _ f=>f.elim)
 have hnG:¬ G w.heap.size:=fun f=>by have:=hm.gl _ f;omega
 have hnF:¬ F w.heap.size:=fun f=>by have:=(ic.low F w s.d hi _ f).2;omega
 have A1:w1.heap[mb]?=some (cl (Am (pt cb 0) iv lim s.back.length vb' vl) az):=(k1.same _ (lt_of_heap a1) trivial).trans a1
 have A2:=a2.kp k1 (fun _ _=>trivial)
 have A3:=a3.kp k1 (fun _ _=>trivial)
 have e1:((s.pc:Nat):Int)+1=((s.pc+1:Nat):Int):=by push_cast;rfl
 have eqs:∀k:Nat,(((i.op:Nat):Int)==((k:Nat):Int))=(i.op==k):=fun k=>by
  rw[Bool.eq_iff_iff,beq_iff_eq,beq_iff_eq];omega
 have hmw:mb<w.heap.size:=lt_of_heap a1
 have hmM:=hm.hM
 have hob:∀b,ob=some b→b<w.heap.size:=a2.lt
 have hol:∀b,ol=some b→b<w.heap.size:=a3.lt
 have hgl:=hm.gl
 have hfl:=fun b hb=>(ic.low F w s.d hi b hb).2
 have hfM:=fun b hb=>(ic.low F w s.d hi b hb).1
 clear a1 a2 a3 hi hm b2 b3 b4 y3 y4 hst
 have hio':0≤i.n∧i.n≤4294967295∧i.to<L.length∧(i.op=13∨0≤i.to):=by
  unfold wY at hio
  exact of_decide_eq_true (Bool.and_eq_true _ _|>.mp hio).1
 have eto:i.op≠13→i.to=((i.to.toNat:Nat):Int):=fun h=>by omega
 cases c16:(i.op==16)with
 |true=>
  have e16:(((i.op:Nat):Int)==16)=true:=(eqs 16).trans c16
  repeat' first|refine .x ?_|refine .y ?_|refine .z ?_|fail
  refine hok _ s F ?_ k01 hi1
  rw[rH,tX,hj]at hr
  simp only[bK,c16,if_true]at hr
  exact(Option.some.inj hr).symm
 |false=>
 have e16:(((i.op:Nat):Int)==16)=false:=(eqs 16).trans c16
 cases c15:(i.op==15)with
 |true=>
  have e15:(((i.op:Nat):Int)==15)=true:=(eqs 15).trans c15
  repeat' first|refine .x ?_|refine .y ?_|refine .z ?_|fail
  rw[e1]
  exact hC { s with pc:=s.pc+1 } F G _ _ hi1 hm1 hd k01 (by simp only[bK,c16,c15,Bool.false_eq_true,if_false,if_true])
 |false=>
 have e15:(((i.op:Nat):Int)==15)=false:=(eqs 15).trans c15
 cases c14:(i.op==14)with
 |true=>
  have e14:(((i.op:Nat):Int)==14)=true:=(eqs 14).trans c14
  have c14':=beq_iff_eq.mp c14
  repeat' first|refine .x ?_|refine .y ?_|refine .z ?_|fail
  rw[eto (by omega)]
  exact hC { s with pc:=i.to.toNat } F G _ _ hi1 hm1 hd k01 (by simp only[bK,c16,c15,c14,Bool.false_eq_true,if_false,if_true])
 |false=>
 have e14:(((i.op:Nat):Int)==14)=false:=(eqs 14).trans c14
 cases c6:(i.op==6)with
 |true=>
  have e6:(((i.op:Nat):Int)==6)=true:=(eqs 6).trans c6
  have c6':=beq_iff_eq.mp c6
  have hx:bK lim io i s=some (if lim.depth≤s.back.length then .no 13 (io.place s.d)else .ok (true,{ s with pc:=i.to.toNat,back:=(s.pc+1)::s.back })):=by simp only[bK,c16,c15,c14,c6,Bool.false_eq_true,if_false,if_true]
  rw[hx]at hno' hC
  repeat' first|refine .x ?_|refine .y ?_|refine .z ?_|fail
  refine Jn.by (fun _ w'=>w'=w1.drew∧¬ lim.depth≤s.back.length) (fun J hJ=>?_) ?_
  ·repeat' first|refine .x ?_|refine .y ?_|refine .z ?_|fail
   refine .split (fun hc=>?_) (fun hc=>?_)
   ·have hc':((s.back.length:Nat):Int)≥lim.depth:=of_decide_eq_true hc
    rw[if_pos (by omega)]at hno'
    repeat' first|refine .x ?_|refine .y ?_|refine .z ?_|fail
    obtain⟨fp,p1,p2⟩:=ic.place
    refine p1 _ _ _ ?_
    have kd:Kp [] w1 w1.drew:=by exact kpA
    refine Cl.ret (p2 F w1.drew s.d (ic.ext F (fun _=>False) w1 w1.drew s.d hi1 (Kp.kf kd) (fun _ _ f=>f))) ?_
    rintro v w9 ⟨rfl,rfl⟩
    exact Cl.BP fun ch w' hf hk=>hno' w' 13 (io.place s.d) ch rfl ((k01.tt kd).tt hk) hf
   ·have hc':¬ ((s.back.length:Nat):Int)≥lim.depth:=of_decide_eq_false hc
    exact hJ _ _ ⟨rfl,by omega⟩
  ·rintro _ w' jk2 ⟨rfl,hlt⟩
   rw[if_neg hlt]at hC
   have hbl:=hm1.bl
   have eb:((s.back.length+1:Nat):Int)=(s.back.length:Int)+1:=by push_cast;rfl
   repeat' first|refine .x ?_|refine .y ?_|refine .z ?_|fail
   refine Cl.w (fun w9=>Kp [(mb,mb+1)] w1 w9∧w9.heap[mb]?=some (cl (Am (pt cb 0) iv lim (s.back.length+1) vb' vl) az)) ⟨by exact kpA,by simp only[Am,eb];exact aj rfl (by simp only[size_drew];omega)⟩ ?_
   rintro w2 ⟨k2,A2'⟩
   have s2:=k2.size
   rw[e1]
   refine Cl.ret (VA (s.pc+1) A2' (A2.kp k2 (fun b hb=>⟨by have:=(a4 b hb).1;omega,trivial⟩)) (fun b hb=>(a4 b hb).1) (by omega)) ?_
   rintro v w3 ⟨vb3,o3,B1,B2,B3,k3⟩
   have s3:=k3.size
   have N3:w3.heap[w.heap.size]?=some (cl [i64 (i.op:Nat),.int .i64 i.n,.int .i64 i.to,.bool i.fixed,i64 (i.of_:Nat),.map fb,.map gb] aA):=(k3.same _ (by omega) ⟨by omega,aB (fun e=>by have:=hob _ e;omega)⟩).trans ((k2.same _ (by omega) ⟨by omega,trivial⟩).trans n1)
   repeat' first|refine .x ?_|refine .y ?_|refine .z ?_|fail
   rw[eto (by omega)]
   have RS:Kf G w1 w3:=(Kp.kfX (F:=G) k2 (fun j hj ho=>⟨by
    by_cases e:j=mb
    ·subst e;exact absurd hm1.gm ho
    ·omega,trivial⟩)).trans (Kp.kfX (F:=G) k3 (fun j hj ho=>⟨by
    by_cases e:j=mb
    ·subst e;exact absurd hm1.gm ho
    ·omega,aB (fun e=>ho (a4 _ e).2.2)⟩)) (fun j hj=>Or.inl hj)
   have A3':Gw w3 243 2 vl s.loops.length (oO s.loops) ol:=DX (DX A3 (Kp.kfX (F:=fun j=>j=mb) k2 (fun j hj ho=>⟨by omega,trivial⟩)) (fun b hb=>(a5 b hb).1)) (Kp.kfX (F:=fun j=>j=mb∨ob=some j) k3 (fun j hj ho=>⟨by omega,aB (fun e=>ho (Or.inr e))⟩)) (fun b hb h=>h.elim (a5 b hb).1 (fun e=>(a4 b e).2.1 hb))
   refine hC { s with pc:=i.to.toNat,back:=(s.pc+1)::s.back } F (fun j=>G j∨o3=some j) _ _ (ic.ext F G w1 w3 s.d hi1 RS hd) ?_ ?_ (Kf.base k01 RS hm1.gM) rfl
   ·refine MR.mk' hm1 (by omega) B1 (by rw[AL];exact B2) A3' (fun b hb=>⟨(B3 b hb).1,?_,Or.inr hb⟩) (fun b hb=>⟨(a5 b hb).1,Or.inl (a5 b hb).2⟩) ?_ (Or.inl hm1.gm) (by simp only[List.length_cons];omega) hm1.ll hm1.lv
    ·intro e
     rcases(B3 b hb).2 with h|h
     ·exact(a4 b h).2.1 e
     ·have:=hol b e;omega
    ·rintro b (hb|hb)
     ·exact Or.inl hb
     ·rcases(B3 b hb).2 with h|h
      ·exact Or.inl (a4 b h).2.2
      ·exact Or.inr ⟨by omega,B2.lt b hb⟩
   ·rintro j hj (hg|hg)
    ·exact hd j hj hg
    ·rcases(B3 j hg).2 with h|h
     ·exact hd j hj (a4 j h).2.2
     ·have:=hfl j hj;omega
 |false=>
 have e6:(((i.op:Nat):Int)==6)=false:=(eqs 6).trans c6
 cases c7:(i.op==7)with
 |true=>
  have e7:(((i.op:Nat):Int)==7)=true:=(eqs 7).trans c7
  have hx:∀b,s.back=b→bK lim io i s=(match b with
   |[]=>none
   |p::r=>some (.ok (true,{ s with pc:=p,back:=r }))):=by rintro b rfl;simp only[bK,c16,c15,c14,c6,c7,Bool.false_eq_true,if_false,if_true];cases s.back<;>rfl
  cases hbk:s.back with
  |nil=>rw[rH,tX,hj]at hr;simp only[hx _ hbk]at hr;cases hr
  |cons p rb=>
   have hx2:=hx (p::rb) hbk
   simp only at hx2
   rw[hx2]at hno' hC
   rw[hbk]at A1 A2 hm1
   rw[AL]at A2
   simp only[List.length_cons]at A1 A2
   have hbl:=hm1.bl
   simp only[List.length_cons]at hbl
   have eb:((rb.length+1:Nat):Int) - 1=(rb.length:Int):=by omega
   repeat' first|refine .x ?_|refine .y ?_|refine .z ?_|fail
   refine Cl.w (fun w9=>Kp [(mb,mb+1)] w1 w9∧w9.heap[mb]?=some (cl (Am (pt cb 0) iv lim rb.length vb' vl) az)) ⟨by exact kpA,by simp only[Am,eb];exact aj rfl (by omega)⟩ ?_
   rintro w2 ⟨k2,A2'⟩
   have s2:=k2.size
   refine Cl.ret (Yo A2' (A2.kp k2 (fun b hb=>⟨by have:=(a4 b hb).1;omega,trivial⟩)) (fun b hb=>(a4 b hb).1) (by omega)) ?_
   rintro v w3 ⟨rfl,vb3,B1,B2,k3⟩
   have s3:=k3.size
   have RS:Kf (fun j=>j=mb) w1 w3:=(Kp.kfX (F:=fun j=>j=mb) k2 (fun j hj ho=>⟨by omega,trivial⟩)).trans (Kp.kfX (F:=fun j=>j=mb) k3 (fun j hj ho=>⟨by omega,trivial⟩)) (fun j hj=>Or.inl hj)
   have A3':Gw w3 243 2 vl s.loops.length (oO s.loops) ol:=DX A3 RS (fun b hb=>(a5 b hb).1)
   refine hC { s with pc:=p,back:=rb } F G _ _ (ic.ext F _ w1 w3 s.d hi1 RS (fun j hj e=>hd j hj (by rw[e];exact hm1.gm))) ?_ hd (Kf.base k01 RS (fun j e=>by rw[e];exact hmM)) rfl
   exact MR.mk' hm1 (by omega) B1 B2 A3' a4 a5 (fun b hb=>Or.inl hb) hm1.gm (by show rb.length≤1000000;omega) hm1.ll hm1.lv
 |false=>
 have e7:(((i.op:Nat):Int)==7)=false:=(eqs 7).trans c7
 have way:∀{β:Type} {m:Res β} {good:β→Value→(Nat→Prop)→World→Prop} {f:FuncId} {args:Array Value} {wx:World} {E:KE} {K:KV},Kp [] w1 wx→Calls P f args wx (PostF F wx m good) →
   (∀w' e a ch,m=.no e a→Kp [] w0 w'→Flt e a ch w'→E ch w') →
   (∀b v F' w2,m=.ok b→Kf F w1 w2→Kp [] w0 w2→(∀j,F' j→¬ G j)→MR w0.heap.size mb (pt cb 0) iv lim G w2 s.back s.loops →
    w2.heap[w.heap.size]?=some (cl [i64 (i.op:Nat),.int .i64 i.n,.int .i64 i.to,.bool i.fixed,i64 (i.of_:Nat),.map fb,.map gb] aA)→good b v F' w2→K v w2)→Cl P f args wx E K:=by
  intro β m good f args wx E K kx hcl hE hK
  have zx:=kx.size
  have hF1:∀{w2},Kf F wx w2→Kf F w1 w2:=fun hk=>(Kp.kf kx).trans hk (fun j h=>Or.inl h)
  refine Cl.by hcl ?_ ?_ ?_
  ·rintro v w2 ⟨h1,h2⟩
   cases hm:m with
   |ok b=>
    rw[hm]at h2
    obtain⟨v',F',hv,hf,hg⟩:=h2
    cases hv
    refine hK b v F' w2 hm (hF1 h1) (Kf.base k01 (hF1 h1) hfM) (fun j hj hG=>?_) (hm1.ext (hF1 h1) (fun j hj hG=>hd j hj hG)) (((hF1 h1).same _ z1 hnF).trans n1) hg
    rcases hf j hj with h|h
    ·exact hd j h hG
    ·have:=hgl j hG;omega
   |no e a=>rw[hm]at h2;obtain⟨ch,hv,_⟩:=h2;cases hv
  ·rintro ch w2 ⟨h1,h2⟩
   cases hm:m with
   |ok a=>rw[hm]at h2;obtain⟨v',F',hv,_⟩:=h2;cases hv
   |no e a=>rw[hm]at h2;obtain⟨ch',hv,hf⟩:=h2;cases hv;exact hE w2 e a ch hm (Kf.base k01 (hF1 h1) hfM) hf
  ·rintro w2 ⟨h1,h2⟩
   cases hm:m with
   |ok a=>rw[hm]at h2;obtain⟨_,_,hv,_⟩:=h2;cases hv
   |no e a=>rw[hm]at h2;obtain⟨_,hv,_⟩:=h2;cases hv
 have inv1:∀{wx},Kp [] w1 wx→Inv F wx s.d:=fun kx=>ic.ext F (fun _=>False) w1 _ s.d hi1 (Kp.kf kx) (fun _ _ f=>f)
 repeat' first|refine .x ?_|refine .y ?_|refine .z ?_|fail
 refine Jn.by (fun vals w'=>vals=[.bool (i.op==8||i.op==9)]∧w'=w1) (fun J hJ=>?_) ?_
 ·cases c8:(i.op==8)with
  |true=>
   have e8:(((i.op:Nat):Int)==8)=true:=(eqs 8).trans c8
   repeat' first|refine .x ?_|refine .y ?_|refine .z ?_|fail
   exact hJ _ _ ⟨by rw[e8,c8];rfl,rfl⟩
  |false=>
   have e8:(((i.op:Nat):Int)==8)=false:=(eqs 8).trans c8
   repeat' first|refine .x ?_|refine .y ?_|refine .z ?_|fail
   exact hJ _ _ ⟨by rw[show (((i.op:Nat):Int)==9)=(i.op==9)from eqs 9,c8];rfl,rfl⟩
 rintro _ w' jk2 ⟨rfl,rfl⟩
 refine .s ?_
 cases c89:(i.op==8||i.op==9)with
 |true=>
  have UB:i.op≠13:=by simp at c89;omega
  have hx:bK lim io i s=if 1000000≤s.loops.length then none else some ((io.list i s.d).andThen fun x=>
   if x.1==0 then .ok (true,{ s with pc:=i.to.toNat,d:=x.2 })else .ok (true,{ s with pc:=s.pc+1,loops:=(x.1 - 1,s.pc+1)::s.loops,d:=x.2 })):=by simp only[bK,c16,c15,c14,c6,c7,c89,Bool.false_eq_true,if_false,if_true]
  by_cases hbig:1000000≤s.loops.length
  ·rw[rH,tX,hj]at hr;simp only[hx,if_pos hbig]at hr;cases hr
  rw[hx,if_neg hbig]at hno' hC
  repeat' first|refine .x ?_|refine .y ?_|refine .z ?_|fail
  obtain⟨f,f1,f2⟩:=ic.list
  refine f1 _ _ _ _ ?_
  have kd:Kp [] w' w'.drew:=by exact kpA
  refine way kd (f2 F w'.drew s.d i _ _ (inv1 kd) (k01.tt kd) hmem y1 y2) (fun w2 e a ch hm h1 h2=>hno' w2 e a ch (by rw[hm];rfl) h1 h2) ?_
  rintro⟨n,d2⟩ v F2 w2 hm hk k02 hd2 hm2 n2 ⟨rfl,hn0,hn1,hi2⟩
  simp only at hn0 hn1 hi2 ⊢
  rw[hm]at hC
  simp only[Res.dw]at hC
  cases cn:(n==0)with
  |true=>
   simp only[cn,if_true]at hC
   repeat' first|refine .x ?_|refine .y ?_|refine .z ?_|fail
   rw[eto UB]
   exact hC { s with pc:=i.to.toNat,d:=d2 } F2 G _ _ hi2 hm2 hd2 k02 rfl
  |false=>
   have hn':n≠0:=by simpa using cn
   simp only[cn,Bool.false_eq_true,if_false]at hC
   repeat' first|refine .x ?_|refine .y ?_|refine .z ?_|fail
   obtain⟨vb4,vl4,ob4,ol4,B1,B2,B3,B4,B5⟩:=hm2.c
   have hll:=hm2.ll
   rw[e1]
   refine Cl.ret (Qd (n - 1,s.pc+1) B1 B3 (fun b hb=>(B5 b hb).1) (by omega)) ?_
   rintro v w3 ⟨vl5,o5,D1,D2,D3,k3⟩
   have s3:=k3.size
   have hsz2:=hk.size
   have kf23:Kf G w2 w3:=Kp.kfX (F:=G) k3 (fun j hj ho=>⟨by
    by_cases e:j=mb
    ·subst e;exact absurd hm2.gm ho
    ·omega,aB (fun e=>ho (B5 _ e).2)⟩)
   have B2':Gw w3 3 1 vb4 s.back.length (lI s.back) ob4:=DX B2 (Kp.kfX (F:=fun j=>j=mb∨ol4=some j) k3 (fun j hj ho=>⟨by omega,aB (fun e=>ho (Or.inr e))⟩)) (fun b hb h=>h.elim (B4 b hb).1 (fun e=>(B4 b hb).2.1 e))
   refine hC { s with pc:=s.pc+1,loops:=(n - 1,s.pc+1)::s.loops,d:=d2 } F2 (fun j=>G j∨o5=some j) _ _ (ic.ext F2 G w2 w3 d2 hi2 kf23 hd2) ?_ ?_ (Kf.base k02 kf23 hm2.gM) rfl
   ·refine MR.mk' hm2 (by omega) D1 B2' (by rw[tZ];exact D2) (fun b hb=>⟨(B4 b hb).1,?_,Or.inl (B4 b hb).2.2⟩) (fun b hb=>⟨(D3 b hb).1,Or.inr hb⟩) ?_ (Or.inl hm2.gm) hm2.bl (by simp only[List.length_cons];omega) (fun x hx=>(List.mem_cons.mp hx).elim (fun e=>by rw[e];show n - 1≤4294967295;omega) (hm2.lv x))
    ·intro e
     rcases(D3 b e).2 with h|h
     ·exact(B4 b hb).2.1 h
     ·have:=hm2.gl b (B4 b hb).2.2;omega
    ·rintro b (hb|hb)
     ·exact Or.inl hb
     ·rcases(D3 b hb).2 with h|h
      ·exact Or.inl (B5 b h).2
      ·exact Or.inr ⟨by omega,D2.lt b hb⟩
   ·rintro j hj (hg|hg)
    ·exact hd2 j hj hg
    ·rcases(D3 j hg).2 with h|h
     ·exact hd2 j hj (B5 j h).2
     ·have:=(ic.low F2 w2 d2 hi2 j hj).2;omega
 |false=>
 cases c10:(i.op==10)with
 |true=>
  have e10:(((i.op:Nat):Int)==10)=true:=(eqs 10).trans c10
  have hx:∀b,s.loops=b→bK lim io i s=(match b with
   |[]=>none
   |(n,p)::r=>some (.ok (true,if 0<n then { s with pc:=p,loops:=(n - 1,p)::r }else { s with pc:=s.pc+1,loops:=r }))):=by rintro b rfl;simp only[bK,c16,c15,c14,c6,c7,c89,c10,Bool.false_eq_true,if_false,if_true];cases s.loops<;>rfl
  cases hbk:s.loops with
  |nil=>rw[rH,tX,hj]at hr;simp only[hx _ hbk]at hr;cases hr
  |cons p rb=>
   obtain⟨n,p⟩:=p
   have hx2:=hx ((n,p)::rb) hbk
   simp only at hx2
   rw[hx2]at hno' hC
   rw[hbk]at A3 hm1
   rw[tZ]at A3
   simp only[List.length_cons]at A3
   have hll:=hm1.ll
   simp only[List.length_cons]at hll
   repeat' first|refine .x ?_|refine .y ?_|refine .z ?_|fail
   refine Cl.ret (Yl A1 A3 (fun b hb=>(a5 b hb).1) (by omega)) ?_
   rintro v w2 ⟨rfl,vl3,B1,B2,k2⟩
   have s2:=k2.size
   unfold uT
   repeat' first|refine .x ?_|refine .y ?_|refine .z ?_|fail
   have YU:Kf (fun j=>j=mb) w' w2:=Kp.kfX (F:=fun j=>j=mb) k2 (fun j hj ho=>⟨by omega,trivial⟩)
   have A2':Gw w2 3 1 vb' s.back.length (lI s.back) ob:=DX A2 YU (fun b hb=>(a4 b hb).1)
   have hi2:=ic.ext F _ w' w2 s.d hi1 YU (fun j hj e=>hd j hj (by rw[e];exact hm1.gm))
   have k02:Kp [] w0 w2:=Kf.base k01 YU (fun j e=>by rw[e];exact hmM)
   have hlt2:mb<w2.heap.size:=lt_of_heap B1
   have k3:Kp [] w2 (ah (w2.alloc (cl [.int .i64 0,.int .i64 0] 243)) w2.heap.size (cl [.int .i64 n,i64 (p:Nat)] 243)):=by exact kpA
   have n3:(ah (w2.alloc (cl [.int .i64 0,.int .i64 0] 243)) w2.heap.size (cl [.int .i64 n,i64 (p:Nat)] 243)).heap[w2.heap.size]?=some (cl [.int .i64 n,i64 (p:Nat)] 243):=by exact lookA
   generalize ah (w2.alloc (cl [.int .i64 0,.int .i64 0] 243)) w2.heap.size (cl [.int .i64 n,i64 (p:Nat)] 243)=w3 at *
   have s3:=k3.size
   have C1:=(k3.same _ hlt2 trivial).trans B1
   have C2:=B2.kp k3 (fun _ _=>trivial)
   have C3:=A2'.kp k3 (fun _ _=>trivial)
   have k03:=k02.tt k3
   have hi3:=ic.ext F (fun _=>False) w2 w3 s.d hi2 (Kp.kf k3) (fun _ _ f=>f)
   have hlv:=hm1.lv (n,p) (List.mem_cons_self ..)
   refine .split (fun hc=>?_) (fun hc=>?_)
   ·have hc':n>0:=of_decide_eq_true hc
    simp only[if_pos hc']at hC
    have s3':w3.drew.heap.size=w3.heap.size:=size_drew _
    repeat' first|refine .x ?_|refine .y ?_|refine .z ?_|fail
    have kd:Kp [] w3 w3.drew:=by exact kpA
    refine Cl.ret (Qd (n - 1,p) (w:=w3.drew) C1 (C2.kp kd (fun _ _=>trivial)) (fun b hb=>(a5 b hb).1) (by omega)) ?_
    rintro v w4 ⟨vl5,o5,D1,D2,D3,k4⟩
    have s4:=k4.size
    have n4:w4.heap[w2.heap.size]?=some (cl [.int .i64 n,i64 (p:Nat)] 243):=(k4.same _ (by rw[s3'];exact lt_of_heap n3) ⟨by omega,aB (fun e=>by have:=hol _ e;omega)⟩).trans n3
    repeat' first|refine .x ?_|refine .y ?_|refine .z ?_|fail
    have kf34:Kf G w3.drew w4:=Kp.kfX (F:=G) k4 (fun j hj ho=>⟨by
     by_cases e:j=mb
     ·subst e;exact absurd hm1.gm ho
     ·omega,aB (fun e=>ho (a5 _ e).2)⟩)
    have B2':Gw w4 3 1 vb' s.back.length (lI s.back) ob:=DX (C3.kp kd (fun _ _=>trivial)) (Kp.kfX (F:=fun j=>j=mb∨ol=some j) k4 (fun j hj ho=>⟨by omega,aB (fun e=>ho (Or.inr e))⟩)) (fun b hb h=>h.elim (a4 b hb).1 (fun e=>(a4 b hb).2.1 e))
    have hi3d:=ic.ext F (fun _=>False) w3 w3.drew s.d hi3 (Kp.kf kd) (fun _ _ f=>f)
    refine hC { s with pc:=p,loops:=(n - 1,p)::rb } F (fun j=>G j∨o5=some j) _ _ (ic.ext F G w3.drew w4 s.d hi3d kf34 hd) ?_ ?_ (Kf.base (k03.tt kd) kf34 hm1.gM) rfl
    ·refine MR.mk' hm1 (by omega) D1 B2' (by rw[tZ];exact D2) (fun b hb=>⟨(a4 b hb).1,?_,Or.inl (a4 b hb).2.2⟩) (fun b hb=>⟨(D3 b hb).1,Or.inr hb⟩) ?_ (Or.inl hm1.gm) hm1.bl hll (fun x hx=>(List.mem_cons.mp hx).elim (fun e=>by rw[e];show n - 1≤4294967295;omega) (fun h=>hm1.lv x (List.mem_cons_of_mem _ h)))
     ·intro e
      rcases(D3 b e).2 with h|h
      ·exact(a4 b hb).2.1 h
      ·have:=hob b hb;omega
     ·rintro b (hb|hb)
      ·exact Or.inl hb
      ·rcases(D3 b hb).2 with h|h
       ·exact Or.inl (a5 b h).2
       ·exact Or.inr ⟨by omega,D2.lt b hb⟩
    ·rintro j hj (hg|hg)
     ·exact hd j hj hg
     ·rcases(D3 j hg).2 with h|h
      ·exact hd j hj (a5 j h).2
      ·have:=hfl j hj;omega
   ·have hc':¬ n>0:=of_decide_eq_false hc
    simp only[if_neg hc']at hC
    rw[e1]
    refine hC { s with pc:=s.pc+1,loops:=rb } F G _ _ hi3 ?_ hd k03 rfl
    exact MR.mk' hm1 (by omega) C1 C3 C2 a4 a5 (fun b hb=>Or.inl hb) hm1.gm hm1.bl (by show rb.length≤1000000;omega) (fun x hx=>hm1.lv x (List.mem_cons_of_mem _ hx))
 |false=>
 have e10:(((i.op:Nat):Int)==10)=false:=(eqs 10).trans c10
 cases c11:(i.op==11)with
 |true=>
  have e11:(((i.op:Nat):Int)==11)=true:=(eqs 11).trans c11
  have hx:bK lim io i s=some ((io.list i s.d).andThen fun x=>.ok (true,{ s with pc:=s.pc+1,d:=x.2 })):=by simp only[bK,c16,c15,c14,c6,c7,c89,c10,c11,Bool.false_eq_true,if_false,if_true]
  rw[hx]at hno' hC
  repeat' first|refine .x ?_|refine .y ?_|refine .z ?_|fail
  obtain⟨f,f1,f2⟩:=ic.list
  refine f1 _ _ _ _ ?_
  have kd:Kp [] w' w'.drew:=by exact kpA
  refine way kd (f2 F w'.drew s.d i _ _ (inv1 kd) (k01.tt kd) hmem y1 y2) (fun w2 e a ch hm h1 h2=>hno' w2 e a ch (by rw[hm];rfl) h1 h2) ?_
  rintro⟨n,d2⟩ v F2 w2 hm hk k02 hd2 hm2 n2 ⟨rfl,hn0,hn1,hi2⟩
  rw[hm]at hC
  rw[e1]
  exact hC { s with pc:=s.pc+1,d:=d2 } F2 G _ _ hi2 hm2 hd2 k02 rfl
 |false=>
 have e11:(((i.op:Nat):Int)==11)=false:=(eqs 11).trans c11
 cases c12:(i.op==12)with
 |true=>
  have e12:(((i.op:Nat):Int)==12)=true:=(eqs 12).trans c12
  have UB:i.op≠13:=by simp at c12;omega
  have hx:bK lim io i s=some ((io.option s.d).andThen fun x=>.ok (true,{ s with pc:=if x.1 then s.pc+1 else i.to.toNat,d:=x.2 })):=by simp only[bK,c16,c15,c14,c6,c7,c89,c10,c11,c12,Bool.false_eq_true,if_false,if_true]
  rw[hx]at hno' hC
  repeat' first|refine .x ?_|refine .y ?_|refine .z ?_|fail
  obtain⟨f,f1,f2⟩:=ic.option
  refine f1 _ _ _ ?_
  refine way (Kp.refl _ _) (f2 F w' s.d (inv1 (Kp.refl _ _)) k01) (fun w2 e a ch hm h1 h2=>hno' w2 e a ch (by rw[hm];rfl) h1 h2) ?_
  rintro⟨b,d2⟩ v F2 w2 hm hk k02 hd2 hm2 n2 ⟨rfl,hi2⟩
  rw[hm]at hC
  dsimp only at hi2 ⊢
  cases b with
  |true=>
   repeat' first|refine .x ?_|refine .y ?_|refine .z ?_|fail
   rw[e1]
   exact hC { s with pc:=s.pc+1,d:=d2 } F2 G _ _ hi2 hm2 hd2 k02 rfl
  |false=>
   repeat' first|refine .x ?_|refine .y ?_|refine .z ?_|fail
   rw[eto UB]
   exact hC { s with pc:=i.to.toNat,d:=d2 } F2 G _ _ hi2 hm2 hd2 k02 rfl
 |false=>
 have e12:(((i.op:Nat):Int)==12)=false:=(eqs 12).trans c12
 cases c13:(i.op==13)with
 |true=>
  have e13:(((i.op:Nat):Int)==13)=true:=(eqs 13).trans c13
  have hx:bK lim io i s=some ((io.union i s.d).andThen fun x=>.ok (true,{ s with pc:=x.1.toNat,d:=x.2 })):=by simp only[bK,c16,c15,c14,c6,c7,c89,c10,c11,c12,c13,Bool.false_eq_true,if_false,if_true]
  rw[hx]at hno' hC
  repeat' first|refine .x ?_|refine .y ?_|refine .z ?_|fail
  obtain⟨f,f1,f2⟩:=ic.union
  refine f1 _ _ _ _ ?_
  have kd:Kp [] w' w'.drew:=by exact kpA
  refine way kd (f2 F w'.drew s.d i _ _ (inv1 kd) (k01.tt kd) hmem (beq_iff_eq.mp c13) y1 y2) (fun w2 e a ch hm h1 h2=>hno' w2 e a ch (by rw[hm];rfl) h1 h2) ?_
  rintro⟨n,d2⟩ v F2 w2 hm hk k02 hd2 hm2 n2 ⟨rfl,hn0,hi2⟩
  rw[hm]at hC
  simp only at hn0 ⊢
  obtain⟨m,rfl⟩:∃m:Nat,n=(m:Nat):=⟨n.toNat,by omega⟩
  exact hC { s with pc:=m,d:=d2 } F2 G _ _ hi2 hm2 hd2 k02 rfl
 |false=>
  have e13:(((i.op:Nat):Int)==13)=false:=(eqs 13).trans c13
  have hx:bK lim io i s=some ((io.leaf i s.d).andThen fun d=>.ok (true,{ s with pc:=s.pc+1,d:=d })):=by simp only[bK,c16,c15,c14,c6,c7,c89,c10,c11,c12,c13,Bool.false_eq_true,if_false,if_true]
  rw[hx]at hno' hC
  repeat' first|refine .x ?_|refine .y ?_|refine .z ?_|fail
  obtain⟨f,f1,f2⟩:=ic.leaf
  refine f1 _ _ _ _ ?_
  have kd:Kp [] w' w'.drew:=by exact kpA
  refine way kd (f2 F w'.drew s.d i _ _ (inv1 kd) (k01.tt kd) hmem y1 y2) (fun w2 e a ch hm h1 h2=>hno' w2 e a ch (by rw[hm];rfl) h1 h2) ?_
  rintro d2 v F2 w2 hm hk k02 hd2 hm2 n2 hi2
  rw[hm]at hC
  rw[e1]
  exact hC { s with pc:=s.pc+1,d:=d2 } F2 G _ _ hi2 hm2 hd2 k02 rfl
end Go.W.T

/- Texts of mine, one behind the other; nothing is assumed. -/
import Derived.Test.YtaaepbggooiblaaGreatDoorB20
import Derived.Test.YtaaepbggooiblaaGreatDoorB04
import Derived.Test.YtaaepbggooiblaaGreatDoorB06
set_option linter.unusedSimpArgs false
set_option linter.unusedVariables false
set_option maxRecDepth 4000
namespace Go.W.T
open Go Go.W Go.M Go.Proofs
def ZP(n:Nat)(w:World)(c:CS)(v:Value):Prop:=∃B H ρ T,n≤B∧v=pt (B+3) 0∧CR B H ρ T w c
theorem wf_at{ds:List Def}:∀{c:CS} (k:Nat),qA c ds=true→qA (bg c (ds.take k)) (ds.drop k)=true:=by
 induction ds with
 |nil=>intro c k h;simp[bg,qA]
 |cons d r ih=>
  intro c k h
  cases k with
  |zero=>exact h
  |succ k=>
   rw[qA,Bool.and_eq_true]at h
   exact ih k h.2
theorem jm.at{H:Hp}:∀{ds:List Def} {l:List Value} (k:Nat) (hk:k<ds.length),jm H ds l→∃v,l[0+k*1]?=some v∧fQ H ds[k] v
 |d::ds,v::r,0,_,h=>⟨v,rfl,h.1⟩
 |d::ds,v::r,k+1,hk,h=>by
  obtain⟨v',h1,h2⟩:=jm.at k (by simpa using hk) h.2
  exact⟨v',by simpa using h1,h2⟩
 |[],_,_,hk,_=>absurd hk (by simp)
 |_::_,[],_,_,h=>h.elim
theorem jm.len{H:Hp}:∀{ds:List Def} {l:List Value},jm H ds l→l.length=ds.length
 |[],[],_=>rfl
 |_::_,_::_,h=>by simp[jm.len h.2]
 |[],_::_,h=>h.elim
 |_::_,[],h=>h.elim
theorem born_inj{l:List MapEntry}(h:(l.map (·.born)).Nodup){a b:MapEntry}(ha:a∈l)(hb:b∈l)(e:a.born=b.born):a=b:=by
 have h1:=find_born h ha
 have h2:=find_born h hb
 rw[e]at h1
 rw[h1]at h2
 exact Option.some.inj h2
theorem BM{l:List MapEntry}(h:(l.map (·.born)).Nodup):l.Nodup:=by
 unfold List.Nodup at h ⊢
 rw[List.pairwise_map]at h
 exact h.imp fun hab e=>hab (by rw[e])
theorem RI{d l:List MapEntry}(hd:(d.map (·.born)).Nodup)(hl:(l.map (·.born)).Nodup)(hs:∀e∈d,e∈l)(ha:∀e∈l,∃x∈d,x.born=e.born):d.Perm l:=by
 rw[List.perm_ext_iff_of_nodup (BM hd) (BM hl)]
 intro a
 refine⟨hs a,fun h=>?_⟩
 obtain⟨x,hx,hb⟩:=ha a h
 rw[← born_inj hl (hs x hx) h hb]
 exact hx
set_option maxHeartbeats 2000000 in
theorem Rj{n0:Nat}{w:World}{ds:List Def}{v:Value}(hg:Gl w)(hd:P8 n0 w ds v)(hf:fine ds=true):
  Calls P Aj #[v] w (Post w (compile ds) [] fun c v' w'=>Gl w'∧∃names:List By,names.Perm (c.start.map (·.1))∧ZP w.heap.size w' (bC c names) v'):=by
 refine Post.R fun R M hM hok hno=>?_
 apply Ie
 unfold zD
 obtain⟨H,l,o,hsub,hge,hds,hgw,ho⟩:=hd
 have hdom:∀b x,H b=some x→b<w.heap.size:=fun b x hx=>lt_of_heap (hsub b x.1 x.2 hx)
 obtain⟨va,vc,rfl⟩:=hgw.len
 have hN0:=hg.size
 -- what is asked of the definitions
 have hfine:qA CS.empty ds=true∧(bg CS.empty ds).L.length+2*(bg CS.empty ds).start.length<1000000∧(∀x∈(bg CS.empty ds).calls,x.1<(bg CS.empty ds).L.length)∧(∀x∈(bg CS.empty ds).defs,jE x.2=true) ∧
   (∀d∈ds,(endless (bg CS.empty ds).defs d).isSome=true)∧ds.length<1000000:=by
  unfold fine at hf
  simp only[Bool.and_eq_true,decide_eq_true_eq,List.all_eq_true]at hf
  obtain⟨⟨⟨⟨⟨f1,f2⟩,f3⟩,f4⟩,f5⟩,f6⟩:=hf
  refine⟨f1,f2,f3,f4,?_,f6⟩
  unfold UN at f5
  rwa [List.all_eq_true]at f5
 obtain⟨f1,f2,f3,f4,f5,f6⟩:=hfine
 rw[compile]at hM
 obtain⟨cF,hcF⟩:∃X,X=bg CS.empty ds:=⟨_,rfl⟩
 rw[← hcF]at f2 f3 f4 f5 hM
 repeat' first|refine .x ?_|refine .y ?_|refine .z ?_|fail
 have hsl:∀w',Kd 6 w.heap.size (fun _=>(0,0)) w w'→∀b,b<w.heap.size→w'.heap[b]?=w.heap[b]?:=fun w' k b hb=>k.same b hb (Or.inl hb)
 refine(fun(Q:∀w9,Kp [] w w9∧w9.heap[w.heap.size]?=some (.map #[] 0)∧w9.heap[w.heap.size+1]?=some (.map #[] 0)∧w9.heap[w.heap.size+2]?=some (.map #[] 0) ∧
  w9.heap[w.heap.size+3]?=some (cl [.slice none 0 0,.map (some w.heap.size),.map (some (w.heap.size+1)),.map (some (w.heap.size+1+1))] gU)∧w9.heap[w.heap.size+4]?=some (.map #[] 0)∧w9.heap[w.heap.size+5]?=some (.map #[] 0) ∧
  w9.heap[w.heap.size+6]?=some (cl [pt (w.heap.size+1+1+1) 0,.map (some (w.heap.size+1+1+1+1)),.map (some (w.heap.size+1+1+1+1+1)),.slice none 0 0] dJ)∧w9.heap.size=w.heap.size+7→Lp [.int .i64 0] w9 _)=>Q _ ⟨by exact kpA,by exact lookA,by exact lookA,by exact lookA,by exact lookA,by exact lookA,by exact lookA,by exact lookA,by simp only[size_alloc]⟩) ?_
 rintro w1 ⟨k1,p0,p1,p2,p3,p4,p5,p6,p7⟩
 have h1:CR w.heap.size H (fun _=>(0,0)) [] w1 CS.empty:=
  {gl:=hg.kp k1 (fun _ _=>trivial),hB:=hN0,sub:=hsub.kp k1 (fun _ _ _=>trivial),dom:=hdom,lt:=by omega,free:=fun _ _=>rfl,low:=fun _ _=>rfl,
   L:=⟨.slice none 0 0,[],none,p3,Gw.nil _ _ _,trivial,by simp⟩,calls:=⟨.slice none 0 0,none,p6,Gw.nil _ _ _,by simp⟩,jU:=rfl,tabs:=fun i b l hb _=>by simp at hb,
   types:=⟨#[],0,p0,MK.empty⟩,procs:=⟨#[],0,p1,MK.empty,by simp[CS.empty]⟩,bM:=⟨#[],0,[],p2,MK.empty,trivial⟩,defs:=⟨#[],0,[],p4,MK.empty,trivial⟩,start:=⟨#[],0,p5,MK.empty⟩,uF:=Nat.le_refl _ }
 obtain⟨B,hB⟩:∃B,B=w.heap.size:=⟨_,rfl⟩
 have hB3:w.heap.size+1+1+1=B+3:=by omega
 have hB6:w.heap.size+1+1+1+1+1+1=B+6:=by omega
 rw[hB6]
 rw[← hB]at h1
 have kd1:Kd 6 B (fun _=>(0,0)) w w1:=Kp.kc0 k1
 have hsame:∀w' (ρ:aN),Kd 6 B (fun _=>(0,0)) w w'→∀b,b<w.heap.size→w'.heap[b]?=w.heap[b]?:=fun w' _ k b hb=>k.same b hb (Or.inl (by omega))
 have Uw:∀w' (k:Nat) (hk:k<ds.length),Kd 6 B (fun _=>(0,0)) w w'→∃sb v rest,va=some ⟨sb,0,none⟩∧w'.heap[sb]?=some (cl (l++rest) rE)∧(l++rest)[0+k*1]?=some v∧fQ H ds[k] v:=by
  intro w' k hk kd
  obtain⟨sb,rest,cap,e1,e2,e3⟩:=Gw.some hgw (by omega)
  cases e2
  obtain⟨v,q1,q2⟩:=hds.at k hk
  refine⟨sb,v,rest,rfl,(kd.same sb (lt_of_heap e3) (Or.inl (by rw[hB];exact lt_of_heap e3))).trans e3,?_,q2⟩
  rw[List.getElem?_append_left (by rw[hds.len];omega)];exact q1
 refine Lp.nat (n:=ds.length) (fun n vals w'=>∃(k:Nat) (ρ:aN) (T:List Nat),vals=[i64 (k:Nat)]∧k+n=ds.length∧Kd 6 B (fun _=>(0,0)) w w'∧CR B H ρ T w' (bg CS.empty (ds.take k))) ?_ ?_
 ·exact⟨0,_,_,rfl,by omega,kd1,h1⟩
 rintro n _ wL jk C ⟨k,ρ,T,rfl,hkn,kL,hL⟩ hC
 have hwf:=wf_at k f1
 have hlL:=hL.lt
 refine .s ?_
 refine .s ?_
 refine .split (fun hc=>?_) (fun hc=>?_)
 ·have hlt:k<ds.length:=by have:=of_decide_eq_true hc;omega
  obtain⟨sb,dv,rest,rfl,hsb,hsx,hdv⟩:=Uw wL k hlt kL
  rw[List.drop_eq_getElem_cons hlt,qA,Bool.and_eq_true,Bool.and_eq_true,Bool.and_eq_true]at hwf
  obtain⟨⟨⟨g1,g2⟩,g3⟩,g4⟩:=hwf
  have ek:ds.take k++[ds[k]]=ds.take (k+1):=by rw[List.take_add_one,List.getElem?_eq_getElem hlt];rfl
  have eC:bg CS.empty (ds.take (k+1))=oQ (bg CS.empty (ds.take k)) ds[k]:=by rw[← ek,IC]
  have hmono:(bg CS.empty (ds.take (k+1))).L.length≤cF.L.length:=by
   have:ds=ds.take (k+1)++ds.drop (k+1):=(List.take_append_drop _ _).symm
   rw[hcF]
   conv=>rhs;rw[this,Jz]
   exact IE _ _
  obtain⟨cK,hcK⟩:∃X,X=bg CS.empty (ds.take k):=⟨_,rfl⟩
  rw[← hcK]at hL g1 g3 eC
  rw[eC]at hmono
  refine Jn.by (fun vals w'=>∃ρ' T',Kd 6 B (fun _=>(0,0)) w w'∧CR B H ρ' T' w' (oQ cK ds[k])) (fun J hJ=>?_) ?_
  ·refine .s ?_
   refine Ld.s ?_ hsb hsx
   refine Bg hdv hL.sub ?_
   refine Cl.ret (Gy _ _) ?_
   rintro _ w2 ⟨rfl,k2⟩
   have h2:=hL.ext k2
   obtain⟨v2,o2,b1,b2,b3⟩:=h2.calls
   obtain⟨es,ck,m,d1,d2,d3⟩:=h2.defs
   have hl2:=h2.lt
   repeat' first|refine .x ?_|refine .y ?_|refine .z ?_|fail
   refine Mu.str d2 (by exact lookA) fun es' ck' hm'=>?_
   generalize ds[k]=d at *
   have h3:=h2.Wh (l:=aY cK.defs d.name d) (w':=ah w2 (B+4) (.map es' ck')) (by exact kpA) ⟨es',ck',_,aj rfl (by omega),hm',xw.put hdv d3⟩
   have k3:Kd 6 B (fun _=>(0,0)) w (ah w2 (B+4) (.map es' ck')):=(kL.kp k2).kpx (X:=[(B+4,B+5)]) (by exact kpA) (fun i hi hx=>⟨by omega,trivial⟩)
   generalize ah w2 (B+4) (.map es' ck')=w3 at *
   have fin:∀cX w4,CG6 B H ρ T w3 cX w4→∃ρ' T',Kd 6 B (fun _=>(0,0)) w w4∧CR B H ρ' T' w4 cX:=by
    rintro cX w4 ⟨ρ4,D4,q1,q2,q3⟩
    refine⟨ρ4,T++D4,?_,q3⟩
    refine⟨q1.os.trans k3.os,q1.tape.trans k3.tape,q1.output.trans k3.output,Nat.le_trans k3.size q1.size,fun i hi ho=>?_⟩
    have hiB:i<B:=by omega
    exact(q1.same i (Nat.lt_of_lt_of_le hi k3.size) (Or.inl hiB)).trans (k3.same i hi ho)
   have other:(∀n vs,d.k≠.prog n vs)→(∀o nm ar els,d.k=.union o nm ar els→lT { cK with defs:=aY cK.defs d.name d } o=true)→Cl P 49 #[pt (B+6) 0,dv] w3 (pE R) fun x39 w40=>J [] w40:=by
    intro hnp hun
    have eD:oQ cK d=eH d { cK with defs:=aY cK.defs d.name d }:=by
     obtain⟨nm,at_,dk⟩:=d
     cases dk with
     |prog n vs=>exact absurd rfl (hnp n vs)
     |_=>rfl
    refine Cl.ret (Tm h3 hdv hnp (by simpa using g3) hun g2 (by rw[← eD];omega) (by have:=JA d cK;show cK.L.length<_;omega)) ?_
    intro v4 w4 hg4
    rw[← eD]at hg4
    exact hJ _ _ (fin _ _ hg4)
   obtain⟨nm,at_,dk⟩:=d
   cases dk with
   |prog n vs=>
    obtain⟨gb,u,l2,rfl,q1,q2,q3⟩:=hdv
    have g2':vs.length<1000000∧inU n∧∀v∈vs,v.procs.length<1000000∧inU v.n∧∀q∈v.procs,inU q.n:=by
     have:(decide (vs.length<1000000)&&inRange n&&vs.all fun v=>decide (v.procs.length<1000000)&&inRange v.n&&v.procs.all fun q=>inRange q.n)=true:=g2
     simp only[Bool.and_eq_true,List.all_eq_true,decide_eq_true_eq,inRange]at this
     exact⟨this.1.1,this.1.2,fun v hv=>⟨(this.2 v hv).1.1,(this.2 v hv).1.2,(this.2 v hv).2⟩⟩
    repeat' first|refine .x ?_|refine .y ?_|refine .z ?_|fail
    refine Cl.ret (OJ h3 q1 q2 q3 g2'.2.1 g2'.1 g2'.2.2 (by
     have:(cK.bM.all fun x=>decide (x.2.length<1000000))=true:=g1
     rw[List.all_eq_true]at this
     exact fun x hx=>of_decide_eq_true (this x hx)) (by
     have:(fP n { cK with defs:=aY cK.defs nm ⟨nm,at_,.prog n vs⟩ } vs).L.length≤cF.L.length:=hmono
     exact Nat.le_trans this (by omega))) ?_
    intro v4 w4 hg4
    exact hJ _ _ (fin _ _ hg4)
   |const n=>
    obtain⟨b,rfl,q1⟩:=hdv
    repeat' first|refine .x ?_|refine .y ?_|refine .z ?_|fail
    exact other (fun _ _ e=>by cases e) (fun _ _ _ _ e=>by cases e)
   |alias t=>
    obtain⟨b,u,rfl,q1⟩:=hdv
    repeat' first|refine .x ?_|refine .y ?_|refine .z ?_|fail
    exact other (fun _ _ e=>by cases e) (fun _ _ _ _ e=>by cases e)
   |enum ns is=>
    obtain⟨b,u,x,rfl,q1⟩:=hdv
    repeat' first|refine .x ?_|refine .y ?_|refine .z ?_|fail
    exact other (fun _ _ e=>by cases e) (fun _ _ _ _ e=>by cases e)
   |struct dd=>
    obtain⟨b,u,l2,rfl,q1⟩:=hdv
    repeat' first|refine .x ?_|refine .y ?_|refine .z ?_|fail
    exact other (fun _ _ e=>by cases e) (fun _ _ _ _ e=>by cases e)
   |union o2 nm2 ar els=>
    obtain⟨b,ov,u,l2,e,rfl,q1⟩:=hdv
    repeat' first|refine .x ?_|refine .y ?_|refine .z ?_|fail
    exact other (fun _ _ e=>by cases e) (fun _ _ _ _ e=>by cases e;exact g1)
  ·rintro _ w3 jk3 ⟨ρ',T',k3,h3⟩
   repeat' first|refine .x ?_|refine .y ?_|refine .z ?_|fail
   exact hC (n - 1) _ _ (by omega) ⟨k+1,ρ',T',rfl,by omega,k3,by rw[eC];exact h3⟩
 ·have hge':k=ds.length:=by have:=of_decide_eq_false hc;omega
  subst hge'
  rw[List.take_length,← hcF]at hL
  have hz0:=kL.size
  have Kpw:∀{w':World},Kd 6 B (fun _=>(0,0)) w w'→Kp [] w w':=fun k=>⟨k.os,k.tape,k.output,k.size,fun b hb _=>hsame _ ρ k b hb⟩
  have glk:∀{w':World},Kd 6 B (fun _=>(0,0)) w w'→Gl w':=fun k=>hg.kp (Kpw k) (fun _ _=>trivial)
  have tr:∀{w1 w2:World} {ρ:aN},Kd 6 B (fun _=>(0,0)) w w1→Kd 6 B ρ w1 w2→Kd 6 B (fun _=>(0,0)) w w2:=fun k3 q1=>
   ⟨q1.os.trans k3.os,q1.tape.trans k3.tape,q1.output.trans k3.output,Nat.le_trans k3.size q1.size,fun i hi ho=>(q1.same i (Nat.lt_of_lt_of_le hi k3.size) (Or.inl (by omega))).trans (k3.same i hi ho)⟩
  refine Cl.by (Q7 hL f3 (by omega)) ?_ ?_ ?_
  rotate_left
  ·rintro ch w2 ⟨k2,h2⟩
   cases hr:dY cF.start cF.L cF.calls with
   |ok L'=>rw[hr]at h2;obtain⟨_,hv,_⟩:=h2;cases hv
   |no e a=>rw[hr]at h2 hM;obtain⟨_,hv,hfl⟩:=h2;cases hv;exact hno _ _ _ _ hM (Kpw (tr kL k2)) hfl
  ·rintro w2 ⟨k2,h2⟩
   cases hr:dY cF.start cF.L cF.calls with
   |ok L'=>rw[hr]at h2;obtain⟨_,hv,_⟩:=h2;cases hv
   |no e a=>rw[hr]at h2;obtain⟨_,hv,_⟩:=h2;cases hv
  rintro v2 w2 ⟨k2,h2⟩
  cases hr:dY cF.start cF.L cF.calls with
  |no e a=>rw[hr]at h2;obtain⟨_,hv,_⟩:=h2;cases hv
  |ok L'=>
  rw[hr]at h2 hM
  obtain⟨_,hv,hlen',ρ2,D2,_,_,hC2⟩:=h2
  cases hv
  simp only[Res.dw]at hM
  have kd2:=tr kL k2
  obtain⟨c2,hc2⟩:∃X:CS,X={ cF with L:=L' }:=⟨_,rfl⟩
  rw[← hc2]at hC2 hM
  have e21:c2.start=cF.start:=by rw[hc2]
  have e22:c2.defs=cF.defs:=by rw[hc2]
  have e23:c2.L.length=cF.L.length:=by rw[hc2];exact hlen'
  have e24:dZ cF ds=dZ c2 ds:=by
   have:∀l:List Def,dZ cF l=dZ c2 l:=by
    intro l
    induction l with
    |nil=>rfl
    |cons d r ih=>rw[dZ,dZ,ih,e21,e22]
   exact this ds
  rw[e24]at hM
  repeat' first|refine .x ?_|refine .y ?_|refine .z ?_|fail
  refine Lp.nat (n:=ds.length) (fun n vals w'=>∃(k:Nat),vals=[i64 (k:Nat)]∧k+n=ds.length∧Kd 6 B (fun _=>(0,0)) w w'∧CR B H ρ2 (T++D2) w' c2∧M=(dZ c2 (ds.drop k)).andThen fun _=>.ok c2) ?_ ?_
  ·exact⟨0,rfl,by omega,kd2,hC2,hM⟩
  rintro n _ w3 jk3 C3 ⟨k,rfl,hkn3,kd3,h3,hM3⟩ hC3
  have hl3:=h3.lt
  refine .s ?_
  refine .s ?_
  refine .split (fun hc3=>?_) (fun hc3=>?_)
  ·have hlt:k<ds.length:=by have:=of_decide_eq_true hc3;omega
   obtain⟨sb,dv,rest,rfl,hsb,hsx,hdv⟩:=Uw w3 k hlt kd3
   rw[List.drop_eq_getElem_cons hlt,dZ]at hM3
   have hfu:=f5 ds[k] (List.getElem_mem hlt)
   rw[← e22]at hfu
   obtain⟨bb,hbb⟩:=Option.isSome_iff_exists.mp hfu
   have hwfk:=wf_at k f1
   rw[List.drop_eq_getElem_cons hlt,qA,Bool.and_eq_true,Bool.and_eq_true,Bool.and_eq_true]at hwfk
   have hsmk:=hwfk.1.1.2
   rw[hbb]at hM3
   generalize ds[k]=d at *
   refine Jn.by (fun vals w'=>((c2.start.lookup d.name).isSome&&bb)=false∧Kp [] w3 w') (fun J hJ=>?_) ?_
   ·refine .s ?_
    refine Ld.s ?_ hsb hsx
    refine Bg hdv h3.sub ?_
    refine Cl.ret (Gy _ _) ?_
    rintro _ w4 ⟨rfl,k4⟩
    have h4:=h3.ext k4
    obtain⟨v4,o4,b1,b2,b3⟩:=h4.calls
    obtain⟨es,ck,g1,g2⟩:=h4.start
    have hl4:=h4.lt
    repeat' first|refine .x ?_|refine .y ?_|refine .z ?_|fail
    refine Lk.str g2 (by exact lookA) ?_
    rw[ku (fun k:Nat=>i64 (k:Nat))]
    cases hlk:c2.start.lookup d.name with
    |none=>
     rw[hlk]at hJ
     refine .s ?_
     refine .s ?_
     have Zk:(Option.map (fun k:Nat=>i64 (k:Nat)) (none:Option Nat)).isSome=false:=rfl
     rw[Zk]
     repeat' first|refine .x ?_|refine .y ?_|refine .z ?_|fail
     exact hJ _ _ ⟨rfl,k4⟩
    |some t=>
     rw[hlk]at hJ hM3
     refine .s ?_
     refine .s ?_
     have htrue:(Option.map (fun k:Nat=>i64 (k:Nat)) (some t)).isSome=true:=rfl
     rw[htrue]
     repeat' first|refine .x ?_|refine .y ?_|refine .z ?_|fail
     refine Cl.ret (Rf h4.sub (fun b z hz=>by have:=h4.dom b z hz;omega) (mb:=B+4) (by omega) h4.defs (by rw[e22];exact f4) hdv hsmk hbb) ?_
     rintro _ w5 ⟨rfl,k5⟩
     have k45:=k4.trans k5 (Z:=[]) (fun _ _ _=>⟨trivial,trivial⟩)
     cases bb with
     |true=>
      repeat' first|refine .x ?_|refine .y ?_|refine .z ?_|fail
      have hM4:M=.no 9 d.at_:=by rw[hM3];rfl
      exact Cl.XR fun ch w' hf hk=>hno _ _ _ _ hM4 ((Kpw kd3).trans (k45.trans hk (Z:=[]) (fun _ _ _=>⟨trivial,trivial⟩)) (fun _ _ _=>⟨trivial,trivial⟩)) hf
     |false=>
      repeat' first|refine .x ?_|refine .y ?_|refine .z ?_|fail
      exact hJ _ _ ⟨rfl,k45⟩
   ·rintro _ w4 jk4 ⟨hb4,k4⟩
    have hb5:((c2.start.lookup d.name).isSome&&(some bb).getD true)=false:=hb4
    rw[hb5,if_neg (by decide)]at hM3
    repeat' first|refine .x ?_|refine .y ?_|refine .z ?_|fail
    exact hC3 (n - 1) _ _ (by omega) ⟨k+1,rfl,by omega,kd3.kp k4,h3.ext k4,hM3⟩
  ·have hge3:k=ds.length:=by have:=of_decide_eq_false hc3;omega
   subst hge3
   rw[List.drop_length,dZ]at hM3
   simp only[Res.dw]at hM3
   obtain⟨v4,o4,b1,b2,b3⟩:=h3.calls
   obtain⟨es,ck,g1,g2⟩:=h3.start
   repeat' first|refine .x ?_|refine .y ?_|refine .z ?_|fail
   refine W9 g1 ?_
   have hkeys:∀e∈es.toList,∃s,e.key=κs s:=by
    intro e he
    have:(e.key,e.val)∈es.toList.map (fun e=>(e.key,e.val)):=List.mem_map.mpr ⟨e,he,rfl⟩
    rw[g2.1]at this
    obtain⟨x,_,hx⟩:=List.mem_map.mp this
    exact⟨x.1,(congrArg Prod.fst hx).symm⟩
   refine(fun(Q:∀w9,Kp [] w3 w9∧w9.heap[w3.heap.size]?=some (.mapIter (some (B+5)) ck #[] ck)→Lp [] w9 _)=>Q _ ⟨by exact kpA,by exact lookA⟩) ?_
   rintro w4 ⟨k4,it4⟩
   have zit:=lt_of_heap it4
   have fit:ρ2 w3.heap.size=(0,0):=h3.free _ (Nat.le_refl _)
   have e25:c2.start.length=cF.start.length:=by rw[e21]
   have hslen:es.size=c2.start.length:=by have:=MK.len g2;simpa using this
   refine Lp.nat (n:=es.size) (fun n vals w'=>∃(done:List MapEntry) (ρ':aN) (T':List Nat),vals=[]∧done.length+n=es.size∧(done.map (·.born)).Nodup∧(∀e∈done,e∈es.toList) ∧
    w'.heap[w3.heap.size]?=some (.mapIter (some (B+5)) ck (done.map (·.born)).toArray ck)∧w'.heap[B+5]?=some (.map es ck)∧ρ' w3.heap.size=(0,0)∧w3.heap.size<w'.heap.size∧Kd 6 B (fun _=>(0,0)) w w'∧CR B H ρ' T' w' (bC c2 (done.map fun e=>NI e.key))) ?_ ?_
   ·exact⟨[],ρ2,_,rfl,by simp,by simp,by simp,it4,(k4.same _ (by omega) trivial).trans g1,fit,zit,kd3.kp k4,h3.ext k4⟩
   rintro n _ w5 jk5 C5 ⟨done,ρ',T',rfl,hdn,hnd,Uu,it5,st5,Zt,zit5,kd5,h5⟩ hC5
   have hl5:=h5.lt
   refine Zp st5 it5 g2.2 ?_ ?_
   ·intro hall
    obtain⟨v6,o6,b6,b7,b8⟩:=h5.calls
    repeat' first|refine .x ?_|refine .y ?_|refine .z ?_|fail
    have hperm:done.Perm es.toList:=RI hnd g2.2.2.1 Uu fun e he=>by
     have:=hall e he
     simpa using this
    refine hok _ _ _ hM3 (Kpw kd5) ⟨glk kd5,done.map (fun e=>NI e.key),?_,B,H,ρ',T',by omega,by rw[hB],h5⟩
    have:=hperm.map (fun e=>NI e.key)
    refine this.trans ?_
    have e1:es.toList.map (fun e=>NI e.key)=c2.start.map (·.1):=by
     have:=congrArg (List.map fun x:Value×Value=>NI x.1) g2.1
     rw[List.map_map,List.map_map,List.map_map]at this
     exact this
    rw[e1]
   ·intro e he hse wa hwa
    obtain⟨nm,hnm⟩:=hkeys e he
    have hnb:e.born ∉ done.map (·.born):=by
     intro hb
     rw[Bool.eq_false_iff]at hse
     apply hse
     simpa using hb
    have kwa:Kp [] w5 wa:=by
     rcases hwa with r|r<;>rw[r]
     ·exact Kp.refl _ _
     ·exact(Kp.refl _ _).drew
    have XI:(done.map (·.born)).toArray.push e.born=((done++[e]).map (·.born)).toArray:=by simp
    rw[XI]
    have hz5:=kwa.size
    have k6:Kp [(w3.heap.size,w3.heap.size+1)] w5 (ah wa w3.heap.size (.mapIter (some (B+5)) ck ((done++[e]).map (·.born)).toArray ck)):=Kp.Gn kwa.any (by simp only[Out,and_true,true_and];omega) _
    have it6:(ah wa w3.heap.size (.mapIter (some (B+5)) ck ((done++[e]).map (·.born)).toArray ck)).heap[w3.heap.size]?=some (.mapIter (some (B+5)) ck ((done++[e]).map (·.born)).toArray ck):=aj rfl (by omega)
    generalize ah wa w3.heap.size (.mapIter (some (B+5)) ck ((done++[e]).map (·.born)).toArray ck)=w6 at *
    have h6:=h5.tmp k6 (by omega) Zt
    have hl6:=h6.lt
    have st6:w6.heap[B+5]?=some (.map es ck):=(k6.same _ (by omega) ⟨by omega,trivial⟩).trans st5
    have kd6:Kd 6 B (fun _=>(0,0)) w w6:=kd5.kpx k6 (fun i hi hx=>⟨by omega,trivial⟩)
    have z6:=k6.size
    repeat' first|refine .x ?_|refine .y ?_|refine .z ?_|fail
    refine Xb st6 (seen:=(done.map (·.born)).toArray) (by rw[it6,← XI]) g2.2 he ?_
    rw[hnm]
    obtain⟨v7,o7,b7,b8,b9⟩:=h6.calls
    obtain⟨vL7,cells7,lo7,q1,q2,q3,q4⟩:=h6.L
    obtain⟨la7,lc7,rfl⟩:=q2.len
    obtain⟨tes,tck,t1,t2⟩:=h6.types
    repeat' first|refine .x ?_|refine .y ?_|refine .z ?_|fail
    refine Mu.str t2 (by exact lookA) fun es7 ck7 hm7=>?_
    rw[Nr]at hm7
    obtain⟨cT,hcT⟩:∃X,X=bC c2 (done.map fun e=>NI e.key):=⟨_,rfl⟩
    rw[← hcT]at h6 q2 hm7
    have h7:=(h6.ext (w':=w6.drew) (by exact kpA)).TW (l:=aY cT.types nm cT.L.length) (w':=ah w6.drew B (.map es7 ck7)) (by exact kpA) ⟨es7,ck7,aj rfl (by rw[size_drew];omega),hm7⟩
    have k7:Kp [(B,B+1)] w6 (ah w6.drew B (.map es7 ck7)):=by exact kpA
    generalize ah w6.drew B (.map es7 ck7)=w7 at *
    have st7:w7.heap[B+5]?=some (.map es ck):=(k7.same _ (by omega) ⟨by omega,trivial⟩).trans st6
    have cm7:w7.heap[B+6]?=_:=(k7.same _ (by omega) ⟨by omega,trivial⟩).trans b7
    have z7:=k7.size
    have kd7:Kd 6 B (fun _=>(0,0)) w w7:=kd6.kpx k7 (fun i hi hx=>⟨by omega,trivial⟩)
    repeat' first|refine .x ?_|refine .y ?_|refine .z ?_|fail
    refine Lk.VS g2 st7 ?_
    rw[ku (fun k:Nat=>i64 (k:Nat))]
    have epos:((c2.start.lookup nm).map fun k:Nat=>i64 (k:Nat)).getD (.int .i64 0)=i64 (((c2.start.lookup nm).getD 0:Nat)):=by cases c2.start.lookup nm<;>rfl
    rw[epos]
    have hTl:cT.L.length=c2.L.length+2*done.length:=by rw[hcT,Cb,List.length_map]
    have hnd2:((done++[e]).map (·.born)).Nodup:=by
     rw[List.map_append,List.nodup_append]
     exact⟨hnd,by simp,by
      intro a ha b hb
      simp at hb
      subst hb
      intro e2;subst e2;exact hnb ha⟩
    have hdl:done.length<es.size:=by
     have h1:((done++[e]).map (·.born)) ⊆ es.toList.map (·.born):=by
      intro x hx
      obtain⟨y,hy,rfl⟩:=List.mem_map.mp hx
      rcases List.mem_append.mp hy with h|h
      ·exact List.mem_map.mpr ⟨y,Uu y h,rfl⟩
      ·simp at h;subst h;exact List.mem_map.mpr ⟨_,he,rfl⟩
     have h2:=hnd2.length_le_of_subset h1
     have h3:done.length+1≤es.size:=by simpa using h2
     exact h3
    repeat' first|refine .x ?_|refine .y ?_|refine .z ?_|fail
    refine Cl.ret (OI (i:={ ins 6 with to:=((c2.start.lookup nm).getD 0:Nat) }) (f:=.map none) (g:=.map none) h7 rfl rfl (by show cT.L.length<_;omega)) ?_
    rintro v8 w8 ⟨rfl,⟨ρ8,D8,k8,r8,h8⟩,s8⟩
    repeat' first|refine .x ?_|refine .y ?_|refine .z ?_|fail
    refine Cl.ret (OI (i:=ins 16) (f:=.map none) (g:=.map none) h8 rfl rfl (by rw[aX];show cT.L.length+1<_;omega)) ?_
    rintro v9 w9 ⟨rfl,⟨ρ9,D9,k9,r9,h9⟩,s9⟩
    have z8:=k8.size
    have z9:=k9.size
    have it7:w7.heap[w3.heap.size]?=_:=(k7.same _ (by omega) ⟨by omega,trivial⟩).trans it6
    have fit8:=(r8 w3.heap.size (by omega)).trans Zt
    refine hC5 (n - 1) _ _ (by omega) ⟨done++[e],ρ9,T'++D8++D9,rfl,by rw[List.length_append];simp only[List.length_cons,List.length_nil];omega,?_,?_,(k9.lW (by omega) (by omega) fit8).trans ((k8.lW (by omega) (by omega) Zt).trans it7),
     (s9 _ (by omega) (by omega)).trans ((s8 _ (by omega) (by omega)).trans st7),(r9 _ (by omega)).trans fit8,by omega,tr (tr kd7 (k8.up (by omega))) (k9.up (by omega)),?_⟩
    ·exact hnd2
    ·intro x hx
     rcases List.mem_append.mp hx with h|h
     ·exact Uu x h
     ·simp at h;subst h;exact he
    ·have:bC c2 ((done++[e]).map fun e=>NI e.key)=(({ cT with types:=aY cT.types nm cT.L.length }.put { ins 6 with to:=((c2.start.lookup nm).getD 0:Nat) }).put (ins 16)):=by
      rw[List.map_append,List.map_cons,List.map_nil,FC,← hcT,hnm,Ui,bC,bC]
      have:cT.start=c2.start:=by rw[hcT,Dj]
      rw[this]
      simp[CS.put]
     rw[this];exact h9
end Go.W.T
namespace Go.W.T
open Go Go.W Go.M Go.Proofs
theorem Vu(w:World)(e at_:Nat):Calls P tN #[i64 e,i64 at_] w fun en w'=>∃ch,en=.panicked ch∧Flt e at_ ch w'∧Kp [] w w':=by
 apply Ia
 have hR:∀ch w',Flt e at_ ch w'→Kp [] w w'→(fun en w'=>∃ch,en=.panicked ch∧Flt e at_ ch w'∧Kp [] w w':Ending→World→Prop) (.panicked ch) w':=fun ch w' h1 h2=>⟨ch,rfl,h1,h2⟩
 generalize (fun en w'=>∃ch,en=.panicked ch∧Flt e at_ ch w'∧Kp [] w w':Ending→World→Prop)=R at *
 unfold zy
 repeat refine .s ?_
 exact hR _ _ ⟨_,rfl,aK ..⟩ ((Kp.refl _ _).alloc _)
theorem Cl.BP{w:World}{e a:Nat}{E:KE}{K:KV}(h:∀ch w',Flt e a ch w'→Kp [] w w'→E ch w'):Cl P tN #[i64 e,i64 a] w E K:=by
 refine Cl.by (Vu w e a) ?_ ?_ ?_
 ·rintro v w' ⟨ch,h,_⟩;cases h
 ·rintro ch w' ⟨ch',hc,hf,hk⟩;cases hc;exact h ch w' hf hk
 ·rintro w' ⟨ch,h,_⟩;cases h
theorem GR(n:Int):IntKind.i32.wrap n=BJ n:=by
 rw[IntKind.wrap_i32];unfold BJ
 split<;>omega
theorem FH(n:Int) : -2147483648≤BJ n∧BJ n≤2147483647:=by unfold BJ;split<;>omega
theorem Qc{w:World}(op n:Nat)(hn:n<4294967296):Calls P wS #[i64 (op:Nat),.int .u32 (n:Nat)] w (Ret fun v w'=>v=.int .i64 (numOf op n)∧w'=w):=by
 refine Ret.R fun R hR=>?_
 apply EN
 unfold vT
 have hR':∀m:Int,m=numOf op n→R (.returned (.int .i64 m)) w:=fun m hm=>hR _ _ ⟨by rw[hm],rfl⟩
 unfold numOf at hR'
 have h1:IntKind.i64.wrap (IntKind.i32.wrap (n:Int))=BJ n:=by
  rw[GR,fB]<;>have:=FH n<;>omega
 have h2:IntKind.i64.wrap (n:Int)=n:=by rw[fB]<;>omega
 cases hop:(op==0)with
 |true=>
  have e0:((op:Nat):Int)==0:=by have:=beq_iff_eq.mp hop;rw[this];rfl
  rw[hop]at hR'
  repeat' first|refine .x ?_|refine .y ?_|refine .z ?_|fail
  rw[h1]
  exact hR' _ (by simp)
 |false=>
  have e0:(((op:Nat):Int)==0)=false:=by have:=beq_eq_false_iff_ne.mp hop;rw[beq_eq_false_iff_ne];omega
  rw[hop]at hR'
  cases WS:(op==4)with
  |true=>
   have e4:(((op:Nat):Int)==4)=true:=by have:=beq_iff_eq.mp WS;rw[this];rfl
   rw[WS]at hR'
   repeat' first|refine .x ?_|refine .y ?_|refine .z ?_|fail
   rw[h1]
   exact hR' _ (by simp)
  |false=>
   have e4:(((op:Nat):Int)==4)=false:=by have:=beq_eq_false_iff_ne.mp WS;rw[beq_eq_false_iff_ne];omega
   rw[WS]at hR'
   repeat' first|refine .x ?_|refine .y ?_|refine .z ?_|fail
   rw[h2]
   exact hR' _ (by simp)
def AU(w:World)(T:List Nat)(tabs:List Tab):Prop:=T.length=tabs.length∧∀(i:Nat) b l,T[i]?=some b→tabs[i]?=some l→TabAt w b l
theorem XQ{w:World}{T:List Nat}{tabs:List Tab}{o:Option Nat}{v:Value}{n:Int}{z:Value}{K:Value→Prop}(ht:AU w T tabs)(hr:df T o v)
  (hK:K (.tuple #[(((((jw tabs o).getD []).lookup n).map fun k:Nat=>i64 (k:Nat))).getD z,.bool (((jw tabs o).getD []).lookup n).isSome])):Lk (.int .i64) z v (.int .i64 n) true w K:=by
 cases o with
 |none=>have hv:v=_:=hr;subst hv;exact⟨hK⟩
 |some i=>
  obtain⟨b,h1,rfl⟩:=hr
  have hlt:i<T.length:=by
   rcases Nat.lt_or_ge i T.length with h|h
   ·exact h
   ·rw[List.getElem?_eq_none h]at h1;cases h1
  obtain⟨l,hl⟩:∃l,tabs[i]?=some l:=⟨_,List.getElem?_eq_getElem (by rw[← ht.1];exact hlt)⟩
  obtain⟨es,ck,t1,t2⟩:=ht.2 i b l h1 hl
  refine Lk.int t2 t1 ?_
  rw[ku (fun k:Nat=>i64 (k:Nat))]
  have e:(jw tabs (some i)).getD []=l:=by simp[jw,hl]
  rw[e]at hK
  cases hx:l.lookup n<;>rw[hx]at hK<;>exact hK
theorem Tj{w:World}{T:List Nat}{tabs:List Tab}{o:Option Nat}{v:Value}(op:Nat)(n:Int)(ht:AU w T tabs)(hr:df T o v):
  Calls P Ag #[i64 (op:Nat),v,.int .i64 n] w (Ret fun r w'=>r=.bool (fits op (jw tabs o) n)∧w'=w):=by
 refine Ret.R fun R hR=>?_
 apply H8
 unfold zu
 have hR':∀b:Bool,b=fits op (jw tabs o) n→R (.returned (.bool b)) w:=fun b hb=>hR _ _ ⟨by rw[hb],rfl⟩
 unfold fits at hR'
 have eqs:∀k:Nat,(((op:Nat):Int)==((k:Nat):Int))=(op==k):=fun k=>by
  rw[Bool.eq_iff_iff,beq_iff_eq,beq_iff_eq];omega
 have h1:IntKind.i64.wrap (IntKind.i32.wrap n)=BJ n:=by
  rw[GR,fB]<;>have:=FH n<;>omega
 have h2:IntKind.i64.wrap (IntKind.u32.wrap n)=n % 4294967296:=by
  rw[IntKind.wrap_u32,fB]<;>omega
 cases c0:(op==0)with
 |true=>
  have e0:(((op:Nat):Int)==0)=true:=(eqs 0).trans c0
  rw[c0]at hR'
  repeat' first|refine .x ?_|refine .y ?_|refine .z ?_|fail
  rw[h1]
  exact hR' _ (by simp)
 |false=>
 have e0:(((op:Nat):Int)==0)=false:=(eqs 0).trans c0
 rw[c0]at hR'
 cases c1:(op==1)with
 |true=>
  have e1:(((op:Nat):Int)==1)=true:=(eqs 1).trans c1
  rw[c1]at hR'
  repeat' first|refine .x ?_|refine .y ?_|refine .z ?_|fail
  rw[h2]
  exact hR' _ (by simp)
 |false=>
 have e1:(((op:Nat):Int)==1)=false:=(eqs 1).trans c1
 rw[c1]at hR'
 cases c3:(op==3)with
 |true=>
  have e3:(((op:Nat):Int)==3)=true:=(eqs 3).trans c3
  rw[c3]at hR'
  cases cn:(n==0)with
  |true=>repeat' first|refine .x ?_|refine .y ?_|refine .z ?_|fail
         exact hR' _ (by simp [cn])
  |false=>repeat' first|refine .x ?_|refine .y ?_|refine .z ?_|fail
          exact hR' _ (by simp [cn])
 |false=>
 have e3:(((op:Nat):Int)==3)=false:=(eqs 3).trans c3
 rw[c3]at hR'
 cases c4:(op==4)with
 |true=>
  have e4:(((op:Nat):Int)==4)=true:=(eqs 4).trans c4
  rw[c4]at hR'
  repeat' first|refine .x ?_|refine .y ?_|refine .z ?_|fail
  refine XQ ht hr ?_
  repeat' first|refine .x ?_|refine .y ?_|refine .z ?_|fail
  exact hR' _ (by simp)
 |false=>
  have e4:(((op:Nat):Int)==4)=false:=(eqs 4).trans c4
  rw[c4]at hR'
  repeat' first|refine .x ?_|refine .y ?_|refine .z ?_|fail
  exact hR' _ (by simp)
theorem AU.kp{w w':World}{T:List Nat}{tabs:List Tab}(h:AU w T tabs)(k:Kp [] w w'):AU w' T tabs:=⟨h.1,fun i b l h1 h2=>(h.2 i b l h1 h2).kp k trivial⟩
theorem SY{w:World}{T:List Nat}{tabs:List Tab}{i:Ins}{f g:Value}(n:Int)(ht:AU w T tabs)(hf:df T i.table f)(hg:df T i.set g):
  Calls P wR #[CW i f g,.int .i64 n] w (Ret fun r w'=>r=.int .i64 (target tabs i n)∧Kp [] w w'):=by
 refine Ret.R fun R hR=>?_
 apply EL
 unfold vS CW
 obtain⟨fb,rfl⟩:=hf.one
 obtain⟨gb,rfl⟩:=hg.one
 have hR':∀(m:Int) (w':World),m=target tabs i n→Kp [] w w'→R (.returned (.int .i64 m)) w':=fun m w' hm hk=>hR _ _ ⟨by rw[hm],hk⟩
 unfold target at hR'
 repeat' first|refine .x ?_|refine .y ?_|refine .z ?_|fail
 refine Cl.ret (Tj i.of_ n (ht.kp (by exact kpA)) hg) ?_
 rintro v w1 ⟨rfl,rfl⟩
 cases hfit:fits i.of_ (jw tabs i.set) n with
 |false=>
  rw[hfit]at hR'
  refine .s ?_
  refine If.t ?_ rfl
  exact hR' _ _ (by simp) (by exact kpA)
 |true=>
  rw[hfit]at hR'
  refine .s ?_
  refine If.f ?_ rfl
  repeat' first|refine .x ?_|refine .y ?_|refine .z ?_|fail
  refine XQ (ht.kp (by exact kpA)) hf ?_
  cases hx:((jw tabs i.table).getD []).lookup n with
  |none=>
   rw[hx]at hR'
   refine .s ?_
   refine .s ?_
   refine If.f ?_ rfl
   repeat' first|refine .x ?_|refine .y ?_|refine .z ?_|fail
   exact hR' _ _ (by simp) (by exact kpA)
  |some t=>
   rw[hx]at hR'
   refine .s ?_
   refine .s ?_
   refine If.t ?_ rfl
   exact hR' _ _ (by simp) (by exact kpA)
end Go.W.T
namespace Go.W.T
open Go Go.W Go.M Go.Proofs
structure Kf (F:Nat→Prop) (w w':World):Prop where
 os:w'.os=w.os
 tape:w'.tape=w.tape
 output:w'.output=w.output
 size:w.heap.size≤w'.heap.size
 same:∀b,b<w.heap.size→¬ F b→w'.heap[b]?=w.heap[b]?
theorem Kf.refl(F:Nat→Prop)(w:World):Kf F w w:=⟨rfl,rfl,rfl,Nat.le_refl _,fun _ _ _=>rfl⟩
theorem Kf.trans{F G:Nat→Prop}{a b c:World}(h:Kf F a b)(k:Kf G b c)(hs:∀i,G i→F i∨a.heap.size≤i):Kf F a c:=
 ⟨k.os.trans h.os,k.tape.trans h.tape,k.output.trans h.output,Nat.le_trans h.size k.size,fun i hi ho=>(k.same i (Nat.lt_of_lt_of_le hi h.size) (fun g=>(hs i g).elim ho (fun e=>by omega))).trans (h.same i hi ho)⟩
theorem Kp.kf{F:Nat→Prop}{a b:World}(k:Kp [] a b):Kf F a b:=⟨k.os,k.tape,k.output,k.size,fun i hi _=>k.same i hi trivial⟩
theorem Kp.kfX{F:Nat→Prop}{a b:World}{X:List (Nat×Nat)}(k:Kp X a b)(h:∀i,i<a.heap.size→¬ F i→Out X i):Kf F a b:=⟨k.os,k.tape,k.output,k.size,fun i hi ho=>k.same i hi (h i hi ho)⟩
theorem Kf.kp{F:Nat→Prop}{a b c:World}(h:Kf F a b)(k:Kp [] b c):Kf F a c:=h.trans (Kp.kf (F:=fun _=>False) k) (fun _ f=>f.elim)
theorem Kf.base{F:Nat→Prop}{w0 a b:World}(k0:Kp [] w0 a)(h:Kf F a b)(hF:∀i,F i→w0.heap.size≤i):Kp [] w0 b:=
 ⟨h.os.trans k0.os,h.tape.trans k0.tape,h.output.trans k0.output,Nat.le_trans k0.size h.size,fun i hi _=>(h.same i (Nat.lt_of_lt_of_le hi k0.size) (fun f=>by have:=hF i f;omega)).trans (k0.same i hi trivial)⟩
def PostF{β:Type}(F:Nat→Prop)(w:World)(m:Res β)(good:β→Value→(Nat→Prop)→World→Prop):Ending→World→Prop:=fun en w'=>
 Kf F w w'∧match m with
  |.ok b=>∃v F',en=.returned v∧(∀i,F' i→F i∨w.heap.size≤i)∧good b v F' w'
  |.no e a=>∃ch,en=.panicked ch∧Flt e a ch w'
theorem PostF.R{β:Type}{F:Nat→Prop}{f:FuncId}{args:Array Value}{w:World}{m:Res β}{good:β→Value→(Nat→Prop)→World→Prop}
  (h:∀(R:Ending→World→Prop) (M:Res β),M=m→(∀b v F' w',M=.ok b→Kf F w w'→(∀i,F' i→F i∨w.heap.size≤i)→good b v F' w'→R (.returned v) w')→(∀e a ch w',M=.no e a→Kf F w w'→Flt e a ch w'→R (.panicked ch) w')→Calls P f args w R):
  Calls P f args w (PostF F w m good):=by
 refine h _ m rfl ?_ ?_
 ·intro b v F' w' h1 h2 h3 h4;refine⟨h2,?_⟩;rw[h1];exact⟨v,F',rfl,h3,h4⟩
 ·intro e a ch w' h1 h2 h3;refine⟨h2,?_⟩;rw[h1];exact⟨ch,rfl,h3⟩
theorem Cl.jB{α β:Type}{f:FuncId}{args:Array Value}{w0 w1:World}{m:Res α}{M:Res β}{k:α→Res β}{F F0:Nat→Prop}{good:α→Value→(Nat→Prop)→World→Prop}{E:KE}{K:KV}
  (hM:M=m.andThen k) (hc:Calls P f args w1 (PostF F w1 m good)) (hkf:Kf F0 w0 w1) (hF:∀i,F i→F0 i∨w0.heap.size≤i)
  (hno:∀e a ch w',M=.no e a→Kf F0 w0 w'→Flt e a ch w'→E ch w')
  (hK:∀a v F' w',m=.ok a→M=k a→Kf F w1 w'→Kf F0 w0 w'→(∀i,F' i→F0 i∨w0.heap.size≤i)→w1.heap.size≤w'.heap.size→good a v F' w'→K v w'):Cl P f args w1 E K:=by
 refine Cl.by hc ?_ ?_ ?_
 ·rintro v w' ⟨h1,h2⟩
  cases hm:m with
  |ok a=>
   rw[hm]at h2 hM
   obtain⟨v',F',hv,hf,hg⟩:=h2
   cases hv
   refine hK a v F' w' hm hM h1 (hkf.trans h1 hF) (fun i hi=>?_) h1.size hg
   rcases hf i hi with h|h
   ·exact hF i h
   ·exact Or.inr (Nat.le_trans hkf.size h)
  |no e a=>rw[hm]at h2;obtain⟨ch,hv,_⟩:=h2;cases hv
 ·rintro ch w' ⟨h1,h2⟩
  cases hm:m with
  |ok a=>rw[hm]at h2;obtain⟨v',F',hv,_⟩:=h2;cases hv
  |no e a=>rw[hm]at h2 hM;obtain⟨ch',hv,hf⟩:=h2;cases hv;exact hno e a ch w' hM (hkf.trans h1 hF) hf
 ·rintro w' ⟨h1,h2⟩
  cases hm:m with
  |ok a=>rw[hm]at h2;obtain⟨_,_,hv,_⟩:=h2;cases hv
  |no e a=>rw[hm]at h2;obtain⟨_,hv,_⟩:=h2;cases hv
def gz(n:Nd):List Value:=[.int .i64 n.kind,.int .i64 n.n,κs n.s,.int .i64 n.at_,.int .i64 n.len]
def aJ(l:List Nd):List Value:=l.flatMap gz
abbrev uo(d:DS)(v:Value)(lim:Lim)(cp:Value):List Value:=[.string (bs d.b),i64 (d.pos:Nat),v,.int .i64 lim.depth,.int .i64 lim.fuel,.int .i64 lim.size,cp]
structure DR (M db:Nat) (cp:Value) (lim:Lim) (F:Nat→Prop) (w:World) (d:DS):Prop where
 hM:M≤db
 c:∃v o,w.heap[db]?=some (cl (uo d v lim cp) bz)∧Gw w dK 5 v d.l.length (aJ d.l) o∧∀b,o=some b→b≠db∧F b
 fd:F db
 fM:∀b,F b→M≤b
 fl:∀b,F b→b<w.heap.size
 pos:d.pos≤d.b.length
 bl:d.b.length<1000000000
 lf:lim.fuel≤1000000
theorem DR.ext{M db:Nat}{cp:Value}{lim:Lim}{F:Nat→Prop}{w w':World}{d:DS}(h:DR M db cp lim F w d)(k:Kp [] w w'):DR M db cp lim F w' d:=by
 obtain⟨v,o,h1,h2,h3⟩:=h.c
 exact { h with c:=⟨v,o,(k.same _ (lt_of_heap h1) trivial).trans h1,h2.kp k (fun _ _=>trivial),h3⟩,fl:=fun b hb=>Nat.lt_of_lt_of_le (h.fl b hb) k.size }
theorem DR.move{M db:Nat}{cp:Value}{lim:Lim}{F:Nat→Prop}{w w':World}{d:DS}{p:Nat}{v:Value}{o:Option Nat}(h:DR M db cp lim F w d)(hg:Gw w dK 5 v d.l.length (aJ d.l) o)(ho:∀b,o=some b→b≠db∧F b)
  (k:Kp [(db,db+1)] w w') (hc:w'.heap[db]?=some (cl (uo { d with pos:=p } v lim cp) bz)) (hp:p≤d.b.length):DR M db cp lim F w' { d with pos:=p }:=
 {hM:=h.hM,c:=⟨v,o,hc,hg.kp k (fun b hb=>⟨by have:=(ho b hb).1;omega,trivial⟩),ho⟩,fd:=h.fd,fM:=h.fM,fl:=fun b hb=>Nat.lt_of_lt_of_le (h.fl b hb) k.size,pos:=hp,bl:=h.bl,lf:=h.lf }
def BN(d:DS)(n:Nat):Res Unit:=if d.b.length<d.pos+n then .no 16 d.pos else .ok ()
theorem OM{M db:Nat}{cp:Value}{lim:Lim}{F:Nat→Prop}{w:World}{d:DS}(h:DR M db cp lim F w d)(n:Nat):
  Calls P oI #[pt db 0,i64 (n:Nat)] w (PostF F w (BN d n) fun _ v F' w'=>F'=F∧Kp [] w w'):=by
 refine PostF.R fun R M hM hok hno=>?_
 apply yZ
 unfold nV
 obtain⟨v,o,h1,h2,h3⟩:=h.c
 have hp:=h.pos
 have hb:=h.bl
 rw[BN]at hM
 repeat' first|refine .x ?_|refine .y ?_|refine .z ?_|fail
 refine .split (fun hc=>?_) (fun hc=>?_)
 ·have hc':((n:Nat):Int)>(d.b.length:Int) - (d.pos:Int):=of_decide_eq_true hc
  rw[if_pos (by omega)]at hM
  repeat' first|refine .x ?_|refine .y ?_|refine .z ?_|fail
  exact Cl.BP fun ch w' hf hk=>hno _ _ _ _ hM (Kp.kf ((by exact kpA:Kp [] w w.drew).trans hk fun _ _ _=>⟨trivial,trivial⟩)) hf
 ·have hc':¬ ((n:Nat):Int)>(d.b.length:Int) - (d.pos:Int):=of_decide_eq_false hc
  rw[if_neg (by omega)]at hM
  exact hok _ _ F _ hM (Kp.kf (by exact kpA)) (fun i hi=>Or.inl hi) ⟨rfl,by exact kpA⟩
theorem Pm(x y:Nat)(hx:x<4294967296)(hy:y<4294967296):IntKind.u32.wrap (((BitVec.ofInt IntKind.u32.bits (x:Int)|||BitVec.ofInt IntKind.u32.bits (y:Int)).toNat:Nat):Int)=((x|||y:Nat):Int):=by
 have e:IntKind.u32.bits=32:=rfl
 rw[e,BitVec.ofInt_natCast,BitVec.ofInt_natCast,BitVec.toNat_or,BitVec.toNat_ofNat,BitVec.toNat_ofNat,Nat.mod_eq_of_lt (by omega:x<2 ^ 32),Nat.mod_eq_of_lt (by omega:y<2 ^ 32)]
 have h:=Nat.or_lt_two_pow (n:=32) (x:=x) (y:=y) (by omega) (by omega)
 rw[IntKind.wrap_u32]
 omega
theorem Kw(a:UInt8)(k m:Nat)(hm:2 ^ k=m)(hk:k≤24):IntKind.u32.wrap (IntKind.u32.wrap (a.toNat:Int)*2 ^ k)=((m*a.toNat:Nat):Int):=by
 have ha:a.toNat<256:=a.toNat_lt
 have hw:IntKind.u32.wrap (a.toNat:Int)=a.toNat:=by rw[IntKind.wrap_u32];omega
 rw[hw]
 have hm2:m≤16777216:=by rw[← hm];exact Nat.le_trans (Nat.pow_le_pow_right (by decide) hk) (by decide)
 have e:((a.toNat:Int)*2 ^ k)=((m*a.toNat:Nat):Int):=by rw[← hm];push_cast;rw[Int.mul_comm]
 rw[e,IntKind.wrap_u32]
 have h3:m*a.toNat≤16777216*255:=Nat.mul_le_mul hm2 (by omega)
 omega
theorem Xc(a b c d:UInt8):((16777216*a.toNat|||65536*b.toNat)|||256*c.toNat)|||d.toNat=a.toNat*16777216+b.toNat*65536+c.toNat*256+d.toNat:=by
 have ha:a.toNat<256:=a.toNat_lt
 have hb:b.toNat<256:=b.toNat_lt
 have hc:c.toNat<256:=c.toNat_lt
 have hd:d.toNat<256:=d.toNat_lt
 have h1:=Nat.two_pow_add_eq_or_of_lt (i:=24) (b:=65536*b.toNat) (by omega) a.toNat
 have h2:=Nat.two_pow_add_eq_or_of_lt (i:=16) (b:=256*c.toNat) (by omega) (256*a.toNat+b.toNat)
 have h3:=Nat.two_pow_add_eq_or_of_lt (i:=8) (b:=d.toNat) (by omega) (65536*a.toNat+256*b.toNat+c.toNat)
 have e1:(2:Nat) ^ 24=16777216:=by decide
 have e2:(2:Nat) ^ 16=65536:=by decide
 have e3:(2:Nat) ^ 8=256:=by decide
 rw[e1]at h1
 rw[e2]at h2
 rw[e3]at h3
 rw[← h1]
 have q2:16777216*a.toNat+65536*b.toNat=65536*(256*a.toNat+b.toNat):=by omega
 rw[q2,← h2]
 have q3:65536*(256*a.toNat+b.toNat)+256*c.toNat=256*(65536*a.toNat+256*b.toNat+c.toNat):=by omega
 rw[q3,← h3]
 omega
theorem Ey{M db:Nat}{cp:Value}{lim:Lim}{F:Nat→Prop}{w:World}{d:DS}(h:DR M db cp lim F w d):
  Calls P oG #[pt db 0] w (PostF F w d.word fun x v F' w'=>v=.int .u32 (x.1:Nat)∧x.1<4294967296∧F'=F∧DR M db cp lim F w' x.2):=by
 refine PostF.R fun R MM hM hok hno=>?_
 apply yX
 unfold nT
 have hM2:MM=(BN d 4).andThen fun _=>.ok (w32 (d.b.drop d.pos),{ d with pos:=d.pos+4 }):=by
  rw[hM,DS.word,BN];split<;>rfl
 refine Cl.jB (w0:=w) hM2 (OM h 4) (Kf.refl F w) (fun i hi=>Or.inl hi) hno ?_
 rintro u v F1 w1 e1 hM3 hk1 hq1 hf1 hs1 ⟨rfl,k1⟩
 have hlen:d.pos+4≤d.b.length:=by
  rw[BN]at e1
  split at e1
  ·cases e1
  ·omega
 have h1:=h.ext k1
 obtain⟨v1,o1,c1,c2,c3⟩:=h1.c
 have hb:=h.bl
 obtain⟨a0,a1,a2,a3,r,hd⟩:∃a0 a1 a2 a3 r,d.b.drop d.pos=a0::a1::a2::a3::r:=by
  have hl:(d.b.drop d.pos).length≥4:=by rw[List.length_drop];omega
  match hx:d.b.drop d.pos,hl with
  |a0::a1::a2::a3::r,_=>exact⟨_,_,_,_,_,rfl⟩
 have i0:(d.b.drop d.pos)[0]?=some a0:=by rw[hd];rfl
 have i1:(d.b.drop d.pos)[1]?=some a1:=by rw[hd];rfl
 have i2:(d.b.drop d.pos)[2]?=some a2:=by rw[hd];rfl
 have i3:(d.b.drop d.pos)[3]?=some a3:=by rw[hd];rfl
 repeat' first|refine .x ?_|refine .y ?_|refine .z ?_|fail
 have hval:IntKind.u32.wrap ((BitVec.ofInt IntKind.u32.bits (IntKind.u32.wrap ((BitVec.ofInt IntKind.u32.bits (IntKind.u32.wrap ((BitVec.ofInt IntKind.u32.bits (IntKind.u32.wrap (IntKind.u32.wrap (a0.toNat:Int)*2 ^ min (Int.toNat 24) IntKind.u32.bits))|||
   BitVec.ofInt IntKind.u32.bits (IntKind.u32.wrap (IntKind.u32.wrap (a1.toNat:Int)*2 ^ min (Int.toNat 16) IntKind.u32.bits))).toNat:Int))|||
   BitVec.ofInt IntKind.u32.bits (IntKind.u32.wrap (IntKind.u32.wrap (a2.toNat:Int)*2 ^ min (Int.toNat 8) IntKind.u32.bits))).toNat:Int))|||
   BitVec.ofInt IntKind.u32.bits (IntKind.u32.wrap (a3.toNat:Int))).toNat:Int)=((w32 (d.b.drop d.pos):Nat):Int):=by
  have b0:a0.toNat<256:=a0.toNat_lt
  have b1:a1.toNat<256:=a1.toNat_lt
  have b2:a2.toNat<256:=a2.toNat_lt
  have b3:a3.toNat<256:=a3.toNat_lt
  rw[show min (Int.toNat 24) IntKind.u32.bits=24 from rfl,show min (Int.toNat 16) IntKind.u32.bits=16 from rfl,show min (Int.toNat 8) IntKind.u32.bits=8 from rfl]
  rw[Kw a0 24 16777216 (by decide) (by omega),Kw a1 16 65536 (by decide) (by omega),Kw a2 8 256 (by decide) (by omega)]
  have hw:IntKind.u32.wrap (a3.toNat:Int)=((a3.toNat:Nat):Int):=by rw[IntKind.wrap_u32];omega
  rw[hw]
  have l1:(16777216*a0.toNat|||65536*a1.toNat)<2 ^ 32:=Nat.or_lt_two_pow (by omega) (by omega)
  have l2:((16777216*a0.toNat|||65536*a1.toNat)|||256*a2.toNat)<2 ^ 32:=Nat.or_lt_two_pow l1 (by omega)
  rw[Pm _ _ (by omega) (by omega),Pm _ _ (by omega) (by omega),Pm _ _ (by omega) (by omega),Xc,hd,w32]
 rw[hval]
 have hlt:w32 (d.b.drop d.pos)<4294967296:=by
  have b0:a0.toNat<256:=a0.toNat_lt
  have b1:a1.toNat<256:=a1.toNat_lt
  have b2:a2.toNat<256:=a2.toNat_lt
  have b3:a3.toNat<256:=a3.toNat_lt
  rw[hd,w32];omega
 refine(fun(Q:∀w9,Kp [(db,db+1)] w1 w9∧w9.heap[db]?=some (cl (uo { d with pos:=d.pos+4 } v1 lim cp) bz)→R (.returned (.int .u32 ((w32 (d.b.drop d.pos):Nat):Int))) w9)=>Q _ ⟨by exact kpA,by exact aj rfl (by rw[size_drew];exact lt_of_heap c1)⟩) ?_
 rintro w9 ⟨k9,c9⟩
 exact hok _ _ F1 _ hM3 (hq1.trans (Kp.kfX (F:=F1) k9 (fun i hi ho=>⟨by
  by_cases e:i=db
  ·subst e;exact absurd h1.fd ho
  ·omega,trivial⟩)) (fun i hi=>Or.inl hi)) (fun i hi=>Or.inl hi) ⟨rfl,hlt,rfl,h1.move c2 c3 k9 c9 (by omega)⟩
end Go.W.T
namespace Go.W.T
open Go Go.W Go.M Go.Proofs
theorem and3(n:Nat)(hn:n≤9223372036854775807):IntKind.i64.wrap (((BitVec.ofInt IntKind.i64.bits (IntKind.i64.wrap (0 - (n:Int))) &&& BitVec.ofInt IntKind.i64.bits (3:Int)).toNat:Nat):Int)=((dC n:Nat):Int):=by
 have e:IntKind.i64.bits=64:=rfl
 rw[e,BitVec.toNat_and,BitVec.toNat_ofInt,BitVec.toNat_ofInt,fB (x:=0 - (n:Int)) (by omega) (by omega)]
 have h3:((3:Int) % ((2 ^ 64:Nat):Int)).toNat=2 ^ 2 - 1:=by decide
 rw[h3,Nat.and_two_pow_sub_one_eq_mod]
 unfold dC
 rw[fB]<;>omega
theorem Yg{M db:Nat}{cp:Value}{lim:Lim}{F:Nat→Prop}{w:World}{d:DS}(h:DR M db cp lim F w d)(n:Nat)(hn:n≤2147483647):
  Calls P oH #[pt db 0,i64 (n:Nat)] w (PostF F w (d.text n) fun x v F' w'=>v=κs x.1∧F'=F∧DR M db cp lim F w' x.2):=by
 refine PostF.R fun R MM hM hok hno=>?_
 apply yY
 unfold nU
 have hM2:MM=(BN d (n+dC n)).andThen fun _=>(uJ d.b (dC n) (d.pos+n)).andThen fun p=>.ok ((d.b.drop d.pos).take n,{ d with pos:=p }):=by
  rw[hM,DS.text,BN]
  rw[show d.pos+(n+dC n)=d.pos+n+dC n by omega]
  split<;>rfl
 have hpad:dC n<4:=by unfold dC;omega
 refine .s ?_
 refine .s ?_
 rw[and3 n (by omega)]
 refine .s ?_
 have e1:IntKind.i64.wrap ((n:Int)+(dC n:Nat))=((n+dC n:Nat):Int):=by rw[fB]<;>omega
 rw[e1]
 refine Cl.jB (w0:=w) hM2 (OM h (n+dC n)) (Kf.refl F w) (fun i hi=>Or.inl hi) hno ?_
 rintro u v F1 w1 e1 hM3 hk1 hq1 hf1 hs1 ⟨rfl,k1⟩
 have hlen:d.pos+(n+dC n)≤d.b.length:=by
  rw[BN]at e1
  split at e1
  ·cases e1
  ·omega
 have h1:=h.ext k1
 obtain⟨v1,o1,c1,c2,c3⟩:=h1.c
 have hb:=h.bl
 repeat' first|refine .x ?_|refine .y ?_|refine .z ?_|fail
 refine(fun(Q:∀w9,Kp [(db,db+1)] w1 w9∧w9.heap[db]?=some (cl (uo { d with pos:=d.pos+n } v1 lim cp) bz)→Lp _ w9 _)=>Q _ ⟨by exact kpA,by simp only[uo,Int.natCast_add];exact aj rfl (by rw[size_drew];exact lt_of_heap c1)⟩) ?_
 rintro w9 ⟨k9,c9⟩
 have hfr:∀{a b},Kp [(db,db+1)] a b→Kf F1 a b:=fun k=>Kp.kfX k (fun i hi ho=>⟨by
  by_cases e:i=db
  ·subst e;exact absurd h1.fd ho
  ·omega,trivial⟩)
 have d9:=h1.move c2 c3 k9 c9 (by omega)
 have q9:Kf F1 w w9:=hq1.trans (hfr k9) (fun i hi=>Or.inl hi)
 refine Lp.nat (n:=dC n) (fun m vals w'=>∃k:Nat,vals=[i64 (k:Nat)]∧k+m=dC n∧Kf F1 w w'∧DR M db cp lim F1 w' { d with pos:=d.pos+n+k }∧MM=(uJ d.b (dC n - k) (d.pos+n+k)).andThen fun p=>.ok ((d.b.drop d.pos).take n,{ d with pos:=p })) ?_ ?_
 ·exact⟨0,rfl,by omega,q9,d9,by rw[hM3];rfl⟩
 rintro m _ wL jk C ⟨k,rfl,hkm,qL,dL,mL⟩ hC
 obtain⟨v2,o2,b1,b2,b3⟩:=dL.c
 repeat' first|refine .x ?_|refine .y ?_|refine .z ?_|fail
 refine .split (fun hc=>?_) (fun hc=>?_)
 ·have hlt:k<dC n:=by have:=of_decide_eq_true hc;omega
  have hp1:d.pos+n+k<d.b.length:=by omega
  obtain⟨y,hy⟩:∃y,d.b[d.pos+n+k]?=some y:=⟨_,List.getElem?_eq_getElem hp1⟩
  obtain⟨r,hr⟩:∃r,dC n - k=r+1:=⟨dC n - k - 1,by omega⟩
  rw[hr,uJ,hy]at mL
  simp only[Option.getD_some]at mL
  refine Jn.by (fun _ w'=>w'=wL.drew∧y=0) (fun J hJ=>?_) ?_
  ·refine .s ?_
   refine .s ?_
   refine .s ?_
   refine .s ?_
   refine .s ?_
   refine .s ?_
   refine IxS.s (c:=y) ?_ hy
   refine .s ?_
   refine .split (fun hz=>?_) (fun hz=>?_)
   ·have hne:(y != 0)=true:=by
     cases hyz:(y != 0)with
     |true=>rfl
     |false=>
      have:y=0:=by simpa using hyz
      subst this;simp at hz
    simp only[hne,if_true]at mL
    repeat' first|refine .x ?_|refine .y ?_|refine .z ?_|fail
    exact Cl.BP fun ch w' hf hk=>hno _ _ _ _ mL (qL.kp ((by exact kpA:Kp [] wL wL.drew).trans hk fun _ _ _=>⟨trivial,trivial⟩)) hf
   ·refine hJ _ _ ⟨rfl,?_⟩
    have:=(UInt8.toNat_inj (a:=y) (b:=0))
    have hz2:(y.toNat:Int)=0:=by simpa using hz
    apply this.mp;simp;omega
  ·rintro _ w' jk2 ⟨rfl,rfl⟩
   rw[if_neg (by decide)]at mL
   repeat' first|refine .x ?_|refine .y ?_|refine .z ?_|fail
   refine hC (dC n - k - 1) _ _ (by omega) ⟨k+1,rfl,by omega,?_⟩
   have e2:IntKind.i64.wrap (((d.pos+n+k:Nat):Int)+1)=((d.pos+n+(k+1):Nat):Int):=by rw[fB]<;>omega
   refine(fun(Q:∀w9,Kp [(db,db+1)] wL w9∧w9.heap[db]?=some (cl (uo { d with pos:=d.pos+n+(k+1) } v2 lim cp) bz)→Kf F1 w w9∧DR M db cp lim F1 w9 { d with pos:=d.pos+n+(k+1) }∧_)=>Q _ ⟨by exact kpA,by rw[uo,← e2];exact aj rfl (by rw[size_drew];exact lt_of_heap b1)⟩) ?_
   rintro w9 ⟨k9,c9⟩
   refine⟨qL.trans (hfr k9) (fun i hi=>Or.inl hi),dL.move b2 b3 k9 c9 (by show d.pos+n+(k+1)≤d.b.length;omega),?_⟩
   rw[mL,show dC n - (k+1)=r by omega]
   rfl
 ·have hge:k=dC n:=by have:=of_decide_eq_false hc;omega
  rw[hge,Nat.sub_self,uJ]at mL
  rw[hge]at dL
  exact hok _ _ F1 _ mL qL (fun i hi=>Or.inl hi) ⟨by rw[show d.pos+n - d.pos=n by omega],rfl,dL⟩
theorem JU{M db:Nat}{cp:Value}{lim:Lim}{F:Nat→Prop}{w:World}{d:DS}(h:DR M db cp lim F w d):
  Calls P mP #[pt db 0] w (PostF F w (d.fuel lim) fun _ v F' w'=>F'=F∧Kp [] w w'):=by
 refine PostF.R fun R MM hM hok hno=>?_
 apply xR
 unfold l9
 obtain⟨v,o,h1,h2,h3⟩:=h.c
 obtain⟨va,vc,rfl⟩:=h2.len
 rw[DS.fuel]at hM
 repeat' first|refine .x ?_|refine .y ?_|refine .z ?_|fail
 refine .split (fun hc=>?_) (fun hc=>?_)
 ·have hc':(d.l.length:Int)≥lim.fuel:=of_decide_eq_true hc
  rw[if_pos (by omega)]at hM
  repeat' first|refine .x ?_|refine .y ?_|refine .z ?_|fail
  exact Cl.BP fun ch w' hf hk=>hno _ _ _ _ hM (Kp.kf ((by exact kpA:Kp [] w w.drew).trans hk fun _ _ _=>⟨trivial,trivial⟩)) hf
 ·have hc':¬ (d.l.length:Int)≥lim.fuel:=of_decide_eq_false hc
  rw[if_neg (by omega)]at hM
  exact hok _ _ F _ hM (Kp.kf (by exact kpA)) (fun i hi=>Or.inl hi) ⟨rfl,by exact kpA⟩
theorem fuel_lt{d:DS}{lim:Lim}{u:Unit}(h:d.fuel lim=.ok u):(d.l.length:Int)<lim.fuel:=by
 rw[DS.fuel]at h
 split at h
 ·cases h
 ·omega
theorem Ac(l:List Nd)(n:Nd):aJ (l++[n])=aJ l++gz n:=by simp[aJ]
theorem Ez{M db:Nat}{cp:Value}{lim:Lim}{F:Nat→Prop}{w:World}{d:DS}(h:DR M db cp lim F w d)(hl:(d.l.length:Int)<lim.fuel)(n:Nd):
  Calls P oD #[pt db 0,.agg (gz n).toArray] w (PostF F w (.ok (d.add n)) fun x v F' w'=>DR M db cp lim F' w' x):=by
 refine PostF.R fun R MM hM hok hno=>?_
 apply yV
 unfold nS
 obtain⟨v,o,h1,h2,h3⟩:=h.c
 have hlf:=h.lf
 have hd:=lt_of_heap h1
 have hMw:M≤w.heap.size:=by have:=h.hM;omega
 have hol:∀b,o=some b→b<w.heap.size:=fun b hb=>h.fl b (h3 b hb).2
 obtain⟨va,vc,rfl⟩:=h2.len
 unfold gz
 repeat' first|refine .x ?_|refine .y ?_|refine .z ?_|fail
 refine Ap.w (fun w9=>Kp [] w w9∧w.heap.size+2≤w9.heap.size∧w9.heap[w.heap.size+1]?=some (cl (gz n) 52)) ⟨by exact kpA,by simp only[size_alloc,ag,size_drew];omega,by unfold gz;exact lookA⟩ ?_
 rintro w1 ⟨k1,z1,n1⟩
 refine Ap.g (h2.kp k1 (fun _ _=>trivial)) n1 rfl rfl ?_ (by omega)
 intro v' w2 o' g2 ho' k2
 have z2:=k2.size
 obtain⟨aa',ca',rfl⟩:=g2.len
 have c2:w2.heap[db]?=some (cl (uo d (.slice va d.l.length vc) lim cp) bz):=(k2.same _ (by omega) (aB fun e=>(h3 db e).1 rfl)).trans ((k1.same _ (by omega) trivial).trans h1)
 repeat' first|refine .x ?_|refine .y ?_|refine .z ?_|fail
 refine(fun(Q:∀w9,Kp [(db,db+1)] w2 w9∧w9.heap[db]?=some (cl (uo (d.add n) (.slice aa' (d.l.length+1) ca') lim cp) bz)→R (.returned (.tuple #[])) w9)=>Q _ ⟨by exact kpA,by show _=some (cl (uo d (.slice aa' (d.l.length+1) ca') lim cp) bz);exact lookA⟩) ?_
 rintro w3 ⟨k3,c3⟩
 have z3:=k3.size
 have hoo:∀b,o'=some b→(o=some b∨b=w1.heap.size):=by
  rintro b rfl
  rcases ho' with r|r
  ·exact Or.inl r.symm
  ·exact Or.inr (Option.some.inj r)
 have hne:∀b,o'=some b→b≠db:=fun b hb=>(hoo b hb).elim (fun e=>(h3 b e).1) (fun e=>by omega)
 refine hok _ _ (fun i=>F i∨o'=some i) _ hM ?_ ?_ ?_
 ·refine(Kp.kf k1:Kf F w w1).trans (Kp.kfX (F:=fun i=>o=some i) k2 (fun i hi ho=>aB ho)) (fun i hi=>Or.inl (h3 i hi).2)|>.trans (Kp.kfX (F:=fun i=>i=db) k3 (fun i hi ho=>⟨by omega,trivial⟩)) (fun i hi=>Or.inl (by rw[hi];exact h.fd))
 ·rintro i (hi|hi)
  ·exact Or.inl hi
  ·rcases hoo i hi with e|e
   ·exact Or.inl (h3 i e).2
   ·exact Or.inr (by omega)
 ·refine { hM:=h.hM,c:=⟨_,o',c3,?_,fun b hb=>⟨hne b hb,Or.inr hb⟩⟩,fd:=Or.inl h.fd,fM:=?_,fl:=?_,pos:=h.pos,bl:=h.bl,lf:=h.lf }
  ·have e1:(d.add n).l.length=d.l.length+1:=by simp[DS.add]
   rw[e1]
   show Gw w3 _ 5 _ _ (aJ (d.l++[n])) o'
   rw[Ac]
   exact g2.kp k3 (fun b hb=>⟨by have:=hne b hb;omega,trivial⟩)
  ·rintro b (hb|hb)
   ·exact h.fM b hb
   ·rcases hoo b hb with e|e
    ·exact h.fM b (h3 b e).2
    ·omega
  ·rintro b (hb|hb)
   ·have:=h.fl b hb;omega
   ·have:=g2.lt b hb;omega
theorem LH{M db:Nat}{cp:Value}{lim:Lim}{F:Nat→Prop}{w:World}{d:DS}(h:DR M db cp lim F w d)(most:Int):
  Calls P lC #[pt db 0,.int .i64 most] w (PostF F w (d.count most) fun x v F' w'=>v=.int .i64 (x.1:Nat)∧x.1<4294967296∧F'=F∧DR M db cp lim F w' x.2):=by
 refine PostF.R fun R MM hM hok hno=>?_
 apply wK
 unfold kS
 obtain⟨v,o,h1,h2,h3⟩:=h.c
 rw[DS.count]at hM
 repeat' first|refine .x ?_|refine .y ?_|refine .z ?_|fail
 refine Cl.jB (w0:=w) hM (Ey h) (Kf.refl F w) (fun i hi=>Or.inl hi) hno ?_
 rintro⟨n,d'⟩ v F1 w1 e1 hM3 hk1 hq1 hf1 hs1 ⟨rfl,hlt,rfl,d1⟩
 simp only at hM3 hlt d1 ⊢
 have ew:IntKind.i64.wrap ((n:Nat):Int)=((n:Nat):Int):=by rw[fB]<;>omega
 refine .s ?_
 rw[ew]
 refine Jn.by (fun _ w'=>w'=w1∧¬ most<(n:Nat)) (fun J hJ=>?_) ?_
 ·repeat' first|refine .x ?_|refine .y ?_|refine .z ?_|fail
  refine .split (fun hc=>?_) (fun hc=>?_)
  ·have hc':((n:Nat):Int)>most:=of_decide_eq_true hc
   rw[if_pos (by omega)]at hM3
   exact Cl.BP fun ch w' hf hk=>hno _ _ _ _ hM3 (hq1.kp hk) hf
  ·have hc':¬ ((n:Nat):Int)>most:=of_decide_eq_false hc
   exact hJ _ _ ⟨rfl,by omega⟩
 ·rintro _ w' jk ⟨rfl,hle⟩
  rw[if_neg hle]at hM3
  exact hok _ _ F1 _ hM3 hq1 hf1 ⟨rfl,hlt,rfl,d1⟩
theorem Td{M db:Nat}{cp:Value}{lim:Lim}{F:Nat→Prop}{w:World}{d:DS}(h:DR M db cp lim F w d):
  Calls P dG #[pt db 0] w (Ret fun v w'=>v=i64 (d.pos:Nat)∧w'=w):=by
 refine Ret.R fun R hR=>?_
 apply wJ
 unfold kR
 obtain⟨v,o,h1,h2,h3⟩:=h.c
 repeat' first|refine .x ?_|refine .y ?_|refine .z ?_|fail
 exact hR _ _ ⟨rfl,rfl⟩
theorem Q9{M db:Nat}{cp:Value}{lim:Lim}{F:Nat→Prop}{w:World}{d:DS}(h:DR M db cp lim F w d):
  Calls P dA #[pt db 0] w (PostF F w (d.option lim) fun x v F' w'=>v=.bool x.1∧DR M db cp lim F' w' x.2):=by
 refine PostF.R fun R MM hM hok hno=>?_
 apply vI
 unfold jH
 rw[DS.option]at hM
 refine Cl.jB (w0:=w) hM (JU h) (Kf.refl F w) (fun i hi=>Or.inl hi) hno ?_
 rintro u v F1 w1 e1 hM1 hk1 hq1 hf1 hs1 ⟨rfl,k1⟩
 have hfu:=fuel_lt e1
 have h1:=h.ext k1
 obtain⟨v1,o1,c1,c2,c3⟩:=h1.c
 repeat' first|refine .x ?_|refine .y ?_|refine .z ?_|fail
 refine Cl.jB (w0:=w) hM1 (Ey h1) hq1 hf1 hno ?_
 rintro⟨n,d'⟩ v F1 w2 e2 hM3 hk2 hq2 hf2 hs2 ⟨rfl,hlt,rfl,d2⟩
 simp only at hM3 hlt d2 ⊢
 have ew:IntKind.i64.wrap ((n:Nat):Int)=((n:Nat):Int):=by rw[fB]<;>omega
 have hl2:d'.l=d.l:=by
  rw[DS.word]at e2
  split at e2
  ·cases e2
  ·cases e2;rfl
 refine Jn.by (fun _ w'=>w'=w2∧¬ 1<n) (fun J hJ=>?_) ?_
 ·repeat' first|refine .x ?_|refine .y ?_|refine .z ?_|fail
  refine .split (fun hc=>?_) (fun hc=>?_)
  ·have hc':((n:Nat):Int)>1:=of_decide_eq_true hc
   rw[if_pos (by omega)]at hM3
   exact Cl.BP fun ch w' hf hk=>hno _ _ _ _ hM3 (hq2.kp hk) hf
  ·have hc':¬ ((n:Nat):Int)>1:=of_decide_eq_false hc
   exact hJ _ _ ⟨rfl,by omega⟩
 ·rintro _ w' jk ⟨rfl,hle⟩
  rw[if_neg hle]at hM3
  refine .s ?_
  refine .s ?_
  rw[ew]
  refine .s ?_
  refine Cl.jB (w0:=w) (k:=fun x=>.ok (n==1,x)) hM3 (Ez d2 (by rw[hl2];exact hfu) ⟨4,n,[],0,n⟩) hq2 hf2 hno ?_
  rintro d3 v F2 w3 e3 hM4 hk3 hq3 hf3 hs3 d3'
  refine .s ?_
  have e:(((n:Nat):Int)==1)=(n==1):=by rw[Bool.eq_iff_iff,beq_iff_eq,beq_iff_eq];omega
  rw[e]
  exact hok _ _ F2 _ hM4 hq3 hf3 ⟨rfl,d3'⟩
theorem GU{d d':DS}{n:Nat}(e:d.word=.ok (n,d')):d'.l=d.l:=by
 rw[DS.word]at e
 split at e
 ·cases e
 ·cases e;rfl
theorem QF{d d':DS}{m:Int}{n:Nat}(e:d.count m=.ok (n,d')):d'.l=d.l:=by
 rw[DS.count]at e
 cases h:d.word with
 |no _ _=>rw[h]at e;cases e
 |ok x=>
  rw[h]at e
  simp only[Res.andThen]at e
  split at e
  ·cases e
  ·cases e;exact GU h
theorem Vx{M db:Nat}{cp:Value}{lim:Lim}{F:Nat→Prop}{w:World}{d:DS}{T:List Nat}{i:Ins}{f g:Value}(h:DR M db cp lim F w d)(hf:df T i.table f)(hg:df T i.set g):
  Calls P dN #[pt db 0,CW i f g] w (PostF F w (d.list lim i) fun x v F' w'=>v=.int .i64 x.1∧DR M db cp lim F' w' x.2):=by
 refine PostF.R fun R MM hM hok hno=>?_
 apply xP
 unfold lZ CW
 obtain⟨fb,rfl⟩:=hf.one
 obtain⟨gb,rfl⟩:=hg.one
 rw[DS.list]at hM
 refine .s ?_
 refine Cl.w (fun w9=>Kp [] w w9∧w.heap.size<w9.heap.size∧w9.heap[w.heap.size]?=some (cl [i64 (i.op:Nat),.int .i64 i.n,.int .i64 i.to,.bool i.fixed,i64 (i.of_:Nat),.map fb,.map gb] aA)) ⟨by exact kpA,by simp,by exact lookA⟩ ?_
 rintro w1 ⟨k1,z1,n1⟩
 refine Cl.jB (w0:=w) hM (JU (h.ext k1)) (Kp.kf k1) (fun i hi=>Or.inl hi) hno ?_
 rintro u v F1 w2 e2 hM2 hk2 hq2 hf2 hs2 ⟨rfl,k2⟩
 have hfu:=fuel_lt e2
 have d2:=(h.ext k1).ext k2
 have n2:=(k2.same _ z1 trivial).trans n1
 repeat' first|refine .x ?_|refine .y ?_|refine .z ?_|fail
 refine Jn.by (fun vals w'=>∃(n:Int) (d':DS),vals=[.int .i64 n]∧Kf F1 w w'∧DR M db cp lim F1 w' d'∧d'.l=d.l∧MM=.ok (n,d'.add ⟨3,0,[],0,n⟩)) (fun J hJ=>?_) ?_
 ·repeat' first|refine .x ?_|refine .y ?_|refine .z ?_|fail
  refine .split (fun hc=>?_) (fun hc=>?_)
  ·have hop:(i.op==9)=true:=by have:(i.op:Int)=9:=by simpa using hc
                               simp; omega
   simp only[hop,if_true,Res.assoc]at hM2
   repeat' first|refine .x ?_|refine .y ?_|refine .z ?_|fail
   refine Cl.jB (w0:=w) hM2 (LH d2 i.n) hq2 hf2 hno ?_
   rintro⟨n,d'⟩ v F2 w3 e3 hM3 hk3 hq3 hf3 hs3 ⟨rfl,hlt,rfl,d3⟩
   exact hJ _ _ ⟨_,d',rfl,hq3,d3,QF e3,hM3⟩
  ·have hop:(i.op==9)=false:=by have:¬ (i.op:Int)=9:=by simpa using hc
                                simp; omega
   simp only[hop]at hM2
   exact hJ _ _ ⟨_,d,rfl,hq2,d2,rfl,hM2⟩
 ·rintro _ w' jk ⟨n,d',rfl,hq3,d3,el,hM3⟩
  refine .s ?_
  refine .s ?_
  refine Cl.jB (w0:=w) (k:=fun x=>.ok (n,x)) hM3 (Ez d3 (by rw[el];exact hfu) ⟨3,0,[],0,n⟩) hq3 hf2 hno ?_
  rintro d4 v F2 w4 e4 hM4 hk4 hq4 hf4 hs4 d4'
  exact hok _ _ F2 _ hM4 hq4 hf4 ⟨rfl,d4'⟩
end Go.W.T
namespace Go.W.T
open Go Go.W Go.M Go.Proofs
theorem Us(x y:Nat)(hx:x<4294967296)(hy:y<4294967296):
  IntKind.i64.wrap (((BitVec.ofInt IntKind.i64.bits (IntKind.i64.wrap ((x:Int)*2 ^ min (Int.toNat 32) IntKind.i64.bits))|||BitVec.ofInt IntKind.i64.bits (y:Int)).toNat:Nat):Int) =
   if(x*4294967296+y:Int)<9223372036854775808 then(x*4294967296+y:Int)else(x*4294967296+y:Int) - 18446744073709551616:=by
 have e:IntKind.i64.bits=64:=rfl
 rw[show min (Int.toNat 32) IntKind.i64.bits=32 from rfl,e,BitVec.toNat_or,BitVec.toNat_ofInt,BitVec.toNat_ofInt]
 have e1:((IntKind.i64.wrap ((x:Int)*2 ^ 32)) % ((2 ^ 64:Nat):Int)).toNat=2 ^ 32*x:=by
  rw[IntKind.wrap_i64];omega
 have e2:(((y:Nat):Int) % ((2 ^ 64:Nat):Int)).toNat=y:=by omega
 rw[e1,e2,← Nat.two_pow_add_eq_or_of_lt (i:=32) (b:=y) (by omega) x,IntKind.wrap_i64]
 split<;>omega
theorem YE{d d':DS}{n:Nat}{s:By}(e:d.text n=.ok (s,d')):d'.l=d.l:=by
 rw[DS.text]at e
 split at e
 ·cases e
 ·obtain⟨p,_,e2⟩:=Res.then_ok e
  cases e2;rfl
theorem Vy{w0:World}{db:Nat}{cp:Value}{lim:Lim}{F:Nat→Prop}{w:World}{d:DS}{T:List Nat}{tabs:List Tab}{i:Ins}{f g:Value}(h:DR w0.heap.size db cp lim F w d)(k0:Kp [] w0 w)(ht:AU w0 T tabs)(hf:df T i.table f)(hg:df T i.set g)(hn:i.op=5→0≤i.n):
  Calls P dO #[pt db 0,CW i f g] w (PostF F w (d.leaf tabs lim i) fun x v F' w'=>DR w0.heap.size db cp lim F' w' x):=by
 refine PostF.R fun R MM hM hok hno=>?_
 apply xQ
 unfold l7 CW
 have hf':=hf
 have hg':=hg
 obtain⟨fb,rfl⟩:=hf.one
 obtain⟨gb,rfl⟩:=hg.one
 rw[DS.leaf]at hM
 refine .s ?_
 refine Cl.w (fun w9=>Kp [] w w9∧w.heap.size<w9.heap.size∧w9.heap[w.heap.size]?=some (cl [i64 (i.op:Nat),.int .i64 i.n,.int .i64 i.to,.bool i.fixed,i64 (i.of_:Nat),.map fb,.map gb] aA)) ⟨by exact kpA,by simp,by exact lookA⟩ ?_
 rintro w1 ⟨k1,z1,n1⟩
 refine Cl.jB (w0:=w) hM (JU (h.ext k1)) (Kp.kf k1) (fun i hi=>Or.inl hi) hno ?_
 rintro u v F1 w2 e2 hM2 hk2 hq2 hf2 hs2 ⟨rfl,k2⟩
 have hfu:=fuel_lt e2
 have d2:=(h.ext k1).ext k2
 have n2:=(k2.same _ z1 trivial).trans n1
 obtain⟨v1,o1,c1,c2,c3⟩:=d2.c
 clear k1 k2 hM
 repeat' first|refine .x ?_|refine .y ?_|refine .z ?_|fail
 refine .split (fun hc=>?_) (fun hc=>?_)
 ·have hop:(i.op==5)=true:=by have:(i.op:Int)=5:=by simpa using hc
                              simp; omega
  have hn0:=hn (beq_iff_eq.mp hop)
  simp only[hop,if_true]at hM2
  repeat' first|refine .x ?_|refine .y ?_|refine .z ?_|fail
  refine Jn.by (fun vals w'=>∃(n:Int) (d':DS),vals=[.int .i64 n]∧0≤n∧Kf F1 w w'∧DR w0.heap.size db cp lim F1 w' d'∧d'.l=d.l ∧
   MM=(if 2147483647<n then Res.no 16 d'.pos else(d'.text n.toNat).andThen fun y=>.ok (y.2.add ⟨2,0,y.1,d'.pos,0⟩))) (fun J hJ=>?_) ?_
  ·repeat' first|refine .x ?_|refine .y ?_|refine .z ?_|fail
   cases hfx:i.fixed with
   |false=>
    rw[hfx]at hM2
    simp only[Res.assoc,Bool.false_eq_true,if_false]at hM2
    repeat' first|refine .x ?_|refine .y ?_|refine .z ?_|fail
    refine Cl.jB (w0:=w) hM2 (LH d2 i.n) hq2 hf2 hno ?_
    rintro⟨n,d'⟩ v F2 w3 e3 hM3 hk3 hq3 hf3 hs3 ⟨rfl,hlt,rfl,d3⟩
    exact hJ _ _ ⟨_,d',rfl,by simp only;omega,hq3,d3,QF e3,hM3⟩
   |true=>
    rw[hfx]at hM2
    repeat' first|refine .x ?_|refine .y ?_|refine .z ?_|fail
    exact hJ _ _ ⟨_,d,rfl,hn0,hq2,d2,rfl,hM2⟩
  ·rintro _ w3 jk ⟨n,d3,rfl,hn3,hq3,d3',el3,hM3⟩
   refine .s ?_
   obtain⟨v3,o3,b1,b2,b3⟩:=d3'.c
   refine Jn.by (fun _ w'=>w'=w3∧¬ 2147483647<n) (fun J hJ=>?_) ?_
   ·repeat' first|refine .x ?_|refine .y ?_|refine .z ?_|fail
    refine .split (fun hc=>?_) (fun hc=>?_)
    ·have hc':n>2147483647:=of_decide_eq_true hc
     rw[if_pos (by omega)]at hM3
     repeat' first|refine .x ?_|refine .y ?_|refine .z ?_|fail
     exact Cl.BP fun ch w' hf hk=>hno _ _ _ _ hM3 (hq3.kp hk) hf
    ·have hc':¬ n>2147483647:=of_decide_eq_false hc
     exact hJ _ _ ⟨rfl,by omega⟩
   ·rintro _ w' jk2 ⟨rfl,hle⟩
    rw[if_neg hle]at hM3
    obtain⟨m,rfl⟩:∃m:Nat,n=(m:Nat):=⟨n.toNat,by omega⟩
    rw[Int.toNat_natCast]at hM3
    repeat' first|refine .x ?_|refine .y ?_|refine .z ?_|fail
    refine Cl.jB (w0:=w) hM3 (Yg d3' m (by omega)) hq3 hf2 hno ?_
    rintro⟨s,d4⟩ v F2 w4 e4 hM4 hk4 hq4 hf4 hs4 ⟨rfl,rfl,d4'⟩
    simp only at hM4 d4' ⊢
    refine .s ?_
    refine Cl.jB (w0:=w) (k:=fun x=>.ok x) hM4 (Ez d4' (by rw[YE e4,el3];exact hfu) ⟨2,0,s,d3.pos,0⟩) hq4 hf4 hno ?_
    rintro d5 v F3 w5 e5 hM5 hk5 hq5 hf5 hs5 d5'
    exact hok _ _ F3 _ hM5 hq5 hf5 d5'
 have hop5:(i.op==5)=false:=by have:¬ (i.op:Int)=5:=by simpa using hc
                               simp; omega
 simp only[hop5,Bool.false_eq_true,if_false]at hM2
 refine .s ?_
 refine .split (fun hc2=>?_) (fun hc2=>?_)
 ·have hop:(i.op==2)=true:=by have:(i.op:Int)=2:=by simpa using hc2
                              simp; omega
  simp only[hop,if_true]at hM2
  have hM2':MM=(BN d 8).andThen fun _=>d.word.andThen fun x=>x.2.word.andThen fun y=>.ok (y.2.add ⟨1,if(x.1*4294967296+y.1:Int)<9223372036854775808 then(x.1*4294967296+y.1:Int)else(x.1*4294967296+y.1:Int) - 18446744073709551616,[],0,0⟩):=by
   rw[hM2,BN];split<;>rfl
  clear hM2
  repeat' first|refine .x ?_|refine .y ?_|refine .z ?_|fail
  refine Cl.jB (w0:=w) hM2' (OM d2 8) hq2 hf2 hno ?_
  rintro u v F2 w3 e3 hM3 hk3 hq3 hf3 hs3 ⟨rfl,k3⟩
  have d3:=d2.ext k3
  obtain⟨v3,o3,b1,b2,b3⟩:=d3.c
  repeat' first|refine .x ?_|refine .y ?_|refine .z ?_|fail
  refine Cl.jB (w0:=w) hM3 (Ey d3) hq3 hf2 hno ?_
  rintro⟨x,d4⟩ v F3 w4 e4 hM4 hk4 hq4 hf4 hs4 ⟨rfl,hx,rfl,d4'⟩
  simp only at hM4 hx d4' ⊢
  have ewx:IntKind.i64.wrap ((x:Nat):Int)=((x:Nat):Int):=by rw[fB]<;>omega
  repeat' first|refine .x ?_|refine .y ?_|refine .z ?_|fail
  rw[ewx]
  refine Cl.jB (w0:=w) hM4 (Ey d4') hq4 hf2 hno ?_
  rintro⟨y,d5⟩ v F4 w5 e5 hM5 hk5 hq5 hf5 hs5 ⟨rfl,hy,rfl,d5'⟩
  simp only at hM5 hy d5' ⊢
  have ewy:IntKind.i64.wrap ((y:Nat):Int)=((y:Nat):Int):=by rw[fB]<;>omega
  refine .s ?_
  rw[ewy]
  refine .s ?_
  rw[Us x y hx hy]
  generalize (if(x*4294967296+y:Int)<9223372036854775808 then(x*4294967296+y:Int)else(x*4294967296+y:Int) - 18446744073709551616)=q at hM5 ⊢
  refine .s ?_
  refine Cl.jB (w0:=w) (k:=fun x=>.ok x) hM5 (Ez d5' (by rw[GU e5,GU e4];exact hfu) ⟨1,_,[],0,0⟩) hq5 hf2 hno ?_
  rintro d6 v F5 w6 e6 hM6 hk6 hq6 hf6 hs6 d6'
  exact hok _ _ F5 _ hM6 hq6 hf6 d6'
 ·have hop2:(i.op==2)=false:=by have:¬ (i.op:Int)=2:=by simpa using hc2
                                simp; omega
  simp only[hop2,Bool.false_eq_true,if_false]at hM2
  have n2':w2.drew.heap[w.heap.size]?=some (cl [i64 (i.op:Nat),.int .i64 i.n,.int .i64 i.to,.bool i.fixed,i64 (i.of_:Nat),.map fb,.map gb] aA):=n2
  repeat' first|refine .x ?_|refine .y ?_|refine .z ?_|fail
  have kd:Kp [] w2 w2.drew:=by exact kpA
  refine Cl.jB (w0:=w) hM2 (Ey (d2.ext kd)) (hq2.kp kd) hf2 hno ?_
  rintro⟨x,d3⟩ v F3 w3 e3 hM3 hk3 hq3 hf3 hs3 ⟨rfl,hx,rfl,d3'⟩
  simp only at hM3 hx d3' ⊢
  have hnF:¬ F3 w.heap.size:=fun hF=>by have:=h.fl _ hF;omega
  have hsz2:w.heap.size<w2.heap.size:=lt_of_heap n2
  have n3:w3.heap[w.heap.size]?=some (cl [i64 (i.op:Nat),.int .i64 i.n,.int .i64 i.to,.bool i.fixed,i64 (i.of_:Nat),.map fb,.map gb] aA):=(hk3.same _ hsz2 hnF).trans n2
  refine⟨by repeat' first|refine .x ?_|refine .y ?_|refine .z ?_|fail
            rfl, ?_⟩
  refine Cl.ret (Qc i.op x hx) ?_
  rintro v w3' ⟨rfl,rfl⟩
  have kb:Kp [] w0 w3':=Kf.base k0 hq3 h.fM
  refine Jn.by (fun _ w'=>w'=w3'∧fits i.op (jw tabs i.table) (numOf i.op x)=true) (fun J hJ=>?_) ?_
  ·repeat' first|refine .x ?_|refine .y ?_|refine .z ?_|fail
   refine Cl.ret (Tj i.op (numOf i.op x) (ht.kp kb) hf') ?_
   rintro v w3' ⟨rfl,rfl⟩
   repeat' first|refine .x ?_|refine .y ?_|refine .z ?_|fail
   cases hfit:fits i.op (jw tabs i.table) (numOf i.op x)with
   |true=>
    repeat' first|refine .x ?_|refine .y ?_|refine .z ?_|fail
    exact hJ _ _ ⟨rfl,hfit⟩
   |false=>
    simp only[hfit,Bool.false_eq_true,if_false]at hM3
    repeat' first|refine .x ?_|refine .y ?_|refine .z ?_|fail
    exact Cl.BP fun ch w' hf hk=>hno _ _ _ _ hM3 (hq3.kp hk) hf
  ·rintro _ w' jk ⟨rfl,hfit⟩
   simp only[hfit,if_true]at hM3
   refine .s ?_
   refine Cl.jB (w0:=w) (k:=fun x=>.ok x) hM3 (Ez d3' (by rw[GU e3];exact hfu) ⟨1,_,[],0,0⟩) hq3 hf2 hno ?_
   rintro d6 v F5 w6 e6 hM6 hk6 hq6 hf6 hs6 d6'
   exact hok _ _ F5 _ hM6 hq6 hf6 d6'
theorem eu.at{T:List Nat}:∀{L:List Ins} {l:List Value} {k:Nat} {i:Ins},eu T L l→L[k]?=some i →
  ∃f g,df T i.table f∧df T i.set g∧(l.drop (k*7)).take 7=[i64 (i.op:Nat),.int .i64 i.n,.int .i64 i.to,.bool i.fixed,i64 (i.of_:Nat),f,g]∧l[k*7]?=some (i64 (i.op:Nat)):=by
 intro L
 induction L with
 |nil=>intro l k i _ h;cases h
 |cons j r ih=>
  intro l k i h hk
  rcases h.cases with⟨h,_⟩|⟨i',r',f,g,l',h1,rfl,h3,h4,h2⟩
  ·cases h
  ·cases h1
   cases k with
   |zero=>simp at hk;subst hk;exact⟨f,g,h3,h4,by simp,by simp⟩
   |succ k=>
    obtain⟨f',g',a1,a2,a3,a4⟩:=ih h2 (by simpa using hk)
    have e:(k+1)*7=7+k*7:=by omega
    refine⟨f',g',a1,a2,?_,?_⟩
    ·rw[e,← List.drop_drop];exact a3
    ·rw[e,List.getElem?_append_right (by simp)];simpa using a4
structure MC (w:World) (cp:Value) (T:List Nat) (L:List Ins) (tabs:List Tab):Prop where
 c:∃cb lb m1 m2 m3 cells rest cap,cp=pt cb 0∧w.heap[cb]?=some (cl [.slice (some ⟨lb,0,none⟩) L.length cap,m1,m2,m3] gU)∧w.heap[lb]?=some (cl (cells++rest) aA)∧eu T L cells
 t:AU w T tabs
 n:L.length<1000000
theorem MC.kp{w w':World}{cp:Value}{T:List Nat}{L:List Ins}{tabs:List Tab}(h:MC w cp T L tabs)(k:Kp [] w w'):MC w' cp T L tabs:=by
 obtain⟨cb,lb,m1,m2,m3,cells,rest,cap,h1,h2,h3,h4⟩:=h.c
 exact⟨⟨cb,lb,m1,m2,m3,cells,rest,cap,h1,(k.same _ (lt_of_heap h2) trivial).trans h2,(k.same _ (lt_of_heap h3) trivial).trans h3,h4⟩,h.t.kp k,h.n⟩
theorem SV{w0:World}{db:Nat}{cp:Value}{lim:Lim}{F:Nat→Prop}{w:World}{d:DS}{T:List Nat}{L:List Ins}{tabs:List Tab}{i:Ins}{f g:Value}(h:DR w0.heap.size db cp lim F w d)(k0:Kp [] w0 w)(hc:MC w0 cp T L tabs)(hf:df T i.table f)(hg:df T i.set g)(hto:∀n,target tabs i n<L.length):
  Calls P dF #[pt db 0,CW i f g] w (PostF F w (d.union L tabs lim i) fun x v F' w'=>v=.int .i64 x.1∧0≤x.1∧x.1<L.length∧DR w0.heap.size db cp lim F' w' x.2):=by
 refine PostF.R fun R MM hM hok hno=>?_
 apply wH
 unfold kQ CW
 have hf':=hf
 have hg':=hg
 obtain⟨fb,rfl⟩:=hf.one
 obtain⟨gb,rfl⟩:=hg.one
 rw[DS.union]at hM
 refine .s ?_
 refine Cl.w (fun w9=>Kp [] w w9∧w.heap.size<w9.heap.size∧w9.heap[w.heap.size]?=some (cl [i64 (i.op:Nat),.int .i64 i.n,.int .i64 i.to,.bool i.fixed,i64 (i.of_:Nat),.map fb,.map gb] aA)) ⟨by exact kpA,by simp,by exact lookA⟩ ?_
 rintro w1 ⟨k1,z1,n1⟩
 refine Cl.jB (w0:=w) hM (JU (h.ext k1)) (Kp.kf k1) (fun i hi=>Or.inl hi) hno ?_
 rintro u v F1 w2 e2 hM2 hk2 hq2 hf2 hs2 ⟨rfl,k2⟩
 have hfu:=fuel_lt e2
 have d2:=(h.ext k1).ext k2
 have n2:=(k2.same _ z1 trivial).trans n1
 obtain⟨v1,o1,c1,c2,c3⟩:=d2.c
 clear k1 k2 hM
 have n2':w2.drew.heap[w.heap.size]?=some (cl [i64 (i.op:Nat),.int .i64 i.n,.int .i64 i.to,.bool i.fixed,i64 (i.of_:Nat),.map fb,.map gb] aA):=n2
 repeat' first|refine .x ?_|refine .y ?_|refine .z ?_|fail
 have kd:Kp [] w2 w2.drew:=by exact kpA
 refine Cl.jB (w0:=w) hM2 (Ey (d2.ext kd)) (hq2.kp kd) hf2 hno ?_
 rintro⟨x,d3⟩ v F3 w3 e3 hM3 hk3 hq3 hf3 hs3 ⟨rfl,hx,rfl,d3'⟩
 simp only at hM3 hx d3' ⊢
 have hnF:¬ F3 w.heap.size:=fun hF=>by have:=h.fl _ hF;omega
 have hsz2:w.heap.size<w2.heap.size:=lt_of_heap n2
 have n3:w3.heap[w.heap.size]?=some (cl [i64 (i.op:Nat),.int .i64 i.n,.int .i64 i.to,.bool i.fixed,i64 (i.of_:Nat),.map fb,.map gb] aA):=(hk3.same _ hsz2 hnF).trans n2
 refine⟨by repeat' first|refine .x ?_|refine .y ?_|refine .z ?_|fail
           rfl, ?_⟩
 refine Cl.ret (Qc i.of_ x hx) ?_
 rintro v w3' ⟨rfl,rfl⟩
 generalize hn:numOf i.of_ x=n at hM3 ⊢
 have kb:Kp [] w0 w3':=Kf.base k0 hq3 h.fM
 repeat' first|refine .x ?_|refine .y ?_|refine .z ?_|fail
 refine Cl.ret (SY n (ht:=(hc.kp kb).t) hf' hg') ?_
 rintro v w4 ⟨rfl,k4⟩
 generalize htg:target tabs i n=t at hM3 ⊢
 have hq4:=hq3.kp k4
 have kb4:Kp [] w0 w4:=Kf.base k0 hq4 h.fM
 have htL:t<L.length:=by rw[← htg];exact hto n
 have d4:=d3'.ext k4
 refine Jn.by (fun _ w'=>w'=w4∧¬ t<0) (fun J hJ=>?_) ?_
 ·repeat' first|refine .x ?_|refine .y ?_|refine .z ?_|fail
  refine .split (fun hc=>?_) (fun hc=>?_)
  ·have hc':t<0:=of_decide_eq_true hc
   rw[if_pos hc']at hM3
   exact Cl.BP fun ch w' hf hk=>hno _ _ _ _ hM3 (hq4.kp hk) hf
  ·have hc':¬ t<0:=of_decide_eq_false hc
   exact hJ _ _ ⟨rfl,hc'⟩
 ·rintro _ w' jk ⟨rfl,ht0⟩
  rw[if_neg ht0]at hM3
  obtain⟨tn,rfl⟩:∃m:Nat,t=(m:Nat):=⟨t.toNat,by omega⟩
  have htn:tn<L.length:=by omega
  rw[Int.toNat_natCast]at hM3
  obtain⟨j,hj⟩:∃j,L[tn]?=some j:=⟨_,List.getElem?_eq_getElem htn⟩
  rw[hj]at hM3
  have hz4:=lt_of_heap n3
  refine .s ?_
  refine .s ?_
  refine .s ?_
  have k5:Kp [] w' (ah (w'.alloc (cl [.int .i64 0,.int .i64 0,.string ⟨#[]⟩,.int .i64 0,.int .i64 0] 52)) w'.heap.size (cl [.int .i64 4,.int .i64 n,.string ⟨#[]⟩,.int .i64 0,.int .i64 1] 52)):=by exact kpA
  have n5:(ah (w'.alloc (cl [.int .i64 0,.int .i64 0,.string ⟨#[]⟩,.int .i64 0,.int .i64 0] 52)) w'.heap.size (cl [.int .i64 4,.int .i64 n,.string ⟨#[]⟩,.int .i64 0,.int .i64 1] 52)).heap[w'.heap.size]?=some (cl [.int .i64 4,.int .i64 n,.string ⟨#[]⟩,.int .i64 0,.int .i64 1] 52):=by exact lookA
  generalize ah (w'.alloc (cl [.int .i64 0,.int .i64 0,.string ⟨#[]⟩,.int .i64 0,.int .i64 0] 52)) w'.heap.size (cl [.int .i64 4,.int .i64 n,.string ⟨#[]⟩,.int .i64 0,.int .i64 1] 52)=w5 at *
  have hz5:=lt_of_heap n5
  obtain⟨cb,lb,m1,m2,m3,cells,rest,cap,rfl,b2,b3,b4⟩:=((hc.kp kb4).kp k5).c
  obtain⟨v5,o5,x1,x2,x3⟩:=(d4.ext k5).c
  obtain⟨jf,jg,y1,y2,y3,y4⟩:=b4.at hj
  have hlb:=lt_of_heap b3
  refine Jn.by (fun _ w6=>Kp [(w'.heap.size,w'.heap.size+1)] w5 w6∧w6.heap[w'.heap.size]?=some (cl (gz ⟨4,n,[],0,if Option.map (fun x=>x.op) (some j)==some 15 then 0 else 1⟩) 52)) (fun J hJ=>?_) ?_
  ·repeat' first|refine .x ?_|refine .y ?_|refine .z ?_|fail
   refine Ld.by (x:=i64 (j.op:Nat)) ?_ ?_
   ·rw[jS,b3]
    simp only[Option.bind_some,fG,Nat.zero_add,Nat.add_zero]
    rw[List.getElem?_toArray,List.getElem?_append_left]
    ·exact y4
    ·rw[b4.len];omega
   refine .s ?_
   refine .split (fun hc=>?_) (fun hc=>?_)
   ·have hop:j.op=15:=by have:(j.op:Int)=15:=by simpa using hc
                         omega
    repeat' first|refine .x ?_|refine .y ?_|refine .z ?_|fail
    exact hJ _ _ ⟨by exact kpA,by
     have e:(if(Option.map (fun x=>x.op) (some j)==some 15)=true then(0:Int)else 1)=0:=by simp[hop]
     simp only[gz,e]
     exact aj rfl hz5⟩
   ·have hop:¬ j.op=15:=by have:¬ (j.op:Int)=15:=by simpa using hc
                           omega
    exact hJ _ _ ⟨Kp.refl _ _,by rw[n5];simp[hop,gz]⟩
  ·rintro _ w6 jk2 ⟨k6,n6⟩
   have k56:Kp [] w' w6:=k5.trans k6 (fun i hi _=>⟨trivial,by omega,trivial⟩)
   generalize (if Option.map (fun x=>x.op) (some j)==some 15 then(0:Int)else 1)=z at n6 hM3
   refine LdN.s (l':=gz ⟨4,n,[],0,z⟩) ?_ n6 (by simp[gz]) (by simp[gz])
   refine Cl.jB (w0:=w) (k:=fun x=>.ok ((tn:Int),x)) hM3 (Ez (d4.ext k56) (by rw[GU e3];exact hfu) ⟨4,n,[],0,z⟩) (hq4.kp k56) hf3 hno ?_
   rintro d6 v F5 w7 e6 hM6 hk6 hq6 hf6 hs6 d6'
   exact hok _ _ F5 _ hM6 hq6 hf6 ⟨rfl,by simp,by simpa using htn,d6'⟩
end Go.W.T
namespace Go.W.T
open Go Go.W Go.M Go.Proofs
def lI(l:List Nat):List Value:=l.reverse.map fun n:Nat=>i64 (n:Nat)
def uT(x:Int×Nat):List Value:=[.int .i64 x.1,i64 (x.2:Nat)]
def oO(l:List (Int×Nat)):List Value:=l.reverse.flatMap uT
theorem AL(x:Nat)(l:List Nat):lI (x::l)=lI l++[i64 (x:Nat)]:=by simp[lI]
theorem tZ(x:Int×Nat)(l:List (Int×Nat)):oO (x::l)=oO l++uT x:=by simp[oO]
abbrev Am(cp iv:Value)(lim:Lim)(dep:Nat)(vb vl:Value):List Value:=[cp,.int .i64 lim.depth,.int .i64 lim.fuel,.int .i64 lim.size,iv,i64 (dep:Nat),vb,vl]
structure MR (M mb:Nat) (cp iv:Value) (lim:Lim) (G:Nat→Prop) (w:World) (back:List Nat) (loops:List (Int×Nat)):Prop where
 hM:M≤mb
 c:∃vb vl ob ol,w.heap[mb]?=some (cl (Am cp iv lim back.length vb vl) az) ∧
  Gw w 3 1 vb back.length (lI back) ob∧Gw w 243 2 vl loops.length (oO loops) ol ∧
  (∀b,ob=some b→b≠mb∧ol≠some b∧G b)∧(∀b,ol=some b→b≠mb∧G b)
 gm:G mb
 gM:∀b,G b→M≤b
 gl:∀b,G b→b<w.heap.size
 bl:back.length≤1000000
 ll:loops.length≤1000000
 lv:∀x∈loops,x.1≤4294967295
theorem DX{w w':World}{e:TypeId}{m:Nat}{v:Value}{n:Nat}{l:List Value}{o:Option Nat}{F:Nat→Prop}(h:Gw w e m v n l o)(k:Kf F w w')(hx:∀b,o=some b→¬ F b):Gw w' e m v n l o:=by
 obtain⟨h1,h2⟩:=h
 refine⟨h1,?_⟩
 cases o with
 |none=>exact h2
 |some b=>obtain⟨r,c,h3,h4,h5⟩:=h2;exact⟨r,c,h3,(k.same b (lt_of_heap h4) (hx b rfl)).trans h4,h5⟩
theorem MR.ext{M mb:Nat}{cp iv:Value}{lim:Lim}{F G:Nat→Prop}{w w':World}{back:List Nat}{loops:List (Int×Nat)}(h:MR M mb cp iv lim G w back loops)(k:Kf F w w')(hd:∀i,F i→¬ G i):MR M mb cp iv lim G w' back loops:=by
 obtain⟨vb,vl,ob,ol,h1,h2,h3,h4,h5⟩:=h.c
 exact { h with
  c:=⟨vb,vl,ob,ol,(k.same _ (lt_of_heap h1) (fun f=>hd _ f h.gm)).trans h1,DX h2 k (fun b hb f=>hd _ f (h4 b hb).2.2),DX h3 k (fun b hb f=>hd _ f (h5 b hb).2),h4,h5⟩
  gl:=fun b hb=>Nat.lt_of_lt_of_le (h.gl b hb) k.size }
theorem VA{w:World}{mb:Nat}{c0 c1 c2 c3 c4 c5 vb vl:Value}{n:Nat}{l:List Value}{ob:Option Nat}(x:Nat)(h:w.heap[mb]?=some (cl [c0,c1,c2,c3,c4,c5,vb,vl] az))(hg:Gw w 3 1 vb n l ob)(ho:∀b,ob=some b→b≠mb)(hn:n≤2000000):
  Calls P jL #[pt mb 6,i64 (x:Nat)] w (Ret fun v w'=>∃vb' o',w'.heap[mb]?=some (cl [c0,c1,c2,c3,c4,c5,vb',vl] az)∧Gw w' 3 1 vb' (n+1) (l++[i64 (x:Nat)]) o'∧(∀b,o'=some b→b≠mb∧(ob=some b∨w.heap.size≤b))∧Kp ((mb,mb+1)::own ob) w w'):=by
 refine Ret.R fun R hR=>?_
 apply vH
 unfold jG
 have hlt:=lt_of_heap h
 obtain⟨va,vc,rfl⟩:=hg.len
 repeat' first|refine .x ?_|refine .y ?_|refine .z ?_|fail
 refine Ap.w (fun w9=>Kp [] w w9∧w.heap.size<w9.heap.size∧w9.heap[w.heap.size]?=some (cl [i64 (x:Nat)] 3)) ⟨by exact kpA,by simp,by exact lookA⟩ ?_
 rintro w1 ⟨k1,z1,n1⟩
 refine Ap.g (hg.kp k1 (fun _ _=>trivial)) n1 rfl rfl ?_ (by omega)
 intro v' w2 o' g2 ho' k2
 have z2:=k2.size
 obtain⟨aa',ca',rfl⟩:=g2.len
 have c2':w2.heap[mb]?=some (cl [c0,c1,c2,c3,c4,c5,.slice va n vc,vl] az):=(k2.same _ (by omega) (aB fun e=>ho mb e rfl)).trans ((k1.same _ (by omega) trivial).trans h)
 repeat' first|refine .x ?_|refine .y ?_|refine .z ?_|fail
 refine(fun(Q:∀w9,Kp [(mb,mb+1)] w2 w9∧w9.heap[mb]?=some (cl [c0,c1,c2,c3,c4,c5,.slice aa' (n+1) ca',vl] az)→R (.returned (.tuple #[])) w9)=>Q _ ⟨by exact kpA,by exact lookA⟩) ?_
 rintro w3 ⟨k3,c3'⟩
 have hoo:∀b,o'=some b→b≠mb∧(ob=some b∨w.heap.size≤b):=by
  rintro b rfl
  rcases ho' with r|r
  ·exact⟨ho b r.symm,Or.inl r.symm⟩
  ·have:=Option.some.inj r;exact⟨by omega,Or.inr (by omega)⟩
 refine hR _ _ ⟨_,o',c3',g2.kp k3 (fun b hb=>⟨by have:=(hoo b hb).1;omega,trivial⟩),hoo,?_⟩
 exact((k1.trans k2 (fun i _ ho=>⟨trivial,ho.2⟩):Kp ((mb,mb+1)::own ob) w w2)).trans k3 (fun i _ ho=>⟨ho,ho.1,trivial⟩)
theorem UL{w:World}{e:TypeId}{m:Nat}{v:Value}{n:Nat}{l x:List Value}{o:Option Nat}(h:Gw w e m v (n+1) (l++x) o)(hx:x.length=m)(hm:0<m):
  ∃b cap rest,o=some b∧v=.slice (some ⟨b,0,none⟩) (n+1) cap∧w.heap[b]?=some (cl (l++x++rest) e)∧l.length=n*m∧n+1≤cap∧Gw w e m (.slice (some ⟨b,0,none⟩) n cap) n l o:=by
 obtain⟨h1,h2⟩:=h
 have hl:l.length=n*m:=by
  rw[List.length_append,hx,Nat.add_mul,Nat.one_mul]at h1;omega
 cases o with
 |none=>obtain⟨_,h4⟩:=h2;cases h4
 |some b=>
  obtain⟨rest,cap,h3,h4,h5⟩:=h2
  refine⟨b,cap,rest,rfl,h3,h4,hl,?_,hl,x++rest,cap,rfl,by rw[h4,List.append_assoc],by rw[List.length_append,← Nat.add_assoc,← List.length_append];exact h5⟩
  have:(n+1)*m≤cap*m:=by rw[← h5,← h1];omega
  exact Nat.le_of_mul_le_mul_right this hm
theorem Kv{size n cap k b:Nat}{K:Value→Prop}(h:k≤cap)(hK:K (.slice (some ⟨b,0,none⟩) k cap)):SlL size (.slice (some ⟨b,0,none⟩) n cap) none (some (.int .i64 (k:Nat))) K:=by
 refine⟨?_⟩
 unfold Vb
 have h1:bnd (some (.int .i64 ((k:Nat):Int))) n cap=some k:=by
  show (if 0≤((k:Nat):Int)∧((k:Nat):Int)≤(cap:Int)then some ((k:Nat):Int).toNat else none)=some k
  rw[if_pos (by omega),Int.toNat_natCast]
 have h2:bnd none 0 k=some 0:=rfl
 simp only[h1,h2,Nat.sub_zero,Nat.zero_mul,Option.map_some,add_eq,Nat.add_zero]
 split<;>exact hK
theorem Yo{w:World}{mb:Nat}{c0 c1 c2 c3 c4 c5 vb vl:Value}{n x:Nat}{l:List Value}{ob:Option Nat}(h:w.heap[mb]?=some (cl [c0,c1,c2,c3,c4,c5,vb,vl] az))(hg:Gw w 3 1 vb (n+1) (l++[i64 (x:Nat)]) ob)(ho:∀b,ob=some b→b≠mb)(hn:n≤2000000):
  Calls P lu #[pt mb 6] w (Ret fun v w'=>v=i64 (x:Nat)∧∃vb',w'.heap[mb]?=some (cl [c0,c1,c2,c3,c4,c5,vb',vl] az)∧Gw w' 3 1 vb' n l ob∧Kp [(mb,mb+1)] w w'):=by
 refine Ret.R fun R hR=>?_
 apply wG
 unfold kP
 have hlt:=lt_of_heap h
 obtain⟨b,cap,rest,rfl,rfl,hb,hl,hcap,hgp⟩:=UL hg rfl (by decide)
 have e1:((n+1:Nat):Int) - 1=((n:Nat):Int):=by omega
 repeat' first|refine .x ?_|refine .y ?_|refine .z ?_|fail
 rw[e1]
 refine .s ?_
 refine Ld.by (x:=i64 (x:Nat)) ?_ ?_
 ·rw[jS,hb]
  simp only[Option.bind_some,fG,Nat.zero_add,Nat.add_zero,Nat.mul_one]
  rw[List.getElem?_toArray,List.append_assoc,List.getElem?_append_right (by omega)]
  simp[hl]
 repeat' first|refine .x ?_|refine .y ?_|refine .z ?_|fail
 rw[e1]
 refine Kv (by omega) ?_
 repeat' first|refine .x ?_|refine .y ?_|refine .z ?_|fail
 refine(fun(Q:∀w9,Kp [(mb,mb+1)] w w9∧w9.heap[mb]?=some (cl [c0,c1,c2,c3,c4,c5,.slice (some ⟨b,0,none⟩) n cap,vl] az)→R (.returned (i64 (x:Nat))) w9)=>Q _ ⟨by exact kpA,by exact lookA⟩) ?_
 rintro w3 ⟨k3,c3'⟩
 exact hR _ _ ⟨rfl,_,c3',hgp.kp k3 (fun b' hb'=>⟨by have:=ho b' hb';omega,trivial⟩),k3⟩
theorem Qd{w:World}{mb:Nat}{c0 c1 c2 c3 c4 c5 vb vl:Value}{n:Nat}{l:List Value}{ob:Option Nat}(x:Int×Nat)(h:w.heap[mb]?=some (cl [c0,c1,c2,c3,c4,c5,vb,vl] az))(hg:Gw w 243 2 vl n l ob)(ho:∀b,ob=some b→b≠mb)(hn:n≤2000000000):
  Calls P eU #[pt mb 7,.agg (uT x).toArray] w (Ret fun v w'=>∃vl' o',w'.heap[mb]?=some (cl [c0,c1,c2,c3,c4,c5,vb,vl'] az)∧Gw w' 243 2 vl' (n+1) (l++uT x) o'∧(∀b,o'=some b→b≠mb∧(ob=some b∨w.heap.size≤b))∧Kp ((mb,mb+1)::own ob) w w'):=by
 refine Ret.R fun R hR=>?_
 apply lL
 unfold eP
 have hlt:=lt_of_heap h
 obtain⟨va,vc,rfl⟩:=hg.len
 unfold uT
 repeat' first|refine .x ?_|refine .y ?_|refine .z ?_|fail
 refine Ap.w (fun w9=>Kp [] w w9∧w.heap.size+1<w9.heap.size∧w9.heap[w.heap.size+1]?=some (cl (uT x) 243)) ⟨by exact kpA,by simp only[size_alloc,size_drew];omega,by unfold uT;exact lookA⟩ ?_
 rintro w1 ⟨k1,z1,n1⟩
 refine Ap.g (hg.kp k1 (fun _ _=>trivial)) n1 rfl rfl ?_ (by omega)
 intro v' w2 o' g2 ho' k2
 have z2:=k2.size
 obtain⟨aa',ca',rfl⟩:=g2.len
 have c2':w2.heap[mb]?=some (cl [c0,c1,c2,c3,c4,c5,vb,.slice va n vc] az):=(k2.same _ (by omega) (aB fun e=>ho mb e rfl)).trans ((k1.same _ (by omega) trivial).trans h)
 repeat' first|refine .x ?_|refine .y ?_|refine .z ?_|fail
 refine(fun(Q:∀w9,Kp [(mb,mb+1)] w2 w9∧w9.heap[mb]?=some (cl [c0,c1,c2,c3,c4,c5,vb,.slice aa' (n+1) ca'] az)→R (.returned (.tuple #[])) w9)=>Q _ ⟨by exact kpA,by exact lookA⟩) ?_
 rintro w3 ⟨k3,c3'⟩
 have hoo:∀b,o'=some b→b≠mb∧(ob=some b∨w.heap.size≤b):=by
  rintro b rfl
  rcases ho' with r|r
  ·exact⟨ho b r.symm,Or.inl r.symm⟩
  ·have:=Option.some.inj r;exact⟨by omega,Or.inr (by omega)⟩
 refine hR _ _ ⟨_,o',c3',g2.kp k3 (fun b hb=>⟨by have:=(hoo b hb).1;omega,trivial⟩),hoo,?_⟩
 exact((k1.trans k2 (fun i _ ho=>⟨trivial,ho.2⟩):Kp ((mb,mb+1)::own ob) w w2)).trans k3 (fun i _ ho=>⟨ho,ho.1,trivial⟩)
theorem Yl{w:World}{mb:Nat}{c0 c1 c2 c3 c4 c5 vb vl:Value}{n:Nat}{x:Int×Nat}{l:List Value}{ob:Option Nat}(h:w.heap[mb]?=some (cl [c0,c1,c2,c3,c4,c5,vb,vl] az))(hg:Gw w 243 2 vl (n+1) (l++uT x) ob)(ho:∀b,ob=some b→b≠mb)(hn:n≤2000000000):
  Calls P fE #[pt mb 7] w (Ret fun v w'=>v=.agg (uT x).toArray∧∃vl',w'.heap[mb]?=some (cl [c0,c1,c2,c3,c4,c5,vb,vl'] az)∧Gw w' 243 2 vl' n l ob∧Kp [(mb,mb+1)] w w'):=by
 refine Ret.R fun R hR=>?_
 apply mF
 unfold fC
 have hlt:=lt_of_heap h
 obtain⟨b,cap,rest,rfl,rfl,hb,hl,hcap,hgp⟩:=UL hg rfl (by decide)
 have hblt:=lt_of_heap hb
 have hbm:=ho b rfl
 have e1:((n+1:Nat):Int) - 1=((n:Nat):Int):=by omega
 repeat' first|refine .x ?_|refine .y ?_|refine .z ?_|fail
 rw[e1]
 refine .s ?_
 refine LdN.s (l':=uT x) ?_ (l:=l++uT x++rest) (t:=243) (by exact lookA) (by rw[List.length_append,List.length_append];simp only[uT,List.length_cons,List.length_nil];omega) ?_
 rotate_left
 ·rw[List.append_assoc,Nat.zero_add,List.drop_left' hl];rfl
 unfold uT
 repeat' first|refine .x ?_|refine .y ?_|refine .z ?_|fail
 rw[e1]
 refine Kv (by omega) ?_
 repeat' first|refine .x ?_|refine .y ?_|refine .z ?_|fail
 refine(fun(Q:∀w9,Kp [(mb,mb+1)] w w9∧w9.heap[mb]?=some (cl [c0,c1,c2,c3,c4,c5,vb,.slice (some ⟨b,0,none⟩) n cap] az)→R (.returned (.agg #[.int .i64 x.1,i64 (x.2:Nat)])) w9)=>Q _ ⟨by exact kpA,by exact lookA⟩) ?_
 rintro w3 ⟨k3,c3'⟩
 exact hR _ _ ⟨rfl,_,c3',hgp.kp k3 (fun b' hb'=>⟨by have:=ho b' hb';omega,trivial⟩),k3⟩
theorem MR.mk'{M mb:Nat}{cp iv:Value}{lim:Lim}{G G':Nat→Prop}{w w':World}{back back':List Nat}{loops loops':List (Int×Nat)}{vb vl:Value}{ob ol:Option Nat}(h:MR M mb cp iv lim G w back loops)(hs:w.heap.size≤w'.heap.size)
  (h1:w'.heap[mb]?=some (cl (Am cp iv lim back'.length vb vl) az)) (h2:Gw w' 3 1 vb back'.length (lI back') ob) (h3:Gw w' 243 2 vl loops'.length (oO loops') ol)
  (h4:∀b,ob=some b→b≠mb∧ol≠some b∧G' b) (h5:∀b,ol=some b→b≠mb∧G' b) (hG:∀b,G' b→G b∨w.heap.size≤b∧b<w'.heap.size) (hg:G' mb) (hbl:back'.length≤1000000) (hll:loops'.length≤1000000) (hlv:∀x∈loops',x.1≤4294967295):MR M mb cp iv lim G' w' back' loops':=
 {hM:=h.hM,c:=⟨vb,vl,ob,ol,h1,h2,h3,h4,h5⟩,gm:=hg,bl:=hbl,ll:=hll,lv:=hlv
  gM:=fun b hb=>(hG b hb).elim (h.gM b) (fun e=>Nat.le_trans (by have:=h.hM;have:=h.gl _ h.gm;omega) e.1)
  gl:=fun b hb=>(hG b hb).elim (fun e=>Nat.lt_of_lt_of_le (h.gl b e) hs) (fun e=>e.2) }
end Go.W.T

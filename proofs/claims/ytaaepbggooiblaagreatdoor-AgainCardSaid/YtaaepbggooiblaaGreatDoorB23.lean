/- Texts of mine, one behind the other; nothing is assumed. -/
import Derived.Test.YtaaepbggooiblaaGreatDoorB22
import Derived.Test.YtaaepbggooiblaaGreatDoorB04
import Derived.Test.YtaaepbggooiblaaGreatDoorB06
set_option linter.unusedSimpArgs false
set_option linter.unusedVariables false
set_option maxRecDepth 4000
namespace Go.W.T
open Go Go.W Go.M Go.Proofs
def CodeIn(n:Nat)(w:World)(c:CS)(v:Value):Prop:=∃B H ρ T,n≤B∧v=pt (B+3) 0∧CR B H ρ T w c
theorem wf_at{ds:List Def}:∀{c:CS} (k:Nat),jr c ds=true→jr (aF c (ds.take k)) (ds.drop k)=true:=by
 induction ds with
 |nil=>intro c k h;simp[aF,jr]
 |cons d r ih=>
  intro c k h
  cases k with
  |zero=>exact h
  |succ k=>
   rw[jr,Bool.and_eq_true]at h
   exact ih k h.2
theorem jM.at{H:Hp}:∀{ds:List Def} {l:List Value} (k:Nat) (hk:k<ds.length),jM H ds l→∃v,l[0+k*1]?=some v∧iw H ds[k] v
 |d::ds,v::r,0,_,h=>⟨v,rfl,h.1⟩
 |d::ds,v::r,k+1,hk,h=>by
  obtain⟨v',h1,h2⟩:=jM.at k (by simpa using hk) h.2
  exact⟨v',by simpa using h1,h2⟩
 |[],_,_,hk,_=>absurd hk (by simp)
 |_::_,[],_,_,h=>h.elim
theorem jM.len{H:Hp}:∀{ds:List Def} {l:List Value},jM H ds l→l.length=ds.length
 |[],[],_=>rfl
 |_::_,_::_,h=>by simp[jM.len h.2]
 |[],_::_,h=>h.elim
 |_::_,[],h=>h.elim
theorem born_inj{l:List MapEntry}(h:(l.map (·.born)).Nodup){a b:MapEntry}(ha:a∈l)(hb:b∈l)(e:a.born=b.born):a=b:=by
 have h1:=find_born h ha
 have h2:=find_born h hb
 rw[e]at h1
 rw[h1]at h2
 exact Option.some.inj h2
theorem Dz{l:List MapEntry}(h:(l.map (·.born)).Nodup):l.Nodup:=by
 unfold List.Nodup at h ⊢
 rw[List.pairwise_map]at h
 exact h.imp fun hab e=>hab (by rw[e])
theorem UH{d l:List MapEntry}(hd:(d.map (·.born)).Nodup)(hl:(l.map (·.born)).Nodup)(hs:∀e∈d,e∈l)(ha:∀e∈l,∃x∈d,x.born=e.born):d.Perm l:=by
 rw[List.perm_ext_iff_of_nodup (Dz hd) (Dz hl)]
 intro a
 refine⟨hs a,fun h=>?_⟩
 obtain⟨x,hx,hb⟩:=ha a h
 rw[← born_inj hl (hs x hx) h hb]
 exact hx
set_option maxHeartbeats 2000000 in
theorem Uu{n0:Nat}{w:World}{ds:List Def}{v:Value}(hg:Gl w)(hd:Ez n0 w ds v)(hf:fine ds=true):
  Calls P BD #[v] w (Post w (compile ds) [] fun c v' w'=>Gl w'∧∃names:List By,names.Perm (c.start.map (·.1))∧CodeIn w.heap.size w' (kU c names) v'):=by
 refine Post.R fun R M hM hok hno=>?_
 apply JP
 unfold Ai
 obtain⟨H,l,o,hsub,hge,hds,hgw,ho⟩:=hd
 have hdom:∀b x,H b=some x→b<w.heap.size:=fun b x hx=>lt_of_heap (hsub b x.1 x.2 hx)
 obtain⟨va,vc,rfl⟩:=hgw.len
 have hN0:=hg.size
 -- what is asked of the definitions
 have hfine:jr CS.empty ds=true∧(aF CS.empty ds).L.length+2*(aF CS.empty ds).start.length<1000000∧(∀x∈(aF CS.empty ds).calls,x.1<(aF CS.empty ds).L.length)∧(∀x∈(aF CS.empty ds).defs,jE x.2=true) ∧
   (∀d∈ds,(endless (aF CS.empty ds).defs d).isSome=true)∧ds.length<1000000:=by
  unfold fine at hf
  simp only[Bool.and_eq_true,decide_eq_true_eq,List.all_eq_true]at hf
  obtain⟨⟨⟨⟨⟨f1,f2⟩,f3⟩,f4⟩,f5⟩,f6⟩:=hf
  refine⟨f1,f2,f3,f4,?_,f6⟩
  unfold Sr at f5
  rwa [List.all_eq_true]at f5
 obtain⟨f1,f2,f3,f4,f5,f6⟩:=hfine
 rw[compile]at hM
 obtain⟨cF,hcF⟩:∃X,X=aF CS.empty ds:=⟨_,rfl⟩
 rw[← hcF]at f2 f3 f4 f5 hM
 repeat' first|refine .x ?_|refine .y ?_|refine .z ?_|fail
 have hsl:∀w',Kd 6 w.heap.size (fun _=>(0,0)) w w'→∀b,b<w.heap.size→w'.heap[b]?=w.heap[b]?:=fun w' k b hb=>k.same b hb (Or.inl hb)
 refine(fun(Q:∀w9,Kp [] w w9∧w9.heap[w.heap.size]?=some (.map #[] 0)∧w9.heap[w.heap.size+1]?=some (.map #[] 0)∧w9.heap[w.heap.size+2]?=some (.map #[] 0) ∧
  w9.heap[w.heap.size+3]?=some (cl [.slice none 0 0,.map (some w.heap.size),.map (some (w.heap.size+1)),.map (some (w.heap.size+1+1))] lX)∧w9.heap[w.heap.size+4]?=some (.map #[] 0)∧w9.heap[w.heap.size+5]?=some (.map #[] 0) ∧
  w9.heap[w.heap.size+6]?=some (cl [pt (w.heap.size+1+1+1) 0,.map (some (w.heap.size+1+1+1+1)),.map (some (w.heap.size+1+1+1+1+1)),.slice none 0 0] fZ)∧w9.heap.size=w.heap.size+7→Lp [.int .i64 0] w9 _)=>Q _ ⟨by exact kpA,by exact lookA,by exact lookA,by exact lookA,by exact lookA,by exact lookA,by exact lookA,by exact lookA,by simp only[size_alloc]⟩) ?_
 rintro w1 ⟨k1,p0,p1,p2,p3,p4,p5,p6,p7⟩
 have h1:CR w.heap.size H (fun _=>(0,0)) [] w1 CS.empty:=
  {gl:=hg.kp k1 (fun _ _=>trivial),hB:=hN0,sub:=hsub.kp k1 (fun _ _ _=>trivial),dom:=hdom,lt:=by omega,free:=fun _ _=>rfl,low:=fun _ _=>rfl,
   L:=⟨.slice none 0 0,[],none,p3,Gw.nil _ _ _,trivial,by simp⟩,calls:=⟨.slice none 0 0,none,p6,Gw.nil _ _ _,by simp⟩,nJ:=rfl,tabs:=fun i b l hb _=>by simp at hb,
   types:=⟨#[],0,p0,MK.empty⟩,procs:=⟨#[],0,p1,MK.empty,by simp[CS.empty]⟩,dL:=⟨#[],0,[],p2,MK.empty,trivial⟩,defs:=⟨#[],0,[],p4,MK.empty,trivial⟩,start:=⟨#[],0,p5,MK.empty⟩,vS:=Nat.le_refl _ }
 obtain⟨B,hB⟩:∃B,B=w.heap.size:=⟨_,rfl⟩
 have hB3:w.heap.size+1+1+1=B+3:=by omega
 have hB6:w.heap.size+1+1+1+1+1+1=B+6:=by omega
 rw[hB6]
 rw[← hB]at h1
 have kd1:Kd 6 B (fun _=>(0,0)) w w1:=Kp.kc0 k1
 have hsame:∀w' (ρ:aX),Kd 6 B (fun _=>(0,0)) w w'→∀b,b<w.heap.size→w'.heap[b]?=w.heap[b]?:=fun w' _ k b hb=>k.same b hb (Or.inl (by omega))
 have WM:∀w' (k:Nat) (hk:k<ds.length),Kd 6 B (fun _=>(0,0)) w w'→∃sb v rest,va=some ⟨sb,0,none⟩∧w'.heap[sb]?=some (cl (l++rest) uA)∧(l++rest)[0+k*1]?=some v∧iw H ds[k] v:=by
  intro w' k hk kd
  obtain⟨sb,rest,cap,e1,e2,e3⟩:=Gw.some hgw (by omega)
  cases e2
  obtain⟨v,q1,q2⟩:=hds.at k hk
  refine⟨sb,v,rest,rfl,(kd.same sb (lt_of_heap e3) (Or.inl (by rw[hB];exact lt_of_heap e3))).trans e3,?_,q2⟩
  rw[List.getElem?_append_left (by rw[hds.len];omega)];exact q1
 refine Lp.nat (n:=ds.length) (fun n vals w'=>∃(k:Nat) (ρ:aX) (T:List Nat),vals=[i64 (k:Nat)]∧k+n=ds.length∧Kd 6 B (fun _=>(0,0)) w w'∧CR B H ρ T w' (aF CS.empty (ds.take k))) ?_ ?_
 ·exact⟨0,_,_,rfl,by omega,kd1,h1⟩
 rintro n _ wL jk C ⟨k,ρ,T,rfl,hkn,kL,hL⟩ hC
 have hwf:=wf_at k f1
 have hlL:=hL.lt
 refine .s ?_
 refine .s ?_
 refine .split (fun hc=>?_) (fun hc=>?_)
 ·have hlt:k<ds.length:=by have:=of_decide_eq_true hc;omega
  obtain⟨sb,dv,rest,rfl,hsb,hsx,hdv⟩:=WM wL k hlt kL
  rw[List.drop_eq_getElem_cons hlt,jr,Bool.and_eq_true,Bool.and_eq_true,Bool.and_eq_true]at hwf
  obtain⟨⟨⟨g1,g2⟩,g3⟩,g4⟩:=hwf
  have ek:ds.take k++[ds[k]]=ds.take (k+1):=by rw[List.take_add_one,List.getElem?_eq_getElem hlt];rfl
  have eC:aF CS.empty (ds.take (k+1))=nN (aF CS.empty (ds.take k)) ds[k]:=by rw[← ek,gU]
  have hmono:(aF CS.empty (ds.take (k+1))).L.length≤cF.L.length:=by
   have:ds=ds.take (k+1)++ds.drop (k+1):=(List.take_append_drop _ _).symm
   rw[hcF]
   conv=>rhs;rw[this,MQ]
   exact KT _ _
  obtain⟨cK,hcK⟩:∃X,X=aF CS.empty (ds.take k):=⟨_,rfl⟩
  rw[← hcK]at hL g1 g3 eC
  rw[eC]at hmono
  refine Jn.by (fun vals w'=>∃ρ' T',Kd 6 B (fun _=>(0,0)) w w'∧CR B H ρ' T' w' (nN cK ds[k])) (fun J hJ=>?_) ?_
  ·refine .s ?_
   refine Ld.s ?_ hsb hsx
   refine CX hdv hL.sub ?_
   refine Cl.ret (II _ _) ?_
   rintro _ w2 ⟨rfl,k2⟩
   have h2:=hL.ext k2
   obtain⟨v2,o2,b1,b2,b3⟩:=h2.calls
   obtain⟨es,ck,m,d1,d2,d3⟩:=h2.defs
   have hl2:=h2.lt
   repeat' first|refine .x ?_|refine .y ?_|refine .z ?_|fail
   refine Mu.str d2 (by exact lookA) fun es' ck' hm'=>?_
   generalize ds[k]=d at *
   have h3:=h2.Yx (l:=bg cK.defs d.name d) (w':=aj w2 (B+4) (.map es' ck')) (by exact kpA) ⟨es',ck',_,aA rfl (by omega),hm',yj.put hdv d3⟩
   have k3:Kd 6 B (fun _=>(0,0)) w (aj w2 (B+4) (.map es' ck')):=(kL.kp k2).kpx (X:=[(B+4,B+5)]) (by exact kpA) (fun i hi hx=>⟨by omega,trivial⟩)
   generalize aj w2 (B+4) (.map es' ck')=w3 at *
   have fin:∀cX w4,CG6 B H ρ T w3 cX w4→∃ρ' T',Kd 6 B (fun _=>(0,0)) w w4∧CR B H ρ' T' w4 cX:=by
    rintro cX w4 ⟨ρ4,D4,q1,q2,q3⟩
    refine⟨ρ4,T++D4,?_,q3⟩
    refine⟨q1.os.trans k3.os,q1.tape.trans k3.tape,q1.output.trans k3.output,Nat.le_trans k3.size q1.size,fun i hi ho=>?_⟩
    have hiB:i<B:=by omega
    exact(q1.same i (Nat.lt_of_lt_of_le hi k3.size) (Or.inl hiB)).trans (k3.same i hi ho)
   have other:(∀n vs,d.k≠.prog n vs)→(∀o nm ar els,d.k=.union o nm ar els→lM { cK with defs:=bg cK.defs d.name d } o=true)→Cl P 49 #[pt (B+6) 0,dv] w3 (pE R) fun x39 w40=>J [] w40:=by
    intro hnp hun
    have eD:nN cK d=gB d { cK with defs:=bg cK.defs d.name d }:=by
     obtain⟨nm,at_,dk⟩:=d
     cases dk with
     |prog n vs=>exact absurd rfl (hnp n vs)
     |_=>rfl
    refine Cl.ret (Vq h3 hdv hnp (by simpa using g3) hun g2 (by rw[← eD];omega) (by have:=MR d cK;show cK.L.length<_;omega)) ?_
    intro v4 w4 hg4
    rw[← eD]at hg4
    exact hJ _ _ (fin _ _ hg4)
   obtain⟨nm,at_,dk⟩:=d
   cases dk with
   |prog n vs=>
    obtain⟨gb,u,l2,rfl,q1,q2,q3⟩:=hdv
    have g2':vs.length<1000000∧inU n∧∀v∈vs,v.procs.length<1000000∧inU v.n∧∀q∈v.procs,inU q.n:=by
     have:(decide (vs.length<1000000)&&inRange n&&vs.all fun v=>decide (v.procs.length<1000000)&&inRange v.n&&v.procs.all fun q=>inRange q.n)=true:=g2
     simp only[Bool.and_eq_true,List.all_eq_true,decide_eq_true_eq,inRange]at this
     exact⟨this.1.1,this.1.2,fun v hv=>⟨(this.2 v hv).1.1,(this.2 v hv).1.2,(this.2 v hv).2⟩⟩
    repeat' first|refine .x ?_|refine .y ?_|refine .z ?_|fail
    refine Cl.ret (Q7 h3 q1 q2 q3 g2'.2.1 g2'.1 g2'.2.2 (by
     have:(cK.dL.all fun x=>decide (x.2.length<1000000))=true:=g1
     rw[List.all_eq_true]at this
     exact fun x hx=>of_decide_eq_true (this x hx)) (by
     have:(gZ n { cK with defs:=bg cK.defs nm ⟨nm,at_,.prog n vs⟩ } vs).L.length≤cF.L.length:=hmono
     exact Nat.le_trans this (by omega))) ?_
    intro v4 w4 hg4
    exact hJ _ _ (fin _ _ hg4)
   |const n=>
    obtain⟨b,rfl,q1⟩:=hdv
    repeat' first|refine .x ?_|refine .y ?_|refine .z ?_|fail
    exact other (fun _ _ e=>by cases e) (fun _ _ _ _ e=>by cases e)
   |alias t=>
    obtain⟨b,u,rfl,q1⟩:=hdv
    repeat' first|refine .x ?_|refine .y ?_|refine .z ?_|fail
    exact other (fun _ _ e=>by cases e) (fun _ _ _ _ e=>by cases e)
   |enum ns is=>
    obtain⟨b,u,x,rfl,q1⟩:=hdv
    repeat' first|refine .x ?_|refine .y ?_|refine .z ?_|fail
    exact other (fun _ _ e=>by cases e) (fun _ _ _ _ e=>by cases e)
   |struct dd=>
    obtain⟨b,u,l2,rfl,q1⟩:=hdv
    repeat' first|refine .x ?_|refine .y ?_|refine .z ?_|fail
    exact other (fun _ _ e=>by cases e) (fun _ _ _ _ e=>by cases e)
   |union o2 nm2 ar els=>
    obtain⟨b,ov,u,l2,e,rfl,q1⟩:=hdv
    repeat' first|refine .x ?_|refine .y ?_|refine .z ?_|fail
    exact other (fun _ _ e=>by cases e) (fun _ _ _ _ e=>by cases e;exact g1)
  ·rintro _ w3 jk3 ⟨ρ',T',k3,h3⟩
   repeat' first|refine .x ?_|refine .y ?_|refine .z ?_|fail
   exact hC (n - 1) _ _ (by omega) ⟨k+1,ρ',T',rfl,by omega,k3,by rw[eC];exact h3⟩
 ·have hge':k=ds.length:=by have:=of_decide_eq_false hc;omega
  subst hge'
  rw[List.take_length,← hcF]at hL
  have hz0:=kL.size
  have Kpw:∀{w':World},Kd 6 B (fun _=>(0,0)) w w'→Kp [] w w':=fun k=>⟨k.os,k.tape,k.output,k.size,fun b hb _=>hsame _ ρ k b hb⟩
  have glk:∀{w':World},Kd 6 B (fun _=>(0,0)) w w'→Gl w':=fun k=>hg.kp (Kpw k) (fun _ _=>trivial)
  have tr:∀{w1 w2:World} {ρ:aX},Kd 6 B (fun _=>(0,0)) w w1→Kd 6 B ρ w1 w2→Kd 6 B (fun _=>(0,0)) w w2:=fun k3 q1=>
   ⟨q1.os.trans k3.os,q1.tape.trans k3.tape,q1.output.trans k3.output,Nat.le_trans k3.size q1.size,fun i hi ho=>(q1.same i (Nat.lt_of_lt_of_le hi k3.size) (Or.inl (by omega))).trans (k3.same i hi ho)⟩
  refine Cl.by (Uo hL f3 (by omega)) ?_ ?_ ?_
  rotate_left
  ·rintro ch w2 ⟨k2,h2⟩
   cases hr:fF cF.start cF.L cF.calls with
   |ok L'=>rw[hr]at h2;obtain⟨_,hv,_⟩:=h2;cases hv
   |no e a=>rw[hr]at h2 hM;obtain⟨_,hv,hfl⟩:=h2;cases hv;exact hno _ _ _ _ hM (Kpw (tr kL k2)) hfl
  ·rintro w2 ⟨k2,h2⟩
   cases hr:fF cF.start cF.L cF.calls with
   |ok L'=>rw[hr]at h2;obtain⟨_,hv,_⟩:=h2;cases hv
   |no e a=>rw[hr]at h2;obtain⟨_,hv,_⟩:=h2;cases hv
  rintro v2 w2 ⟨k2,h2⟩
  cases hr:fF cF.start cF.L cF.calls with
  |no e a=>rw[hr]at h2;obtain⟨_,hv,_⟩:=h2;cases hv
  |ok L'=>
  rw[hr]at h2 hM
  obtain⟨_,hv,hlen',ρ2,D2,_,_,hC2⟩:=h2
  cases hv
  simp only[Res.ak]at hM
  have kd2:=tr kL k2
  obtain⟨c2,hc2⟩:∃X:CS,X={ cF with L:=L' }:=⟨_,rfl⟩
  rw[← hc2]at hC2 hM
  have e21:c2.start=cF.start:=by rw[hc2]
  have e22:c2.defs=cF.defs:=by rw[hc2]
  have e23:c2.L.length=cF.L.length:=by rw[hc2];exact hlen'
  have e24:cZ cF ds=cZ c2 ds:=by
   have:∀l:List Def,cZ cF l=cZ c2 l:=by
    intro l
    induction l with
    |nil=>rfl
    |cons d r ih=>rw[cZ,cZ,ih,e21,e22]
   exact this ds
  rw[e24]at hM
  repeat' first|refine .x ?_|refine .y ?_|refine .z ?_|fail
  refine Lp.nat (n:=ds.length) (fun n vals w'=>∃(k:Nat),vals=[i64 (k:Nat)]∧k+n=ds.length∧Kd 6 B (fun _=>(0,0)) w w'∧CR B H ρ2 (T++D2) w' c2∧M=(cZ c2 (ds.drop k)).andThen fun _=>.ok c2) ?_ ?_
  ·exact⟨0,rfl,by omega,kd2,hC2,hM⟩
  rintro n _ w3 jk3 C3 ⟨k,rfl,hkn3,kd3,h3,hM3⟩ hC3
  have hl3:=h3.lt
  refine .s ?_
  refine .s ?_
  refine .split (fun hc3=>?_) (fun hc3=>?_)
  ·have hlt:k<ds.length:=by have:=of_decide_eq_true hc3;omega
   obtain⟨sb,dv,rest,rfl,hsb,hsx,hdv⟩:=WM w3 k hlt kd3
   rw[List.drop_eq_getElem_cons hlt,cZ]at hM3
   have hfu:=f5 ds[k] (List.getElem_mem hlt)
   rw[← e22]at hfu
   obtain⟨bb,hbb⟩:=Option.isSome_iff_exists.mp hfu
   have hwfk:=wf_at k f1
   rw[List.drop_eq_getElem_cons hlt,jr,Bool.and_eq_true,Bool.and_eq_true,Bool.and_eq_true]at hwfk
   have hsmk:=hwfk.1.1.2
   rw[hbb]at hM3
   generalize ds[k]=d at *
   refine Jn.by (fun vals w'=>((c2.start.lookup d.name).isSome&&bb)=false∧Kp [] w3 w') (fun J hJ=>?_) ?_
   ·refine .s ?_
    refine Ld.s ?_ hsb hsx
    refine CX hdv h3.sub ?_
    refine Cl.ret (II _ _) ?_
    rintro _ w4 ⟨rfl,k4⟩
    have h4:=h3.ext k4
    obtain⟨v4,o4,b1,b2,b3⟩:=h4.calls
    obtain⟨es,ck,g1,g2⟩:=h4.start
    have hl4:=h4.lt
    repeat' first|refine .x ?_|refine .y ?_|refine .z ?_|fail
    refine Lk.str g2 (by exact lookA) ?_
    rw[vF (fun k:Nat=>i64 (k:Nat))]
    cases hlk:c2.start.lookup d.name with
    |none=>
     rw[hlk]at hJ
     refine .s ?_
     refine .s ?_
     have hfalse:(Option.map (fun k:Nat=>i64 (k:Nat)) (none:Option Nat)).isSome=false:=rfl
     rw[hfalse]
     repeat' first|refine .x ?_|refine .y ?_|refine .z ?_|fail
     exact hJ _ _ ⟨rfl,k4⟩
    |some t=>
     rw[hlk]at hJ hM3
     refine .s ?_
     refine .s ?_
     have htrue:(Option.map (fun k:Nat=>i64 (k:Nat)) (some t)).isSome=true:=rfl
     rw[htrue]
     repeat' first|refine .x ?_|refine .y ?_|refine .z ?_|fail
     refine Cl.ret (Us h4.sub (fun b z hz=>by have:=h4.dom b z hz;omega) (mb:=B+4) (by omega) h4.defs (by rw[e22];exact f4) hdv hsmk hbb) ?_
     rintro _ w5 ⟨rfl,k5⟩
     have k45:=k4.trans k5 (Z:=[]) (fun _ _ _=>⟨trivial,trivial⟩)
     cases bb with
     |true=>
      repeat' first|refine .x ?_|refine .y ?_|refine .z ?_|fail
      have hM4:M=.no 9 d.at_:=by rw[hM3];rfl
      exact Cl.ZL fun ch w' hf hk=>hno _ _ _ _ hM4 ((Kpw kd3).trans (k45.trans hk (Z:=[]) (fun _ _ _=>⟨trivial,trivial⟩)) (fun _ _ _=>⟨trivial,trivial⟩)) hf
     |false=>
      repeat' first|refine .x ?_|refine .y ?_|refine .z ?_|fail
      exact hJ _ _ ⟨rfl,k45⟩
   ·rintro _ w4 jk4 ⟨hb4,k4⟩
    have hb5:((c2.start.lookup d.name).isSome&&(some bb).getD true)=false:=hb4
    rw[hb5,if_neg (by decide)]at hM3
    repeat' first|refine .x ?_|refine .y ?_|refine .z ?_|fail
    exact hC3 (n - 1) _ _ (by omega) ⟨k+1,rfl,by omega,kd3.kp k4,h3.ext k4,hM3⟩
  ·have hge3:k=ds.length:=by have:=of_decide_eq_false hc3;omega
   subst hge3
   rw[List.drop_length,cZ]at hM3
   simp only[Res.ak]at hM3
   obtain⟨v4,o4,b1,b2,b3⟩:=h3.calls
   obtain⟨es,ck,g1,g2⟩:=h3.start
   repeat' first|refine .x ?_|refine .y ?_|refine .z ?_|fail
   refine Y3 g1 ?_
   have hkeys:∀e∈es.toList,∃s,e.key=κs s:=by
    intro e he
    have:(e.key,e.val)∈es.toList.map (fun e=>(e.key,e.val)):=List.mem_map.mpr ⟨e,he,rfl⟩
    rw[g2.1]at this
    obtain⟨x,_,hx⟩:=List.mem_map.mp this
    exact⟨x.1,(congrArg Prod.fst hx).symm⟩
   refine(fun(Q:∀w9,Kp [] w3 w9∧w9.heap[w3.heap.size]?=some (.mapIter (some (B+5)) ck #[] ck)→Lp [] w9 _)=>Q _ ⟨by exact kpA,by exact lookA⟩) ?_
   rintro w4 ⟨k4,it4⟩
   have zit:=lt_of_heap it4
   have fit:ρ2 w3.heap.size=(0,0):=h3.free _ (Nat.le_refl _)
   have e25:c2.start.length=cF.start.length:=by rw[e21]
   have hslen:es.size=c2.start.length:=by have:=MK.len g2;simpa using this
   refine Lp.nat (n:=es.size) (fun n vals w'=>∃(done:List MapEntry) (ρ':aX) (T':List Nat),vals=[]∧done.length+n=es.size∧(done.map (·.born)).Nodup∧(∀e∈done,e∈es.toList) ∧
    w'.heap[w3.heap.size]?=some (.mapIter (some (B+5)) ck (done.map (·.born)).toArray ck)∧w'.heap[B+5]?=some (.map es ck)∧ρ' w3.heap.size=(0,0)∧w3.heap.size<w'.heap.size∧Kd 6 B (fun _=>(0,0)) w w'∧CR B H ρ' T' w' (kU c2 (done.map fun e=>Qn e.key))) ?_ ?_
   ·exact⟨[],ρ2,_,rfl,by simp,by simp,by simp,it4,(k4.same _ (by omega) trivial).trans g1,fit,zit,kd3.kp k4,h3.ext k4⟩
   rintro n _ w5 jk5 C5 ⟨done,ρ',T',rfl,hdn,hnd,WL,it5,st5,fit5,zit5,kd5,h5⟩ hC5
   have hl5:=h5.lt
   refine g_next st5 it5 g2.2 ?_ ?_
   ·intro hall
    obtain⟨v6,o6,b6,b7,b8⟩:=h5.calls
    repeat' first|refine .x ?_|refine .y ?_|refine .z ?_|fail
    have hperm:done.Perm es.toList:=UH hnd g2.2.2.1 WL fun e he=>by
     have:=hall e he
     simpa using this
    refine hok _ _ _ hM3 (Kpw kd5) ⟨glk kd5,done.map (fun e=>Qn e.key),?_,B,H,ρ',T',by omega,by rw[hB],h5⟩
    have:=hperm.map (fun e=>Qn e.key)
    refine this.trans ?_
    have e1:es.toList.map (fun e=>Qn e.key)=c2.start.map (·.1):=by
     have:=congrArg (List.map fun x:Value×Value=>Qn x.1) g2.1
     rw[List.map_map,List.map_map,List.map_map]at this
     exact this
    rw[e1]
   ·intro e he hse wa hwa
    obtain⟨nm,hnm⟩:=hkeys e he
    have hnb:e.born ∉ done.map (·.born):=by
     intro hb
     rw[Bool.eq_false_iff]at hse
     apply hse
     simpa using hb
    have kwa:Kp [] w5 wa:=by
     rcases hwa with r|r<;>rw[r]
     ·exact Kp.refl _ _
     ·exact(Kp.refl _ _).drew
    have DJ:(done.map (·.born)).toArray.push e.born=((done++[e]).map (·.born)).toArray:=by simp
    rw[DJ]
    have hz5:=kwa.size
    have k6:Kp [(w3.heap.size,w3.heap.size+1)] w5 (aj wa w3.heap.size (.mapIter (some (B+5)) ck ((done++[e]).map (·.born)).toArray ck)):=Kp.Gu kwa.any (by simp only[Out,and_true,true_and];omega) _
    have it6:(aj wa w3.heap.size (.mapIter (some (B+5)) ck ((done++[e]).map (·.born)).toArray ck)).heap[w3.heap.size]?=some (.mapIter (some (B+5)) ck ((done++[e]).map (·.born)).toArray ck):=aA rfl (by omega)
    generalize aj wa w3.heap.size (.mapIter (some (B+5)) ck ((done++[e]).map (·.born)).toArray ck)=w6 at *
    have h6:=h5.tmp k6 (by omega) fit5
    have hl6:=h6.lt
    have st6:w6.heap[B+5]?=some (.map es ck):=(k6.same _ (by omega) ⟨by omega,trivial⟩).trans st5
    have kd6:Kd 6 B (fun _=>(0,0)) w w6:=kd5.kpx k6 (fun i hi hx=>⟨by omega,trivial⟩)
    have z6:=k6.size
    repeat' first|refine .x ?_|refine .y ?_|refine .z ?_|fail
    refine Y5 st6 (seen:=(done.map (·.born)).toArray) (by rw[it6,← DJ]) g2.2 he ?_
    rw[hnm]
    obtain⟨v7,o7,b7,b8,b9⟩:=h6.calls
    obtain⟨vL7,cells7,lo7,q1,q2,q3,q4⟩:=h6.L
    obtain⟨la7,lc7,rfl⟩:=q2.len
    obtain⟨tes,tck,t1,t2⟩:=h6.types
    repeat' first|refine .x ?_|refine .y ?_|refine .z ?_|fail
    refine Mu.str t2 (by exact lookA) fun es7 ck7 hm7=>?_
    rw[PV]at hm7
    obtain⟨cT,hcT⟩:∃X,X=kU c2 (done.map fun e=>Qn e.key):=⟨_,rfl⟩
    rw[← hcT]at h6 q2 hm7
    have h7:=(h6.ext (w':=w6.drew) (by exact kpA)).V8 (l:=bg cT.types nm cT.L.length) (w':=aj w6.drew B (.map es7 ck7)) (by exact kpA) ⟨es7,ck7,aA rfl (by rw[size_drew];omega),hm7⟩
    have k7:Kp [(B,B+1)] w6 (aj w6.drew B (.map es7 ck7)):=by exact kpA
    generalize aj w6.drew B (.map es7 ck7)=w7 at *
    have st7:w7.heap[B+5]?=some (.map es ck):=(k7.same _ (by omega) ⟨by omega,trivial⟩).trans st6
    have cm7:w7.heap[B+6]?=_:=(k7.same _ (by omega) ⟨by omega,trivial⟩).trans b7
    have z7:=k7.size
    have kd7:Kd 6 B (fun _=>(0,0)) w w7:=kd6.kpx k7 (fun i hi hx=>⟨by omega,trivial⟩)
    repeat' first|refine .x ?_|refine .y ?_|refine .z ?_|fail
    refine Lk.Yb g2 st7 ?_
    rw[vF (fun k:Nat=>i64 (k:Nat))]
    have epos:((c2.start.lookup nm).map fun k:Nat=>i64 (k:Nat)).getD (.int .i64 0)=i64 (((c2.start.lookup nm).getD 0:Nat)):=by cases c2.start.lookup nm<;>rfl
    rw[epos]
    have hTl:cT.L.length=c2.L.length+2*done.length:=by rw[hcT,Jh,List.length_map]
    have hnd2:((done++[e]).map (·.born)).Nodup:=by
     rw[List.map_append,List.nodup_append]
     exact⟨hnd,by simp,by
      intro a ha b hb
      simp at hb
      subst hb
      intro e2;subst e2;exact hnb ha⟩
    have hdl:done.length<es.size:=by
     have h1:((done++[e]).map (·.born)) ⊆ es.toList.map (·.born):=by
      intro x hx
      obtain⟨y,hy,rfl⟩:=List.mem_map.mp hx
      rcases List.mem_append.mp hy with h|h
      ·exact List.mem_map.mpr ⟨y,WL y h,rfl⟩
      ·simp at h;subst h;exact List.mem_map.mpr ⟨_,he,rfl⟩
     have h2:=hnd2.length_le_of_subset h1
     have h3:done.length+1≤es.size:=by simpa using h2
     exact h3
    repeat' first|refine .x ?_|refine .y ?_|refine .z ?_|fail
    refine Cl.ret (Q5 (i:={ ins 6 with to:=((c2.start.lookup nm).getD 0:Nat) }) (f:=.map none) (g:=.map none) h7 rfl rfl (by show cT.L.length<_;omega)) ?_
    rintro v8 w8 ⟨rfl,⟨ρ8,D8,k8,r8,h8⟩,s8⟩
    repeat' first|refine .x ?_|refine .y ?_|refine .z ?_|fail
    refine Cl.ret (Q5 (i:=ins 16) (f:=.map none) (g:=.map none) h8 rfl rfl (by rw[bQ];show cT.L.length+1<_;omega)) ?_
    rintro v9 w9 ⟨rfl,⟨ρ9,D9,k9,r9,h9⟩,s9⟩
    have z8:=k8.size
    have z9:=k9.size
    have it7:w7.heap[w3.heap.size]?=_:=(k7.same _ (by omega) ⟨by omega,trivial⟩).trans it6
    have fit8:=(r8 w3.heap.size (by omega)).trans fit5
    refine hC5 (n - 1) _ _ (by omega) ⟨done++[e],ρ9,T'++D8++D9,rfl,by rw[List.length_append];simp only[List.length_cons,List.length_nil];omega,?_,?_,(k9.nV (by omega) (by omega) fit8).trans ((k8.nV (by omega) (by omega) fit5).trans it7),
     (s9 _ (by omega) (by omega)).trans ((s8 _ (by omega) (by omega)).trans st7),(r9 _ (by omega)).trans fit8,by omega,tr (tr kd7 (k8.up (by omega))) (k9.up (by omega)),?_⟩
    ·exact hnd2
    ·intro x hx
     rcases List.mem_append.mp hx with h|h
     ·exact WL x h
     ·simp at h;subst h;exact he
    ·have:kU c2 ((done++[e]).map fun e=>Qn e.key)=(({ cT with types:=bg cT.types nm cT.L.length }.put { ins 6 with to:=((c2.start.lookup nm).getD 0:Nat) }).put (ins 16)):=by
      rw[List.map_append,List.map_cons,List.map_nil,Hl,← hcT,hnm,WA,kU,kU]
      have:cT.start=c2.start:=by rw[hcT,EK]
      rw[this]
      simp[CS.put]
     rw[this];exact h9
end Go.W.T
namespace Go.W.T
open Go Go.W Go.M Go.Proofs
end Go.W.T
namespace Go.W.T
open Go Go.W Go.M Go.Proofs
end Go.W.T
namespace Go.W.T
open Go Go.W Go.M Go.Proofs
end Go.W.T
namespace Go.W.T
open Go Go.W Go.M Go.Proofs
end Go.W.T
namespace Go.W.T
open Go Go.W Go.M Go.Proofs
end Go.W.T
namespace Go.W.T
open Go Go.W Go.M Go.Proofs
theorem _root_.Go.W.Kp.tt{a b c:World}(h:Kp [] a b)(k:Kp [] b c):Kp [] a c:=h.trans k (fun _ _ _=>⟨trivial,trivial⟩)
end Go.W.T

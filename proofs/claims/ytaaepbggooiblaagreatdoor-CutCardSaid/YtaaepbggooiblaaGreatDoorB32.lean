/- Texts of mine, one behind the other; nothing is assumed. -/
import Derived.Test.YtaaepbggooiblaaGreatDoorB31
set_option linter.unusedSimpArgs false
set_option linter.unusedVariables false
set_option maxRecDepth 100000
namespace Go.W.T
open Go Go.W Go.M Go.Proofs
def Yp(most:Nat)(s:Srv):Prop:=s.closed=true∨(s.closed=false∧s.head.length<4∧s.bz.length≤most)∨(s.closed=false∧s.head.length=4∧0<s.left∧s.bz.length+s.left≤most)
def QK(w:World)(cp:Value)(lim:Lim)(most nb sb:Nat)(s:Srv)(oh orr:Option Nat):Prop:=∃hv rv,w.heap[sb]?=some (cl (aZ cp lim most nb hv s.left s.last rv s.closed) 184) ∧
 Gw w 5 1 hv s.head.length (aG s.head) oh∧Gw w 5 1 rv s.bz.length (aG s.bz) orr∧(∀b,oh=some b→b≠sb∧orr≠some b)∧(∀b,orr=some b→b≠sb)
def zn(sb:Nat)(oh orr:Option Nat)(i:Nat):Prop:=i=sb∨oh=some i∨orr=some i
theorem QK.kf{w w':World}{cp:Value}{lim:Lim}{most nb sb:Nat}{s:Srv}{oh orr:Option Nat}{F:Nat→Prop}(h:QK w cp lim most nb sb s oh orr)(k:Kf F w w')(hF:∀i,zn sb oh orr i→¬ F i):QK w' cp lim most nb sb s oh orr:=by
 obtain⟨hv,rv,h1,h2,h3,h4,h5⟩:=h
 have mv:∀{v:Value} {n:Nat} {l:List Value} {o:Option Nat},Gw w 5 1 v n l o→(∀b,o=some b→¬ F b)→Gw w' 5 1 v n l o:=fun {v n l o} hg ho=>by
  obtain⟨g1,g2⟩:=hg
  refine⟨g1,?_⟩
  cases o with
  |none=>exact g2
  |some b=>obtain⟨r,c,e1,e2,e3⟩:=g2;exact⟨r,c,e1,(k.same b (lt_of_heap e2) (ho b rfl)).trans e2,e3⟩
 exact⟨hv,rv,(k.same _ (lt_of_heap h1) (hF _ (Or.inl rfl))).trans h1,mv h2 fun b hb=>hF b (Or.inr (Or.inl hb)),mv h3 fun b hb=>hF b (Or.inr (Or.inr hb)),h4,h5⟩
theorem OD{call:Np→By→By}{b:By}(h:∀k x,(call k x).length≤100100):(kQ call b).length≤100120:=by
 unfold kQ
 split
 ·simp
 split
 ·simp
 split
 ·rw[dw];simp
 split
 ·simp
 split
 ·simp
 split
 ·simp
 ·rename_i r _
  have:=h (w32 (b.drop 12),w32 (b.drop 16),w32 (b.drop 20)) r
  rw[List.length_append,dw]
  simp only[List.length_cons,List.length_nil]
  omega
theorem and31(h:Nat)(hh:h<4294967296):IntKind.i64.wrap (IntKind.u32.wrap (((BitVec.ofInt IntKind.u32.bits (h:Int) &&& BitVec.ofInt IntKind.u32.bits 2147483647).toNat:Nat):Int))=((h % 2147483648:Nat):Int):=by
 have e:IntKind.u32.bits=32:=rfl
 have e2:BitVec.ofInt 32 (2147483647:Int)=BitVec.ofNat 32 2147483647:=rfl
 rw[e,BitVec.ofInt_natCast,e2,BitVec.toNat_and,BitVec.toNat_ofNat,BitVec.toNat_ofNat,Nat.mod_eq_of_lt (by omega:h<2 ^ 32),Nat.mod_eq_of_lt (by omega:2147483647<2 ^ 32)]
 have h1:h &&& 2147483647=h % 2 ^ 31:=Nat.and_two_pow_sub_one_eq_mod h 31
 have h2:(2:Nat) ^ 31=2147483648:=by decide
 rw[h1,h2,IntKind.wrap_u32,IntKind.wrap_i64]
 have:h % 2147483648<2147483648:=Nat.mod_lt _ (by decide)
 omega
theorem shr31(h:Nat):(((h:Int).fdiv (2 ^ min (Int.toNat 31) IntKind.u32.bits))==1)=(h / 2147483648==1):=by
 have e:(2:Int) ^ min (Int.toNat 31) IntKind.u32.bits=((2147483648:Nat):Int):=by decide
 rw[e,Int.fdiv_eq_ediv_of_nonneg _ (by omega),← Int.natCast_ediv,Bool.eq_iff_iff,beq_iff_eq,beq_iff_eq]
 omega
theorem TK{s:By}(h:s.length≤100120):(TL s).length≤100200:=by
 unfold TL
 split
 ·simp
 ·rw[List.length_append,dw];simp only[List.length_cons,List.length_nil];omega
section
variable {w0 w:World} {ds:List Def} {c d:CS} {cp:Value} {lim:Lim} {nb:Nat} {n:Int}
theorem aa0{sb most:Nat}(hm:most≤1000000){st:Srv}{oh orr:Option Nat}(h:QK w cp lim most nb sb st oh orr)(hcw:∀w1,Kf (zn sb oh orr) w w1→We w1 ds c d cp lim nb n)(hok:Yp most st)(chunk:By)(hl:chunk.length≤39000):
  Calls P uX #[pt sb 0,κs chunk] w (Ret fun v w'=>v=κs (aQ (kQ (fG d (lh [] ds) lim n)) most st chunk).2∧∃oh' or',QK w' cp lim most nb sb (aQ (kQ (fG d (lh [] ds) lim n)) most st chunk).1 oh' or' ∧
   Yp most (aQ (kQ (fG d (lh [] ds) lim n)) most st chunk).1∧Kf (zn sb oh orr) w w'∧∀i,zn sb oh' or' i→zn sb oh orr i∨w.heap.size≤i):=by
 refine Ret.R fun R hR=>?_
 apply EI
 unfold uI
 have hc:=hcw w (Kf.refl _ _)
 have hrep:∀x,(kQ (fG d (lh [] ds) lim n) x).length≤100120:=fun x=>OD fun k y=>Fq hc.whole hc.tidy hc.lim n k y
 have hrepw:∀{w1:World} {hv rv:Value} {left:Nat} {last closed:Bool},Kf (zn sb oh orr) w w1→w1.heap[sb]?=some (cl (aZ cp lim most nb hv left last rv closed) 184)→∀{v:Value} {l:By} {o:Option Nat},Vw w1 v l o→l.length≤140737488355328 →
   Calls P jU #[pt sb 0,v] w1 (Ret fun r w'=>r=κs (kQ (fG d (lh [] ds) lim n) l)∧Kp [] w1 w'):=fun {w1 hv rv left last closed} k hs {v l o} hvw hl=>aaQ (hcw _ k) hs hvw hl
 clear hcw hc
 generalize kQ (fG d (lh [] ds) lim n)=rep at *
 refine .s ?_
 obtain⟨hv0,rv0,s1,s2,s3,s4,s5⟩:=h
 have q1:=lt_of_heap s1
 have q2:=s2.lt
 have q3:=s3.lt
 have k1:Kp [] w (w.alloc (cl [.pointer none,.slice none 0 0] 139)):=by exact kpA
 have n1:(w.alloc (cl [.pointer none,.slice none 0 0] 139)).heap[w.heap.size]?=some (cl [.pointer none,.slice none 0 0] 139):=by exact lookA
 generalize w.alloc (cl [.pointer none,.slice none 0 0] 139)=w1 at *
 have fx0:FX w cp lim most nb sb w.heap.size (zn sb oh orr) w1 st [] hv0 rv0 (.pointer none) (.slice none 0 0) oh orr none:=by
  refine⟨(k1.same _ q1 trivial).trans s1,s2.kp k1 fun _ _=>trivial,s3.kp k1 fun _ _=>trivial,n1,Or.inl rfl,Gw.nil _ _ _,fun b hb=>?_,fun b hb=>?_,fun b hb=>(by cases hb),⟨by omega,q1,Nat.le_refl _⟩,Kp.kf k1,fun b hb=>Or.inl (Or.inr (Or.inl hb)),fun b hb=>Or.inl (Or.inr (Or.inr hb)),Or.inl rfl⟩
  ·have:=q2 b hb;exact⟨(s4 b hb).1,by omega,(s4 b hb).2,by simp⟩
  ·have:=q3 b hb;exact⟨s5 b hb,by omega,by simp⟩
 -- the end
 refine Jn.by (fun _ w'=>∃s out hv rv a buf oh' or' bo,FX w cp lim most nb sb w.heap.size (zn sb oh orr) w' s out hv rv a buf oh' or' bo∧Yp most s∧aQ rep most st chunk=(s,out)∧out.length≤4000000000) (fun J3 hJ3=>?_) ?_
 ·refine Lp.nat (fun m vals w'=>∃s rest out hv rv a buf oh' or' bo,vals=[κs rest]∧FX w cp lim most nb sb w.heap.size (zn sb oh orr) w' s out hv rv a buf oh' or' bo∧Yp most s∧aQ rep most st chunk=((aQ rep most s rest).1,out++(aQ rep most s rest).2)∧rest.length=m∧m≤chunk.length∧out.length+100200*m≤100200*chunk.length) (n:=chunk.length)
   ⟨st,chunk,[],_,_,_,_,_,_,_,rfl,fx0,hok,by simp,rfl,Nat.le_refl _,by simp⟩ ?_
  rintro m _ w2 jk C ⟨s,rest,out,hv,rv,a,buf,oh',or',bo,rfl,fx,sok,heq,hm1,hm2,hob⟩ hC
  refine .s ?_
  refine .s ?_
  refine .s ?_
  have elt:=fx.elt
  have done:∀w',(∃s out hv rv a buf oh' or' bo,FX w cp lim most nb sb w.heap.size (zn sb oh orr) w' s out hv rv a buf oh' or' bo∧Yp most s∧aQ rep most st chunk=(s,out)∧out.length≤4000000000)→∀v,J3 [v] w':=fun w' h v=>hJ3 _ _ h
  by_cases hr0:rest=[]
  ·subst hr0
   have hd:decide ((([]:By).length:Int)>0)=false:=rfl
   repeat' first|refine .x ?_|refine .y ?_|refine .z ?_|fail
   refine done _ ⟨s,out,hv,rv,a,buf,oh',or',bo,fx,sok,?_,by omega⟩ _
   rw[heq];simp[aQ]
  have hpos:0<rest.length:=List.length_pos_iff.mpr hr0
  have hd:decide ((rest.length:Int)>0)=true:=decide_eq_true (by omega)
  have cell:=fx.cell
  cases hcl:s.closed with
  |true=>
   rw[hcl]at cell
   repeat' first|refine .x ?_|refine .y ?_|refine .z ?_|fail
   refine done _ ⟨s,out,hv,rv,a,buf,oh',or',bo,fx,sok,?_,by omega⟩ _
   rw[heq,Cb _ _ _ _ hcl];simp
  |false=>
  rw[hcl]at cell
  have sok':(s.head.length<4∧s.bz.length≤most)∨(s.head.length=4∧0<s.left∧s.bz.length+s.left≤most):=by
   rcases sok with h|⟨_,h⟩|⟨_,h⟩
   ·rw[hcl]at h;cases h
   ·exact Or.inl h
   ·exact Or.inr h
  obtain⟨ha,hca,hhv⟩:=fx.hd.len
  subst hhv
  repeat' first|refine .x ?_|refine .y ?_|refine .z ?_|fail
  refine Jn.by (fun vals w'=>∃s2 jw out hv rv a buf oh' or' bo,vals=[κs jw]∧FX w cp lim most nb sb w.heap.size (zn sb oh orr) w' s2 out hv rv a buf oh' or' bo∧s2.closed=false∧s2.head.length=4∧s2.bz.length+s2.left≤most∧jw.length≤rest.length∧(s2.left=0→jw.length<rest.length) ∧
    (if s2.left=0 then aQ rep most st chunk=((aQ rep most (nC rep s2).1 jw).1,out++(nC rep s2).2++(aQ rep most (nC rep s2).1 jw).2)else aQ rep most st chunk=((aQ rep most s2 jw).1,out++(aQ rep most s2 jw).2))∧out.length+100200*rest.length≤100200*chunk.length) (fun J30 hJ30=>?_) ?_
  ·repeat' first|refine .x ?_|refine .y ?_|refine .z ?_|fail
   by_cases h4:s.head.length<4
   ·have hd4:decide ((s.head.length:Int)<4)=true:=decide_eq_true (by omega)
    obtain⟨kN,hk⟩:∃kN:Nat,kN=min (4 - s.head.length) rest.length:=⟨_,rfl⟩
    have hkI:min ((4:Int) - s.head.length) (rest.length:Int)=(kN:Nat):=by omega
    repeat' first|refine .x ?_|refine .y ?_|refine .z ?_|fail
    refine eH.val (RI _ _ _ _ _ _ _) ?_
    rw[hkI]
    have kd:Kp [] w2 w2.drew:=by exact kpA
    have fxd:=fx.kp kd
    generalize hw2d:w2.drew=w2d at *
    have eltd:=fxd.elt
    have UI:=fxd.cell
    rw[hcl]at UI
    have htl:(rest.take kN).length=kN:=by rw[List.length_take];omega
    generalize ht:rest.take kN=t at *
    repeat' first|refine .x ?_|refine .y ?_|refine .z ?_|fail
    rw[ht]
    refine Ap.str (s:=t) fxd.hd ?_ (by omega)
    intro v' w9 o9 g9 ho9 k9
    have UJ:w9.heap[sb]?=_:=(k9.same _ eltd.2 (aB fun e=>(fx.d1 _ e).1 rfl)).trans UI
    obtain⟨aa,cc,rfl⟩:=g9.len
    have lt9:=lt_of_heap UJ
    refine .s ?_
    refine .s ?_
    refine .s ?_
    have k3:Kp [(sb,sb+1)] w9 (ag w9 sb (cl (aZ cp lim most nb (.slice aa (s.head.length+t.length) cc) s.left s.last rv false) 184)):=by exact kpA
    have c3:(ag w9 sb (cl (aZ cp lim most nb (.slice aa (s.head.length+t.length) cc) s.left s.last rv false) 184)).heap[sb]?=some (cl (aZ cp lim most nb (.slice aa (s.head.length+t.length) cc) s.left s.last rv false) 184):=by exact lookA
    have fx3:=fxd.headed (x:=t) g9 ho9 k9 k3 (by rw[hcl];exact c3)
    generalize ag w9 sb (cl (aZ cp lim most nb (.slice aa (s.head.length+t.length) cc) s.left s.last rv false) 184)=w52 at *
    clear k9 g9 UJ
    have elt3:=fx3.elt
    have hs2l:({ s with head:=s.head++t }:Srv).head.length=s.head.length+t.length:=List.length_append
    by_cases hfull:s.head.length+kN<4
    ·have hkr:kN=rest.length:=by omega
     have htr:t=rest:=by rw[← ht,hkr,List.take_length]
     have hd5:decide (((s.head.length+t.length:Nat):Int)<4)=true:=decide_eq_true (by omega)
     repeat' first|refine .x ?_|refine .y ?_|refine .z ?_|fail
     have hf:=KQ rep most rest s hcl hr0 (by omega)
     rw[if_pos (by omega)]at hf
     refine done _ ⟨_,out,_,_,_,_,_,_,_,fx3,Or.inr (Or.inl ⟨hcl,by rw[hs2l];omega,?_⟩),?_,by omega⟩ _
     ·rcases sok' with h|h
      ·exact h.2
      ·omega
     ·rw[heq,hf,htr];simp
    ·have hd5:decide (((s.head.length+t.length:Nat):Int)<4)=false:=decide_eq_false (by omega)
     have hkf:s.head.length+kN=4:=by omega
     have ht0:t≠[]:=fun e=>by rw[e]at htl;simp at htl;omega
     have hrest:rest=t++rest.drop kN:=by rw[← ht,List.take_append_drop]
     have hE:aQ rep most s rest=((aQ rep most (Ce rep most { s with head:=s.head++t }).1 (rest.drop kN)).1,(Ce rep most { s with head:=s.head++t }).2++(aQ rep most (Ce rep most { s with head:=s.head++t }).1 (rest.drop kN)).2):=by
      have h1:=KQ rep most t s hcl ht0 (by omega)
      rw[if_neg (by omega)]at h1
      have h2:=qY rep most t (rest.drop kN) s
      rw[← hrest,h1]at h2
      exact h2
     rw[hE]at heq
     have hdl:(rest.drop kN).length=rest.length - kN:=List.length_drop
     generalize hrd:rest.drop kN=jw at *
     repeat' first|refine .x ?_|refine .y ?_|refine .z ?_|fail
     rw[hrd]
     have h4l:4≤(s.head++t).length:=by rw[List.length_append];omega
     refine Cl.ret (zO (Gw.vw fx3.hd) h4l) ?_
     rintro _ w63 ⟨rfl,k63⟩
     have fx4:=fx3.kp k63
     have hlt:=Q7 (s.head++t)
     unfold Ce at heq
     simp only at heq
     have hw:w32 ({ s with head:=s.head++t }:Srv).head=w32 (s.head++t):=rfl
     generalize w32 (s.head++t)=hh at *
     have elt4:=fx4.elt
     have Xd:=fx4.cell
     obtain⟨ra,rc',hrv⟩:=fx4.rc.len
     subst hrv
     simp only[hcl]at Xd
     have hmod:hh % 2147483648<2147483648:=Nat.mod_lt _ (by decide)
     have hrl:s.bz.length≤most:=by
      rcases sok' with h|h
      ·exact h.2
      ·omega
     repeat' first|refine .x ?_|refine .y ?_|refine .z ?_|fail
     rw[shr31,and31 hh hlt]
     have esum:IntKind.i64.wrap (((s.bz.length:Nat):Int)+((hh % 2147483648:Nat):Int))=((s.bz.length+hh % 2147483648:Nat):Int):=by rw[IntKind.wrap_i64];omega
     rw[esum]
     have k5:Kp [(sb,sb+1)] w63 (ag (ag w63 sb (cl (aZ cp lim most nb (.slice aa (s.head.length+t.length) cc) s.left (hh / 2147483648==1) (.slice ra s.bz.length rc') false) 184)) sb (cl (aZ cp lim most nb (.slice aa (s.head.length+t.length) cc) (hh % 2147483648) (hh / 2147483648==1) (.slice ra s.bz.length rc') false) 184)):=by exact kpA
     have c5:(ag (ag w63 sb (cl (aZ cp lim most nb (.slice aa (s.head.length+t.length) cc) s.left (hh / 2147483648==1) (.slice ra s.bz.length rc') false) 184)) sb (cl (aZ cp lim most nb (.slice aa (s.head.length+t.length) cc) (hh % 2147483648) (hh / 2147483648==1) (.slice ra s.bz.length rc') false) 184)).heap[sb]?=some (cl (aZ cp lim most nb (.slice aa (s.head.length+t.length) cc) (hh % 2147483648) (hh / 2147483648==1) (.slice ra s.bz.length rc') false) 184):=by exact lookA
     have fx5:=fx4.turn (s':={ s with head:=s.head++t,last:=hh / 2147483648==1,left:=hh % 2147483648 }) k5 (by rw[hcl];exact c5) rfl rfl
     generalize ag (ag w63 sb (cl (aZ cp lim most nb (.slice aa (s.head.length+t.length) cc) s.left (hh / 2147483648==1) (.slice ra s.bz.length rc') false) 184)) sb (cl (aZ cp lim most nb (.slice aa (s.head.length+t.length) cc) (hh % 2147483648) (hh / 2147483648==1) (.slice ra s.bz.length rc') false) 184)=w73 at *
     have elt5:=fx5.elt
     by_cases hbig:most<s.bz.length+hh % 2147483648
     ·have hd6:decide (((s.bz.length+hh % 2147483648:Nat):Int)>(most:Nat))=true:=decide_eq_true (by omega)
      rw[if_pos hbig]at heq
      have cell5:=fx5.cell
      simp only[hcl]at cell5
      repeat' first|refine .x ?_|refine .y ?_|refine .z ?_|fail
      have k6:Kp [(sb,sb+1)] w73 (ag w73.drew sb (cl (aZ cp lim most nb (.slice aa (s.head.length+t.length) cc) (hh % 2147483648) (hh / 2147483648==1) (.slice ra s.bz.length rc') true) 184)):=by exact kpA
      have c6:(ag w73.drew sb (cl (aZ cp lim most nb (.slice aa (s.head.length+t.length) cc) (hh % 2147483648) (hh / 2147483648==1) (.slice ra s.bz.length rc') true) 184)).heap[sb]?=some (cl (aZ cp lim most nb (.slice aa (s.head.length+t.length) cc) (hh % 2147483648) (hh / 2147483648==1) (.slice ra s.bz.length rc') true) 184):=by exact lookA
      have fx6:=fx5.turn (s':={ s with head:=s.head++t,last:=hh / 2147483648==1,left:=hh % 2147483648,closed:=true }) k6 c6 rfl rfl
      refine done _ ⟨_,out,_,_,_,_,_,_,_,fx6,Or.inl rfl,?_,by omega⟩ _
      rw[heq,Cb _ _ _ _ rfl]
      simp
     ·have hd6:decide (((s.bz.length+hh % 2147483648:Nat):Int)>(most:Nat))=false:=decide_eq_false (by omega)
      rw[if_neg hbig]at heq
      repeat' first|refine .x ?_|refine .y ?_|refine .z ?_|fail
      refine hJ30 _ _ ⟨_,jw,out,_,_,_,_,_,_,_,rfl,fx5.kp (by exact kpA),hcl,by show (s.head++t).length=4;rw[List.length_append];omega,by show s.bz.length+hh % 2147483648≤most;omega,by omega,fun _=>by omega,?_,by omega⟩
      by_cases hz:hh % 2147483648=0
      ·rw[if_pos hz]at heq ⊢
       rw[heq];simp
      ·rw[if_neg hz]at heq ⊢
       rw[heq];simp
   ·have hd4:decide ((s.head.length:Int)<4)=false:=decide_eq_false (by omega)
    rcases sok' with⟨h,_⟩|⟨h1,h2,h3⟩
    ·exact absurd h h4
    repeat' first|refine .x ?_|refine .y ?_|refine .z ?_|fail
    refine hJ30 _ _ ⟨s,rest,out,_,_,_,_,_,_,_,rfl,fx,hcl,h1,h3,Nat.le_refl _,fun h=>by omega,?_,by omega⟩
    rw[if_neg (by omega)];exact heq
  ·rintro _ w90 jk2 ⟨s2,jw,Gj,hv2,rv2,a2,buf2,oh2,or2,bo2,rfl,fx2,KO,hh4,hsum,hle,hlt0,heq2,hob2⟩
   clear fx cell heq elt
   have elt2:=fx2.elt
   have cell2:=fx2.cell
   rw[KO]at cell2
   obtain⟨ra2,rc2,hrv2⟩:=fx2.rc.len
   subst hrv2
   obtain⟨kN,hk⟩:∃kN:Nat,kN=min s2.left jw.length:=⟨_,rfl⟩
   have hkI:min ((s2.left:Nat):Int) (jw.length:Int)=(kN:Nat):=by omega
   repeat' first|refine .x ?_|refine .y ?_|refine .z ?_|fail
   refine eH.val (RI _ _ _ _ _ _ _) ?_
   rw[hkI]
   have kd:Kp [] w90 w90.drew:=by exact kpA
   have fxd:=fx2.kp kd
   generalize hw2d:w90.drew=w2d at *
   have eltd:=fxd.elt
   have UI:=fxd.cell
   rw[KO]at UI
   have htl:(jw.take kN).length=kN:=by rw[List.length_take];omega
   have hdl:(jw.drop kN).length=jw.length - kN:=List.length_drop
   generalize ht:jw.take kN=t at *
   generalize hrd:jw.drop kN=GR at *
   have hr23:jw=t++GR:=by rw[← ht,← hrd,List.take_append_drop]
   repeat' first|refine .x ?_|refine .y ?_|refine .z ?_|fail
   rw[ht]
   refine Ap.str (s:=t) fxd.rc ?_ (by omega)
   intro v' w9 o9 g9 ho9 k9
   have UJ:w9.heap[sb]?=_:=(k9.same _ eltd.2 (aB fun e=>(fx2.d2 _ e).1 rfl)).trans UI
   obtain⟨aa,cc,rfl⟩:=g9.len
   have lt9:=lt_of_heap UJ
   refine .s ?_
   refine .s ?_
   refine .s ?_
   have k3:Kp [(sb,sb+1)] w9 (ag w9 sb (cl (aZ cp lim most nb hv2 s2.left s2.last (.slice aa (s2.bz.length+t.length) cc) false) 184)):=by exact kpA
   have c3:(ag w9 sb (cl (aZ cp lim most nb hv2 s2.left s2.last (.slice aa (s2.bz.length+t.length) cc) false) 184)).heap[sb]?=some (cl (aZ cp lim most nb hv2 s2.left s2.last (.slice aa (s2.bz.length+t.length) cc) false) 184):=by exact lookA
   have fx3:=fxd.recd (x:=t) g9 ho9 k9 k3 (by rw[KO];exact c3)
   generalize ag w9 sb (cl (aZ cp lim most nb hv2 s2.left s2.last (.slice aa (s2.bz.length+t.length) cc) false) 184)=w52 at *
   clear k9 g9 UJ
   have elt3:=fx3.elt
   have hsub:IntKind.i64.wrap (((s2.left:Nat):Int) - ((kN:Nat):Int))=((s2.left - kN:Nat):Int):=by rw[IntKind.wrap_i64];omega
   have hsub2:(((s2.left:Nat):Int) - ((kN:Nat):Int))=((s2.left - kN:Nat):Int):=by omega
   refine .f ?_
   rw[hrd]
   refine .s ?_
   refine .s ?_
   refine .s ?_
   refine .s ?_
   rw[hsub]
   refine .s ?_
   refine .s ?_
   refine .s ?_
   have k4:Kp [(sb,sb+1)] w52 (ag w52 sb (cl (aZ cp lim most nb hv2 (s2.left - kN) s2.last (.slice aa (s2.bz.length+t.length) cc) false) 184)):=by exact kpA
   have c4:(ag w52 sb (cl (aZ cp lim most nb hv2 (s2.left - kN) s2.last (.slice aa (s2.bz.length+t.length) cc) false) 184)).heap[sb]?=some (cl (aZ cp lim most nb hv2 (s2.left - kN) s2.last (.slice aa (s2.bz.length+t.length) cc) false) 184):=by exact lookA
   have fx4:=fx3.turn (s':={ s2 with bz:=s2.bz++t,left:=s2.left - kN }) k4 (by rw[KO];exact c4) rfl rfl
   generalize ag w52 sb (cl (aZ cp lim most nb hv2 (s2.left - kN) s2.last (.slice aa (s2.bz.length+t.length) cc) false) 184)=IP at *
   have elt4:=fx4.elt
   have hrl3:(s2.bz++t).length=s2.bz.length+kN:=by rw[List.length_append,htl]
   by_cases hleft:0<s2.left - kN
   ·have hd6:decide (((s2.left - kN:Nat):Int)>0)=true:=decide_eq_true (by omega)
    have hkr:kN=jw.length:=by omega
    have htr:t=jw:=by rw[← ht,hkr,List.take_length]
    repeat' first|refine .x ?_|refine .y ?_|refine .z ?_|fail
    refine done _ ⟨_,Gj,_,_,_,_,_,_,_,fx4,Or.inr (Or.inr ⟨KO,hh4,hleft,by show (s2.bz++t).length+(s2.left - kN)≤most;omega⟩),?_,by omega⟩ _
    rw[if_neg (by omega)]at heq2
    by_cases hr0:jw=[]
    ·subst hr0
     have:kN=0:=hkr
     subst this
     rw[heq2,htr]
     simp[aQ]
    ·have hf:=Pm rep most jw s2 KO hh4 hr0 (by omega)
     rw[if_pos (by omega)]at hf
     rw[heq2,hf,htr,hkr];simp
   ·have hd6:decide (((s2.left - kN:Nat):Int)>0)=false:=decide_eq_false (by omega)
    have hkl:kN=s2.left:=by omega
    have Um:aQ rep most st chunk=((aQ rep most (nC rep { s2 with bz:=s2.bz++t,left:=s2.left - kN }).1 GR).1,Gj++(nC rep { s2 with bz:=s2.bz++t,left:=s2.left - kN }).2++(aQ rep most (nC rep { s2 with bz:=s2.bz++t,left:=s2.left - kN }).1 GR).2):=by
     by_cases hz:s2.left=0
     ·rw[if_pos hz]at heq2
      have hk0:kN=0:=by omega
      have ht0:t=[]:=List.length_eq_zero_iff.mp (by omega)
      have hr3:GR=jw:=by rw[hr23,ht0];rfl
      have es:({ s2 with bz:=s2.bz++t,left:=s2.left - kN }:Srv)=s2:=by rw[ht0,hk0];simp
      rw[es,hr3];exact heq2
     ·rw[if_neg hz]at heq2
      have ht0:t≠[]:=fun e=>by rw[e]at htl;simp at htl;omega
      have hf:=Pm rep most t s2 KO hh4 ht0 (by omega)
      rw[if_neg (by omega)]at hf
      have h2:=qY rep most t GR s2
      rw[← hr23,hf]at h2
      rw[show s2.left - kN=0 by omega,heq2,h2]
      simp
    clear heq2
    have hm3:GR.length<rest.length:=by omega
    have Xd:=fx4.cell
    simp only[KO]at Xd
    obtain⟨v6,g6,hsl⟩:=gw_cut fx4.hd
    obtain⟨a6,c6,rfl⟩:=g6.len
    repeat' first|refine .x ?_|refine .y ?_|refine .z ?_|fail
    refine hsl _ ?_
    refine .s ?_
    refine .s ?_
    refine .s ?_
    have k5:Kp [(sb,sb+1)] IP (ag IP sb (cl (aZ cp lim most nb (.slice a6 0 c6) (s2.left - kN) s2.last (.slice aa (s2.bz.length+t.length) cc) false) 184)):=by exact kpA
    have c5:(ag IP sb (cl (aZ cp lim most nb (.slice a6 0 c6) (s2.left - kN) s2.last (.slice aa (s2.bz.length+t.length) cc) false) 184)).heap[sb]?=some (cl (aZ cp lim most nb (.slice a6 0 c6) (s2.left - kN) s2.last (.slice aa (s2.bz.length+t.length) cc) false) 184):=by exact lookA
    have fx5:FX w cp lim most nb sb w.heap.size (zn sb oh orr) _ { s2 with head:=[],bz:=s2.bz++t,left:=s2.left - kN } Gj _ _ _ _ _ _ _:=fx4.ZV g6 k5 (by simp only[KO];exact c5)
    generalize ag IP sb (cl (aZ cp lim most nb (.slice a6 0 c6) (s2.left - kN) s2.last (.slice aa (s2.bz.length+t.length) cc) false) 184)=Gh at *
    have elt5:=fx5.elt
    unfold nC at Um
    simp only at Um
    clear fx4 fx3 fx2 fxd Xd
    cases hlast:s2.last with
    |false=>
     rw[if_neg (by simp[hlast])]at Um
     simp only[List.append_nil]at Um
     rw[hlast]at c5
     repeat' first|refine .x ?_|refine .y ?_|refine .z ?_|fail
     exact hC GR.length _ _ (by omega) ⟨_,GR,Gj,_,_,_,_,_,_,_,rfl,fx5,Or.inr (Or.inl ⟨KO,by simp,by show (s2.bz++t).length≤most;omega⟩),Um,rfl,by omega,by omega⟩
    |true=>
     rw[if_pos hlast]at Um
     simp only at Um
     rw[hlast]at c5
     have hol:=TK (hrep (s2.bz++t))
     have hrl:=hrep (s2.bz++t)
     repeat' first|refine .x ?_|refine .y ?_|refine .z ?_|fail
     refine Jn.by (fun _ w'=>∃a buf bo',FX w cp lim most nb sb w.heap.size (zn sb oh orr) w' { s2 with head:=[],bz:=s2.bz++t,left:=s2.left - kN } (Gj++TL (rep (s2.bz++t))) (.slice a6 0 c6) (.slice aa (s2.bz.length+t.length) cc) a buf oh2 o9 bo') (fun J129 hJ129=>?_) ?_
     ·repeat' first|refine .x ?_|refine .y ?_|refine .z ?_|fail
      refine Cl.ret (hrepw fx5.kf fx5.cell (Gw.vw fx5.rc) (by show (s2.bz++t).length≤_;omega)) ?_
      rintro _ PY ⟨rfl,k134⟩
      have fx6:=fx5.kp k134
      generalize hxx:rep (s2.bz++t)=x at *
      by_cases hx0:x=[]
      ·subst hx0
       have:TL ([]:By)=[]:=rfl
       repeat' first|refine .x ?_|refine .y ?_|refine .z ?_|fail
       refine hJ129 _ _ ⟨a2,buf2,bo2,?_⟩
       rw[this,List.append_nil];exact fx6
      ·have hxl:(!(x==([]:By)))=true:=by simpa using hx0
       have hor:IntKind.u32.wrap (((BitVec.ofInt IntKind.u32.bits 2147483648|||BitVec.ofInt IntKind.u32.bits (IntKind.u32.wrap ((x.length:Nat):Int))).toNat:Nat):Int)=((2147483648|||x.length % 4294967296:Nat):Int):=by
        have e1:IntKind.u32.wrap ((x.length:Nat):Int)=((x.length % 4294967296:Nat):Int):=by rw[IntKind.wrap_u32];omega
        rw[e1]
        exact Ie 2147483648 (x.length % 4294967296) (by omega) (Nat.mod_lt _ (by decide))
       have horl:2147483648|||x.length % 4294967296<4294967296:=Nat.or_lt_two_pow (n:=32) (by decide) (Nat.lt_of_lt_of_le (Nat.mod_lt _ (by decide)) (by decide))
       refine .t ?_
       refine .t ?_
       refine .s ?_
       refine .s ?_
       refine .s ?_
       rw[hor]
       refine F7 (l:=[2147483648|||x.length % 4294967296]) rfl (fun n hn=>by rw[List.mem_singleton.mp hn];exact horl) (by simp) fun Vl k142=>?_
       have fx7:=fx6.kp k142
       have hwl:=dw [2147483648|||x.length % 4294967296]
       simp only[List.length_cons,List.length_nil]at hwl
       have hob:TL x=dN [2147483648|||x.length % 4294967296]++x:=by unfold TL;rw[if_neg hx0]
       generalize dN [2147483648|||x.length % 4294967296]=y at *
       refine .a ?_
       refine Cl.ret (fx7.say (y++x) (by rw[List.length_append];omega)) ?_
       rintro _ Vk ⟨buf9,bo9,fx8⟩
       refine hJ129 _ _ ⟨pt w.heap.size 0,buf9,bo9,?_⟩
       rw[hob];exact fx8
     ·rintro _ MN jk3 ⟨a7,buf7,bo7,fx7⟩
      have cell7:=fx7.cell
      simp only[KO]at cell7
      have elt7:=fx7.elt
      refine .s ?_
      refine .s ?_
      refine .s ?_
      have k8:Kp [(sb,sb+1)] MN (ag MN sb (cl (aZ cp lim most nb (.slice a6 0 c6) (s2.left - kN) s2.last (.slice none 0 0) false) 184)):=by exact kpA
      have c8:(ag MN sb (cl (aZ cp lim most nb (.slice a6 0 c6) (s2.left - kN) s2.last (.slice none 0 0) false) 184)).heap[sb]?=some (cl (aZ cp lim most nb (.slice a6 0 c6) (s2.left - kN) s2.last (.slice none 0 0) false) 184):=by exact lookA
      have fx8:FX w cp lim most nb sb w.heap.size (zn sb oh orr) _ { s2 with head:=[],bz:=[],left:=s2.left - kN } (Gj++TL (rep (s2.bz++t))) _ _ _ _ _ _ _:=fx7.abq k8 (by simp only[KO];exact c8)
      generalize ag MN sb (cl (aZ cp lim most nb (.slice a6 0 c6) (s2.left - kN) s2.last (.slice none 0 0) false) 184)=w150 at *
      exact hC GR.length _ _ (by omega) ⟨_,GR,_,_,_,_,_,_,_,_,rfl,fx8,Or.inr (Or.inl ⟨KO,by simp,by simp⟩),Um,rfl,by omega,by rw[List.length_append];omega⟩
 ·rintro _ w3 jk ⟨s,out,hv,rv,a,buf,oh',or',bo,fx,sok,heq,hol⟩
  rw[heq]at hR
  refine Cl.ret (aaX out fx.bl fx.bf (fun b hb=>(fx.d3 b hb).2.1) hol) ?_
  rintro _ w4 ⟨rfl,k4⟩
  have ko:∀b,bo≠some b→Out (own bo) b:=fun b h=>aB h
  have kf4:Kf (zn sb oh orr) w w4:=fx.kf.trans (Kp.kfX (F:=fun i=>bo=some i) k4 fun i _ hi=>ko i hi) fun i hi=>Or.inr (fx.d3 i hi).2.2
  refine hR _ _ ⟨rfl,oh',or',⟨hv,rv,?_,?_,?_,fun b hb=>⟨(fx.d1 b hb).1,(fx.d1 b hb).2.2.1⟩,fun b hb=>(fx.d2 b hb).1⟩,sok,kf4,?_⟩
  ·exact(k4.same _ fx.elt.2 (ko _ fun e=>(fx.d3 _ e).1 rfl)).trans fx.cell
  ·exact fx.hd.kp k4 fun b hb=>ko b fun e=>(fx.d1 b hb).2.2.2 e
  ·exact fx.rc.kp k4 fun b hb=>ko b fun e=>(fx.d2 b hb).2.2 e
  ·rintro i (rfl|hi|hi)
   ·exact Or.inl (Or.inl rfl)
   ·exact fx.fh i hi
   ·exact fx.fr i hi
end
end Go.W.T
namespace Go.W.T
open Go Go.W Go.M Go.Proofs
theorem VA{txt:By}{ds:List Def}(h:parse txt=.ok ds):∀x∈(M.aC CS.empty ds).aV,x.2.length<1000000:=by
 unfold parse at h
 obtain⟨p,h1,h2⟩:=Res.then_ok h
 have hp:PI p []:=PI.start (EL (p:=⟨txt,0,⟨0,[],0,0⟩,[],[],[],[],0,0,0⟩) (tN h1)) (xU (p:=⟨txt,0,⟨0,[],0,0⟩,[],[],[],[],0,0,0⟩) (tN h1))
 obtain⟨q,hq,hl⟩:=NJ 69 p [] hp (by decide) ds h2
 intro x hx
 have:=hq.aV x hx
 omega
structure Base (wB:World) (ds:List Def) (c d:CS) (cp:Value) (lim:Lim):Prop where
 code:vU wB ds d cp
 whole:Whole ds c d
 tidy:Tidy ds
 lim:lim.valid=true
 vl:∀x∈d.aV,x.2.length<1000000
def SV(wB:World)(cp:Value)(lim:Lim)(n:Int)(most:Nat)(w:World)(xb:Nat)(s:Srv)(F:Nat→Prop):Prop:=
 ∃nb sb oh orr,Kp [] wB w∧w.heap[nb]?=some (cl [.int .i64 n] 3)∧w.heap[xb]?=some (cl [pt sb 0] 92)∧QK w cp lim most nb sb s oh orr∧Yp most s∧¬ zn sb oh orr nb∧¬ zn sb oh orr xb ∧
  F nb∧F xb∧(∀i,zn sb oh orr i→F i)∧∀i,F i→wB.heap.size≤i∧i<w.heap.size
theorem SV.other{wB:World}{cp:Value}{lim:Lim}{n:Int}{most:Nat}{w w':World}{xb:Nat}{s:Srv}{F G:Nat→Prop}(h:SV wB cp lim n most w xb s F)(k:Kf G w w')(hd:∀i,F i→¬ G i)(hG:∀i,G i→wB.heap.size≤i):SV wB cp lim n most w' xb s F:=by
 obtain⟨nb,sb,oh,orr,h1,h2,h3,h4,h5,h6,h7,h8,h9,h10,h11⟩:=h
 exact⟨nb,sb,oh,orr,Kf.base h1 k hG,(k.same _ (lt_of_heap h2) (hd _ h8)).trans h2,(k.same _ (lt_of_heap h3) (hd _ h9)).trans h3,h4.kf k fun i hi=>hd i (h10 i hi),h5,h6,h7,h8,h9,h10,fun i hi=>⟨(h11 i hi).1,Nat.lt_of_lt_of_le (h11 i hi).2 k.size⟩⟩
theorem SV.kp{wB:World}{cp:Value}{lim:Lim}{n:Int}{most:Nat}{w w':World}{xb:Nat}{s:Srv}{F:Nat→Prop}(h:SV wB cp lim n most w xb s F)(k:Kp [] w w'):SV wB cp lim n most w' xb s F:=
 h.other (G:=fun _=>False) (Kp.kf k) (fun _ _ f=>f) fun _ f=>f.elim
section
variable {wB w:World} {ds:List Def} {c d:CS} {cp:Value} {lim:Lim} {n:Int} {most xb:Nat} {s:Srv} {F:Nat→Prop}
theorem w_Feed(hb:Base wB ds c d cp lim)(h:SV wB cp lim n most w xb s F)(hm:most≤1000000)(chunk:By)(hl:chunk.length≤39000):
  Calls P jV #[pt xb 0,κs chunk] w (Ret fun v w'=>v=κs (aQ (kQ (fG d (lh [] ds) lim n)) most s chunk).2∧∃F',SV wB cp lim n most w' xb (aQ (kQ (fG d (lh [] ds) lim n)) most s chunk).1 F'∧Kf F w w'∧∀i,F' i→F i∨w.heap.size≤i):=by
 refine Ret.R fun R hR=>?_
 apply Dv
 unfold rU
 obtain⟨nb,sb,oh,orr,h1,h2,h3,h4,h5,h6,h7,h8,h9,h10,h11⟩:=h
 have hcw:∀w1,Kf (zn sb oh orr) w w1→We w1 ds c d cp lim nb n:=fun w1 k=>
  ⟨hb.code.kp (Kf.base h1 k fun i hi=>(h11 i (h10 i hi)).1),hb.whole,hb.tidy,hb.lim,(k.same _ (lt_of_heap h2) h6).trans h2,hb.vl⟩
 repeat' first|refine .x ?_|refine .y ?_|refine .z ?_|fail
 refine Cl.ret (aa0 hm h4 hcw h5 chunk hl) ?_
 rintro _ w' ⟨rfl,oh',or',a1,a2,a3,a4⟩
 have kF:Kf F w w':=⟨a3.os,a3.tape,a3.output,a3.size,fun b hb hF=>a3.same b hb fun ho=>hF (h10 b ho)⟩
 refine hR _ _ ⟨rfl,fun i=>F i∨zn sb oh' or' i,⟨nb,sb,oh',or',?_,(a3.same _ (lt_of_heap h2) h6).trans h2,(a3.same _ (lt_of_heap h3) h7).trans h3,a1,a2,?_,?_,Or.inl h8,Or.inl h9,fun i hi=>Or.inr hi,?_⟩,kF,?_⟩
 ·exact Kf.base h1 a3 fun i hi=>(h11 i (h10 i hi)).1
 ·intro ho
  rcases a4 _ ho with h|h
  ·exact h6 h
  ·have:=lt_of_heap h2;omega
 ·intro ho
  rcases a4 _ ho with h|h
  ·exact h7 h
  ·have:=lt_of_heap h3;omega
 ·have hlt:∀i,zn sb oh' or' i→i<w'.heap.size:=fun i hi=>by
   obtain⟨hv,rv,e1,e2,e3,_⟩:=a1
   rcases hi with rfl|hi|hi
   ·exact lt_of_heap e1
   ·exact e2.lt i hi
   ·exact e3.lt i hi
  intro i hi
  rcases hi with hi|hi
  ·exact⟨(h11 i hi).1,Nat.lt_of_lt_of_le (h11 i hi).2 a3.size⟩
  ·refine⟨?_,hlt i hi⟩
   rcases a4 i hi with h|h
   ·exact(h11 i (h10 i h)).1
   ·have:=h1.size;omega
 ·intro i hi
  rcases hi with hi|hi
  ·exact Or.inl hi
  ·rcases a4 i hi with h|h
   ·exact Or.inl (h10 i h)
   ·exact Or.inr h
theorem XD{sb nb left:Nat}{hv rv:Value}{last cl':Bool}(h:w.heap[sb]?=some (cl (aZ cp lim most nb hv left last rv cl') 184)):Calls P qO #[pt sb 0] w (Ret fun v w'=>v=.bool cl'∧w'=w):=by
 refine Ret.R fun R hR=>?_
 apply BG
 unfold ql
 repeat' first|refine .x ?_|refine .y ?_|refine .z ?_|fail
 exact hR _ _ ⟨rfl,rfl⟩
theorem Oc(h:SV wB cp lim n most w xb s F):Calls P pg #[pt xb 0] w (Ret fun v w'=>v=.bool s.closed∧w'=w):=by
 refine Ret.R fun R hR=>?_
 apply Ah
 unfold oD
 obtain⟨nb,sb,oh,orr,h1,h2,h3,h4,h5,h6,h7,h8,h9,h10,h11⟩:=h
 obtain⟨hv,rv,e1,_⟩:=h4
 repeat' first|refine .x ?_|refine .y ?_|refine .z ?_|fail
 refine Cl.ret (XD e1) ?_
 rintro _ w' ⟨rfl,rfl⟩
 exact hR _ _ ⟨rfl,rfl⟩
theorem w_New(cb:Nat)(lim:Lim)(most nb:Nat):Calls P Js #[pt cb 0,VJ lim,i64 (most:Nat),ansV nb] w (Ret fun v w'=>v=pt (w.heap.size+1) 0∧Kp [] w w'∧w'.heap[w.heap.size+1]?=some (cl (aZ (pt cb 0) lim most nb (.slice none 0 0) 0 false (.slice none 0 0) false) 184)):=by
 refine Ret.R fun R hR=>?_
 apply RF
 unfold I5
 repeat' first|refine .x ?_|refine .y ?_|refine .z ?_|fail
 exact hR _ _ ⟨rfl,by exact kpA,dM (w:=w.alloc (cl [.int .i64 lim.depth,.int .i64 lim.fuel,.int .i64 lim.size] 32)) (by rw[size_alloc])⟩
theorem YR(hs:rf w ds d (pt xb 0)){dv:Value}(hx:w.heap[xb]?=some (cl [dv,cp] 71))(hl:lim.valid=true)(hm:most≤100000)(nb:Nat):Calls P uY #[pt xb 0,VJ lim,i64 (most:Nat),ansV nb] w (Ret fun v w'=>∃yb sb,v=.tuple #[pt yb 0,.nilIface]∧Kp [] w w'∧w.heap.size≤sb∧w.heap.size≤yb∧yb≠sb∧yb<w'.heap.size∧w'.heap[yb]?=some (cl [pt sb 0] 92)∧w'.heap[sb]?=some (cl (aZ cp lim most nb (.slice none 0 0) 0 false (.slice none 0 0) false) 184)):=by
 refine Ret.R fun R hR=>?_
 apply EJ
 unfold uJ
 obtain⟨B,lv,rfl,_⟩:=vU.parts ⟨xb,dv,hs,hx⟩
 have q1:=lt_of_heap hx
 refine .s ?_
 have k1:Kp [] w (w.alloc (cl [.int .i64 lim.depth,.int .i64 lim.fuel,.int .i64 lim.size] 32)):=by exact kpA
 have m1:(w.alloc (cl [.int .i64 lim.depth,.int .i64 lim.fuel,.int .i64 lim.size] 32)).heap[w.heap.size]?=some (cl [.int .i64 lim.depth,.int .i64 lim.fuel,.int .i64 lim.size] 32):=by exact lookA
 generalize w.alloc (cl [.int .i64 lim.depth,.int .i64 lim.fuel,.int .i64 lim.size] 32)=w1 at *
 repeat' first|refine .x ?_|refine .y ?_|refine .z ?_|fail
 refine Cl.ret (aaM lim) ?_
 rintro _ w2 ⟨rfl,k2⟩
 rw[hl]
 have k02:=k1.tt k2
 have x2:w2.heap[xb]?=_:=(k02.same _ q1 trivial).trans hx
 have m2:w2.heap[w.heap.size]?=_:=(k2.same _ (lt_of_heap m1) trivial).trans m1
 have g1:decide (((most:Nat):Int)<0)=false:=decide_eq_false (by omega)
 have g2:decide (((most:Nat):Int)>100000)=false:=decide_eq_false (by omega)
 have z2:=k02.size
 repeat' first|refine .x ?_|refine .y ?_|refine .z ?_|fail
 refine Cl.ret (w_New (B+3) lim most nb) ?_
 rintro _ w3 ⟨rfl,k3,n3⟩
 have z3:=lt_of_heap n3
 repeat' first|refine .x ?_|refine .y ?_|refine .z ?_|fail
 have hz:w2.drew.heap.size=w2.heap.size:=rfl
 have e0:((0:Nat):Int)=0:=rfl
 refine hR _ _ ⟨w3.heap.size,w2.drew.heap.size+1,rfl,?_,by omega,?_,by omega,by simp only[size_alloc];omega,by exact lookA,by exact lookA⟩
 ·exact(k02.tt (by exact kpA:Kp [] w2 w2.drew)).tt (k3.tt (by exact kpA))
 ·have:=k3.size;omega
theorem N8{wB:World}(hb:Base wB ds c d cp lim)(k0:Kp [] wB w){b:Nat}{dv:Value}(hs:rf wB ds d (pt b 0))(hx:wB.heap[b]?=some (cl [dv,cp] 71))(hm:most≤100000)(n:Int):Calls P G8 #[pt b 0,VJ lim,i64 (most:Nat),.int .i64 n] w (Ret fun v w'=>∃yb F,v=.tuple #[pt yb 0,.nilIface]∧Kp [] w w'∧SV wB cp lim n most w' yb Srv.new F∧∀i,F i→w.heap.size≤i):=by
 refine Ret.R fun R hR=>?_
 apply Qd
 unfold GN
 refine .s ?_
 have k1:Kp [] w (w.alloc (cl [.int .i64 lim.depth,.int .i64 lim.fuel,.int .i64 lim.size] 32)):=by exact kpA
 have m1:(w.alloc (cl [.int .i64 lim.depth,.int .i64 lim.fuel,.int .i64 lim.size] 32)).heap[w.heap.size]?=some (cl [.int .i64 lim.depth,.int .i64 lim.fuel,.int .i64 lim.size] 32):=by exact lookA
 generalize w.alloc (cl [.int .i64 lim.depth,.int .i64 lim.fuel,.int .i64 lim.size] 32)=w1 at *
 refine .s ?_
 have kd:Kp [] w1 w1.drew:=by exact kpA
 refine Cl.ret (Q:=fun v w'=>∃nb,v=ansV nb∧Kp [] w1.drew w'∧w'.heap[nb]?=some (cl [.int .i64 n] 3)∧w1.heap.size≤nb) ?_ ?_
 ·refine Ret.R fun R hR=>?_
  apply MZ
  unfold CP
  repeat' first|refine .x ?_|refine .y ?_|refine .z ?_|fail
  exact hR _ _ ⟨_,rfl,by exact kpA,by exact lookA,Nat.le_refl _⟩
 rintro _ w5 ⟨nb,rfl,k5,n5,hnb⟩
 have k15:=kd.tt k5
 have k05:=k1.tt k15
 have kB5:=k0.tt k05
 have m5:w5.heap[w.heap.size]?=_:=(k15.same _ (lt_of_heap m1) trivial).trans m1
 refine .s ?_
 refine Cl.ret (YR (hs.kp0 kB5) ((kB5.same _ (lt_of_heap hx) trivial).trans hx) hb.lim hm nb) ?_
 rintro _ w8 ⟨yb,sb,rfl,k8,a1,a2,a3,a4,a5,a6⟩
 have z1:=k1.size
 have z5:=k15.size
 have zB:=k0.size
 have n8:w8.heap[nb]?=_:=(k8.same _ (lt_of_heap n5) trivial).trans n5
 have q5:=lt_of_heap n5
 have q6:=lt_of_heap a6
 have q8:=k8.size
 repeat' first|refine .x ?_|refine .y ?_|refine .z ?_|fail
 refine hR _ _ ⟨yb,fun i=>i=nb∨i=yb∨i=sb,rfl,k05.tt k8,⟨nb,sb,none,none,kB5.tt k8,n8,a5,⟨_,_,a6,Gw.nil _ _ _,Gw.nil _ _ _,fun b hb=>(by cases hb),fun b hb=>(by cases hb)⟩,Or.inr (Or.inl ⟨rfl,by simp[Srv.new],by simp[Srv.new]⟩),?_,?_,Or.inl rfl,Or.inr (Or.inl rfl),?_,?_⟩,?_⟩
 ·rintro(h|h|h)
  ·omega
  ·cases h
  ·cases h
 ·rintro(h|h|h)
  ·exact a3 h
  ·cases h
  ·cases h
 ·rintro i (rfl|h|h)
  ·exact Or.inr (Or.inr rfl)
  ·cases h
  ·cases h
 ·rintro i (rfl|rfl|rfl)<;>omega
 ·rintro i (rfl|rfl|rfl)<;>omega
end
end Go.W.T
namespace Go.W.T
open Go Go.W Go.M Go.Proofs
theorem Ye(rep:By→By)(most:Nat){b:By}{i:Nat}{c:UInt8}(h:b[i]?=some c)(s:Srv):aQ rep most s (b.take (i+1))=((aQ rep most (aQ rep most s (b.take i)).1 [c]).1,(aQ rep most s (b.take i)).2++(aQ rep most (aQ rep most s (b.take i)).1 [c]).2):=by
 rw[List.take_add_one,h,Option.toList_some,qY]
theorem take_one{b:By}{i:Nat}{c:UInt8}(h:b[i]?=some c):(b.drop i).take (i+1 - i)=[c]:=by
 have hlt:=(List.getElem?_eq_some_iff.mp h).1
 rw[show i+1 - i=1 by omega,List.drop_eq_getElem_cons hlt]
 have:=(List.getElem?_eq_some_iff.mp h).2
 simp[this]
theorem JD(rep:By→By)(most:Nat)(hr:∀x,(rep x).length≤100120):∀(b:By) (s:Srv),(aQ rep most s b).2.length≤100200*b.length
 |[],s=>by simp[aQ]
 |c::r,s=>by
  have h1:=JD rep most hr r (yL rep most s c).1
  have ef:∀s,(nC rep s).2.length≤100200:=fun s=>by
   unfold nC
   split
   ·exact TK (hr _)
   ·simp
  have h2:(yL rep most s c).2.length≤100200:=by
   unfold yL
   split
   ·simp
   split
   ·simp only
    split
    ·simp
    ·unfold Ce
     simp only
     split
     ·simp
     split
     ·exact ef _
     ·simp
   ·simp only
    split
    ·exact ef _
    ·simp
  rw[aQ]
  simp only[List.length_append,List.length_cons]
  omega
theorem w_Cut{w:World}(hg:Gl w)(b:By)(at_:Int)(hat : -9223372036854775808≤at_∧at_≤9223372036854775807)(by_:Int)(hby : -9223372036854775808≤by_∧by_≤9223372036854775807):Calls P y5 #[κs b,.int .i64 at_,.int .i64 by_] w (Law w):=by
 refine Law.R fun R hR=>?_
 apply Jo
 unfold yS
 refine Cl.ret (w_spec hg) ?_
 rintro v w2 ⟨⟨xb,rfl⟩,⟨d,hk⟩,hg2,k2⟩
 repeat' first|refine .x ?_|refine .y ?_|refine .z ?_|fail
 refine .split (fun h=>?_) (fun h=>?_)
 ·repeat' first|refine .x ?_|refine .y ?_|refine .z ?_|fail
  exact hR _ _ rfl k2
 have hlen:¬ (b.length:Int)>4000:=of_decide_eq_false h
 refine Cl.ret w_wide ?_
 rintro v w18 ⟨rfl,k18⟩
 have k018:=k2.tt k18
 have hk18:=hk.kp0 k18
 obtain⟨ds,c,hke,hsp,hw⟩:=hk18
 obtain⟨sb',dv,B,lv,e1,e2,_⟩:=hsp.code
 have:sb'=xb:=by cases e1;rfl
 subst this
 have hb:Base w18 ds c d (pt (B+3) 0) vV:=⟨⟨_,dv,hsp,e2⟩,hw,hke.tidy,NV,by rw[hw.aV,hw.comp.aV];exact VA hke.parse⟩
 refine .s ?_
 refine .s ?_
 refine Cl.w (fun w21=>Kp [] w18 w21∧w21.heap[w18.heap.size]?=some (cl [.int .i64 vV.depth,.int .i64 vV.fuel,.int .i64 vV.size] 32)) ⟨by exact kpA,by exact lookA⟩ ?_
 rintro w21 ⟨k21,n21⟩
 refine Cl.ret (YK by_ 6 hby (by omega) (by omega)) ?_
 rintro _ w23 ⟨rfl,rfl⟩
 generalize LJ by_ 6=n at *
 have q0:=lt_of_heap n21
 refine .s ?_
 refine Cl.ret (N8 hb k21 hsp e2 (most:=600) (by omega) n) ?_
 rintro _ w26 ⟨xx,F1,rfl,k26,h1,f1⟩
 have n26:w26.heap[w18.heap.size]?=_:=(k26.same _ q0 trivial).trans n21
 have k026:=k21.tt k26
 repeat' first|refine .x ?_|refine .y ?_|refine .z ?_|fail
 refine Cl.ret (N8 hb k026 hsp e2 (most:=600) (by omega) n) ?_
 rintro _ w31 ⟨xy,F2,rfl,k31,h2,f2⟩
 have n31:w31.heap[w18.heap.size]?=_:=(k31.same _ (lt_of_heap n26) trivial).trans n26
 have k031:=k026.tt k31
 repeat' first|refine .x ?_|refine .y ?_|refine .z ?_|fail
 refine Cl.ret (N8 hb k031 hsp e2 (most:=600) (by omega) n) ?_
 rintro _ w36 ⟨xz,F3,rfl,k36,h3,f3⟩
 have k036:=k031.tt k36
 repeat' first|refine .x ?_|refine .y ?_|refine .z ?_|fail
 have hrep:∀x,(kQ (fG d (lh [] ds) vV n) x).length≤100120:=fun x=>OD fun k y=>Fq hw hke.tidy NV n k y
 have hfeed:∀{w xb s F} (h:SV w18 (pt (B+3) 0) vV n 600 w xb s F) (chunk:By),chunk.length≤39000→Calls P jV #[pt xb 0,κs chunk] w (Ret fun v w'=>v=κs (aQ (kQ (fG d (lh [] ds) vV n)) 600 s chunk).2∧∃F',SV w18 (pt (B+3) 0) vV n 600 w' xb (aQ (kQ (fG d (lh [] ds) vV n)) 600 s chunk).1 F'∧Kf F w w'∧∀i,F' i→F i∨w.heap.size≤i):=
  fun h chunk hl=>w_Feed hb h (by omega) chunk hl
 generalize kQ (fG d (lh [] ds) vV n)=rep at *
 have sv:∀{w xb s F},SV w18 (pt (B+3) 0) vV n 600 w xb s F→∀i,F i→w18.heap.size≤i∧i<w.heap.size:=fun h=>by
  obtain⟨nb,sb,oh,orr,_,_,_,_,_,_,_,_,_,_,h11⟩:=h
  exact h11
 have u1:=sv h1
 have u2:=sv h2
 have u3:=sv h3
 have z26:=k26.size
 have z31:=k31.size
 have z36:=k36.size
 have h1:=(h1.kp k31).kp k36
 have h2:=h2.kp k36
 refine Cl.ret (hfeed h1 b (by omega)) ?_
 rintro _ w81 ⟨rfl,G1,a1,a2,a3⟩
 have v1:=sv a1
 have z81:=a2.size
 have h2:=h2.other a2 (fun i hi hg=>by have:=f2 i hi;have:=u1 i hg;omega) fun i hi=>(u1 i hi).1
 have h3:=h3.other a2 (fun i hi hg=>by have:=f3 i hi;have:=u1 i hg;omega) fun i hi=>(u1 i hi).1
 have hbl:(b.length:Int)≤4000:=by omega
 refine .s ?_
 refine .a ?_
 refine Cl.ret (YK at_ ((b.length:Int)+1) hat (by omega) (by omega)) ?_
 rintro _ w85 ⟨rfl,rfl⟩
 have hpr:=TI (c:=at_) (n:=(b.length:Int)+1) (by omega)
 obtain⟨k,hkk⟩:∃k:Nat,LJ at_ ((b.length:Int)+1)=(k:Int):=⟨_,(Int.toNat_of_nonneg hpr.1).symm⟩
 rw[hkk]at hpr ⊢
 have hkl:k≤b.length:=by omega
 have hcut:=Yk rep 600 Srv.new b k
 refine .t ?_
 refine Cl.ret (hfeed h2 (b.take k) (by rw[List.length_take];omega)) ?_
 rintro _ w88 ⟨rfl,G2,b1,b2,b3⟩
 have v2:=sv b1
 have z88:=b2.size
 have a1:=a1.other b2 (fun i hi hg=>by
  have:=u2 i hg
  have:=f2 i hg
  rcases a3 i hi with h|h
  ·have:=u1 i h;omega
  ·omega) fun i hi=>(u2 i hi).1
 have h3:=h3.other b2 (fun i hi hg=>by have:=f3 i hi;have:=u2 i hg;omega) fun i hi=>(u2 i hi).1
 refine .f ?_
 refine Cl.ret (hfeed b1 (b.drop k) (by rw[List.length_drop];omega)) ?_
 rintro _ w91 ⟨rfl,G3,c1,c2,c3⟩
 have v3:=sv c1
 have z91:=c2.size
 have a1:=a1.other c2 (fun i hi hg=>by
  have:=v1 i hi
  rcases a3 i hi with h|h
  ·have:=u1 i h
   rcases b3 i hg with g|g
   ·have:=f2 i g;omega
   ·omega
  ·rcases b3 i hg with g|g
   ·have:=u2 i g;omega
   ·omega) fun i hi=>(v2 i hi).1
 have h3:=h3.other c2 (fun i hi hg=>by
  have:=u3 i hi
  have:=f3 i hi
  rcases b3 i hg with g|g
  ·have:=u2 i g;omega
  ·omega) fun i hi=>(v2 i hi).1
 rw[← hcut.2]at c1
 -- byte by byte
 refine Lp.nat (fun m vals w'=>∃(i:Nat) (Fz:Nat→Prop),m+i=b.length∧vals=[κs (aQ rep 600 Srv.new (b.take i)).2,i64 i]∧w91.heap.size≤w'.heap.size∧SV w18 (pt (B+3) 0) vV n 600 w' xx (aQ rep 600 Srv.new b).1 G1∧SV w18 (pt (B+3) 0) vV n 600 w' xy (aQ rep 600 Srv.new b).1 G3∧SV w18 (pt (B+3) 0) vV n 600 w' xz (aQ rep 600 Srv.new (b.take i)).1 Fz∧∀i,Fz i→F3 i∨w91.heap.size≤i) (n:=b.length)
  ⟨0,F3,by omega,by simp[aQ],Nat.le_refl _,a1,c1,by simp only[List.take_zero,aQ];exact h3,fun i hi=>Or.inl hi⟩ ?_
 rintro m _ w93 jk C ⟨i,Fz,hi,rfl,hz,s1,s2,s3,s4⟩ hC
 have g1:∀i,G1 i→¬ Fz i:=fun i hi hg=>by
  have:=v1 i hi
  rcases s4 i hg with h|h
  ·have:=f3 i h
   rcases a3 i hi with g|g
   ·have:=u1 i g;omega
   ·have:=u3 i h;omega
  ·omega
 have g3:∀i,G3 i→¬ Fz i:=fun i hi hg=>by
  have:=v3 i hi
  rcases s4 i hg with h|h
  ·have:=f3 i h
   have:=u3 i h
   rcases c3 i hi with g|g
   ·rcases b3 i g with g|g
    ·have:=u2 i g;omega
    ·omega
   ·omega
  ·omega
 refine .s ?_
 refine .s ?_
 refine .s ?_
 refine .split (fun hh=>?_) (fun hh=>?_)
 ·have hi':i<b.length:=by have:=of_decide_eq_true hh;omega
  obtain⟨cc,hcc⟩:∃cc,b[i]?=some cc:=⟨_,List.getElem?_eq_getElem hi'⟩
  have hnx:=Ye rep 600 hcc Srv.new
  have hon:=take_one hcc
  have hfl:=JD rep 600 hrep (b.take i) Srv.new
  have hfl2:=JD rep 600 hrep [cc] (aQ rep 600 Srv.new (b.take i)).1
  rw[List.length_take]at hfl
  simp only[List.length_cons,List.length_nil]at hfl2
  have e1:(i:Int)+1=((i+1:Nat):Int):=by omega
  repeat' first|refine .x ?_|refine .y ?_|refine .z ?_|fail
  rw[hon]
  refine Cl.ret (hfeed s3 [cc] (by simp)) ?_
  rintro _ P5 ⟨rfl,Fz',d1,d2,d3⟩
  have zz:=d2.size
  repeat' first|refine .x ?_|refine .y ?_|refine .z ?_|fail
  refine hC (m - 1) _ _ (by omega) ⟨i+1,Fz',by omega,?_,by omega,s1.other d2 g1 fun i hi=>(sv s3 i hi).1,s2.other d2 g3 fun i hi=>(sv s3 i hi).1,?_,?_⟩
  ·rw[hnx];rfl
  ·rw[hnx];exact d1
  ·intro i hi
   rcases d3 i hi with h|h
   ·exact s4 i h
   ·exact Or.inr (by omega)
 ·have hi':i=b.length:=by have:=of_decide_eq_false hh;omega
  subst hi'
  rw[List.take_length]at s3 ⊢
  have hfl:=JD rep 600 hrep b Srv.new
  refine Cl.ret (Oc s1) ?_
  rintro _ zQ ⟨rfl,rfl⟩
  refine Cl.ret (Oc s2) ?_
  rintro _ MO ⟨rfl,rfl⟩
  refine Cl.ret (Oc s3) ?_
  rintro _ Hy ⟨rfl,rfl⟩
  have hkB:Kp [] w18 Hy:=by
   obtain⟨nb,sb,oh,orr,h,_⟩:=s1
   exact h
  have hlc:=congrArg List.length hcut.1
  rw[List.length_append]at hlc
  refine .a ?_
  rw[← hcut.1]
  generalize (aQ rep 600 Srv.new b).2=o at *
  generalize (aQ rep 600 Srv.new b).1.closed=q at *
  have eo:(o==o)=true:=beq_self_eq_true o
  have eq:((q==q) != false)=true:=by cases q<;>rfl
  repeat' first|refine .x ?_|refine .y ?_|refine .z ?_|fail
  refine hR _ _ ?_ (k018.tt hkB)
  simp
end Go.W.T

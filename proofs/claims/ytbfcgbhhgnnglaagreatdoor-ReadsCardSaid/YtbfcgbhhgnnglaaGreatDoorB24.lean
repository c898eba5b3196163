/- Texts of mine, one behind the other; nothing is assumed. -/
import Derived.Test.YtbfcgbhhgnnglaaGreatDoorB16
import Derived.Test.YtbfcgbhhgnnglaaGreatDoorB23
import Derived.Test.YtbfcgbhhgnnglaaGreatDoorB08
import Derived.Test.YtbfcgbhhgnnglaaGreatDoorB01
set_option autoImplicit true
set_option relaxedAutoImplicit true
set_option linter.unusedSimpArgs false
set_option linter.unusedVariables false
set_option maxRecDepth 4000
namespace Go.W.T
open Go Go.W Go.M Go.Proofs
theorem ab3:Idle P 36:=λv1 v2 w=>by
 refine(RZ (keep:=[]) (args:=[v1,v2]) (R:=λen w'=>(∃v,en=.returned v)/\w'=w) Tryz.func36 rfl rfl ?_).mono ?_
 .rw[uA];unfold qf;refine gg ?_;exact⟨⟨_,rfl⟩,rfl⟩
 .rintro en u' w' ⟨h1,h2,h3⟩;exact⟨h2,h1,h3⟩
def ErrAt(w:World)(e a:Nat)(v:Value):Prop:=∃fb,v=.iface Aj (pt fb 0)/\w.heap[fb]?=some (cl [i64 e,i64 a] yA)
end Go.W.T
set_option maxRecDepth 100000
namespace Go.W.T
open Go Go.W Go.M Go.Proofs
end Go.W.T
set_option maxRecDepth 4000
namespace Go.W.T
open Go Go.W Go.M Go.Proofs
theorem dE_30(hf:Flt e a ch w)(hl:w.heap[lb]?=some (cl [x] t1))(he:w.heap[eb]?=some (cl [y] t2))(hne:lb≠eb)
  (h:∀v w3,Kp [(lb,lb+1),(eb,eb+1)] w w3->ErrAt w3 e a v->R (.returned (.tuple #[.pointer none,v])) w3):dE R 36 (pt lb 0) (pt eb 0) ch w:=by
 obtain⟨b,rfl,hb⟩:=hf;have hbl:b≠lb:=by rintro rfl;rw[hl]at hb;simp[cl]at hb
 have hbe:b≠eb:=by rintro rfl;rw[he]at hb;simp[cl]at hb
 have hll:=lt_of_heap hl;have hle:=lt_of_heap he;have hlb:=lt_of_heap hb;refine⟨pt b 0,rfl,?_⟩;refine(OQ (keep:=[]) (args:=[pt lb 0,pt eb 0]) (R:=λen w'=>en=.returned (.tuple #[])/\w'=ag (ag w lb (cl [.pointer none] t1)) eb (cl [.iface 98 (pt b 0)] t2)) Tryz.func36 rfl rfl ?_).mono ?_
 .rw[uA];unfold qf;refine gg ?_;rfl
 .rintro en u' w' ⟨rfl,rfl,rfl⟩;refine⟨⟨_,rfl⟩,rfl,?_⟩;have k:Kp [(lb,lb+1),(eb,eb+1)] w (ag (ag w lb (cl [.pointer none] t1)) eb (cl [.iface 98 (pt b 0)] t2)):=by exact kpA
  refine gg ?_;refine h _ _ k ⟨b,rfl,?_⟩;exact(k.same b hlb ⟨omg,omg,trivial⟩).trans hb
def Eo(n:Nat)(w2 w:World):Prop:=w2.heap.size<=w.heap.size/\∀b,n<=b->b<w2.heap.size->w.heap[b]?=w2.heap[b]?
theorem Eo.kp(h:Eo n w2 w)(k:Kp X w w')(hx:∀b,n<=b->Out X b):Eo n w2 w':=
 ⟨Nat.le_trans h.1 k.size,λb hb hl=>(k.same b (Nat.lt_of_lt_of_le hl h.1) (hx b hb)).trans (h.2 b hb hl)⟩
def zB(w:World)(ds:List Def)(c:CS)(v:Value):Prop:=∃sb dv n w1 w2 B H ρ T,v=pt sb 0/\w.heap[sb]?=some (cl [dv,pt (B+3) 0] 107)/\UE n w1 ds dv/\Eo n w1 w/\n<=B/\CR B H ρ T w2 c/\Eo n w2 w
theorem zB.kp0(h:zB w ds c v)(k:Kp [] w w'):zB w' ds c v:=by
 obtain⟨sb,dv,n,w1,w2,B,H,ρ,T,h1,h2,h3,h4,h5,h6,h7⟩:=h;exact⟨sb,dv,n,w1,w2,B,H,ρ,T,h1,(k.same _ (lt_of_heap h2) trivial).trans h2,h3,h4.kp k (λ_ _=>trivial),h5,h6,h7.kp k (λ_ _=>trivial)⟩
theorem Gl.kp0(h:Gl w)(k:Kp [] w w'):Gl w':=h.kp k (λ_ _=>trivial)
def JV(w:World)(txt:By)(v:Value):Prop:=
 if 1200<txt.length then ∃ev,v=.tuple #[.pointer none,ev]/\ErrAt w 1 0 ev
 else match parse txt with
  |.no e a=>∃ev,v=.tuple #[.pointer none,ev]/\ErrAt w e a ev
  |.ok ds=>match compile ds with
   |.no e a=>∃ev,v=.tuple #[.pointer none,ev]/\ErrAt w e a ev
   |.ok c=>∃sv names,v=.tuple #[sv,.nilIface]/\List.Perm names (c.start.map (·.1))/\zB w ds (kY c names) sv
theorem w_Read(hg:Gl w)(hf:∀ds,parse txt=.ok ds->fine ds=true)(hlen:txt.length<=140737488355328):
  Calls P 19 #[κs txt] w (Ret λv w'=>Kp [] w w'/\Gl w'/\JV w' txt v):=by
 refine Ret.R λR hR=>?_;refine Gu ab3 ?_;unfold sG;unfold JV at hR;refine gg ?_;have k4:Kp [] w ((w.alloc (cl [.pointer none] 53)).alloc (cl [.nilIface] 55)):=by exact kpA
 have n1:((w.alloc (cl [.pointer none] 53)).alloc (cl [.nilIface] 55)).heap[w.heap.size]?=some (cl [.pointer none] 53):=by exact lookA
 have n3:((w.alloc (cl [.pointer none] 53)).alloc (cl [.nilIface] 55)).heap[w.heap.size+1]?=some (cl [.nilIface] 55):=by exact lookA
 have z4:((w.alloc (cl [.pointer none] 53)).alloc (cl [.nilIface] 55)).heap.size=w.heap.size+2:=by simp only[size_alloc]
 generalize ((w.alloc (cl [.pointer none] 53)).alloc (cl [.nilIface] 55))=w4 at *;have hg4:=hg.kp0 k4;have hlc:∀{w':World},Kp [] w4 w'->w'.heap[w.heap.size]?=some (cl [.pointer none] 53):=λk=>(k.same _ omg trivial).trans n1;have hec:∀{w':World},Kp [] w4 w'->w'.heap[w.heap.size+1]?=some (cl [.nilIface] 55):=λk=>(k.same _ omg trivial).trans n3;refine gg ?_;refine .split (λhc=>?_) (λhc=>?_)
 .have hc':(txt.length:Int)>1200:=of_decide_eq_true hc;simp only[if_pos (show 1200<txt.length by omega)]at hR;refine gg ?_;refine(λ(Q:∀w9,Kp [(w.heap.size,w.heap.size+1),(w.heap.size+1,w.heap.size+2)] w4 w9/\w9.heap[w4.heap.size]?=some (cl [i64 1,i64 0] 101)->R (.returned (.tuple #[.pointer none,.iface 98 (pt w4.heap.size 0)])) w9)=>Q _ ⟨kpA,lookA⟩) ?_;rintro w9 ⟨k9,n9⟩;have k09:Kp [] w w9:=k4.trans k9 (λi hi _=>⟨trivial,omg,omg,trivial⟩);exact hR _ _ ⟨k09,hg.kp0 k09,_,rfl,_,rfl,n9⟩
 .have hc':¬ (txt.length:Int)>1200:=of_decide_eq_false hc;simp only[if_neg (show ¬ 1200<txt.length by omega)]at hR;refine Cl.by (aa1 hg4 omg) ?_ ?_ ?_
  .rintro v w1 ⟨k1,h2⟩;cases hp:parse txt with
   |no e a=>rw[hp]at h2;obtain⟨_,hv,_⟩:=h2;cases hv
   |ok ds=>
    rw[hp]at h2;simp only[hp]at hR;obtain⟨dv,hv,hg1,hds⟩:=h2;cases hv;refine Cl.by (Wu hg1 hds (hf ds hp)) ?_ ?_ ?_
    .rintro v w2 ⟨k2,h3⟩;cases hcm:compile ds with
     |no e a=>rw[hcm]at h3;obtain⟨_,hv,_⟩:=h3;cases hv
     |ok c=>
      rw[hcm]at h3;simp only[hcm]at hR;obtain⟨cv,hv,hg2,names,hperm,hcode⟩:=h3;cases hv;have k42:=k1.tt k2;have z2:=k42.size;have hl1:=hlc k42;have he1:=hec k42;obtain⟨H',l',o',q1,q2,q3,q4,q5⟩:=hds;have q4:=q4;obtain⟨da,dc,rfl⟩:=q4.len;obtain⟨B,Hc,ρ,Tc,r1,rfl,r3⟩:=hcode;refine gg ?_;refine(λ(Q:∀w9,Kp [(w.heap.size,w.heap.size+1),(w.heap.size+1,w.heap.size+2)] w2 w9/\w9.heap[w2.heap.size]?=some (cl [.slice da ds.length dc,pt (B+3) 0] 107)->R (.returned (.tuple #[pt w2.heap.size 0,.nilIface])) w9)=>Q _ ⟨kpA,lookA⟩) ?_;rintro w9 ⟨k9,n9⟩;have k09:Kp [] w w9:=(k4.tt k42).trans k9 (λi hi _=>⟨trivial,omg,omg,trivial⟩);have o1:Eo w4.heap.size w1 w9:=(show Eo w4.heap.size w1 w2 from ⟨k2.size,λb _ hl=>k2.same b hl trivial⟩).kp k9 (λb hb=>⟨omg,omg,trivial⟩);have o2:Eo w4.heap.size w2 w9:=(show Eo w4.heap.size w2 w2 from ⟨Nat.le_refl _,λb _ _=>rfl⟩).kp k9 (λb hb=>⟨omg,omg,trivial⟩);exact hR _ _ ⟨k09,hg.kp0 k09,_,names,rfl,hperm,w2.heap.size,_,w4.heap.size,w1,w2,B,Hc,ρ,Tc,rfl,n9,⟨H',l',o',q1,q2,q3,q4,q5⟩,o1,by have:=k1.size;omega,r3,o2⟩
    .rintro ch w2 ⟨k2,h3⟩;cases hcm:compile ds with
     |ok c=>rw[hcm]at h3;obtain⟨_,hv,_⟩:=h3;cases hv
     |no e a=>
      rw[hcm]at h3;simp only[hcm]at hR;obtain⟨ch',hv,hF⟩:=h3;cases hv;refine dE_30 hF (hlc (k1.tt k2)) (hec (k1.tt k2)) omg ?_;intro v w3 k3 hE;have k03:Kp [] w w3:=(k4.tt (k1.tt k2)).trans k3 (λi hi _=>⟨trivial,omg,omg,trivial⟩);exact hR _ _ ⟨k03,hg.kp0 k03,v,rfl,hE⟩
    .rintro w2 ⟨k2,h3⟩;cases hcm:compile ds with
     |ok c=>rw[hcm]at h3;obtain⟨_,hv,_⟩:=h3;cases hv
     |no e a=>rw[hcm]at h3;obtain⟨_,hv,_⟩:=h3;cases hv
  .rintro ch w1 ⟨k1,h2⟩;cases hp:parse txt with
   |ok ds=>rw[hp]at h2;obtain⟨_,hv,_⟩:=h2;cases hv
   |no e a=>
    rw[hp]at h2;simp only[hp]at hR;obtain⟨ch',hv,hF⟩:=h2;cases hv;refine dE_30 hF (hlc k1) (hec k1) omg ?_;intro v w3 k3 hE;have k03:Kp [] w w3:=(k4.tt k1).trans k3 (λi hi _=>⟨trivial,omg,omg,trivial⟩);exact hR _ _ ⟨k03,hg.kp0 k03,v,rfl,hE⟩
  .rintro w1 ⟨k1,h2⟩;cases hp:parse txt with
   |ok ds=>rw[hp]at h2;obtain⟨_,hv,_⟩:=h2;cases hv
   |no e a=>rw[hp]at h2;obtain⟨_,hv,_⟩:=h2;cases hv
end Go.W.T
set_option maxRecDepth 100000
namespace Go.W.T
open Go Go.W Go.M Go.Proofs
theorem zB.types{w:World}{ds:List Def}{d:CS}{v:Value}(h:zB w ds d v):∃sb dv B lv es ck,v=pt sb 0/\w.heap[sb]?=some (cl [dv,pt (B+3) 0] 107)/\w.heap[B+3]?=some (cl [lv,.map (some B),.map (some (B+1)),.map (some (B+2))] kH) /\
  w.heap[B]?=some (.map es ck)/\MK κs es ck (d.types.map λx=>(x.1,i64 (x.2:Nat)))/\(0<d.L.length->d.L.length<1000000->∃T,MC w (pt (B+3) 0) T d.L d.tabs):=by
 obtain⟨sb,dv,n,w1,w2,B,H,ρ,T,h1,h2,h3,h4,h5,h6,h7⟩:=h;have hlt:=h6.lt;have same:∀b,n<=b->b<w2.heap.size->w.heap[b]?=w2.heap[b]?:=h7.2;obtain⟨lv,cells,o,a1,a2,a3,a4⟩:=h6.L;obtain⟨es,ck,t1,t2⟩:=h6.types;refine⟨sb,dv,B,lv,es,ck,h1,h2,(same _ (by omega) (by omega)).trans a1,(same _ (by omega) (by omega)).trans t1,t2,λhl hm=>⟨T,?_⟩⟩;have big:∀b,ρ b≠(0,0)->B+7<=b:=λb hb=>by
  rcases Nat.lt_or_ge b (B+7)with h|h
  .exact absurd (h6.low b h) hb
  .exact h
 refine⟨?_,⟨h6.nN,λi b l hb hl=>?_⟩,hm⟩
 .cases o with
  |none=>obtain⟨_,_,h0⟩:=a2;omega
  |some b=>
   obtain⟨_,rest,cap,rfl,b2,b3⟩:=a2;have hb:=big b (by rw[a4 b rfl];simp);exact⟨B+3,b,_,_,_,cells,rest,cap,rfl,(same _ (by omega) (by omega)).trans a1,(same b (by omega) (lt_of_heap b2)).trans b2,a3⟩
 .obtain⟨x1,x2⟩:=h6.tabs i b l hb hl;obtain⟨es,ck,y1,y2⟩:=x1;have hbb:=big b (by rw[x2];simp);exact⟨es,ck,(same b (by omega) (lt_of_heap y1)).trans y1,y2⟩
end Go.W.T
namespace Go.W
open Go
theorem En.a(hK:K (.bool ng)):En .ptr ng (pt b o) K:=En.s (b:=false) (by cases ng<;>exact hK) rfl
abbrev En.q:=@En.a
theorem En.d(hK:K (.bool ng)):En .ifc ng (.iface t v) K:=En.s (b:=false) (by cases ng<;>exact hK) rfl
abbrev En.r:=@En.d
theorem En.t(hK:K (.bool !ng)):En .ifc ng .nilIface K:=En.s (b:=true) (by cases ng<;>exact hK) rfl
end Go.W
namespace Go.W.T
open Go Go.W Go.M Go.Proofs
def Lu(c n:Int):Int:=(if c<0 then -(c+1)else c) % n
theorem Qd(h:0<n):0<=Lu c n/\Lu c n<n:=⟨Int.emod_nonneg _ omg,Int.emod_lt_of_pos _ h⟩
end Go.W.T
namespace Go.W.T
open Go Go.W Go.M Go.Proofs
def Law(w:World):Ending->World->Prop:=λen w'=>en=.returned (.bool true)/\Kp [] w w'
theorem Law.R(h:∀R:Ending->World->Prop,(∀b w',b=true->Kp [] w w'->R (.returned (.bool b)) w')->Calls P f args w R):Calls P f args w (Law w):=h _ λb w' hb hk=>⟨by rw[hb],hk⟩
end Go.W.T
namespace Go.W.T
open Go Go.W Go.M Go.Proofs
end Go.W.T
namespace Go.W.T
open Go Go.W Go.M Go.Proofs
end Go.W.T

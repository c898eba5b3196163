/- Texts of mine, one behind the other; nothing is assumed. -/
import Derived.Test.YtaaepbggooiblaaGreatDoorB17
import Derived.Test.YtaaepbggooiblaaGreatDoorB25
import Derived.Test.YtaaepbggooiblaaGreatDoorB05
import Derived.Test.YtaaepbggooiblaaGreatDoorB07
set_option linter.unusedSimpArgs false
set_option linter.unusedVariables false
set_option maxRecDepth 4000
namespace Go.W.T
open Go Go.W Go.M Go.Proofs
theorem YK:Idle P 30:=fun v1 v2 w=>by
 refine(QI (keep:=[]) (args:=[v1,v2]) (R:=fun en w'=>(∃v,en=.returned v)∧w'=w) Tryz.func30 rfl rfl ?_).mono ?_
 ·rw[wu]
  unfold qy
  repeat' first|refine .x ?_|refine .y ?_|refine .z ?_|fail
  exact⟨⟨_,rfl⟩,rfl⟩
 ·rintro en u' w' ⟨h1,h2,h3⟩
  exact⟨h2,h1,h3⟩
def ErrAt(w:World)(e a:Nat)(v:Value):Prop:=∃fb,v=.iface Dv (pt fb 0)∧w.heap[fb]?=some (cl [i64 e,i64 a] Ho)
end Go.W.T
namespace Go.W.T
open Go Go.W Go.M Go.Proofs
theorem u238:P.underlying 238=some (.pointer 5):=by kernel_rfl
theorem cells5:P.cellsOf 5=1:=by kernel_rfl
theorem wV{w w':World}{v x:Value}(h:(Builtin.unsafeSliceData_ #[137] 238 #[x]).run P w=.ok v w'):(builtin .unsafeSliceData #[137] 238 #[false] #[x]).run P w=.ok (.value v) w':=by
 show Sem.run P (do pure (Next.value (← Builtin.unsafeSliceData_ #[137] 238 #[x]))) w=_
 simp only[Sem.run_bind,h,Result.andThen_ok,Sem.run_pure]
theorem uB{w w':World}{v x y:Value}(h:(Builtin.unsafeString_ #[238,3] 9 #[x,y]).run P w=.ok v w'):(builtin .unsafeString #[238,3] 9 #[false,false] #[x,y]).run P w=.ok (.value v) w':=by
 show Sem.run P (do pure (Next.value (← Builtin.unsafeString_ #[238,3] 9 #[x,y]))) w=_
 simp only[Sem.run_bind,h,Result.andThen_ok,Sem.run_pure]
theorem Kp.freeze(w:World)(b n:Nat):Kp [(b,b+1)] w (w.freeze ⟨b,0,none⟩ n):=by
 unfold World.freeze
 split
 ·exact Kp.refl _ _
 ·refine⟨rfl,rfl,rfl,by simp,fun i hi ho=>?_⟩
  have hne:b≠i:=by have:=ho.1;omega
  simp only[Array.getElem?_modify,hne,if_false]
end Go.W.T
namespace Go.W.T
open Go Go.W Go.M Go.Proofs
theorem ZM{R:Ending→World→Prop}{w:World}{lb eb e a:Nat}{x y:Value}{t1 t2:TypeId}{ch:List PanicEntry}(hf:Flt e a ch w)(hl:w.heap[lb]?=some (cl [x] t1))(he:w.heap[eb]?=some (cl [y] t2))(hne:lb≠eb)
  (h:∀v w3,Kp [(lb,lb+1),(eb,eb+1)] w w3→ErrAt w3 e a v→R (.returned (.tuple #[.pointer none,v])) w3):dE R 30 (pt lb 0) (pt eb 0) ch w:=by
 obtain⟨b,rfl,hb⟩:=hf
 have hbl:b≠lb:=by rintro rfl;rw[hl]at hb;simp[cl]at hb
 have hbe:b≠eb:=by rintro rfl;rw[he]at hb;simp[cl]at hb
 have hll:=lt_of_heap hl
 have hle:=lt_of_heap he
 have hlb:=lt_of_heap hb
 refine⟨pt b 0,rfl,?_⟩
 refine(Oy (keep:=[]) (args:=[pt lb 0,pt eb 0]) (R:=fun en w'=>en=.returned (.tuple #[])∧w'=aj (aj w lb (cl [.pointer none] t1)) eb (cl [.iface 63 (pt b 0)] t2)) Tryz.func30 rfl rfl ?_).mono ?_
 ·rw[wu]
  unfold qy
  repeat' first|refine .x ?_|refine .y ?_|refine .z ?_|fail
  rfl
 ·rintro en u' w' ⟨rfl,rfl,rfl⟩
  refine⟨⟨_,rfl⟩,rfl,?_⟩
  have k:Kp [(lb,lb+1),(eb,eb+1)] w (aj (aj w lb (cl [.pointer none] t1)) eb (cl [.iface 63 (pt b 0)] t2)):=by exact kpA
  repeat' first|refine .x ?_|refine .y ?_|refine .z ?_|fail
  refine h _ _ k ⟨b,rfl,?_⟩
  exact(k.same b hlb ⟨by omega,by omega,trivial⟩).trans hb
def DR(n:Nat)(w2 w:World):Prop:=w2.heap.size≤w.heap.size∧∀b,n≤b→b<w2.heap.size→w.heap[b]?=w2.heap[b]?
theorem DR.kp{n:Nat}{w2 w w':World}{X:List (Nat×Nat)}(h:DR n w2 w)(k:Kp X w w')(hx:∀b,n≤b→Out X b):DR n w2 w':=
 ⟨Nat.le_trans h.1 k.size,fun b hb hl=>(k.same b (Nat.lt_of_lt_of_le hl h.1) (hx b hb)).trans (h.2 b hb hl)⟩
def Xx(w:World)(ds:List Def)(c:CS)(v:Value):Prop:=∃sb dv n w1 w2 B H ρ T,v=pt sb 0∧w.heap[sb]?=some (cl [dv,pt (B+3) 0] 71)∧Ez n w1 ds dv∧DR n w1 w∧n≤B∧CR B H ρ T w2 c∧DR n w2 w
theorem Gl.kp0{w w':World}(h:Gl w)(k:Kp [] w w'):Gl w':=h.kp k (fun _ _=>trivial)
def OA(w:World)(txt:By)(v:Value):Prop:=
 if 1200<txt.length then ∃ev,v=.tuple #[.pointer none,ev]∧ErrAt w 1 0 ev
 else match parse txt with
  |.no e a=>∃ev,v=.tuple #[.pointer none,ev]∧ErrAt w e a ev
  |.ok ds=>match compile ds with
   |.no e a=>∃ev,v=.tuple #[.pointer none,ev]∧ErrAt w e a ev
   |.ok c=>∃sv names,v=.tuple #[sv,.nilIface]∧List.Perm names (c.start.map (·.1))∧Xx w ds (kU c names) sv
theorem Vu{w:World}{txt:By}(hg:Gl w)(hf:∀ds,parse txt=.ok ds→fine ds=true)(hlen:txt.length≤140737488355328):
  Calls P JW #[κs txt] w (Ret fun v w'=>Kp [] w w'∧Gl w'∧OA w' txt v):=by
 refine Ret.R fun R hR=>?_
 refine Iq YK ?_
 unfold uS
 unfold OA at hR
 refine .s ?_
 refine .s ?_
 have k4:Kp [] w ((w.alloc (cl [.pointer none] 22)).alloc (cl [.nilIface] 24)):=by exact kpA
 have n1:((w.alloc (cl [.pointer none] 22)).alloc (cl [.nilIface] 24)).heap[w.heap.size]?=some (cl [.pointer none] 22):=by exact lookA
 have n3:((w.alloc (cl [.pointer none] 22)).alloc (cl [.nilIface] 24)).heap[w.heap.size+1]?=some (cl [.nilIface] 24):=by exact lookA
 have z4:((w.alloc (cl [.pointer none] 22)).alloc (cl [.nilIface] 24)).heap.size=w.heap.size+2:=by simp only[size_alloc]
 generalize ((w.alloc (cl [.pointer none] 22)).alloc (cl [.nilIface] 24))=w4 at *
 have hg4:=hg.kp0 k4
 have hlc:∀{w':World},Kp [] w4 w'→w'.heap[w.heap.size]?=some (cl [.pointer none] 22):=fun k=>(k.same _ (by omega) trivial).trans n1
 have hec:∀{w':World},Kp [] w4 w'→w'.heap[w.heap.size+1]?=some (cl [.nilIface] 24):=fun k=>(k.same _ (by omega) trivial).trans n3
 repeat' first|refine .x ?_|refine .y ?_|refine .z ?_|fail
 refine .split (fun hc=>?_) (fun hc=>?_)
 ·have hc':(txt.length:Int)>1200:=of_decide_eq_true hc
  simp only[if_pos (show 1200<txt.length by omega)]at hR
  repeat' first|refine .x ?_|refine .y ?_|refine .z ?_|fail
  refine(fun(Q:∀w9,Kp [(w.heap.size,w.heap.size+1),(w.heap.size+1,w.heap.size+2)] w4 w9∧w9.heap[w4.heap.size]?=some (cl [i64 1,i64 0] 65)→R (.returned (.tuple #[.pointer none,.iface 63 (pt w4.heap.size 0)])) w9)=>Q _ ⟨by exact kpA,by exact lookA⟩) ?_
  rintro w9 ⟨k9,n9⟩
  have k09:Kp [] w w9:=k4.trans k9 (fun i hi _=>⟨trivial,by omega,by omega,trivial⟩)
  exact hR _ _ ⟨k09,hg.kp0 k09,_,rfl,_,rfl,n9⟩
 ·have hc':¬ (txt.length:Int)>1200:=of_decide_eq_false hc
  simp only[if_neg (show ¬ 1200<txt.length by omega)]at hR
  refine Cl.by (XR hg4 (by omega)) ?_ ?_ ?_
  ·rintro v w1 ⟨k1,h2⟩
   cases hp:parse txt with
   |no e a=>rw[hp]at h2;obtain⟨_,hv,_⟩:=h2;cases hv
   |ok ds=>
    rw[hp]at h2
    simp only[hp]at hR
    obtain⟨dv,hv,hg1,hds⟩:=h2
    cases hv
    refine Cl.by (Uu hg1 hds (hf ds hp)) ?_ ?_ ?_
    ·rintro v w2 ⟨k2,h3⟩
     cases hcm:compile ds with
     |no e a=>rw[hcm]at h3;obtain⟨_,hv,_⟩:=h3;cases hv
     |ok c=>
      rw[hcm]at h3
      simp only[hcm]at hR
      obtain⟨cv,hv,hg2,names,hperm,hcode⟩:=h3
      cases hv
      have k42:=k1.tt k2
      have z2:=k42.size
      have hl1:=hlc k42
      have he1:=hec k42
      obtain⟨H',l',o',q1,q2,q3,q4,q5⟩:=hds
      have q4:=q4
      obtain⟨da,dc,rfl⟩:=q4.len
      obtain⟨B,Hc,ρ,Tc,r1,rfl,r3⟩:=hcode
      repeat' first|refine .x ?_|refine .y ?_|refine .z ?_|fail
      refine(fun(Q:∀w9,Kp [(w.heap.size,w.heap.size+1),(w.heap.size+1,w.heap.size+2)] w2 w9∧w9.heap[w2.heap.size]?=some (cl [.slice da ds.length dc,pt (B+3) 0] 71)→R (.returned (.tuple #[pt w2.heap.size 0,.nilIface])) w9)=>Q _ ⟨by exact kpA,by exact lookA⟩) ?_
      rintro w9 ⟨k9,n9⟩
      have k09:Kp [] w w9:=(k4.tt k42).trans k9 (fun i hi _=>⟨trivial,by omega,by omega,trivial⟩)
      have o1:DR w4.heap.size w1 w9:=(show DR w4.heap.size w1 w2 from ⟨k2.size,fun b _ hl=>k2.same b hl trivial⟩).kp k9 (fun b hb=>⟨by omega,by omega,trivial⟩)
      have o2:DR w4.heap.size w2 w9:=(show DR w4.heap.size w2 w2 from ⟨Nat.le_refl _,fun b _ _=>rfl⟩).kp k9 (fun b hb=>⟨by omega,by omega,trivial⟩)
      exact hR _ _ ⟨k09,hg.kp0 k09,_,names,rfl,hperm,w2.heap.size,_,w4.heap.size,w1,w2,B,Hc,ρ,Tc,rfl,n9,⟨H',l',o',q1,q2,q3,q4,q5⟩,o1,by have:=k1.size;omega,r3,o2⟩
    ·rintro ch w2 ⟨k2,h3⟩
     cases hcm:compile ds with
     |ok c=>rw[hcm]at h3;obtain⟨_,hv,_⟩:=h3;cases hv
     |no e a=>
      rw[hcm]at h3
      simp only[hcm]at hR
      obtain⟨ch',hv,hF⟩:=h3
      cases hv
      refine ZM hF (hlc (k1.tt k2)) (hec (k1.tt k2)) (by omega) ?_
      intro v w3 k3 hE
      have k03:Kp [] w w3:=(k4.tt (k1.tt k2)).trans k3 (fun i hi _=>⟨trivial,by omega,by omega,trivial⟩)
      exact hR _ _ ⟨k03,hg.kp0 k03,v,rfl,hE⟩
    ·rintro w2 ⟨k2,h3⟩
     cases hcm:compile ds with
     |ok c=>rw[hcm]at h3;obtain⟨_,hv,_⟩:=h3;cases hv
     |no e a=>rw[hcm]at h3;obtain⟨_,hv,_⟩:=h3;cases hv
  ·rintro ch w1 ⟨k1,h2⟩
   cases hp:parse txt with
   |ok ds=>rw[hp]at h2;obtain⟨_,hv,_⟩:=h2;cases hv
   |no e a=>
    rw[hp]at h2
    simp only[hp]at hR
    obtain⟨ch',hv,hF⟩:=h2
    cases hv
    refine ZM hF (hlc k1) (hec k1) (by omega) ?_
    intro v w3 k3 hE
    have k03:Kp [] w w3:=(k4.tt k1).trans k3 (fun i hi _=>⟨trivial,by omega,by omega,trivial⟩)
    exact hR _ _ ⟨k03,hg.kp0 k03,v,rfl,hE⟩
  ·rintro w1 ⟨k1,h2⟩
   cases hp:parse txt with
   |ok ds=>rw[hp]at h2;obtain⟨_,hv,_⟩:=h2;cases hv
   |no e a=>rw[hp]at h2;obtain⟨_,hv,_⟩:=h2;cases hv
end Go.W.T
namespace Go.W.T
open Go Go.W Go.M Go.Proofs
end Go.W.T
namespace Go.W
open Go
theorem En.a{ng:Bool}{b o:Nat}{K:Value→Prop}(hK:K (.bool ng)):En .ptr ng (pt b o) K:=En.s (b:=false) (by cases ng<;>exact hK) rfl
abbrev En.x:=@En.a
theorem En.d{ng:Bool}{t:TypeId}{v:Value}{K:Value→Prop}(hK:K (.bool ng)):En .ifc ng (.iface t v) K:=En.s (b:=false) (by cases ng<;>exact hK) rfl
abbrev En.y:=@En.d
theorem En.t{ng:Bool}{K:Value→Prop}(hK:K (.bool !ng)):En .ifc ng .nilIface K:=En.s (b:=true) (by cases ng<;>exact hK) rfl
end Go.W
namespace Go.W.T
open Go Go.W Go.M Go.Proofs
end Go.W.T
namespace Go.W.T
open Go Go.W Go.M Go.Proofs
def Law(w:World):Ending→World→Prop:=fun en w'=>en=.returned (.bool true)∧Kp [] w w'
theorem Law.R{f:FuncId}{args:Array Value}{w:World}(h:∀R:Ending→World→Prop,(∀b w',b=true→Kp [] w w'→R (.returned (.bool b)) w')→Calls P f args w R):Calls P f args w (Law w):=h _ fun b w' hb hk=>⟨by rw[hb],hk⟩
end Go.W.T
namespace Go.W.T
open Go Go.W Go.M Go.Proofs
end Go.W.T
namespace Go.W.T
open Go Go.W Go.M Go.Proofs
end Go.W.T

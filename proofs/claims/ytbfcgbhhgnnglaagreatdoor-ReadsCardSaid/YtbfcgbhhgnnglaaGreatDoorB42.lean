/- Texts of mine, one behind the other; nothing is assumed. -/
import Derived.Test.YtbfcgbhhgnnglaaGreatDoorB26
import Derived.Test.YtbfcgbhhgnnglaaGreatDoorB41
set_option linter.unusedSimpArgs false
set_option linter.unusedVariables false
set_option maxRecDepth 100000
namespace Go.Proofs.YtbfcgbhhgnnglaaGreatDoor
open Go.ChangeShapes Go.WideShapes Go.ChangeAt Go.RowKit Go.Lib Go.ChangeMaps Go.Deep
variable {H:Type} {enc:TypeId×Value->H} {W:World}
theorem Q4{x:Int}(h:(Lit.int .i64 x).wf=true):Go.W.T.I6 x:=by
 have : -9223372036854775808<=x/\x<=9223372036854775807:=by simpa [Lit.wf,IntKind.min,IntKind.max,IntKind.signed,IntKind.bits] using h
 exact this
theorem c79:Tryz.prog.cellsOf 27=6:=by kernel_rfl
theorem abH{n:Nat}{cs:List Value}{x:DataW H×List MemPlace}(h:DataW.trod enc Tryz.prog W 0 (λ_=>true) true n 27 cs=some x):
  ∃nd:Go.W.T.OpR,cs=Go.W.T.opV nd/\Go.W.T.OpI nd/\∃y0 y1 y2 y3 y4,x.1=.agg [y0,y1,y2,y3,y4,.lit (.string nd.s)]:=by
 obtain⟨xs,n',rfl,rfl,hlen,hxl,hf⟩:=DataW.trod_struct Tryz.underlying27 h;rw[c79]at hlen
 match cs,hlen,xs,hxl with
 |[x0,x1,x2,x3,x4,x5],_,[z0,z1,z2,z3,z4,z5],_=>
  have g0:=hf 0 _ rfl;have g1:=hf 1 _ rfl;have g2:=hf 2 _ rfl;have g3:=hf 3 _ rfl;have g4:=hf 4 _ rfl;have g5:=hf 5 _ rfl;simp only[c3,c9,List.drop_zero,List.drop_succ_cons,List.take_succ_cons,List.take_zero,List.getElem?_cons_zero,List.getElem?_cons_succ]at g0 g1 g2 g3 g4 g5;obtain⟨a0,e0,_,w0⟩:=DataW.trod_int Tryz.underlying3 g0;obtain⟨a1,e1,_,w1⟩:=DataW.trod_int Tryz.underlying3 g1;obtain⟨a2,e2,_,w2⟩:=DataW.trod_int Tryz.underlying3 g2;obtain⟨a3,e3,_,w3⟩:=DataW.trod_int Tryz.underlying3 g3;obtain⟨a4,e4,_,w4⟩:=DataW.trod_int Tryz.underlying3 g4;obtain⟨s5,e5,d5,w5⟩:=DataW.trod_string Tryz.underlying9 g5;obtain rfl:x0=.int .i64 a0:=by simpa [c3] using e0
  obtain rfl:x1=.int .i64 a1:=by simpa [c3] using e1
  obtain rfl:x2=.int .i64 a2:=by simpa [c3] using e2
  obtain rfl:x3=.int .i64 a3:=by simpa [c3] using e3
  obtain rfl:x4=.int .i64 a4:=by simpa [c3] using e4
  obtain rfl:x5=.string s5:=by simpa [c9] using e5
  refine⟨⟨a0,a1,a2,a3,a4,s5.data.toList⟩,?_,⟨Q4 w0,Q4 w1,Q4 w2,Q4 w3,Q4 w4⟩,z0.1,z1.1,z2.1,z3.1,z4.1,?_⟩
  .unfold Go.W.T.opV;rw[show Go.W.κs s5.data.toList=.string s5 from congrArg Value.string (Go.W.acQ s5)]
  .rw[d5];rfl
theorem Zf{v:Value}{d:DataW H}{ps:List MemPlace}{r:Reach}{b0:Nat}(h:DataW.Trod enc Tryz.prog W 0 (λ_=>true) true 22 v d ps)(hv:Value.okWide Tryz.prog W r b0 22 v)(hw:(d.weights Tryz.prog 22).all (·<=reachBytes)=true):
  ∃l:List Go.W.T.OpR,Go.W.T.uT W v l/\(∀n∈l,n.s.length<=140737488355328)/\(∀n∈l,Go.W.T.OpI n)/\l.length<=140737488355328:=by
 obtain⟨fuel,hf⟩:=h;obtain⟨va,vl,vc,rfl⟩:=okWide_slice Tryz.underlying22 hv;rcases open_slice Tryz.underlying22 hf with⟨h0,_⟩|⟨a,len,cap,m,n,D,Pl,hcs,_,hlc,hcm,hm,hx,hi⟩
 .have:Value.slice va vl vc=.slice none 0 0:=by simpa [Value.cells] using h0
  cases this;exact⟨[],⟨_,_,rfl,λi o hi=>by cases hi⟩,λn hn=>by(cases hn),λn hn=>by(cases hn),Nat.zero_le _⟩
 .have:Value.slice va vl vc=.slice (some a) len cap:=by simpa [Value.cells] using hcs
  injection this with e1 e2 e3
  subst e1;subst e2;subst e3;simp only[if_true]at hm;subst hm;rw[c79]at hx hi;simp only[Prod.mk.injEq]at hx;have hd:=hx.1;subst hd;rw[List.all_eq_true]at hw;simp only[DataW.weights,Tryz.underlying22]at hw;have hex:∀i,i<vl->∃nd:Go.W.T.OpR,W.cells? 0 (a.add (i*6)) 6=some (Go.W.T.opV nd)/\Go.W.T.OpI nd/\nd.s.length<=reachBytes:=by
   intro i hil;obtain⟨cs',g1,g2⟩:=hi i (by omega);obtain⟨nd,rfl,g3,y0,y1,y2,y3,y4,g4⟩:=abH g2;refine⟨nd,g1,g3,?_⟩;simp only at g4;have hmem:D i∈(List.range vl).map D:=List.mem_map.mpr ⟨i,List.mem_range.mpr hil,rfl⟩;have:=hw nd.s.length (List.mem_cons_of_mem _ (List.mem_append_left _ (KF hmem _ ?_)))
   .simpa using this
   .rw[g4];simp only[DataW.weights,Tryz.underlying27,List.map_cons,List.map_nil,DataW.weightsEach];simp
  let N:Nat->Go.W.T.OpR:=λi=>if hil:i<vl then Classical.choose (hex i hil)else⟨0,0,0,0,0,[]⟩
  have hN:∀i,i<vl->W.cells? 0 (a.add (i*6)) 6=some (Go.W.T.opV (N i))/\Go.W.T.OpI (N i)/\(N i).s.length<=reachBytes:=by
   intro i hil;have:=Classical.choose_spec (hex i hil);simp only[N,dif_pos hil];exact this
  clear_value N
  have hwl:=hw ((((List.range vl).map D).length+((List.range (m - vl)).map λj=>D (vl+j)).length)*Tryz.prog.bytesOf 27) (List.mem_cons_self ..);have hb79:Tryz.prog.bytesOf 27=56:=by kernel_rfl
  rw[hb79]at hwl;simp only[List.length_map,List.length_range,decide_eq_true_eq,reachBytes]at hwl;refine⟨(List.range vl).map N,⟨some a,m,by simp,λi o hio=>?_⟩,?_,?_,?_⟩
  .have hil:i<vl:=by
    have:=(List.getElem?_eq_some_iff.mp hio).1;simpa using this
   have ho:N i=o:=by
    rw[List.getElem?_map,List.getElem?_range hil]at hio;exact Option.some.inj hio
   have c0:=(hN 0 (by omega)).1;rw[Nat.zero_mul]at c0;obtain⟨_,_,hat⟩:=World.cells?_some c0;have Oh:=hat 0 (by omega);have ha0:(a.add 0).add 0=a:=by simp[Addr.add]
   rw[ha0]at Oh;have hsp:a.spot=none:=by
    unfold World.cell? at Oh;split at Oh
    .split at Oh
     .simp[Go.W.T.opV]at Oh
     .rename_i hs;simpa using hs
    .simp[Go.W.T.opV]at Oh
   obtain⟨ab,ao,asp⟩:=a;simp only at hsp;subst hsp;obtain⟨c,t,fr,hblk⟩:∃c t fr,W.heap[ab]?=some (.cells c t fr):=by
    unfold World.cell? at Oh;split at Oh
    .rename_i c t fr hb;exact⟨c,t,fr,hb⟩
    .simp[Go.W.T.opV]at Oh
   have cell:∀j u,(Go.W.T.opV (N i))[j]?=some u->c.toList[(ao+i*6)+j]?=some u:=by
    intro j u hu;have hj:j<6:=(List.getElem?_eq_some_iff.mp hu).1;obtain⟨_,hl,hat⟩:=World.cells?_some (hN i hil).1;have:=hat j hj;have e:(Addr.add (Addr.add ⟨ab,ao,none⟩ (i*6)) j)=⟨ab,ao+i*6+j,none⟩:=by
     rw[Go.W.add_eq,Go.W.add_eq]
    rw[e]at this;unfold World.cell? at this;simp only[hblk]at this;rw[hu]at this;rw[Array.getElem?_toList];simpa using this
   have hc:=Go.W.T.aaB (l:=c.toList) (v:=Go.W.T.opV (N i)) (m:=6) (o:=ao+i*6) rfl (by omega) cell;exact⟨ab,ao,t,fr,c.toList,rfl,hblk,by have:=hc.2;omega,by rw[<- ho];exact hc.1⟩
  .intro n hn;obtain⟨i,hi1,rfl⟩:=List.mem_map.mp hn;have:=(hN i (List.mem_range.mp hi1)).2.2;simp only[reachBytes]at this;omega
  .intro n hn;obtain⟨i,hi1,rfl⟩:=List.mem_map.mp hn;exact(hN i (List.mem_range.mp hi1)).2.1
  .simp only[List.length_map,List.length_range];omega
end Go.Proofs.YtbfcgbhhgnnglaaGreatDoor

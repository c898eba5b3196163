/- Texts of mine, one behind the other; nothing is assumed. -/
import Derived.Test.YtbfcgbhhgnnglaaGreatDoorB39
import Derived.Laws.OwnMore
import Derived.Test.YtbfcgbhhgnnglaaGreatDoorB28
import Derived.Test.YtbfcgbhhgnnglaaGreatDoorB08
import Derived.Test.YtbfcgbhhgnnglaaGreatDoorB30
import Derived.Test.YtbfcgbhhgnnglaaGreatDoorB33
set_option autoImplicit true
set_option relaxedAutoImplicit true
set_option linter.unusedSimpArgs false
set_option linter.unusedVariables false
set_option maxRecDepth 100000
namespace Go.W.T
open Go Go.W Go.M Go.Proofs
section
variable {B M pb:Nat} {w:World} {p:RS}
theorem YA(h:Sz p n):Sz { p with types:=p.types+1 } (n+1):=by
 obtain⟨a,b,c,d,e,f,g,h,i⟩:=h;exact⟨by show p.rows.length<=_;omega,by show p.names.length<=_;omega,by show 0<=p.consts/\p.consts<=_;omega,by show 0<=p.types+1/\p.types+1<=_;omega,by show p.aj.length<=_;omega,by show p.procs.length<=_;omega,by show p.out.length<=_;omega,⟨h.len,h.en0,h.en1,h.we⟩,i⟩
theorem NQ(h:QS B M pb w p)(hv:Nv p)(hs:Sz p n)(hn:n<=79000):Calls P 41 #[pt pb 0] w (Ret λv w'=>v=.tuple #[]/\QD B pb w (bQ p) w'/\Sz (bQ p) (n+301)):=by
 refine Ret.R λR hR=>?_;refine cf [] Tryz.func41 ?_;have hR:∀w',QD B pb w (bQ p) w'/\Sz (bQ p) (n+301)->R (.returned (.tuple #[])) w':=λw' t=>hR _ _ ⟨rfl,t⟩;unfold bQ at hR;refine Cl.ret (rF h 2 [99,111,110,115,116]) ?_;rintro _ w2 ⟨rfl,rfl⟩;refine Cl.ret (rF h 2 [112,114,111,103,114,97,109]) ?_;rintro _ w4 ⟨rfl,rfl⟩;cases h1:is_ p 2 [99,111,110,115,116]with
 |true=>
  rw[h1,if_pos rfl]at hR;refine .t ?_;refine Cl.ret (TL h hs omg) ?_;rintro _ w' ⟨rfl,⟨t,k⟩,s⟩;exact hR _ ⟨⟨t.up,Ql.of k⟩,s.mono omg⟩
 |false=>
  rw[h1,if_neg smp]at hR;refine .f ?_;cases h2:is_ p 2 [112,114,111,103,114,97,109]with
  |true=>
   rw[h2,if_pos rfl]at hR;refine .t ?_;refine Cl.ret (WZ h hs omg) ?_;rintro _ w' ⟨rfl,t,s⟩;exact hR _ ⟨t,s.mono omg⟩
  |false=>
   rw[h2,if_neg smp]at hR;simp only at hR;refine .f ?_;obtain⟨x,hx⟩:=id h;have hp:=hx.hp;unfold aN at hp;have hlt:=lt_of_heap hp;have bad:(p.w.kind != 2||(p.w.s != [116,121,112,101,100,101,102]&&p.w.s != [101,110,117,109]&&p.w.s != [115,116,114,117,99,116]&&p.w.s != [117,110,105,111,110]))=true->Cl P 74 #[pt pb 0] w4 (pE R) λx68 w69=>R (.returned (.tuple #[])) w69:=λhb=>by
    rw[hb,if_pos rfl]at hR;refine Cl.ret (Au h) ?_;rintro _ w' ⟨rfl,t,k⟩;exact hR _ ⟨⟨t.up,Ql.of k⟩,(YD hs).mono omg⟩
   cases hk:p.w.kind != 2 with
   |true=>
    refine gg ?_;exact bad (by rw[hk];rfl)
   |false=>
    refine gg ?_;rw[hk]
    have rest:(p.w.s != [116,121,112,101,100,101,102]&&p.w.s != [101,110,117,109]&&p.w.s != [115,116,114,117,99,116]&&p.w.s != [117,110,105,111,110])=false->Cl P 75 #[pt pb 0,.int .i64 p.types,.int .i64 24] w4 (pE R) λx73 w74=>
      Nk (pt pb 0) λx75=>Fa x75 14 λx76=>Ld x76 w74 λx77=>Bi .add x77 (.int .i64 1) λx78=>Nk (pt pb 0) λx79=>Fa x79 14 λx80=>St x80 x78 w74 λw81=>
      Bs .eql (κs p.w.s) (.string ⟨#[116,121,112,101,100,101,102]⟩) λx82=>If x82 (Cl P 76 #[pt pb 0] w81 (pE R) λx83 w84=>R (.returned (.tuple #[])) w84) (
      Bs .eql (κs p.w.s) (.string ⟨#[101,110,117,109]⟩) λx85=>If x85 (Cl P 77 #[pt pb 0] w81 (pE R) λx86 w87=>R (.returned (.tuple #[])) w87) (
      Bs .eql (κs p.w.s) (.string ⟨#[115,116,114,117,99,116]⟩) λx88=>If x88 (Cl P 78 #[pt pb 0] w81 (pE R) λx89 w90=>R (.returned (.tuple #[])) w90) (
      Bs .eql (κs p.w.s) (.string ⟨#[117,110,105,111,110]⟩) λx91=>If x91 (Cl P 79 #[pt pb 0] w81 (pE R) λx92 w93=>R (.returned (.tuple #[])) w93) (R (.returned (.tuple #[])) w81)))):=by
     intro hz;rw[hk,hz,if_neg smp]at hR;clear bad;refine Cl.ret (wV h p.types 24) ?_;rintro _ w74 ⟨rfl,t74,q74⟩;have s74:=uw hs p.types 24;have v74:=(rG hv p.types 24).nv;generalize aG p p.types 24=p74 at *;have s81:=YA s74;have v81:Nv { p74 with types:=p74.types+1 }:=(v74.same (q:={ p74 with types:=p74.types+1 }) rfl rfl).nv;obtain⟨x7,hx7⟩:=t74;have hp7:=hx7.hp;unfold aN at hp7;have hl7:=lt_of_heap hp7;have tb:=s74.types;refine gg ?_;have k81:Kp [(pb,pb+1)] w74 (ag w74 pb (cl (aN { p74 with types:=p74.types+1 } x7) 112)):=by exact kpA
     have hp81:(ag w74 pb (cl (aN { p74 with types:=p74.types+1 } x7) 112)).heap[pb]?=some (cl (aN { p74 with types:=p74.types+1 } x7) 112):=by exact lookA
     unfold aN at k81 hp81;generalize ag w74 pb (cl [κs p74.txt,.int .i64 p74.w.kind,κs p74.w.s,.int .i64 p74.w.at_,.int .i64 p74.w.en,.int .i64 p74.w.n,.int .i64 p74.w.e,x7.rv,x7.nv,x7.pv,κs p74.out,.int .i64 p74.e,.int .i64 p74.at_,.int .i64 p74.consts,.int .i64 (p74.types+1),x7.gv] 112)=w81 at *;obtain⟨h81,q81⟩:=hx7.put (p':={ p74 with types:=p74.types+1 }) k81 hp81 rfl rfl rfl rfl ⟨hx7.ok.len,hx7.ok.en0,hx7.ok.en1,hx7.ok.we⟩ hx7.tl;have t81:QS B M pb w81 { p74 with types:=p74.types+1 }:=⟨x7,h81⟩;have Qb:Ql B w4 w81:=Ql.of (q74.trans q81);generalize ({ p74 with types:=p74.types+1 }:RS)=p81 at *;cases ht:p.w.s==[116,121,112,101,100,101,102]with
     |true=>
      rw[ht,if_pos rfl]at hR;refine gg ?_;refine Cl.ret (WX t81 s81 omg) ?_;rintro _ w' ⟨rfl,⟨t,k⟩,sf⟩;exact hR _ ⟨⟨t.up,Qb.trans (Ql.of k)⟩,sf.mono omg⟩
     |false=>
      rw[ht,if_neg smp]at hR;cases he:p.w.s==[101,110,117,109]with
      |true=>
       rw[he,if_pos rfl]at hR;refine gg ?_;refine Cl.ret (J6 t81 s81 omg) ?_;rintro _ w' ⟨rfl,⟨t,k⟩,sf⟩;exact hR _ ⟨⟨t,Qb.trans (Ql.of k)⟩,sf.mono omg⟩
      |false=>
       rw[he,if_neg smp]at hR;cases hst:p.w.s==[115,116,114,117,99,116]with
       |true=>
        rw[hst,if_pos rfl]at hR;refine gg ?_;refine Cl.ret (P9 t81 s81 omg) ?_;rintro _ w' ⟨rfl,⟨t,k⟩,sf⟩;exact hR _ ⟨⟨t,Qb.trans (Ql.of k)⟩,sf.mono omg⟩
       |false=>
        rw[hst,if_neg smp]at hR;cases hu:p.w.s==[117,110,105,111,110]with
        |true=>
         refine gg ?_;refine Cl.ret (abv t81 v81 s81 omg) ?_;rintro _ w' ⟨rfl,⟨t,k⟩,sf⟩;exact hR _ ⟨⟨t,Qb.trans (Ql.of k)⟩,sf.mono omg⟩
        |false=>
         exfalso;unfold bne at hz;rw[ht,he,hst,hu]at hz;cases hz
    cases ht:p.w.s==[116,121,112,101,100,101,102]with
    |true=>
     have nht:(!(p.w.s==[116,121,112,101,100,101,102]))=false:=by rw[ht];rfl
     refine gg ?_;exact rest (by unfold bne;rw[ht];rfl)
    |false=>
     have nht:(!(p.w.s==[116,121,112,101,100,101,102]))=true:=by rw[ht];rfl
     cases he:p.w.s==[101,110,117,109]with
     |true=>
      have nhe:(!(p.w.s==[101,110,117,109]))=false:=by rw[he];rfl
      refine gg ?_;exact rest (by unfold bne;rw[ht,he];rfl)
     |false=>
      have nhe:(!(p.w.s==[101,110,117,109]))=true:=by rw[he];rfl
      cases hst:p.w.s==[115,116,114,117,99,116]with
      |true=>
       have nhst:(!(p.w.s==[115,116,114,117,99,116]))=false:=by rw[hst];rfl
       refine gg ?_;exact rest (by unfold bne;rw[ht,he,hst];rfl)
      |false=>
       have nhst:(!(p.w.s==[115,116,114,117,99,116]))=true:=by rw[hst];rfl
       cases hu:p.w.s==[117,110,105,111,110]with
       |true=>
        have nhu:(!(p.w.s==[117,110,105,111,110]))=false:=by rw[hu];rfl
        refine gg ?_;exact rest (by unfold bne;rw[ht,he,hst,hu];rfl)
       |false=>
        have nhu:(!(p.w.s==[117,110,105,111,110]))=true:=by rw[hu];rfl
        refine gg ?_;exact bad (by unfold bne;rw[ht,he,hst,hu,show (p.w.kind==2)=true by unfold bne at hk;simpa using hk];rfl)
end
end Go.W.T
namespace Go.W.T
open Go Go.W Go.M Go.Proofs
section
variable {B M pb:Nat} {w:World} {p:RS}
theorem PZ:∀{l:List eU} {c:List Value} {i:Nat},eQ M w l c->i<l.length->eQ M w (l.modify i λr=>{ r with of:=v }) (c.set (i*8+2) (.int .i64 v))
 |[],c,i,h,hi=>by simp at hi
 |a::l,c,0,⟨nv,pv,rest,h1,h2,h3,h4⟩,hi=>by
  refine⟨nv,pv,rest,?_,h2,h3,h4⟩;rw[h1];rfl
 |a::l,c,i+1,⟨nv,pv,rest,h1,h2,h3,h4⟩,hi=>by
  refine⟨nv,pv,rest.set (i*8+2) (.int .i64 v),?_,h2,h3,PZ h4 (by simpa using hi)⟩;have e:(nR a nv pv).length=8:=rfl;rw[h1,List.set_append_right _ _ (by rw[e,Nat.succ_mul];omega),e,show (i+1)*8+2 - 8=i*8+2 by rw[Nat.succ_mul];omega]
theorem abL(h:Off b c):Off b (c.set j (.int .i64 n)):=λv hv=>by
 rcases List.mem_or_eq_of_mem_set hv with h1|h1
 .exact h v h1
 .subst h1;intro a n k e;cases e
theorem QXG.setRow(h:QX B M pb w p x)(ho:x.o1=some b)(hi:i<p.rows.length)(k:Kp [(b,b+1)] w w')(hb:w.heap[b]?=some (cl (x.rc++rest) 115))(hv:x.rv=.slice (some ⟨b,0,none⟩) p.rows.length cap)(hc:x.rc.length+rest.length=cap*8)
  (hb':w'.heap[b]?=some (cl (x.rc.set (i*8+2) (.int .i64 v)++rest) 115)):QX B M pb w' { p with rows:=p.rows.modify i λr=>{ r with of:=v } } { x with rc:=x.rc.set (i*8+2) (.int .i64 v) }/\Qk B w w':=by
 have q:Qk B w w':=Qk.out hb (h.b1 b ho) (Or.inr (Or.inl rfl)) k
 have hne:∀{e:TypeId} {m:Nat} {v:Value} {n:Nat} {l:List Value} {o:Option Nat},Gw w e m v n l o->e≠115->Gw w' e m v n l o:=λhg hne=>hg.kp k λc hc=>⟨by
  have:c≠b:=λe=>fP hg hb hne (hc.trans (by rw[e]))
  omega,trivial⟩
 have hpb:pb≠b:=by
  rintro rfl;have:=h.hp;rw[hb]at this;exact absurd (AZ (Option.some.inj this)) dcd
 have hl:x.rc.length=p.rows.length*8:=CX h.rat;refine⟨⟨(k.same _ (lt_of_heap h.hp) ⟨omg,trivial⟩).trans h.hp,?_,PZ (h.rat.kt q) hi,hne h.names dcd,hne h.procs dcd,hne h.aj dcd,h.b0,h.b1,h.b2,h.b3,h.b4,h.m3,h.m4,λb hb=>abL (h.d4 b hb),trivial,⟨h.ok.len,h.ok.en0,h.ok.en1,h.ok.we⟩,h.tl⟩,q⟩;show Gw w' 115 8 x.rv (p.rows.modify i λr=>{ r with of:=v }).length (x.rc.set (i*8+2) (.int .i64 v)) x.o1;rw[List.length_modify,ho];exact⟨by rw[List.length_set];exact hl,rest,cap,hv,hb',by rw[List.length_set];exact hc⟩
theorem WY(h:QS B M pb w p)(hl:p.names.length<=1000000)(hr:p.rows.length<=1000000):Calls P 42 #[pt pb 0] w (Ret λv w'=>v=.tuple #[]/\QT B M pb w (iL p) w'):=by
 refine Ret.R λR hR=>?_;refine cf [2] Tryz.func42 ?_;have hR:∀w',QT B M pb w (iL p) w'->R (.returned (.tuple #[])) w':=λw' t=>hR _ _ ⟨rfl,t⟩;refine Lp.nat (λm vals w'=>∃(i:Nat) (q:RS),vals=[i64 i]/\m+i=p.rows.length/\q.rows.length=p.rows.length/\q.names=p.names/\iL p=bI m i q/\QS B M pb w' q/\Qk B w w') (n:=p.rows.length) ⟨0,p,rfl,omg,rfl,rfl,rfl,h,Qk.refl _ _⟩ ?_;rintro m _ w2 jk C ⟨i,q,rfl,hm,hql,hqn,hx,t,k2⟩ hC;obtain⟨x,hx2⟩:=id t;have hp:=hx2.hp;unfold aN at hp;have hlt0:=lt_of_heap hp;obtain⟨ra,rc,hrv⟩:=hx2.rows.len;rw[hrv]at hp;refine gg ?_;refine .split (λhh=>?_) (λhh=>?_)
 .have hlt:i<q.rows.length:=by have:=of_decide_eq_true hh;omega
  obtain⟨k,rfl⟩:∃k,m=k+1:=⟨m - 1,omg⟩;rw[bI]at hx;obtain⟨b1,nZ,cap1,nv,pv,ho1,hv1,hb1,hin,hip,hc1⟩:=EK hx2 (pX hlt);have hv1':=hv1;rw[hrv]at hv1;cases hv1;have c0:=hc1 0 _ rfl;have c6:=hc1 6 _ rfl;have c7:=hc1 7 _ rfl;refine Jn.by (λvals w'=>∃q',vals=[]/\iL p=bI k (i+1) q'/\QT B M pb w2 q' w'/\q'.rows.length=q.rows.length/\q'.names=q.names) (λJ hJ=>?_) ?_
  .cases hk:(Go.M.rowAt q.rows (i:Nat)).kind==14 with
   |false=>
    rw[hk,if_neg smp]at hx;refine gg ?_;exact hJ _ _ ⟨q,rfl,hx,⟨t,Qk.refl _ _⟩,rfl,rfl⟩
   |true=>
    rw[hk,if_pos rfl]at hx;obtain⟨na,nc,hnv⟩:=hx2.names.len;rw[hnv]at hp;have ja:=hx2.names;rw[hnv]at ja;refine gg ?_;refine Cl.w (λw9=>w9=w2.drew) rfl ?_;rintro _ rfl;have k32:Kp [] w2 w2.drew:=by exact kpA
    have t32:=t.ext k32;have hx32:=hx2.ext k32;have q32:Qk B w2 w2.drew:=Qk.kp k32;have hn32:=ja.kp k32 λ_ _=>trivial;refine Cl.ret (Bz hn32 (Go.M.rowAt q.rows (i:Nat)).name (by rw[hqn];exact hl)) ?_;rintro _ w32 ⟨rfl,rfl⟩;have fl:iL p=aK q 7 (Go.M.rowAt q.rows (i:Nat)).at_->Cl P 44 #[pt pb 0,.int .i64 7,.int .i64 (Go.M.rowAt q.rows (i:Nat)).at_] w2.drew (pE R) λx80 w81=>R (.returned (.tuple #[])) w81:=λe=>by
     refine Cl.ret (kZ t32 7 _) ?_;rintro _ w' ⟨rfl,t,k⟩;exact hR _ (by rw[e];exact⟨t,k2.trans (q32.trans k)⟩)
    cases hn:nix (Go.M.rowAt q.rows (i:Nat)).name q.names with
    |none=>
     have en:oD (Go.M.rowAt q.rows (i:Nat)).name q.names = -1:=by unfold oD;rw[hn]
     simp only[hn]at hx;rw[en];refine gg ?_;exact fl hx
    |some j=>
     have en:oD (Go.M.rowAt q.rows (i:Nat)).name q.names=((j:Nat):Int):=by unfold oD;rw[hn]
     simp only[hn]at hx;rw[en];have hjl:=EP hn;obtain⟨b2,uz,cap2,ho2,hv2,hb2,hc2⟩:=uK qV ja (qg hjl);cases hv2;have d1:=hc2 1 _ rfl;have d2:=hc2 2 _ rfl;have d0:decide (((j:Nat):Int)<0)=false:=decide_eq_false omg;cases hw:(cO q.names j).what != 1 with
     |true=>
      rw[hw,if_pos rfl]at hx;refine gg ?_;exact fl hx
     |false=>
      rw[hw,if_neg smp]at hx;have hcl:x.rc.length=q.rows.length*8:=CX hx2.rat;have hset:(x.rc++nZ).take (0+i*8+2)++[.int .i64 (cO q.names j).n]++(x.rc++nZ).drop (0+i*8+2+1)=x.rc.set (i*8+2) (.int .i64 (cO q.names j).n)++nZ:=by
       rw[Nat.zero_add,CQ (by rw[List.length_append];omega),List.set_append_left _ _ omg]
      have hc8:x.rc.length+nZ.length=rc*8:=by
       obtain⟨_,g⟩:=hx2.rows;rw[ho1]at g;obtain⟨r2,c2,e1,e2,e3⟩:=g;rw[hv1']at e1;cases e1;rw[hb1]at e2;have:r2=nZ:=(List.append_cancel_left (congrArg Array.toList (by simpa only[cl,Option.some.injEq,Obj.cells.injEq,and_true,true_and] using e2))).symm;rw[<- this];exact e3
      refine gg ?_;refine St.s ?_ (w:=w2.drew.drew) hb1 rfl (by rw[List.length_append];omega) hset;have hbl:=lt_of_heap hb1;have k95:Kp [(b1,b1+1)] w2 (ag w2.drew.drew b1 (cl (x.rc.set (i*8+2) (.int .i64 (cO q.names j).n)++nZ) 115)):=by exact kpA
      have hb95:(ag w2.drew.drew b1 (cl (x.rc.set (i*8+2) (.int .i64 (cO q.names j).n)++nZ) 115)).heap[b1]?=some (cl (x.rc.set (i*8+2) (.int .i64 (cO q.names j).n)++nZ) 115):=by exact lookA
      obtain⟨h95,q95⟩:=hx2.setRow ho1 hlt k95 hb1 hv1' hc8 hb95;exact hJ _ _ ⟨_,rfl,hx,⟨⟨_,h95⟩,q95⟩,List.length_modify ..,rfl⟩
  .rintro _ w96 jk2 ⟨q',rfl,hx',⟨t',k'⟩,hl',hn'⟩;refine gg ?_;exact hC k _ _ omg ⟨i+1,q',smp,omg,omg,hn'.trans hqn,hx',t',k2.trans k'⟩
 .have hge:¬ i<q.rows.length:=by have:=of_decide_eq_false hh;omega
  obtain rfl:m=0:=omg;rw[bI]at hx;exact hR _ (by rw[hx];exact⟨t,k2⟩)
end
end Go.W.T
namespace Go.W.T
open Go Go.W Go.M Go.Proofs
section
variable {B M pb:Nat} {w:World} {p:RS}
def SA(M:Nat)(w:World)(rows:List eU)(rv:Value):Prop:=∃rc o,Gw w 115 8 rv rows.length rc o/\eQ M w rows rc
theorem SA.ext(h:SA M w rows rv)(k:Kp [] w w'):SA M w' rows rv:=by
 obtain⟨rc,o,g,r⟩:=h;exact⟨rc,o,g.kp k λ_ _=>trivial,r.kt (B:=0) (Qk.kp k)⟩
theorem SA.cell(h:SA M w rows rv)(hi:rows[i]?=some r):
  ∃b rc cap nv pv,rv=.slice (some ⟨b,0,none⟩) rows.length cap/\w.heap[b]?=some (cl rc 115)/\IsI M w nv r.nums/\IsI M w pv r.parts/\(rc.drop (0+i*8)).take 8=nR r nv pv/\0+i*8+8<=rc.length:=by
 obtain⟨rc,o,g,ra⟩:=h;have hil:=(List.getElem?_eq_some_iff.mp hi).1;obtain⟨b,rest,cap,rfl,h2,h3⟩:=Gw.some g omg;obtain⟨nv,pv,hn,hp,hc⟩:=NH ra hi;have hl:=CX ra;refine⟨b,rc++rest,cap,nv,pv,h2,h3,hn,hp,?_,by rw[List.length_append];omega⟩;apply List.ext_getElem?;intro j;rw[List.getElem?_take];split
 .rename_i hj;rw[List.getElem?_drop,Nat.zero_add];have e8:(nR r nv pv).length=8:=rfl;obtain⟨u,hu⟩:∃u,(nR r nv pv)[j]?=some u:=⟨_,List.getElem?_eq_getElem (by rw[e8];exact hj)⟩;rw[hu,List.getElem?_append_left omg];exact hc j u hu
 .rename_i hj;have e8:(nR r nv pv).length=8:=rfl;rw[List.getElem?_eq_none omg]
theorem U3(h:SA M w rows rv)(hr:r<rows.length)(hf:(Go.M.rowAt rows (r:Nat)).parts.length<=1000):
  Calls P 81 #[.agg #[rv,nv,pv,s],.int .i64 (r:Nat)] w (Ret λv w'=>(∃o,Gw w' 3 1 v (eu rows (r:Nat)).length (ints (eu rows (r:Nat))) o)/\Kp [] w w'):=by
 refine Ret.R λR hR=>?_;refine cf [14] Tryz.func81 ?_;have h0:=h;obtain⟨b,rc,cap,na,pa,rfl,hb,hn,hp,hrow,hle⟩:=h.cell (pX hr);unfold eu at hR;simp only at hR;generalize Go.M.rowAt rows (r:Nat)=rw_ at *;have hbl:=lt_of_heap hb;refine gg ?_;obtain⟨po,pg,_⟩:=hp;obtain⟨no,ng,_⟩:=hn;obtain⟨na1,na2,rfl⟩:=ng.len;obtain⟨pa1,pa2,rfl⟩:=pg.len;refine LdN.s (l':=nR rw_ (.slice na1 rw_.nums.length na2) (.slice pa1 rw_.parts.length pa2)) ?_ lookA hle hrow;unfold nR;refine gJ ?_;have k9:Kp [] w (ag ((w.alloc (cl [Value.slice (some ⟨b,0,none⟩) rows.length cap,nv,pv,s] 62)).alloc (cl [.int .i64 0,.int .i64 0,.int .i64 0,.slice none 0 0,.slice none 0 0,.int .i64 0,.string ⟨#[]⟩,.int .i64 0] 115)) (w.heap.size+1) (cl (nR rw_ (.slice na1 rw_.nums.length na2) (.slice pa1 rw_.parts.length pa2)) 115)):=by exact kpA
 have n7:(ag ((w.alloc (cl [Value.slice (some ⟨b,0,none⟩) rows.length cap,nv,pv,s] 62)).alloc (cl [.int .i64 0,.int .i64 0,.int .i64 0,.slice none 0 0,.slice none 0 0,.int .i64 0,.string ⟨#[]⟩,.int .i64 0] 115)) (w.heap.size+1) (cl (nR rw_ (.slice na1 rw_.nums.length na2) (.slice pa1 rw_.parts.length pa2)) 115)).heap[w.heap.size+1]?=some (cl (nR rw_ (.slice na1 rw_.nums.length na2) (.slice pa1 rw_.parts.length pa2)) 115):=by exact lookA
 unfold nR at k9 n7;generalize ag ((w.alloc (cl [Value.slice (some ⟨b,0,none⟩) rows.length cap,nv,pv,s] 62)).alloc (cl [.int .i64 0,.int .i64 0,.int .i64 0,.slice none 0 0,.slice none 0 0,.int .i64 0,.string ⟨#[]⟩,.int .i64 0] 115)) (w.heap.size+1) (cl [.int .i64 rw_.kind,.int .i64 rw_.n,.int .i64 rw_.of,.slice na1 rw_.nums.length na2,.slice pa1 rw_.parts.length pa2,.int .i64 rw_.els,κs rw_.name,.int .i64 rw_.at_] 115)=w9 at *;have pg:=pg.kp k9 λ_ _=>trivial;have l7:=lt_of_heap n7;refine gJ ?_;refine Jn.by (λvals w'=>vals=[.bool (rw_.kind==14||rw_.kind==9)]/\w'=w9) (λJ hJ=>?_) ?_
 .cases h14:rw_.kind==14 with
  |true=>
   refine gg ?_;exact hJ _ _ ⟨by rw[h14];rfl,rfl⟩
  |false=>
   refine gg ?_;exact hJ _ _ ⟨by rw[h14];rfl,rfl⟩
 .rintro _ w16 jk ⟨rfl,rfl⟩;refine .s ?_;cases h1:rw_.kind==14||rw_.kind==9 with
  |true=>
   rw[h1,if_pos rfl]at hR;refine .t ?_;refine vI ?_;exact hR _ _ ⟨⟨_,Vz lookA⟩,kpA⟩
  |false=>
   rw[h1,if_neg smp]at hR;refine .f ?_;cases h2:rw_.kind==12 with
   |true=>
    rw[h2,if_pos rfl]at hR;refine gg ?_;exact hR _ _ ⟨⟨po,pg⟩,k9⟩
   |false=>
    rw[h2,if_neg smp]at hR;cases h3:rw_.kind==13 with
    |true=>
     rw[h3,if_pos rfl]at hR;refine gg ?_;refine Ap.srcM (o:=none) (l:=[]) (k:=rw_.parts.length) (s:=ints rw_.parts) omg (Gw.nil _ _ _) (by rw[Nat.mul_one];exact List.length_map _) ?_ (Ug pg) (by unfold ints;simp[List.all_map];intro _ _;rfl) omg;intro v28 w29 o29 g29 ho29 k29;have k29:Kp [] w16 w29:=k29;have n7:=(k29.same _ l7 trivial).trans n7;rw[Nat.zero_add,List.nil_append]at g29;refine gJ ?_;refine Ag (n:=rw_.els) g29 omg ?_;intro v35 w35 o35 g35 mv35 k35;refine hR _ _ ⟨⟨o35,g35⟩,(k9.trans k29 λ_ _ _=>⟨trivial,trivial⟩).own k35 λb hb=>?_⟩;rcases ho29 with e|e
     .rw[e]at hb;cases hb
     .rw[e]at hb;cases hb;exact k9.size
    |false=>
     rw[h3,if_neg smp]at hR;refine gg ?_;exact hR _ _ ⟨⟨none,Gw.nil _ _ _⟩,k9⟩
def bools(l:List Bool):List Value:=l.map .bool
theorem mM(l:List Bool):(bools l).length=l.length:=List.length_map _
theorem Jl:∀(L:List Int) (S:List Bool),(kX S L).length=S.length
 |[],S=>rfl
 |x::L,S=>by
  rw[kX,Jl L];split
  .exact List.length_set
  .rfl
theorem Vl{lv sv:Value}{L:List Int}{S:List Bool}{o1:Option Nat}{sb:Nat}{A:Value->World->Prop}(gl:Gw w 3 1 lv L.length (ints L) o1)(gs:Gw w 4 1 sv S.length (bools S) (some sb))(hl:L.length<=100000)(hr:∀x∈L,x<(S.length:Int))
  (hA:∀v w',Gw w' 4 1 sv S.length (bools (kX S L)) (some sb)->Kp [(sb,sb+1)] w w'->A v w'):
  Lp [.int .i64 0] w λjk vals w12 C13=>V1 vals λv14=>Ln false lv λx15=>Bi .lss v14 x15 λx16=>If x16 (Jn (λJ17=>IaS 1 lv v14 λx18=>Ld x18 w12 λx19=>Bi .geq x19 (.int .i64 0) λx20=>If x20 (IaS 1 lv v14 λx21=>Ld x21 w12 λx22=>IaS 1 sv x22 λx23=>St x23 (.bool true) w12 λw24=>J17 [] w24) (J17 [] w12)) λjk26 vals w25=>Bi .add v14 (.int .i64 1) λx27=>C13 [x27] w25) (A v14 w12):=by
 obtain⟨va,vc,rfl⟩:=gl.len;obtain⟨hsl,rest,cap,rfl,hsb,hsc⟩:=gs;refine Lp.nat (λm vals w'=>∃(i:Nat) (S':List Bool),vals=[i64 i]/\m+i=L.length/\S'.length=S.length/\kX S L=kX S' (L.drop i)/\w'.heap[sb]?=some (cl (bools S'++rest) 4)/\Kp [(sb,sb+1)] w w') (n:=L.length) ⟨0,S,rfl,omg,rfl,rfl,hsb,Kp.refl _ _⟩ ?_;rintro m _ w12 jk C ⟨i,S',rfl,hi,hS,hx,hb,k12⟩ hC;have hbl:=lt_of_heap hb
 have gl12:=gl.kp k12 λb hb2=>⟨by
  have:b≠sb:=λe=>fP gl hsb dcd (hb2.trans (by rw[e]))
  omega,trivial⟩
 refine gg ?_;refine .split (λhh=>?_) (λhh=>?_)
 .have hlt:i<L.length:=by have:=of_decide_eq_true hh;omega
  have hd:L.drop i=L[i]::L.drop (i+1):=List.drop_eq_getElem_cons hlt;rw[hd,kX]at hx;have hrx:=hr L[i] (List.getElem_mem hlt);have hci:(ints L)[i]?=some (.int .i64 L[i]):=by unfold ints;rw[List.getElem?_map,List.getElem?_eq_getElem hlt];rfl
  obtain⟨b,restl,capl,rfl,hv,hbl2,hcell,_⟩:=Uh gl12 hci;cases hv;generalize L[i]=x at *;refine Jn.by (λvals w'=>vals=[]/\∃S2,S2.length=S.length/\kX S L=kX S2 (L.drop (i+1))/\w'.heap[sb]?=some (cl (bools S2++rest) 4)/\Kp [(sb,sb+1)] w w') (λJ hJ=>?_) ?_
  .cases h0:decide (x>=0)with
   |false=>
    have hn:¬ 0<=x:=of_decide_eq_false h0;rw[if_neg hn]at hx;refine gg ?_;exact hJ _ _ ⟨rfl,S',hS,hx,hb,k12⟩
   |true=>
    have hp:0<=x:=of_decide_eq_true h0;rw[if_pos hp]at hx;obtain⟨k,rfl⟩:∃k:Nat,x=(k:Int):=⟨x.toNat,omg⟩;rw[Int.toNat_natCast]at hx;have hkS:k<S'.length:=omg;have hset:(bools S'++rest).take (0+k*1)++[.bool true]++(bools S'++rest).drop (0+k*1+1)=bools (S'.set k true)++rest:=by
     rw[Nat.zero_add,Nat.mul_one,CQ (by rw[List.length_append,mM];omega),List.set_append_left _ _ (by rw[mM];exact hkS)];unfold bools;rw[List.map_set]
    refine gg ?_;refine St.s ?_ hb rfl (by rw[List.length_append,mM];omega) hset;exact hJ _ _ ⟨rfl,S'.set k true,by rw[List.length_set];exact hS,hx,lookA,Kp.viaX (Y:=[(sb,sb+1)]) (Kp.yS (Kp.refl _ _) (by simp only[Out,and_true];omega) _) (λ_ _ h=>h) k12⟩
  .rintro _ w25 jk2 ⟨rfl,S2,h2,hx2,hb2,k2⟩;refine gg ?_;exact hC (m - 1) _ _ omg ⟨i+1,S2,smp,omg,h2,hx2,hb2,k2⟩
 .have hge:¬ i<L.length:=by have:=of_decide_eq_false hh;omega
  rw[List.drop_eq_nil_of_le omg,kX]at hx;exact hA _ _ ⟨by rw[hx,mM,hS,Nat.mul_one],rest,cap,rfl,by rw[hx];exact hb,by rw[hx,mM,hS,<- mM S];exact hsc⟩ k12
theorem u390:P.underlying 187=some (.slice 4):=by kernel_rfl
noncomputable def i4:TypeInfo:=(P.info? 4).getD default
theorem ab9:P.info? 4=some i4:=by kernel_rfl
theorem ab6:i4.zero=some (.bool false):=by kernel_rfl
theorem Vw:i4.size=1:=by kernel_rfl
theorem ZJ:i4.bytes=1:=by kernel_rfl
theorem QK(hok:∀r∈rows,x9 (rows.length:Int) r)(hr:r<rows.length):(eu rows (r:Nat)).length<=1001/\∀x∈eu rows (r:Nat),x<(rows.length:Int):=by
 have h:=hok _ (List.mem_of_getElem? (pX hr));have hp:=h.few.2;unfold eu;simp only;generalize Go.M.rowAt rows (r:Nat)=q at *;split
 .exact⟨smp,λx hx=>by rw[List.mem_singleton.mp hx];exact h.of⟩
 split
 .exact⟨omg,h.parts⟩
 split
 .refine⟨lng,λx hx=>?_⟩;rcases List.mem_append.mp hx with hx|hx
  .exact h.parts x hx
  .rw[List.mem_singleton.mp hx];exact h.els
 .exact⟨smp,λx hx=>by cases hx⟩
end
end Go.W.T
namespace Go.W.T
open Go Go.W Go.M Go.Proofs
section
variable {B M pb:Nat} {w:World} {p:RS}
theorem LY(h:k<l.length):(bools l++rest)[0+k*1]?=some (.bool (l.getD k false)):=by
 rw[Nat.zero_add,Nat.mul_one,List.getElem?_append_left (by rw[mM];exact h)];unfold bools;rw[List.getElem?_map,List.getD_eq_getElem?_getD,List.getElem?_eq_getElem h];rfl
theorem Xa(h:SA M w rows rv)(hok:∀r∈rows,x9 (rows.length:Int) r)(hlen:rows.length<=100000)(hr:r<rows.length):
  Calls P 43 #[.agg #[rv,nv,pv,s],.int .i64 (r:Nat)] w (Ret λv w'=>v=.bool (gV rows (r:Nat))/\Kp [] w w'):=by
 refine Ret.R λR hR=>?_;refine cf [7,8,9,11] Tryz.func43 ?_;unfold gV at hR;rw[Int.toNat_natCast]at hR;obtain⟨rb,rc,rcap,_,_,rfl,_⟩:=h.cell (pX hr);refine .s ?_;have k2:Kp [] w (w.alloc (cl [.slice (some ⟨rb,0,none⟩) rows.length rcap,nv,pv,s] 62)):=by exact kpA
 have n1:(w.alloc (cl [.slice (some ⟨rb,0,none⟩) rows.length rcap,nv,pv,s] 62)).heap[w.heap.size]?=some (cl [.slice (some ⟨rb,0,none⟩) rows.length rcap,nv,pv,s] 62):=by exact lookA
 generalize w.alloc (cl [.slice (some ⟨rb,0,none⟩) rows.length rcap,nv,pv,s] 62)=w2 at *;refine .s ?_;obtain⟨ll,lx⟩:=QK hok hr;have few:∀{r:Nat},r<rows.length->(Go.M.rowAt rows (r:Nat)).parts.length<=1000:=λhr=>(hok _ (List.mem_of_getElem? (pX hr))).few.2;refine Cl.ret (U3 (h.ext k2) hr (few hr)) ?_;rintro v4 w5 ⟨⟨o4,g4⟩,k5⟩;have n1:=(k5.same _ (lt_of_heap n1) trivial).trans n1;have l1:=lt_of_heap n1;have k05:Kp [] w w5:=k2.trans k5 λ_ _ _=>⟨trivial,trivial⟩;generalize eu rows (r:Nat)=L at *;refine gg ?_;have hrun:=run_makeSlice (P:=P) (w:=w5) 187 4 i4 _ u390 ab9 ab6 .i64 .i64 (rows.length:Nat) (rows.length:Nat) omg (Int.le_refl _) (by rw[Vw];omega) (by rw[ZJ];omega) omg;refine fF.by hrun ?_;rw[Int.toNat_natCast,Vw];have hcs:madeCells (Value.bool false).cells (rows.length*1)=(bools (List.replicate rows.length false)).toArray:=by
  apply Array.toList_inj.mp;show (madeCells #[Value.bool false] (rows.length*1)).toList=_;rw[toList_madeCells_one,Nat.mul_one];unfold bools;rw[List.map_replicate]
 rw[hcs];have k10:Kp [] w5 (w5.alloc (cl (bools (List.replicate rows.length false)) 4)):=by exact kpA
 have ns:(w5.alloc (cl (bools (List.replicate rows.length false)) 4)).heap[w5.heap.size]?=some (cl (bools (List.replicate rows.length false)) 4):=by exact lookA
 generalize w5.alloc (cl (bools (List.replicate rows.length false)) 4)=w10 at *;have n1:=(k10.same _ l1 trivial).trans n1;have k010:Kp [] w w10:=k05.trans k10 λ_ _ _=>⟨trivial,trivial⟩;have z5:=k05.size;have gs:Gw w10 4 1 (.slice (some ⟨w5.heap.size,0,none⟩) rows.length rows.length) (List.replicate rows.length false).length (bools (List.replicate rows.length false)) (some w5.heap.size):=by
  rw[List.length_replicate];exact⟨by rw[mM,List.length_replicate,Nat.mul_one],[],rows.length,rfl,by rw[List.append_nil];exact ns,by rw[mM,List.length_replicate,List.length_nil,Nat.mul_one];rfl⟩
 have down:∀{w':World},Kp [(w5.heap.size,w5.heap.size+1)] w10 w'->Kp [] w w':=λk=>k010.trans k λi hi _=>⟨trivial,omg,trivial⟩;refine Vl (g4.kp k10 λ_ _=>trivial) gs omg (by rw[List.length_replicate];exact lx) ?_;intro v12 w12 gs k12;have hS:(kX (List.replicate rows.length false) L).length=rows.length:=by rw[Jl,List.length_replicate]
 rw[List.length_replicate]at gs;generalize kX (List.replicate rows.length false) L=S0 at *;refine Lp.nat (λm vals w'=>∃(i:Nat) (u1 u2:Value) (S:List Bool),vals=[i64 i,u1,u2]/\m+i=rows.length/\S.length=rows.length/\jK rows rows.length S0=jK rows m S/\Gw w' 4 1 (.slice (some ⟨w5.heap.size,0,none⟩) rows.length rows.length) rows.length (bools S) (some w5.heap.size)/\Kp [(w5.heap.size,w5.heap.size+1)] w10 w') (n:=rows.length) ⟨0,_,_,S0,rfl,omg,hS,rfl,gs,k12⟩ ?_;clear gs k12;rintro m _ w29 jk C ⟨i,u1,u2,S,rfl,hi,hSl,hx,gs,k29⟩ hC;have n29:=(k29.same _ (lt_of_heap n1) ⟨omg,trivial⟩).trans n1;refine gg ?_;refine .split (λhh=>?_) (λhh=>?_)
 .have hlt:i<rows.length:=by have:=of_decide_eq_true hh;omega
  obtain⟨m,rfl⟩:∃k,m=k+1:=⟨m - 1,omg⟩;rw[jK]at hx;refine Lp.nat (λm2 vals w'=>∃(k:Nat) (u:Value) (S':List Bool),vals=[i64 k,u]/\m2+k=rows.length/\S'.length=rows.length/\jS rows rows.length 0 S=jS rows m2 k S'/\Gw w' 4 1 (.slice (some ⟨w5.heap.size,0,none⟩) rows.length rows.length) rows.length (bools S') (some w5.heap.size)/\Kp [(w5.heap.size,w5.heap.size+1)] w10 w') (n:=rows.length) ⟨0,_,S,rfl,omg,hSl,rfl,gs,k29⟩ ?_;rintro m2 _ w39 jk2 C2 ⟨k,u,S',rfl,hk,hS2,hx2,gs2,k39⟩ hC2;have n39:=(k39.same _ (lt_of_heap n1) ⟨omg,trivial⟩).trans n1;refine gg ?_;refine .split (λhh2=>?_) (λhh2=>?_)
  .have hlt2:k<rows.length:=by have:=of_decide_eq_true hh2;omega
   obtain⟨m2,rfl⟩:∃k,m2=k+1:=⟨m2 - 1,omg⟩;rw[jS]at hx2;obtain⟨rest,hsb⟩:∃rest,w39.heap[w5.heap.size]?=some (cl (bools S'++rest) 4):=by
    obtain⟨_,rest,_,_,e,_⟩:=gs2;exact⟨rest,e⟩
   have ck:=LY (l:=S') (k:=k) (rest:=rest) omg;refine Jn.by (λvals w'=>∃u',vals=[u']/\∃S2,S2.length=rows.length/\jS rows rows.length 0 S=jS rows m2 (k+1) S2/\Gw w' 4 1 (.slice (some ⟨w5.heap.size,0,none⟩) rows.length rows.length) rows.length (bools S2) (some w5.heap.size)/\Kp [(w5.heap.size,w5.heap.size+1)] w10 w') (λJ hJ=>?_) ?_
   .cases hb:S'.getD k false with
    |false=>
     rw[hb,if_neg smp]at hx2;rw[hb]at ck;refine gg ?_;exact hJ _ _ ⟨_,rfl,S',hS2,hx2,gs2,k39⟩
    |true=>
     rw[hb,if_pos rfl]at hx2;rw[hb]at ck;refine gg ?_;obtain⟨ll2,lx2⟩:=QK hok hlt2;refine Cl.ret (U3 (h.ext (down k39)) hlt2 (few hlt2)) ?_;rintro v51 w52 ⟨⟨o51,g51⟩,k52⟩;have gs52:=gs2.kp k52 λ_ _=>trivial;have gs52':Gw w52 4 1 (.slice (some ⟨w5.heap.size,0,none⟩) rows.length rows.length) S'.length (bools S') (some w5.heap.size):=by rw[hS2];exact gs52
     refine Vl g51 gs52' omg (by rw[hS2];exact lx2) ?_;intro v56 w54 gs54 k54;rw[hS2]at gs54;exact hJ _ _ ⟨_,rfl,_,by rw[Jl];exact hS2,hx2,gs54,(k39.trans k52 λ_ _ h=>⟨h,trivial⟩).trans k54 λ_ _ h=>⟨h,h⟩⟩
   .rintro _ w71 jk3 ⟨u',rfl,S2,h2,hx3,gs3,k3⟩;refine gg ?_;exact hC2 m2 _ _ omg ⟨k+1,u',S2,smp,omg,h2,hx3,gs3,k3⟩
  .have hge:¬ k<rows.length:=by have:=of_decide_eq_false hh2;omega
   obtain rfl:m2=0:=omg;rw[jS]at hx2;refine gg ?_;exact hC m _ _ omg ⟨i+1,i64 k,u,S',smp,omg,hS2,by rw[hx,hx2],gs2,k39⟩
 .have hge:¬ i<rows.length:=by have:=of_decide_eq_false hh;omega
  obtain rfl:m=0:=omg;rw[jK]at hx;rw[hx]at hR;obtain⟨rest,hsb⟩:∃rest,w29.heap[w5.heap.size]?=some (cl (bools S++rest) 4):=by
   obtain⟨_,rest,_,_,e,_⟩:=gs;exact⟨rest,e⟩
  have ck:=LY (l:=S) (k:=r) (rest:=rest) omg;refine gg ?_;exact hR _ _ ⟨rfl,down k29⟩
end
end Go.W.T
namespace Go.W.T
open Go Go.W Go.M Go.Proofs
section
variable {B M pb:Nat} {w:World} {p:RS}
theorem QXG.acE(h:QX B M pb w p x)(hb:w.heap[b]?=some (cl l t))(k:Kp [(b,b+1)] w w')(h1:t≠112)(h2:t≠115)(h3:t≠117)(h4:t≠3)(h5:t≠287):QX B M pb w' p x:=by
 have ho:∀{e:TypeId} {m:Nat} {v:Value} {n:Nat} {l:List Value} {o:Option Nat},Gw w e m v n l o->e≠t->Gw w' e m v n l o:=λhg hne=>hg.kp k λc hc=>⟨by
  have:c≠b:=λe=>fP hg hb hne (hc.trans (by rw[e]))
  omega,trivial⟩
 have hI:∀{v:Value} {l:List Int},IsI M w v l->IsI M w' v l:=λ⟨o,hi,hm⟩=>⟨o,ho hi h4.symm,hm⟩;have hR:∀{l:List eU} {c:List Value},eQ M w l c->eQ M w' l c:=by
  intro l;induction l with
  |nil=>intro c h;exact h
  |cons r l ih=>rintro c ⟨nv,pv,rest,h1,h2,h3,h4⟩;exact⟨nv,pv,rest,h1,hI h2,hI h3,ih h4⟩
 refine⟨(k.same _ (lt_of_heap h.hp) ⟨?_,trivial⟩).trans h.hp,ho h.rows h2.symm,hR h.rat,ho h.names h3.symm,ho h.procs h5.symm,ho h.aj h4.symm,h.b0,h.b1,h.b2,h.b3,h.b4,h.m3,h.m4,h.d4,h.gh,h.ok,h.tl⟩;have:pb≠b:=by
  rintro rfl;have:=h.hp;rw[hb]at this;exact h1 (AZ (Option.some.inj this))
 omega
theorem aaB{l v:List Value}{m o:Nat}(hv:v.length=m)(hm:0<m)(h:∀j u,v[j]?=some u->l[o+j]?=some u):(l.drop o).take m=v/\o+m<=l.length:=by
 have hle:o+m<=l.length:=by
  have h1:=h (m - 1) _ (List.getElem?_eq_getElem omg);have:=(List.getElem?_eq_some_iff.mp h1).1;omega
 refine⟨?_,hle⟩;apply List.ext_getElem?;intro j;rw[List.getElem?_take];split
 .rw[List.getElem?_drop,h j _ (List.getElem?_eq_getElem (show j<v.length by omega)),List.getElem?_eq_getElem]
 .rw[List.getElem?_eq_none omg]
theorem Oz(h:m=0\/q.e≠0):iM m i q=q:=by
 cases m with
 |zero=>rfl
 |succ m=>rw[iM,if_neg (by rcases h with h|h<;>simp_all)]
abbrev OZ:Value:=.agg #[.slice none 0 0,.slice none 0 0,.slice none 0 0,.string ⟨#[]⟩]
def SK(B:Nat)(t:By)(w':World)(v:Value):Prop:=
 if 1200<t.length then v=.tuple #[OZ,.int .i64 1,.int .i64 0]
 else if(jq t).e≠0 then v=.tuple #[OZ,.int .i64 (jq t).e,.int .i64 (jq t).at_]
 else ∃x M pb,v=.tuple #[.agg #[x.rv,x.nv,x.pv,κs (jq t).out],.int .i64 0,.int .i64 0]/\QX B M pb w' (jq t) x
def Bg(t:By)(n:Nat):RS:={ jT t with rows:=Lh.take n }
def x0:Bd:=⟨.slice none 0 0,.slice none 0 0,.slice none 0 0,.slice none 0 0,[],none,none,none,none⟩
theorem WJ(t:By)(h:i<5):(dh (Bg t i) (vJ (i:Nat))).2=Bg t (i+1):=by
 match i,h with
 |0,_=>rfl
 |1,_=>rfl
 |2,_=>rfl
 |3,_=>rfl
 |4,_=>rfl
theorem aao{R:Ending->World->Prop}{J:List Value->World->Prop}{x:Bd}{i:Nat}{q:RS}(hx:QX B M pb w q x)(hlt:i<q.names.length)(hmem:(cO q.names i).what=1->Rg q (cO q.names i).n)(hok:∀r∈q.rows,x9 (q.rows.length:Int) r)(hlen:q.rows.length<=100000)
  (hJ:∀w',QT B M pb w (if(cO q.names i).what==1&&gV q.rows (cO q.names i).n then aK q 9 (cO q.names i).at_ else q) w'->J [] w'):
  Nk (pt pb 0) λx95=>Fa x95 7 λx96=>Fa x96 1 λx97=>Ld x97 w λx98=>IaS 4 x98 (i64 i) λx99=>LdN x99 4 w λx100=>Nw 117 (.agg #[.string ⟨#[]⟩,.int .i64 0,.int .i64 0,.int .i64 0]) w λx101 w102=>StN x101 x100 4 w102 λyh=>Fa x101 1 λx104=>Ld x104 yh λX7=>Bi .eql X7 (.int .i64 1) λx106=>If x106 (
  Nk (pt pb 0) λX6=>Fa X6 7 λX5=>LdN X5 4 yh.drew λX4=>Fa x101 2 λX3=>Ld X3 yh.drew λVZ=>Cl P 43 #[X4,VZ] yh.drew (pE R) λx112 MZ=>If x112 (
  Fa x101 3 λx114=>Ld x114 MZ λx115=>Cl P 44 #[pt pb 0,(.int .i64 9),x115] MZ (pE R) λx116 w117=>J [] w117) (J [] MZ)) (J [] yh):=by
 have t:QS B M pb w q:=⟨x,hx⟩;have hp:=hx.hp;unfold aN at hp;have hpl:=lt_of_heap hp;obtain⟨na,nc,hnv⟩:=hx.names.len;obtain⟨ra,rc,hrv⟩:=hx.rows.len;obtain⟨pa,pc,hpv⟩:=hx.procs.len;rw[hnv,hrv,hpv]at hp;obtain⟨nb,nrest,ncap,ho2,hv2,hb2,hc2⟩:=uK qV hx.names (qg hlt);rw[hnv]at hv2;cases hv2;obtain⟨hrow,hle4⟩:=aaB (qV _) omg hc2;generalize cO q.names i=y at *;refine gg ?_;refine LdN.s (l':=nmV y) ?_ hb2 hle4 hrow;unfold nmV;refine gg ?_;have Xl:Kp [] w (ag (w.alloc (cl [.string ⟨#[]⟩,.int .i64 0,.int .i64 0,.int .i64 0] 117)) w.heap.size (cl (nmV y) 117)):=by exact kpA
 have n101:(ag (w.alloc (cl [.string ⟨#[]⟩,.int .i64 0,.int .i64 0,.int .i64 0] 117)) w.heap.size (cl (nmV y) 117)).heap[w.heap.size]?=some (cl (nmV y) 117):=by exact lookA
 unfold nmV at Xl n101;generalize ag (w.alloc (cl [.string ⟨#[]⟩,.int .i64 0,.int .i64 0,.int .i64 0] 117)) w.heap.size (cl [κs y.s,.int .i64 y.what,.int .i64 y.n,.int .i64 y.at_] 117)=yh at *;have t103:=t.ext Xl;have ZM:=hx.ext Xl;have ZZ:=ZM.hp;unfold aN at ZZ;rw[hnv,hrv,hpv]at ZZ;have l101:=lt_of_heap n101;cases hw:y.what==1 with
 |false=>
  rw[hw,Bool.false_and,if_neg smp]at hJ;refine gg ?_;exact hJ _ ⟨t103,Qk.kp Xl⟩
 |true=>
  rw[hw,Bool.true_and]at hJ;obtain⟨r0,r1⟩:=hmem (by simpa using hw);obtain⟨r,hr⟩:∃r:Nat,y.n=(r:Int):=⟨y.n.toNat,omg⟩;rw[hr]at hJ n101 r1;have hk2:Kp [] yh yh.drew:=by exact kpA
  have hrl:r<q.rows.length:=omg;refine gg ?_;have hx104:=ZM.ext hk2;have sa:SA M yh.drew q.rows (.slice ra q.rows.length rc):=⟨x.rc,x.o1,hrv▸hx104.rows,hx104.rat⟩;have n102:=(hk2.same _ l101 trivial).trans n101;have t104:=t103.ext hk2;have k104:Kp [] w yh.drew:=Xl.trans hk2 λ_ _ _=>⟨trivial,trivial⟩;clear t103 ZM hx104 ZZ Xl hp;generalize yh.drew=w104 at *;refine Cl.ret (Xa sa hok hlen hrl) ?_;rintro _ MZ ⟨rfl,k113⟩;have n113:=(k113.same _ (lt_of_heap n102) trivial).trans n102;have t113:=t104.ext k113;have q113:Qk B w MZ:=(Qk.kp k104).trans (Qk.kp k113);cases hz:gV q.rows (r:Nat)with
  |false=>
   rw[hz,if_neg smp]at hJ;refine .f ?_;exact hJ _ ⟨t113,q113⟩
  |true=>
   rw[hz,if_pos rfl]at hJ;refine gg ?_;refine Cl.ret (kZ t113 9 y.at_) ?_;rintro _ w117 ⟨rfl,t117,k117⟩;exact hJ _ ⟨t117,q113.trans k117⟩
theorem q_Read(t:By)(ht:t.length<=1000000):Calls P 20 #[κs t] w (Ret λv w'=>Kp [] w w'/\SK (w.heap.size+1) t w' v):=by
 refine Ret.R λR hR=>?_;refine cf [6,7] Tryz.func20 ?_;refine vI ?_;refine .split (λhh=>?_) (λhh=>?_)
 .have hlt:1200<t.length:=by have:=of_decide_eq_true hh;omega
  have hR:∀v w',Kp [] w w'->v=.tuple #[OZ,.int .i64 1,.int .i64 0]->R (.returned v) w':=λv w' k e=>hR _ _ ⟨k,by unfold SK;rw[if_pos hlt];exact e⟩;refine gg ?_;exact hR _ _ kpA rfl
 have hle:t.length<=1200:=by have:=of_decide_eq_false hh;omega
 have hR:∀v w',Kp [] w w'->(if(jq t).e≠0 then v=.tuple #[OZ,.int .i64 (jq t).e,.int .i64 (jq t).at_]else ∃x M pb,v=.tuple #[.agg #[x.rv,x.nv,x.pv,κs (jq t).out],.int .i64 0,.int .i64 0]/\QX (w.heap.size+1) M pb w' (jq t) x)->R (.returned v) w':=λv w' k h=>hR _ _ ⟨k,by unfold SK;rw[if_neg omg];exact h⟩;refine gJ ?_;have k10:Kp [] w ((w.alloc (cl [.slice none 0 0,.slice none 0 0,.slice none 0 0,.string ⟨#[]⟩] 62)).alloc (cl [κs t,.int .i64 0,.string ⟨#[]⟩,.int .i64 0,.int .i64 0,.int .i64 0,.int .i64 0,.slice none 0 0,.slice none 0 0,.slice none 0 0,.string ⟨#[]⟩,.int .i64 0,.int .i64 0,.int .i64 0,.int .i64 0,.slice none 0 0] 112)):=by exact kpA
 have n1:((w.alloc (cl [.slice none 0 0,.slice none 0 0,.slice none 0 0,.string ⟨#[]⟩] 62)).alloc (cl [κs t,.int .i64 0,.string ⟨#[]⟩,.int .i64 0,.int .i64 0,.int .i64 0,.int .i64 0,.slice none 0 0,.slice none 0 0,.slice none 0 0,.string ⟨#[]⟩,.int .i64 0,.int .i64 0,.int .i64 0,.int .i64 0,.slice none 0 0] 112)).heap[w.heap.size]?=some (cl [.slice none 0 0,.slice none 0 0,.slice none 0 0,.string ⟨#[]⟩] 62):=by exact lookA
 have hp:((w.alloc (cl [.slice none 0 0,.slice none 0 0,.slice none 0 0,.string ⟨#[]⟩] 62)).alloc (cl [κs t,.int .i64 0,.string ⟨#[]⟩,.int .i64 0,.int .i64 0,.int .i64 0,.int .i64 0,.slice none 0 0,.slice none 0 0,.slice none 0 0,.string ⟨#[]⟩,.int .i64 0,.int .i64 0,.int .i64 0,.int .i64 0,.slice none 0 0] 112)).heap[w.heap.size+1]?=some (cl [κs t,.int .i64 0,.string ⟨#[]⟩,.int .i64 0,.int .i64 0,.int .i64 0,.int .i64 0,.slice none 0 0,.slice none 0 0,.slice none 0 0,.string ⟨#[]⟩,.int .i64 0,.int .i64 0,.int .i64 0,.int .i64 0,.slice none 0 0] 112):=by exact lookA
 generalize ((w.alloc (cl [.slice none 0 0,.slice none 0 0,.slice none 0 0,.string ⟨#[]⟩] 62)).alloc (cl [κs t,.int .i64 0,.string ⟨#[]⟩,.int .i64 0,.int .i64 0,.int .i64 0,.int .i64 0,.slice none 0 0,.slice none 0 0,.slice none 0 0,.string ⟨#[]⟩,.int .i64 0,.int .i64 0,.int .i64 0,.int .i64 0,.slice none 0 0] 112))=w10 at *;have hp:w10.heap[w.heap.size+1]?=some (cl (aN (Bg t 0) x0) 112):=hp;have z10:=lt_of_heap hp;have h0:QX (w.heap.size+1) w.heap.size (w.heap.size+1) w10 (Bg t 0) x0:=⟨hp,Gw.nil _ _ _,rfl,Gw.nil _ _ _,Gw.nil _ _ _,Gw.nil _ _ _,Nat.le_refl _,(λb hb=>by cases hb),(λb hb=>by cases hb),(λb hb=>by cases hb),(λb hb=>by cases hb),(λb hb=>by cases hb),(λb hb=>by cases hb),(λb hb=>by cases hb),trivial,⟨(yQ t).len,(yQ t).en0,(yQ t).en1,(yQ t).we⟩,hle⟩;generalize hpb:w.heap.size+1=pb at *;refine Lp.nat (λm vals w'=>∃i:Nat,vals=[i64 i]/\m+i=5/\QS pb w.heap.size pb w' (Bg t i)/\Ql pb w10 w') (n:=5) ⟨0,rfl,rfl,⟨x0,h0⟩,Ql.refl _⟩ ?_;clear h0 hp;rintro m _ w12 jk C ⟨i,rfl,hi,t12,l12⟩ hC;refine gJ ?_;refine .split (λhh2=>?_) (λhh2=>?_)
 .have hlt:i<5:=by have:=of_decide_eq_true hh2;omega
  refine .s ?_;have hrl:(Bg t i).rows.length<=5:=by
   show (Lh.take i).length<=5;rw[List.length_take];exact Nat.min_le_right _ _
  refine Cl.ret (Ar (r:=vJ (i:Nat)) t12 omg lD lD) ?_;rintro _ w18 ⟨rfl,t18,q18⟩;rw[WJ t hlt]at t18;refine gg ?_;exact hC (m - 1) _ _ omg ⟨i+1,smp,omg,t18,l12.trans (Ql.of q18)⟩
 have hge:¬ i<5:=by have:=of_decide_eq_false hh2;omega
 obtain rfl:i=5:=omg;have e5:Bg t 5=jT t:=rfl;rw[e5]at t12;refine Cl.ret (jh t12) ?_;rintro _ w21 ⟨rfl,t21,q21⟩;have s21:=jJ (YB hle);have v21:=(jr (Qr t)).nv;obtain⟨cb0,cn0⟩:=RX t;have c21:=cb0.ct (jw (jT t));have n21:cnt (aB (jT t))=0:=cn0;have l21:Ql pb w10 w21:=l12.trans (Ql.of q21);unfold jq at hR;simp only at hR;clear cb0 cn0;generalize aB (jT t)=p0 at *;refine Lp.nat (λm vals w'=>∃(q:RS) (M:Nat),vals=[]/\dH 80 p0=dH m q/\m<=80/\QS pb M pb w' q/\Ql pb w10 w'/\Sz q (5+301*(80 - m))/\Nv q/\(q.e=0->Cb q/\80 - (m:Int)<=cnt q)) (n:=80) ⟨p0,_,rfl,rfl,Nat.le_refl _,t21,l21,s21.mono omg,v21,λ_=>⟨c21,by rw[n21];omega⟩⟩ ?_;rintro m _ w23 jk2 C2 ⟨q,M,rfl,hx,hm80,t23,l23,s23,v23,c23⟩ hC2;obtain⟨x23,hx23⟩:=id t23;have hp23:=hx23.hp;unfold aN at hp23;have hlt23:=lt_of_heap hp23;have after:dH 80 p0=q->Jn (λJ55=>Nk (pt pb 0) λx56=>Fa x56 11 λx57=>Ld x57 w23 λx58=>Bi .eql x58 (.int .i64 0) λx59=>If x59 ( Cl P 42 #[pt pb 0] w23 (pE R) λx60 w61=>J55 [] w61) ( J55 [] w23)) λjk63 vals w62=>Lp [(.int .i64 0)] w62 λjk64 vals w65 C66=>V1 vals λv67=>Nk (pt pb 0) λx68=>Fa x68 7 λx69=>Fa x69 1 λx70=>Ld x70 w65 λx71=>Ln false x71 λx72=>Bi .lss v67 x72 λx73=>Gd x73 true w65 (λK74=>K74 (pt pb 0) w65) λx75 w76=>Gd x73 true w76 (λK77=>Nk x75 λx78=>K77 x78 w76) λx79 w80=>Gd x73 true w80 (λK81=>Fa x79 11 λx82=>K81 x82 w80) λx83 w84=>Gd x73 true w84 (λK85=>Ld x83 w84 λx86=>K85 x86 w84) λx87 w88=>Gd x73 true w88 (λK89=>Bi .eql x87 (.int .i64 0) λx90=>K89 x90 w88) λx91 w92=>Pk x73 x91 (.bool false) λx93=>If x93 ( Jn (λJ94=>Nk (pt pb 0) λx95=>Fa x95 7 λx96=>Fa x96 1 λx97=>Ld x97 w92 λx98=>IaS 4 x98 v67 λx99=>LdN x99 4 w92 λx100=>Nw 117 (.agg #[.string ⟨#[]⟩,.int .i64 0,.int .i64 0,.int .i64 0]) w92 λx101 w102=>StN x101 x100 4 w102 λyh=>Fa x101 1 λx104=>Ld x104 yh λX7=>Bi .eql X7 (.int .i64 1) λx106=>If x106 ( Nk (pt pb 0) λX6=>Fa X6 7 λX5=>LdN X5 4 yh.drew λX4=>Fa x101 2 λX3=>Ld X3 yh.drew λVZ=>Cl P 43 #[X4,VZ] yh.drew (pE R) λx112 MZ=>If x112 ( Fa x101 3 λx114=>Ld x114 MZ λx115=>Cl P 44 #[pt pb 0,(.int .i64 9),x115] MZ (pE R) λx116 w117=>J94 [] w117) ( J94 [] MZ)) ( J94 [] yh)) λjk119 vals w118=>Bi .add v67 (.int .i64 1) λx120=>C66 [x120] w118) ( Nk (pt pb 0) λx121=>Fa x121 11 λx122=>Ld x122 w92 λx123=>Bi .neq x123 (.int .i64 0) λx124=>If x124 ( Bu (.agg #[.slice none 0 0,.slice none 0 0,.slice none 0 0,.string ⟨#[]⟩]) [] λx125=>Nk (pt pb 0) λx126=>Fa x126 11 λXZ=>Ld XZ w92.drew λXY=>Nk (pt pb 0) λx129=>Fa x129 12 λXX=>Ld XX w92.drew λXW=>StN (pt w.heap.size 0) x125 4 w92.drew λMX=>(Ld XZ MX λx133=>x133=XY)/\(Ld XX MX λx134=>x134=XW)/\LdN (pt w.heap.size 0) 4 MX λx135=>R (.returned (.tuple #[x135,XY,XW])) MX) ( Nk (pt pb 0) λx136=>Fa x136 7 λx137=>LdN x137 4 w92 λx138=>StN (pt w.heap.size 0) x138 4 w92 λYj=>LdN (pt w.heap.size 0) 4 Yj λx140=>R (.returned (.tuple #[x140,(.int .i64 0),(.int .i64 0)])) Yj)):=by
  intro hq;rw[hq]at hR;have nl:=s23.names;have rl:=s23.rows;refine Jn.by (λvals w'=>vals=[]/\QT pb M pb w23 (if q.e==0 then iL q else q) w') (λJ hJ=>?_) ?_
  .cases he:q.e==0 with
   |true=>
    refine gg ?_;refine Cl.ret (WY t23 omg omg) ?_;rintro _ w61 ⟨rfl,t61⟩;exact hJ _ _ ⟨rfl,by rw[he,if_pos rfl];exact t61⟩
   |false=>
    refine gg ?_;exact hJ _ _ ⟨rfl,by rw[he,if_neg smp];exact⟨t23,Qk.refl _ _⟩⟩
  rintro _ w62 jk3 ⟨rfl,t62,q62⟩;have v62:Nv (if q.e==0 then iL q else q):=by
   split
   .exact(xg v23).1.nv
   .exact v23
  have r62:(if q.e==0 then iL q else q).rows.length=q.rows.length:=by
   split
   .exact(xg v23).2.1
   .rfl
  have nm62:(if q.e==0 then iL q else q).names=q.names:=by
   split
   .exact(xg v23).2.2.1
   .rfl
  generalize (if q.e==0 then iL q else q)=p62 at *;have l62:=l23.trans (Ql.of q62);rw[<- nm62]at nl;rw[<- r62]at rl;refine Lp.nat (λm vals w'=>∃(i:Nat) (q2:RS),vals=[i64 i]/\m+i=p62.names.length/\iM p62.names.length 0 p62=iM m i q2/\Sb p62 q2/\QS pb M pb w' q2/\Ql pb w10 w') (n:=p62.names.length) ⟨0,p62,rfl,omg,rfl,Sb.refl _,t62,l62⟩ ?_;rintro m3 _ w65 jk4 C3 ⟨i,q2,rfl,hi3,hx2,b2,t65,l65⟩ hC3;have n165:=(l65.low w.heap.size omg (lt_of_heap n1)).trans n1;obtain⟨x65,Xn⟩:=id t65;have Oc:=Xn.hp;unfold aN at Oc;have hl65:=lt_of_heap Oc;obtain⟨na,nc,hnv⟩:=Xn.names.len;obtain⟨ra,rc,hrv⟩:=Xn.rows.len;obtain⟨pa,pc,hpv⟩:=Xn.procs.len;rw[hnv,hrv,hpv]at Oc;have fin:m3=0\/q2.e≠0->∀w92,Kp [] w65 w92->Nk (pt pb 0) λx121=>Fa x121 11 λx122=>Ld x122 w92 λx123=>Bi .neq x123 (.int .i64 0) λx124=>If x124 ( Bu (.agg #[.slice none 0 0,.slice none 0 0,.slice none 0 0,.string ⟨#[]⟩]) [] λx125=>Nk (pt pb 0) λx126=>Fa x126 11 λXZ=>Ld XZ w92.drew λXY=>Nk (pt pb 0) λx129=>Fa x129 12 λXX=>Ld XX w92.drew λXW=>StN (pt w.heap.size 0) x125 4 w92.drew λMX=>(Ld XZ MX λx133=>x133=XY)/\(Ld XX MX λx134=>x134=XW)/\LdN (pt w.heap.size 0) 4 MX λx135=>R (.returned (.tuple #[x135,XY,XW])) MX) ( Nk (pt pb 0) λx136=>Fa x136 7 λx137=>LdN x137 4 w92 λx138=>StN (pt w.heap.size 0) x138 4 w92 λYj=>LdN (pt w.heap.size 0) 4 Yj λx140=>R (.returned (.tuple #[x140,(.int .i64 0),(.int .i64 0)])) Yj):=by
   intro hs w92 k92;rw[hx2,Oz hs]at hR;have n1:=(k92.same _ (lt_of_heap n165) trivial).trans n165;have hp:=(k92.same _ hl65 trivial).trans Oc;have hpl:=lt_of_heap hp;have hx92:=Xn.ext k92;have down:∀{w'},Kp [(w.heap.size,w.heap.size+1)] w92 w'->Kp [] w w':=λ{w'} k=>⟨k.os.trans (k92.os.trans (l65.os.trans k10.os)),k.tape.trans (k92.tape.trans (l65.tape.trans k10.tape)),k.output.trans (k92.output.trans (l65.output.trans k10.output)),Nat.le_trans k10.size (Nat.le_trans l65.size (Nat.le_trans k92.size k.size)),λb hb _=>(k.same b (by have:=k10.size;have:=l65.size;have:=k92.size;omega) ⟨omg,trivial⟩).trans ((k92.same b (by have:=k10.size;have:=l65.size;omega) trivial).trans ((l65.low b omg (by have:=k10.size;omega)).trans (k10.same b hb trivial)))⟩;cases he:q2.e != 0 with
   |true=>
    have he0:q2.e≠0:=by simpa using he
    refine gg ?_;exact hR _ _ (down kpA) (by rw[if_pos he0])
   |false=>
    have he0:¬ q2.e≠0:=by simpa using he
    refine gg ?_;refine hR _ _ (down kpA) ?_;rw[if_neg he0];exact⟨x65,M,pb,by rw[hrv,hnv,hpv],hx92.acE n1 kpA dcd dcd dcd dcd dcd⟩
  refine nO ?_;refine .s ?_;refine .t ?_;refine .s ?_;have b2n:=b2.names;have b2r:=b2.rows;cases hd:decide (((i:Nat):Int)<((q2.names.length:Nat):Int))with
  |false=>
   have hge:¬ i<q2.names.length:=by have:=of_decide_eq_false hd;omega
   refine .f ?_;refine .f ?_;refine .f ?_;refine .f ?_;refine .f ?_;refine .f ?_;refine .f ?_;exact fin (Or.inl (by rw[b2n]at hge;omega)) _ (Kp.refl _ _)
  |true=>
   have hlt:i<q2.names.length:=by have:=of_decide_eq_true hd;omega
   cases he:q2.e==0 with
   |false=>
    refine .t ?_;refine .t ?_;refine .s ?_;refine .t ?_;refine .s ?_;refine .t ?_;refine .s ?_;refine .t ?_;refine .s ?_;refine .t ?_;rw[he];refine .f ?_;exact fin (Or.inr (by simpa using he)) _ (Kp.refl _ _)
   |true=>
    refine .t ?_;refine .t ?_;refine .s ?_;refine .t ?_;refine .s ?_;refine .t ?_;refine .s ?_;refine .t ?_;refine .s ?_;refine .t ?_;rw[he];refine .t ?_;clear fin;obtain⟨k,rfl⟩:∃k,m3=k+1:=⟨m3 - 1,by rw[b2n]at hlt;omega⟩;rw[iM,if_pos he]at hx2;simp only at hx2;refine Jn.by (λvals w'=>∃q3,vals=[]/\iM p62.names.length 0 p62=iM k (i+1) q3/\Sb q2 q3/\QT pb M pb w65 q3 w') (λJ hJ=>?_) ?_
    .refine aao Xn hlt (λhw=>by have:=v62.names (cO q2.names i) (by rw[<- b2n];exact yU hlt) hw;unfold Rg at this ⊢;rw[b2r];exact this) (by rw[b2r];exact v62.rows) (by rw[b2r];omega) λw' t=>hJ _ _ ⟨_,rfl,hx2,?_,t⟩;split
     .exact gm ..
     .exact Sb.refl _
    .rintro _ w118 jk5 ⟨q3,rfl,hx3,b3,t3,k3⟩;refine gg ?_;exact hC3 k _ _ omg ⟨i+1,q3,smp,omg,hx3,b2.trans b3,t3,l65.trans (Ql.of k3)⟩
 cases he:q.e==0 with
 |false=>
  refine gg ?_;refine after ?_;rw[hx];cases m with
  |zero=>rfl
  |succ m=>rw[dH,if_neg (by rw[he];simp)]
 |true=>
  cases hk:q.w.kind != 0 with
  |false=>
   refine gg ?_;refine after ?_;rw[hx];cases m with
   |zero=>rfl
   |succ m=>rw[dH,if_neg (by rw[he,hk];simp)]
  |true=>
   have hq0:q.e=0:=by simpa using he
   obtain⟨c1,c2⟩:=c23 hq0;have hm:0<m:=by
    have:=c1.c1;have:=c1.t1;have:=c1.g1;unfold cnt at c2;omega
   obtain⟨k,rfl⟩:∃k,m=k+1:=⟨m - 1,omg⟩;have hx':dH (k+1) q=dH k (bQ q):=by rw[dH,if_pos (by rw[he,hk];rfl)]
   have hx:=hx.trans hx';refine gg ?_;refine Cl.ret (NQ t23 v23 s23 omg) ?_;rintro _ w54 ⟨rfl,⟨t54,l54⟩,s54⟩
   exact hC2 k _ _ omg ⟨bQ q,_,rfl,hx,omg,t54,l23.trans l54,s54.mono omg,(Aw v23).nv,λh0=>by
    obtain⟨d1,d2⟩:=zo c1 h0 hq0 hx23.ok.we
    exact⟨d1,omg⟩⟩
end
end Go.W.T
namespace Go.W.T
open Go Go.W Go.M Go.Proofs
theorem Tf:Calls P 45 #[.nilIface] w (Ret λr w'=>r=.tuple #[i64 0,i64 0]/\w'=w):=by
 refine Ret.R λR hR=>?_;refine cf [] Tryz.func45 ?_;refine gg ?_;exact hR _ _ ⟨rfl,rfl⟩
theorem q_num(n:Int):Calls P 46 #[i64 n] w (Ret λr w'=>r=i64 n/\w'=w):=by
 refine Ret.R λR hR=>?_;refine cf [] Tryz.func46 ?_;exact hR _ _ ⟨rfl,rfl⟩
theorem q_told(hg:JW w)(h:ErrAt w e a v)(he:e≠0):Calls P 21 #[v,i64 e,i64 a] w (Ret λr w'=>r=.bool true/\Kp [] w w'):=by
 refine Ret.R λR hR=>?_;refine cf [] Tryz.func21 ?_;refine Cl.ret (w_Told hg h) ?_;rintro _ w2 ⟨rfl,k2⟩;refine gg ?_;refine Cl.ret (q_num _) ?_;rintro _ w6 ⟨rfl,rfl⟩;obtain⟨fb,rfl,_⟩:=h;have e1:((e:Int)==(e:Int))=true:=by simp
 have e2:((a:Int)==(a:Int))=true:=by simp
 have e3:((e:Int)==0)=false:=by rw[beq_eq_false_iff_ne];omega
 refine gg ?_;exact hR _ _ ⟨by rw[e3];rfl,k2⟩
theorem TI(a:Int):Calls P 21 #[.nilIface,i64 0,i64 a] w (Ret λr w'=>r=.bool true/\w'=w):=by
 refine Ret.R λR hR=>?_;refine cf [] Tryz.func21 ?_;refine Cl.ret Tf ?_;rintro _ w2 ⟨rfl,rfl⟩;refine gg ?_;refine Cl.ret (q_num _) ?_;rintro _ w6 ⟨rfl,rfl⟩;refine gg ?_;exact hR _ _ ⟨rfl,rfl⟩
def SpOk(w:World)(v:Value):Prop:=∃t ds c names sb sv x B M pb,v=pt sb 0/\t.length<=1200/\parse t=.ok ds/\compile ds=.ok c/\(jq t).e=0 /\
 w.heap[sb]?=some (cl [sv,x.rv,x.nv,x.pv,κs (jq t).out] 67)/\List.Perm names (c.start.map (·.1))/\zB w ds (kY c names) sv/\QX B M pb w (jq t) x
theorem WU(k6:Kp [] w2 w6)(hr:JV w2 t v)(hq:SK B t w6 v6):
  (∃(e a:Nat) (ev:Value),e≠0/\v=.tuple #[.pointer none,ev]/\ErrAt w6 e a ev/\v6=.tuple #[OZ,i64 e,i64 a]) \/
  (∃sv x M pb ds c names,v=.tuple #[sv,.nilIface]/\v6=.tuple #[.agg #[x.rv,x.nv,x.pv,κs (jq t).out],i64 0,i64 0]/\t.length<=1200/\parse t=.ok ds/\compile ds=.ok c/\(jq t).e=0 /\
   List.Perm names (c.start.map (·.1))/\zB w6 ds (kY c names) sv/\QX B M pb w6 (jq t) x):=by
 have hE:∀{e a:Nat} {ev:Value},ErrAt w2 e a ev->ErrAt w6 e a ev:=λ⟨fb,e,hf⟩=>⟨fb,e,(k6.same _ (lt_of_heap hf) trivial).trans hf⟩;unfold JV at hr;unfold SK at hq
 by_cases hlen:1200<t.length
 .rw[if_pos hlen]at hr hq;obtain⟨ev,rfl,h⟩:=hr;exact Or.inl ⟨1,0,ev,dcd,rfl,hE h,hq⟩
 .rw[if_neg hlen]at hr hq;have law:=YY t omg;cases hp:parse t with
  |no e a=>
   rw[hp]at law hr;obtain⟨h1,h2,h3⟩:=law;obtain⟨ev,rfl,h⟩:=hr;rw[if_pos (by rw[h1];omega),h1,h2]at hq;exact Or.inl ⟨e,a,ev,h3,rfl,hE h,hq⟩
  |ok ds=>
   rw[hp,Res.aS]at law;simp only[hp]at hr;cases hc:compile ds with
   |no e a=>
    rw[hc]at law hr;obtain⟨h1,h2,h3⟩:=law;obtain⟨ev,rfl,h⟩:=hr;rw[if_pos (by rw[h1];omega),h1,h2]at hq;exact Or.inl ⟨e,a,ev,h3,rfl,hE h,hq⟩
   |ok c=>
    rw[hc]at law hr;obtain⟨sv,names,rfl,hperm,hs⟩:=hr;rw[if_neg (by rw[law];simp)]at hq;obtain⟨x,M,pb,rfl,hx⟩:=hq;exact Or.inr ⟨sv,x,M,pb,ds,c,names,rfl,rfl,omg,rfl,hc,law,hperm,hs.kp0 k6,hx⟩
theorem q_read(hg:Gl w)(h0:JW w)(t:By)(ht:t.length<=65536):Calls P 10 #[κs t] w (Ret λr w'=>Kp [] w w'/\∃v,r=.tuple #[v,.bool true]/\(v=.pointer none\/SpOk w' v)):=by
 refine Ret.R λR hR=>?_;refine cf [] Tryz.func10 ?_;refine Cl.ret (w_Read (txt:=t) hg (λds h=>(IZ h).fine) omg) ?_;rintro v w2 ⟨k2,hg2,hr⟩;have hv:∃y3 y4,v=.tuple #[y3,y4]:=by
  unfold JV at hr
  by_cases hlen:1200<t.length
  .rw[if_pos hlen]at hr;obtain⟨ev,rfl,h⟩:=hr;exact⟨_,_,rfl⟩
  .rw[if_neg hlen]at hr;cases hp:parse t with
   |no e a=>rw[hp]at hr;obtain⟨ev,rfl,h⟩:=hr;exact⟨_,_,rfl⟩
   |ok ds=>
    simp only[hp]at hr;cases hc:compile ds with
    |no e a=>rw[hc]at hr;obtain⟨ev,rfl,h⟩:=hr;exact⟨_,_,rfl⟩
    |ok c=>rw[hc]at hr;obtain⟨sv,names,rfl,hperm,hs⟩:=hr;exact⟨_,_,rfl⟩
 obtain⟨y3,y4,rfl⟩:=hv;refine gg ?_;refine Cl.ret (q_Read t omg) ?_;rintro v6 w6 ⟨k6,hq⟩;have h06:JW w6:=h0.kp (k2.tt k6);rcases WU k6 hr hq with⟨e,a,ev,he,h1,hE,rfl⟩|⟨sv,x,M,pb,ds,c,names,h1,rfl,h2,h3,h4,h5,h6,h7,h8⟩
 .cases h1;refine gg ?_;refine Cl.w (λw12=>Kp [] w6 w12) kpA ?_;intro w12 k12;have hE12:ErrAt w12 e a y4:=by obtain⟨fb,e,hf⟩:=hE;exact⟨fb,e,(k12.same _ (lt_of_heap hf) trivial).trans hf⟩
  refine Cl.ret (q_told (h06.kp k12) hE12 he) ?_;rintro _ w14 ⟨rfl,k14⟩;have e1:(((((none:Option Addr).isNone != false)==((e:Int) != 0)) != true))=false:=by
   have:((e:Int) != 0)=true:=by rw[bne_iff_ne];omega
   rw[this];rfl
  refine gg ?_;exact hR _ _ ⟨(k2.tt k6).tt (k12.tt k14),_,rfl,Or.inl rfl⟩
 .cases h1;have h7':=h7;obtain⟨sb,dv,n,w1,w22,B2,H,ρ,T,rfl,hsb,hrest⟩:=h7;refine gg ?_;obtain⟨ra,rc,hrv⟩:=h8.rows.len;obtain⟨na,nc,hnv⟩:=h8.names.len;obtain⟨pa,pc,hpv⟩:=h8.procs.len;rw[hrv,hnv,hpv];refine gg ?_;refine Cl.w (λw12=>Kp [] w6 w12/\w12.heap[w6.heap.size]?=some (cl [.slice ra (jq t).rows.length rc,.slice na (jq t).names.length nc,.slice pa (jq t).procs.length pc,κs (jq t).out] 62)) ⟨kpA,lookA⟩ ?_;rintro w12 ⟨k12,n12⟩;refine Cl.ret (TI _) ?_;rintro _ w14 ⟨rfl,rfl⟩;refine gg ?_;refine(λ(Q:∀w9,Kp [] w14 w9/\w9.heap[w14.heap.size]?=some (cl [pt sb 0,.slice ra (jq t).rows.length rc,.slice na (jq t).names.length nc,.slice pa (jq t).procs.length pc,κs (jq t).out] 67)->R (.returned (.tuple #[pt w14.heap.size 0,.bool true])) w9)=>Q _ ⟨kpA,lookA⟩) ?_;rintro w39 ⟨k39,n39⟩;exact hR _ _ ⟨(k2.tt k6).tt (k12.tt k39),_,rfl,Or.inr ⟨t,ds,c,names,w14.heap.size,_,x,_,M,pb,rfl,h2,h3,h4,h5,by rw[hrv,hnv,hpv];exact n39,h6,h7'.kp0 (k12.tt k39),h8.ext (k12.tt k39)⟩⟩
end Go.W.T

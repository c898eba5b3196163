/- Texts of mine, one behind the other; nothing is assumed. -/
import Derived.Test.YtaaepbggooiblaaGreatDoorB26
import Derived.Test.YtaaepbggooiblaaGreatDoorB25
import Derived.Test.YtaaepbggooiblaaGreatDoorB30
set_option linter.unusedSimpArgs false
set_option linter.unusedVariables false
set_option maxRecDepth 4000
namespace Go.W.T
open Go Go.W Go.M Go.Proofs
theorem Aa:∀{l:List Nd} {k:Nat},k≤l.length→(aJ l).take (k*5)=aJ (l.take k)
 |[],k,_=>by simp[aJ]
 |a::l,0,_=>by simp[aJ]
 |a::l,k+1,hk=>by
  have e:aJ (a::l)=gz a++aJ l:=rfl
  have e2:aJ ((a::l).take (k+1))=gz a++aJ (l.take k):=rfl
  rw[e,e2,show (k+1)*5=(gz a).length+k*5 by simp[gz];omega,List.take_length_add_append,Aa (by simpa using hk)]
theorem Zo{w:World}{v:Value}{l:List Nd}{o:Option Nat}{K:Value→Prop}(h:Gw w dK 5 v l.length (aJ l) o){k:Nat}(hk:k≤l.length)(hK:∀v',Ep w v' (l.take k)→K v'):SlL 5 v none (some (.int .i64 (k:Nat))) K:=by
 obtain⟨h1,h2⟩:=h
 cases o with
 |none=>
  obtain⟨rfl,h3⟩:=h2
  obtain rfl:k=0:=by omega
  exact⟨hK (.slice none 0 0) ⟨⟨none,0,rfl⟩,fun hn=>absurd rfl hn⟩⟩
 |some b=>
  obtain⟨rest,cap,rfl,h4,h5⟩:=h2
  refine Kv (by rw[h1]at h5;omega) (hK _ ⟨⟨_,_,by rw[List.length_take,Nat.min_eq_left hk]⟩,fun _=>⟨b,0,_,_,_,cap,by rw[List.length_take,Nat.min_eq_left hk],h4,?_,?_⟩⟩)
  ·rw[List.length_append,h1,List.length_take,Nat.min_eq_left hk];omega
  ·have hkl:k*5≤(aJ l).length:=by rw[h1];omega
   rw[List.drop_zero,List.length_take,Nat.min_eq_left hk,List.take_append_of_le_length hkl]
   exact Aa hk
theorem EI{b:By}:∀{v:List Nd} {p q:Nat},Ord b p v q→Ord b p (cZ v) q
 |[],_,_,h=>h
 |n::v,p,q,h=>by
  rw[M.Ord]at h
  split at h
  ·rename_i hk
   obtain⟨a,h1,h2,h3,h4,h5⟩:=h
   have e:cZ (n::v)=n::cZ v:=by unfold cZ;rw[List.filter_cons_of_pos (by simpa using hk)]
   rw[e,M.Ord,if_pos hk]
   exact⟨a,h1,h2,h3,h4,EI h5⟩
  ·rename_i hk
   have e:cZ (n::v)=cZ v:=by unfold cZ;rw[List.filter_cons_of_neg (by simpa using hk)]
   rw[e]
   exact EI h
theorem KP{d:CS}(hks:KS d){name:By}(hn:name∈dI){b:By}(hb:(b.length:Int)≤4000):
  (ocL (uD d kz name b)).length≤10000∧(cZ (ocL (uD d kz name b))).length≤4000∧(∃q,Ord b 0 (cZ (ocL (uD d kz name b))) q)∧(∀v,uD d kz name b=.ok v→v≠[])∧∀e,uD d kz name b≠.num e:=by
 rw[hks.dec hn OH (by show _≤(100000:Int);omega)]
 cases hm:IG d.defs kz (.named name 0) b with
 |no e a=>exact⟨Nat.zero_le _,Nat.zero_le _,⟨0,Nat.le_refl _⟩,⟨(fun v h=>by cases h),(fun e h=>by cases h)⟩⟩
 |ok v=>
  obtain⟨_,_,hne,ho,ht⟩:=bigT hks.ok rfl (by simp) hm
  have hl:=Xh hks.ok rfl hm
  have:(max 0 kz.fuel:Int)=10000:=rfl
  refine⟨by show v.length≤_;omega,?_,⟨_,EI ho⟩,⟨(fun u h=>by cases h;exact hne),(fun e h=>by cases h)⟩⟩
  have:(cZ v).length=(texts v).length:=rfl
  show (cZ v).length≤_
  omega
theorem Tv{w:World}(hg:Gl w)(c:Int)(hc : -9223372036854775808≤c∧c≤9223372036854775807)(b:By)(n:Int)(hn : -9223372036854775808≤n∧n≤9223372036854775807):Calls P qp #[.int .i64 c,κs b,.int .i64 n] w (Law w):=by
 refine Law.R fun R hR=>?_
 apply zY
 unfold pW
 refine Cl.ret (Yh hg) ?_
 rintro v w2 ⟨⟨sb,rfl⟩,⟨d,hk⟩,hg2,k2⟩
 by_cases hb:(b.length:Int)>4000
 ·have hb':decide ((b.length:Int)>4000)=true:=decide_eq_true hb
  repeat' first|refine .x ?_|refine .y ?_|refine .z ?_|fail
  exact hR _ _ rfl k2
 have hb':decide ((b.length:Int)>4000)=false:=decide_eq_false hb
 repeat' first|refine .x ?_|refine .y ?_|refine .z ?_|fail
 refine Cl.ret (Vz c hc) ?_
 rintro v w18 ⟨rfl,k18⟩
 refine Cl.ret Yf ?_
 rintro v w20 ⟨rfl,k20⟩
 have k020:=(k2.tt k18).tt k20
 have h20:=hk.kp0 (k18.tt k20)
 have hnm:=KO c
 have hks:=hk.ks
 generalize wV c=name at *
 obtain⟨f1,f2,⟨q,f3⟩,f4,f5⟩:=KP hks hnm (b:=b) (by omega)
 refine .s ?_
 refine .s ?_
 refine .s ?_
 refine Cl.w (fun w23=>Kp [] w20 w23∧w23.heap[w20.heap.size]?=some (cl [.int .i64 kz.depth,.int .i64 kz.fuel,.int .i64 kz.size] 32)) ⟨by exact kpA,by exact lookA⟩ ?_
 rintro w23 ⟨k23,n23⟩
 refine Cl.ret (Qg (h20.kp0 k23) (name:=name) (b:=b) (lim:=kz) (most:=4000) f1) ?_
 rintro r w26 ⟨k26,o,g26,_⟩
 have n26:w26.heap[w20.heap.size]?=_:=(k26.same _ (lt_of_heap n23) trivial).trans n23
 have k026:=k020.tt (k23.tt k26)
 have h26:=h20.kp0 (k23.tt k26)
 have e1:fst d kz name b 4000=cZ (ocL (uD d kz name b)):=List.take_of_length_le (by show _≤4000;omega)
 rw[e1]at g26
 generalize hL:cZ (ocL (uD d kz name b))=L at *
 obtain⟨la,lc,rfl⟩:=g26.len
 refine Lp.nat (fun m vals w'=>∃(i e:Nat),m+i=L.length∧vals=[i64 e,i64 i]∧Ord b e (L.drop i) q∧e≤b.length∧Kp [] w26 w') (n:=L.length) ⟨0,0,by omega,rfl,f3,Nat.zero_le _,Kp.refl _ _⟩ ?_
 rintro mm _ w28 jk C ⟨i,e,hi,rfl,ho,he,k28⟩ hC
 have g28:=g26.kp k28 fun _ _=>trivial
 refine .s ?_
 refine .t ?_
 refine .s ?_
 refine .split (fun hh=>?_) (fun hh=>?_)
 ·have hlt:i<L.length:=by have:=of_decide_eq_true hh;omega
  obtain⟨nd,hnd⟩:∃nd,L[i]?=some nd:=⟨_,List.getElem?_eq_getElem hlt⟩
  have hd1:L.drop i=nd::L.drop (i+1):=by rw[List.drop_eq_getElem_cons hlt];rw[List.getElem?_eq_getElem hlt]at hnd;cases hnd;rfl
  have hk2:nd.kind=2:=by
   have:=List.mem_of_getElem? hnd
   rw[← hL]at this
   have:=(List.mem_filter.mp this).2
   simpa using this
  rw[hd1,M.Ord,if_pos hk2]at ho
  obtain⟨a,ha,h1,h2,h3,h4⟩:=ho
  obtain⟨b1,o1,t1,fr1,cs1,c1,q1,gh,x0,x1,x2,x3,x4,_⟩:=(Gw.ns g28).fields hnd
  rw[ha]at x3
  have p1:decide ((a:Int)<e)=false:=decide_eq_false (by omega)
  have p2:decide ((a:Int)>b.length)=false:=decide_eq_false (by omega)
  have p3:decide ((nd.s.length:Int)>(b.length:Int) - a)=false:=decide_eq_false (by omega)
  have p4:(!((b.drop a).take (a+nd.s.length - a)==nd.s))=false:=by
   rw[Nat.add_sub_cancel_left,← h3];simp
  have e2:((a:Int)+(nd.s.length:Int))=((a+nd.s.length:Nat):Int):=by omega
  cases q1
  repeat' first|refine .x ?_|refine .y ?_|refine .z ?_|fail
  rw[e2]
  repeat' first|refine .x ?_|refine .y ?_|refine .z ?_|fail
  refine hC (mm - 1) _ _ (by omega) ⟨i+1,a+nd.s.length,by omega,by simp,h4,by omega,by exact kpA⟩
 ·have hge:i=L.length:=by have:=of_decide_eq_false hh;omega
  have n28:w28.heap[w20.heap.size]?=_:=(k28.same _ (lt_of_heap n26) trivial).trans n26
  have k028:=k026.tt k28
  have h28:=h26.kp0 k28
  refine Cl.ret (Tf n 6 hn (by omega) (by omega)) ?_
  rintro _ Rk ⟨rfl,rfl⟩
  obtain⟨pr1,pr2⟩:=zH (c:=n) (n:=6) (by omega)
  generalize vW n 6=kk at *
  obtain⟨k,rfl⟩:∃k:Nat,kk=k:=⟨kk.toNat,by omega⟩
  refine .s ?_
  refine Cl.ret (Qg h28 (name:=name) (b:=b) (lim:=kz) (most:=k) f1) ?_
  rintro r LU ⟨Wx,o2,g166,_⟩
  have e2:fst d kz name b k=L.take k:=by show (cZ _).take (Int.toNat k)=_;rw[hL,Int.toNat_natCast]
  rw[e2]at g166
  have n166:LU.heap[w20.heap.size]?=_:=(Wx.same _ (lt_of_heap n28) trivial).trans n28
  have k0166:=k028.tt Wx
  have h166:=h28.kp0 Wx
  refine Jn.by (fun vals w'=>vals=[i64 (min k L.length:Nat)]∧w'=LU) (fun J hJ=>?_) ?_
  ·refine .t ?_
   refine .s ?_
   refine .split (fun hh=>?_) (fun hh=>?_)
   ·have hh':(k:Int)>L.length:=of_decide_eq_true hh
    refine .t ?_
    exact hJ _ _ ⟨by rw[Nat.min_eq_right (by omega)],rfl⟩
   ·have hh':¬ (k:Int)>L.length:=of_decide_eq_false hh
    exact hJ _ _ ⟨by rw[Nat.min_eq_left (by omega)],rfl⟩
  rintro _ w172 jk2 ⟨rfl,rfl⟩
  refine .s ?_
  refine Zo (g28.kp Wx fun _ _=>trivial) (Nat.min_le_right _ _) fun v' hns=>?_
  have e3:L.take (min k L.length)=L.take k:=by
   rcases Nat.le_total k L.length with h|h
   ·rw[Nat.min_eq_left h]
   ·rw[Nat.min_eq_right h,List.take_of_length_le h,List.take_of_length_le (Nat.le_refl _)]
  rw[e3]at hns
  refine Cl.ret (Yj (Gw.ns g166) hns (by rw[List.length_take];omega) (by rw[List.length_take];omega) true) ?_
  rintro v VF ⟨rfl,YV⟩
  rw[Hu]
  have n176:VF.heap[w20.heap.size]?=_:=(YV.same _ (lt_of_heap n166) trivial).trans n166
  have k0176:=k0166.tt YV
  refine .s ?_
  refine Cl.ret ((h166.kp0 YV).decode name b kz) ?_
  rintro r VE ⟨k179,hd⟩
  have XF:=k0176.tt k179
  obtain⟨V,vv,ov,ev,rfl,gV,hLV,hVl,hcase⟩:∃V vv ov ev,r=.tuple #[vv,ev]∧Gw VE dK 5 vv V.length (aJ V) ov∧L=cZ V∧V.length≤10000∧((ev=.nilIface∧V≠[])∨((∃t u,ev=.iface t u)∧V=[])):=by
   cases hm:uD d kz name b with
   |ok V=>
    rw[hm]at hd
    obtain⟨lv,o,rfl,hgw,_⟩:=hd
    rw[hm]at hL f1
    exact⟨V,lv,o,_,rfl,hgw,hL.symm,f1,Or.inl ⟨rfl,f4 V hm⟩⟩
   |flt e a=>
    rw[hm]at hd
    obtain⟨ev,rfl,fb,rfl,_⟩:=hd
    rw[hm]at hL
    exact⟨[],_,none,_,rfl,Gw.nil _ _ _,hL.symm,Nat.zero_le _,Or.inr ⟨⟨_,_,rfl⟩,rfl⟩⟩
   |num e=>exact absurd hm (f5 e)
  clear hd
  obtain⟨va,vc,rfl⟩:=gV.len
  refine .s ?_
  refine .s ?_
  refine Lp.nat (fun m vals w'=>∃(j:Nat),m+j=V.length∧vals=[i64 ((cZ (V.take j)).length:Nat),i64 j]∧Kp [] VE w') (n:=V.length) ⟨0,by omega,rfl,Kp.refl _ _⟩ ?_
  rintro mm2 _ JZ jk3 C2 ⟨j,hj,rfl,Wv⟩ hC2
  have g183:=gV.kp Wv fun _ _=>trivial
  have hle:=(yf V j).length_le
  have hlV:(cZ V).length≤V.length:=List.length_filter_le _ _
  refine .s ?_
  refine .t ?_
  refine .s ?_
  refine .split (fun hh=>?_) (fun hh=>?_)
  ·have hlt:j<V.length:=by have:=of_decide_eq_true hh;omega
   obtain⟨nd,hnd⟩:∃nd,V[j]?=some nd:=⟨_,List.getElem?_eq_getElem hlt⟩
   obtain⟨b1,o1,t1,fr1,cs1,c1,q1,gh,x0,x1,x2,x3,x4,_⟩:=(Gw.ns g183).fields hnd
   cases q1
   have hlt2:=Ij hnd
   refine Jn.by (fun vals w'=>vals=[i64 ((cZ (V.take (j+1))).length:Nat)]∧w'=JZ) (fun J hJ=>?_) ?_
   ·cases hkk:nd.kind==2 with
    |true=>
     rw[hkk]at hlt2
     repeat' first|refine .x ?_|refine .y ?_|refine .z ?_|fail
     exact hJ _ _ ⟨by rw[hlt2];simp,rfl⟩
    |false=>
     rw[hkk]at hlt2
     repeat' first|refine .x ?_|refine .y ?_|refine .z ?_|fail
     exact hJ _ _ ⟨by rw[hlt2];simp,rfl⟩
   rintro _ w196 jk4 ⟨rfl,rfl⟩
   repeat' first|refine .x ?_|refine .y ?_|refine .z ?_|fail
   exact hC2 (mm2 - 1) _ _ (by omega) ⟨j+1,by omega,by simp,Wv⟩
  ·have hje:j=V.length:=by have:=of_decide_eq_false hh;omega
   subst hje
   rw[List.take_length,← hLV]
   have q1:((L.length:Int)==(L.length:Int))=true:=by simp
   rcases hcase with⟨rfl,hne⟩|⟨⟨t,u,rfl⟩,rfl⟩
   ·have q2:decide ((V.length:Int)>0)=true:=decide_eq_true (by have:=List.length_pos_iff.mpr hne;omega)
    repeat' first|refine .x ?_|refine .y ?_|refine .z ?_|fail
    exact hR _ _ q2 (XF.tt Wv)
   ·have q2:((([]:List Nd).length:Int)==0)=true:=rfl
    repeat' first|refine .x ?_|refine .y ?_|refine .z ?_|fail
    exact hR _ _ rfl (XF.tt Wv)
end Go.W.T

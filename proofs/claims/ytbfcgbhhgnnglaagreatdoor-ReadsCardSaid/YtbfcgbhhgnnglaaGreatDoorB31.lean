/- Texts of mine, one behind the other; nothing is assumed. -/
import Derived.Test.YtbfcgbhhgnnglaaGreatDoorB08
import Derived.Test.YtbfcgbhhgnnglaaGreatDoorB20
import Derived.Test.YtbfcgbhhgnnglaaGreatDoorB27
set_option autoImplicit true
set_option relaxedAutoImplicit true
set_option linter.unusedSimpArgs false
set_option linter.unusedVariables false
set_option maxRecDepth 100000
namespace Go.W.T
open Go Go.W Go.M Go.Proofs
theorem Yt(c:UInt8)(k:UInt8):((c.toNat:Int)==(k.toNat:Int))=(c==k):=by
 rw[Bool.eq_iff_iff,beq_iff_eq,beq_iff_eq];exact⟨λh=>UInt8.toNat_inj.mp omg,λh=>by rw[h]⟩
theorem Jm(c:UInt8):letter c=((decide ((c.toNat:Int)>=97)&&decide ((c.toNat:Int)<=122))||(decide ((c.toNat:Int)>=65)&&decide ((c.toNat:Int)<=90))):=by
 unfold letter;have e1:decide ((97:UInt8)<=c)=decide ((c.toNat:Int)>=97):=by rw[Bool.eq_iff_iff,decide_eq_true_eq,decide_eq_true_eq,UInt8.le_iff_toNat_le];show 97<=c.toNat↔_;omega
 have e2:decide (c<=(122:UInt8))=decide ((c.toNat:Int)<=122):=by rw[Bool.eq_iff_iff,decide_eq_true_eq,decide_eq_true_eq,UInt8.le_iff_toNat_le];show c.toNat<=122↔_;omega
 have e3:decide ((65:UInt8)<=c)=decide ((c.toNat:Int)>=65):=by rw[Bool.eq_iff_iff,decide_eq_true_eq,decide_eq_true_eq,UInt8.le_iff_toNat_le];show 65<=c.toNat↔_;omega
 have e4:decide (c<=(90:UInt8))=decide ((c.toNat:Int)<=90):=by rw[Bool.eq_iff_iff,decide_eq_true_eq,decide_eq_true_eq,UInt8.le_iff_toNat_le];show c.toNat<=90↔_;omega
 rw[e1,e2,e3,e4]
theorem L8(c:UInt8):digit c=(decide ((c.toNat:Int)>=48)&&decide ((c.toNat:Int)<=57)):=by
 unfold digit;congr 1
 .rw[Bool.eq_iff_iff,decide_eq_true_eq,decide_eq_true_eq,UInt8.le_iff_toNat_le];show 48<=c.toNat↔_;omega
 .rw[Bool.eq_iff_iff,decide_eq_true_eq,decide_eq_true_eq,UInt8.le_iff_toNat_le];show c.toNat<=57↔_;omega
theorem yM(w:World)(c:UInt8):Calls P 116 #[.int .u8 c.toNat] w (Ret λv w'=>v=.bool (letter c)/\w'=w):=by
 refine Ret.R λR hR=>?_;refine cf [] Tryz.func116 ?_
 repeat' (first|refine .a ?_|refine .d ?_|refine .s ?_|refine .t ?_|refine .f ?_|((first|apply If.split|apply Gd.split|apply Gd.split')<;>intro _))
 all_goals (refine hR _ _ ⟨?_,rfl⟩;rw[Jm];congr 1;simp_all<;>omega)
theorem C9(w:World)(c:UInt8):Calls P 117 #[.int .u8 c.toNat] w (Ret λv w'=>v=.bool (digit c)/\w'=w):=by
 refine Ret.R λR hR=>?_;refine cf [] Tryz.func117 ?_
 repeat' (first|refine .a ?_|refine .d ?_|refine .s ?_|refine .t ?_|refine .f ?_|((first|apply If.split|apply Gd.split|apply Gd.split')<;>intro _))
 all_goals (refine hR _ _ ⟨?_,rfl⟩;rw[L8];congr 1;simp_all<;>omega)
def Og(c:UInt8):Int:=if dig c<16 then(dig c:Int)else -1
theorem acr:((List.range 256).all λn=>((decide (((n.toUInt8).toNat:Int)>=48)&&decide (((n.toUInt8).toNat:Int)<=57)&&(IntKind.i64.wrap (IntKind.u8.wrap (((n.toUInt8).toNat:Int) - 48))==Og n.toUInt8))||
  (!(decide (((n.toUInt8).toNat:Int)>=48)&&decide (((n.toUInt8).toNat:Int)<=57))&&decide (((n.toUInt8).toNat:Int)>=97)&&decide (((n.toUInt8).toNat:Int)<=102)&&(IntKind.i64.wrap (IntKind.u8.wrap (((n.toUInt8).toNat:Int) - 97))+10==Og n.toUInt8))||
  (!(decide (((n.toUInt8).toNat:Int)>=48)&&decide (((n.toUInt8).toNat:Int)<=57))&&!(decide (((n.toUInt8).toNat:Int)>=97)&&decide (((n.toUInt8).toNat:Int)<=102))&&decide (((n.toUInt8).toNat:Int)>=65)&&decide (((n.toUInt8).toNat:Int)<=70)&&(IntKind.i64.wrap (IntKind.u8.wrap (((n.toUInt8).toNat:Int) - 65))+10==Og n.toUInt8))||
  (!(decide (((n.toUInt8).toNat:Int)>=48)&&decide (((n.toUInt8).toNat:Int)<=57))&&!(decide (((n.toUInt8).toNat:Int)>=97)&&decide (((n.toUInt8).toNat:Int)<=102))&&!(decide (((n.toUInt8).toNat:Int)>=65)&&decide (((n.toUInt8).toNat:Int)<=70))&&(Og n.toUInt8 == -1)))&&decide (0<=IntKind.i64.wrap (IntKind.u8.wrap (((n.toUInt8).toNat:Int) - 97)))&&decide (IntKind.i64.wrap (IntKind.u8.wrap (((n.toUInt8).toNat:Int) - 97))<256)&&decide (0<=IntKind.i64.wrap (IntKind.u8.wrap (((n.toUInt8).toNat:Int) - 65)))&&decide (IntKind.i64.wrap (IntKind.u8.wrap (((n.toUInt8).toNat:Int) - 65))<256))=true:=by decide +kernel
theorem abA(w:World)(c:UInt8):Calls P 183 #[.int .u8 c.toNat] w (Ret λv w'=>v=.int .i64 (Og c)/\w'=w):=by
 refine Ret.R λR hR=>?_;refine cf [] Tryz.func183 ?_;have e:=List.all_eq_true.mp acr c.toNat (List.mem_range.mpr (UInt8.toNat_lt c));have hc:c.toNat.toUInt8=c:=UInt8.ofNat_toNat;rw[hc]at e;simp only[Bool.and_eq_true]at e;obtain⟨⟨⟨⟨e,b1⟩,b2⟩,b3⟩,b4⟩:=e;have b1:=of_decide_eq_true b1;have b2:=of_decide_eq_true b2;have b3:=of_decide_eq_true b3;have b4:=of_decide_eq_true b4
 repeat' (first|refine .a ?_|refine .d ?_|refine .s ?_|refine .t ?_|refine .f ?_|((first|apply If.split|apply Gd.split|apply Gd.split')<;>intro _))
 all_goals (refine hR _ _ ⟨?_,rfl⟩;congr 1;simp_all<;>omega)
theorem aaH(hK:K (.int .i64 (a*b)))(h : -9223372036854775808<=a*b/\a*b<=9223372036854775807):Bi .mul (.int .i64 a) (.int .i64 b) K:=by
 rw[rBmul,rq h.1 h.2];exact hK
theorem q_key(w:World)(s:By):Calls P 118 #[κs s] w (Ret λv w'=>v=.bool (mr.contains s)/\w'=w):=by
 refine Ret.R λR hR=>?_;refine cf [4] Tryz.func118 ?_;have hR':∀b,b=mr.contains s->R (.returned (.bool b)) w:=λb hb=>hR _ _ ⟨by rw[hb],rfl⟩;clear hR;refine Jn.by (λvals w'=>vals=[.bool (mr.contains s)]/\w'=w) (λJ hJ=>?_) ?_
 .have yes:∀x,x∈mr->(s==x)=true->J [.bool (s==x)] w:=λx hx h=>hJ _ _ ⟨by
   have e:s=x:=by simpa using h
   rw[h,e];have:mr.contains x=true:=by simpa using hx
   rw[this],rfl⟩
  repeat' first
   |refine Bs.s ?_
   |(refine If.split (λh=>?_) (λh=>?_))
   |exact yes _ dcd asu
   |(refine hJ _ _ ⟨?_,rfl⟩;simp only[mr,List.contains_cons,List.contains_nil, *,Bool.false_or,Bool.or_false];done)
 .rintro _ w' jk ⟨rfl,rfl⟩;cases hk:mr.contains s with
  |true=>(repeat' first|refine .q ?_|refine .r ?_|refine .g ?_|fail);exact hR' _ hk.symm
  |false=>(repeat' first|refine .q ?_|refine .r ?_|refine .g ?_|fail);exact hR' _ hk.symm
theorem Mc(c:UInt8):decide (dig c<10)=digit c:=by
 have h:((List.range 256).all λn=>decide (dig n.toUInt8<10)==digit n.toUInt8)=true:=by decide +kernel
 have e:=List.all_eq_true.mp h c.toNat (List.mem_range.mpr (UInt8.toNat_lt c));have hc:c.toNat.toUInt8=c:=UInt8.ofNat_toNat;rw[hc]at e;simpa using e
theorem acK(h:digit c=true):IntKind.i64.wrap (IntKind.u8.wrap ((c.toNat:Int) - 48))=(dig c:Int):=by
 have hh:((List.range 256).all λn=>!digit n.toUInt8||(IntKind.i64.wrap (IntKind.u8.wrap (((n.toUInt8).toNat:Int) - 48))==(dig n.toUInt8:Int)))=true:=by decide +kernel
 have e:=List.all_eq_true.mp hh c.toNat (List.mem_range.mpr (UInt8.toNat_lt c));have hc:c.toNat.toUInt8=c:=UInt8.ofNat_toNat;rw[hc,h]at e;simpa using e
theorem drop_cons{l:By}{i:Nat}(h:i<l.length):∃c,l[i]?=some c/\l.drop i=c::l.drop (i+1):=by
 refine⟨l[i],List.getElem?_eq_getElem h,List.drop_eq_getElem_cons h⟩
theorem pow16(h:i<=8):16 ^ i<=4294967296:=by
 have:16 ^ i<=16 ^ 8:=Nat.pow_le_pow_right omg h;omega
theorem pow10(h:i<=10):10 ^ i<=10000000000:=by
 have:10 ^ i<=10 ^ 10:=Nat.pow_le_pow_right omg h;omega
theorem Y3(w:World)(s:By)(neg:Bool)(hlen:s.length<=2000):Calls P 119 #[κs s,.bool neg] w (Ret λv w'=>(∃n b,v=.tuple #[.int .i64 n,.bool b]/\(if b then some n else none)=lK s neg)/\w'=w):=by
 refine Ret.R λR hR=>?_;refine cf [6,7,9] Tryz.func119 ?_;have no:∀n,lK s neg=none->R (.returned (.tuple #[.int .i64 n,.bool false])) w:=λn h=>hR _ _ ⟨⟨n,false,rfl,by rw[h];rfl⟩,rfl⟩;have yes:∀n,lK s neg=some n->R (.returned (.tuple #[.int .i64 n,.bool true])) w:=λn h=>hR _ _ ⟨⟨n,true,rfl,by rw[h];rfl⟩,rfl⟩;clear hR;cases s with
 |nil=>
  refine gg ?_;exact no _ rfl
 |cons c t=>
  have q0:(((c::t).length:Int)==0)=false:=by rw[beq_eq_false_iff_ne];simp only[List.length_cons];omega
  have c0:(c::t)[0]?=some c:=rfl;generalize hs:c::t=s at *;have hl0:0<s.length:=by rw[<- hs];simp
  have ix0:∀K:Value->Prop,K (.int .u8 c.toNat)->IxS (κs s) (.int .i64 0) K:=λK h=>IxS.s (i:=0) (c:=c) h c0;have hhd:s.head?=some c:=by rw[<- hs];rfl
  -- the decimal way,from where both tests have failed
  have decimal:∀w':World,w'=w->¬ (2<s.length/\starts [48,120] s=true)->¬ 10<s.length->¬ (1<s.length/\s.head?=some 48) ->
    Lp [(.int .i64 0),(.int .i64 0)] w' λjk97 vals w98 C99=>
     V2 vals λYn v101=>
     Ln true (κs s) λx102=>
     Bi .lss v101 x102 λx103=>
     If x103 (
     IxS (κs s) v101 λx104=>
     Cl P 117 #[x104] w98 (pE R) λX7 w106=>
     Nt X7 λX6=>
     If X6 (
     R (.returned (.tuple #[(.int .i64 0),(.bool false)])) w106) (
     Bi .mul (.int .i64 10) Yn λX5=>
     IxS (κs s) v101 λX4=>
     Bi .sub X4 (.int .u8 48) λX3=>
     Cv .i64 X3 λVZ=>
     Bi .add X5 VZ λx112=>
     Bi .add v101 (.int .i64 1) λx113=>
     C99 [x112,x113] w106)) (
     If (.bool neg) (
     Ng Yn λx114=>
     Bi .leq Yn (.int .i64 2147483648) λx115=>
     R (.returned (.tuple #[x114,x115])) w98) (
     Bi .leq Yn (.int .i64 4294967295) λx116=>
     R (.returned (.tuple #[Yn,x116])) w98)):=by
   rintro w' rfl n1 n2 n3;have hn:¬ (s.length=0\/10<s.length\/(1<s.length/\s.head?=some 48)):=by
    rintro(h|h|h)
    .omega
    .exact n2 h
    .exact n3 h
   have e1:qo 10 s 0=none->lK s neg=none:=λh=>by
    unfold lK BH;rw[if_neg n1,if_neg hn,h]
   have e2:∀v,qo 10 s 0=some v->lK s neg=(if neg=true then(if v<=2147483648 then some (-(v:Int))else none)else(if v<=4294967295 then some (v:Int)else none)):=λv h=>by
    unfold lK BH;rw[if_neg n1,if_neg hn,h]
   refine Lp.nat (λm vals w9=>∃i v:Nat,m+i=s.length/\vals=[i64 v,i64 i]/\qo 10 (s.drop i) v=qo 10 s 0/\v<10 ^ i/\w9=w') (n:=s.length) ⟨0,0,by omega,rfl,rfl,by omega,rfl⟩ ?_;rintro m _ w9 jk C ⟨i,v,hi,rfl,hd,hv,rfl⟩ hC;refine vI ?_;refine .split (λhh=>?_) (λhh=>?_)
   .have hlt:i<s.length:=by have:=of_decide_eq_true hh;omega
    obtain⟨x,hx,hdx⟩:=drop_cons hlt;rw[hdx,qo]at hd;have hp:=pow10 (i:=i) (by omega);refine .s ?_;refine Cl.ret (C9 _ x) ?_;rintro _ w2 ⟨rfl,rfl⟩;rw[<- Mc]
    by_cases hdg:dig x<10
    .rw[if_pos hdg]at hd;have hdd:=decide_eq_true hdg;rw[hdd];have hdig:digit x=true:=by rw[<- Mc];exact hdd
     refine .s ?_;refine .f ?_;refine aaH ?_ (by omega);refine vI ?_;rw[acK hdig];refine .a ?_;refine .a ?_;refine hC (m - 1) _ _ (by omega) ⟨i+1,10*v+dig x,by omega,?_,hd,by rw[Nat.pow_succ];omega,rfl⟩;simp only[List.cons.injEq,Value.int.injEq,and_true,true_and];constructor<;>omega
    .rw[if_neg hdg]at hd;have hdd:=decide_eq_false hdg;rw[hdd]
     (repeat' first|refine .q ?_|refine .r ?_|refine .g ?_|fail)
     exact no _ (e1 hd.symm)
   .have hge:i=s.length:=by have:=of_decide_eq_false hh;omega
    subst hge;rw[List.drop_length]at hd;have e3:=e2 v hd.symm;have hp:=pow10 (i:=s.length) (by omega);cases neg with
    |true=>
     rw[if_pos rfl]at e3
     by_cases hv2:v<=2147483648
     .rw[if_pos hv2]at e3;have d1:decide ((v:Int)<=2147483648)=true:=decide_eq_true (by omega);refine gg ?_;rw[d1,rq (by omega) (by omega),Int.zero_sub];exact yes _ e3
     .rw[if_neg hv2]at e3;have d1:decide ((v:Int)<=2147483648)=false:=decide_eq_false (by omega);refine gg ?_;rw[d1];exact no _ e3
    |false=>
     rw[if_neg (by simp)]at e3
     by_cases hv2:v<=4294967295
     .rw[if_pos hv2]at e3;have d1:decide ((v:Int)<=4294967295)=true:=decide_eq_true (by omega);refine gg ?_;rw[d1];exact yes _ e3
     .rw[if_neg hv2]at e3;have d1:decide ((v:Int)<=4294967295)=false:=decide_eq_false (by omega);refine gg ?_;rw[d1];exact no _ e3
  have noX:2<s.length/\starts [48,120] s=true->(neg=true\/10<s.length)->lK s neg=none:=λh k=>by
   unfold lK;rw[if_pos h,if_pos k]
  have noD:¬ (2<s.length/\starts [48,120] s=true)->(10<s.length\/(1<s.length/\s.head?=some 48))->lK s neg=none:=λh k=>by
   unfold lK BH;rw[if_neg h,if_pos (Or.inr k)]
  have c48:c=48->((c.toNat:Int)==48)=true:=λh=>by rw[h];rfl
  have c48':c≠48->((c.toNat:Int)==48)=false:=λh=>by have:=Yt c 48;rw[show ((48:UInt8).toNat:Int)=48 from rfl]at this;rw[this];simpa using h
  have h48:c=48->s.head?=some 48:=λh=>by rw[hhd,h]
  have h48':c≠48->¬ (1<s.length/\s.head?=some 48):=λh k=>by
   have:=k.2;rw[hhd]at this;exact h (Option.some.inj this)
  by_cases l2:2<s.length
  .have d2:decide ((s.length:Int)>2)=true:=decide_eq_true (by omega);have d1:decide ((s.length:Int)>1)=true:=decide_eq_true (by omega);obtain⟨e,he⟩:∃e,s[1]?=some e:=⟨_,List.getElem?_eq_getElem (by omega)⟩;have ix1:∀K:Value->Prop,K (.int .u8 e.toNat)->IxS (κs s) (.int .i64 1) K:=λK h=>IxS.s (i:=1) (c:=e) h he;have hst:starts [48,120] s=(48==c&&120==e):=by
    cases t with
    |nil=>rw[<- hs]at l2;simp at l2
    |cons e' t=>
     have:e'=e:=by rw[<- hs]at he;simpa using he
     subst this;rw[<- hs];simp[starts]
   by_cases hc:c=48
   .have q1:=c48 hc
    by_cases h120:e=120
    .have q2:((e.toNat:Int)==120)=true:=by rw[h120];rfl
     have hx:2<s.length/\starts [48,120] s=true:=⟨l2,by rw[hst,hc,h120];rfl⟩;cases neg with
     |true=>
      refine gg ?_;exact no _ (noX hx (Or.inl rfl))
     |false=>
      by_cases l10:10<s.length
      .have d10:decide ((s.length:Int)>10)=true:=decide_eq_true (by omega);refine gg ?_;exact no _ (noX hx (Or.inr l10))
      .have d10:decide ((s.length:Int)>10)=false:=decide_eq_false (by omega);have e1:lK s false=(qo 16 (s.drop 2) 0).map Int.ofNat:=by
        unfold lK;rw[if_pos hx,if_neg (by rintro(h|h);· cases h
                                          · exact l10 h)]
       refine gg ?_;refine Lp.nat (λm vals w9=>∃i v:Nat,m+i=s.length/\vals=[i64 v,i64 i]/\qo 16 (s.drop i) v=qo 16 (s.drop 2) 0/\v<16 ^ (i - 2)/\2<=i/\w9=w) (n:=s.length - 2) ⟨2,0,by omega,rfl,rfl,by omega,by omega,rfl⟩ ?_;rintro m _ w9 jk C ⟨i,v,hi,rfl,hd,hv,hi2,rfl⟩ hC;refine vI ?_;refine .split (λhh=>?_) (λhh=>?_)
       .have hlt:i<s.length:=by have:=of_decide_eq_true hh;omega
        obtain⟨x,hxi,hdx⟩:=drop_cons hlt;rw[hdx,qo]at hd;have hp:=pow16 (i:=i - 2) (by omega);refine .s ?_;refine Cl.ret (abA _ x) ?_;rintro _ w2 ⟨rfl,rfl⟩
        by_cases hdg:dig x<16
        .rw[if_pos hdg]at hd;have hxi:Og x=(dig x:Int):=by unfold Og;rw[if_pos hdg]
         have d0:decide ((dig x:Int)<0)=false:=decide_eq_false (by omega);rw[hxi];refine .s ?_;refine .f ?_;refine aaH ?_ (by omega);refine .a ?_;refine .a ?_;refine hC (m - 1) _ _ (by omega) ⟨i+1,16*v+dig x,by omega,?_,hd,by rw[show i+1 - 2=(i - 2)+1 by omega,Nat.pow_succ];omega,by omega,rfl⟩;simp only[List.cons.injEq,Value.int.injEq,and_true,true_and];constructor<;>omega
        .rw[if_neg hdg]at hd;have hxi:Og x = -1:=by unfold Og;rw[if_neg hdg]
         rw[hxi]
         (repeat' first|refine .q ?_|refine .r ?_|refine .g ?_|fail)
         exact no _ (by rw[e1,<- hd];rfl)
       .have hge:i=s.length:=by have:=of_decide_eq_false hh;omega
        subst hge;rw[List.drop_length]at hd;exact yes _ (by rw[e1,<- hd];rfl)
    .have q2:((e.toNat:Int)==120)=false:=by have:=Yt e 120;rw[show ((120:UInt8).toNat:Int)=120 from rfl]at this;rw[this];simpa using h120
     have hx:¬ (2<s.length/\starts [48,120] s=true):=λh=>by
      have:=h.2;rw[hst,Bool.and_eq_true,beq_iff_eq,beq_iff_eq]at this;exact h120 this.2.symm
     by_cases l10:10<s.length
     .have d10:decide ((s.length:Int)>10)=true:=decide_eq_true (by omega);refine gg ?_;exact no _ (noD hx (Or.inl l10))
     .have d10:decide ((s.length:Int)>10)=false:=decide_eq_false (by omega);refine gg ?_;exact no _ (noD hx (Or.inr ⟨by omega,h48 hc⟩))
   .have q1:=c48' hc;have hx:¬ (2<s.length/\starts [48,120] s=true):=λh=>by
     have:=h.2;rw[hst,Bool.and_eq_true,beq_iff_eq,beq_iff_eq]at this;exact hc this.1.symm
    by_cases l10:10<s.length
    .have d10:decide ((s.length:Int)>10)=true:=decide_eq_true (by omega);refine gg ?_;exact no _ (noD hx (Or.inl l10))
    .have d10:decide ((s.length:Int)>10)=false:=decide_eq_false (by omega);refine gg ?_;exact decimal _ rfl hx l10 (h48' hc)
  .have d2:decide ((s.length:Int)>2)=false:=decide_eq_false (by omega);have d10:decide ((s.length:Int)>10)=false:=decide_eq_false (by omega);have hx:¬ (2<s.length/\starts [48,120] s=true):=λh=>l2 h.1
   by_cases l1:1<s.length
   .have d1:decide ((s.length:Int)>1)=true:=decide_eq_true (by omega)
    by_cases hc:c=48
    .have q1:=c48 hc;refine gg ?_;exact no _ (noD hx (Or.inr ⟨l1,h48 hc⟩))
    .have q1:=c48' hc;refine gg ?_;exact decimal _ rfl hx (by omega) (h48' hc)
   .have d1:decide ((s.length:Int)>1)=false:=decide_eq_false (by omega);refine gg ?_;exact decimal _ rfl hx (by omega) (λh=>l1 h.1)
theorem ji{c k:UInt8}{n:Int}(hk:(k.toNat:Int)=n):((c.toNat:Int)==n)=(c==k):=by rw[<- hk];exact Yt c k
theorem q_gap(w:World)(txt:By)(at_:Nat)(hl:txt.length<=2000)(ha:at_<=txt.length):Calls P 115 #[κs txt,i64 at_] w (Ret λv w'=>v=i64 ((at_+pJ (txt.drop at_):Nat))/\w'=w):=by
 refine Ret.R λR hR=>?_;refine cf [1,6] Tryz.func115 ?_;refine Lp.nat (λm vals w'=>∃(i:Nat) (e:Value),m+i=txt.length/\vals=[i64 i,e]/\i+pJ (txt.drop i)=at_+pJ (txt.drop at_)/\w'=w) (n:=txt.length - at_) ⟨at_,undef,by omega,rfl,rfl,rfl⟩ ?_;rintro m _ w' jk C ⟨i,ev,hi,rfl,hs,rfl⟩ hC;have fin:pJ (txt.drop i)=0->R (.returned (i64 i)) w':=λh=>hR _ _ ⟨by rw[<- hs,h];rfl,rfl⟩;refine gg ?_;refine .split (λhh=>?_) (λhh=>?_)
 .have hlt:i<txt.length:=by have:=of_decide_eq_true hh;omega
  obtain⟨c,hc,hd⟩:=drop_cons hlt;have b32:=ji (c:=c) (k:=32) (n:=32) rfl;have b9:=ji (c:=c) (k:=9) (n:=9) rfl;have b10:=ji (c:=c) (k:=10) (n:=10) rfl;have b47:=ji (c:=c) (k:=47) (n:=47) rfl;rw[hd]at hs fin;have next:iF c=true->C [i64 ((i:Int)+1),ev] w':=λh=>hC (m - 1) _ _ (by omega) ⟨i+1,ev,by omega,by simp,by rw[FM h]at hs;omega,rfl⟩
  cases q32:c==32 with
  |true=>
   rw[q32]at b32;refine gg ?_;exact next (by unfold iF;rw[q32];rfl)
  |false=>
  rw[q32]at b32;cases q9:c==9 with
  |true=>
   rw[q9]at b9;refine gg ?_;exact next (by unfold iF;rw[q32,q9];rfl)
  |false=>
  rw[q9]at b9;cases q10:c==10 with
  |true=>
   rw[q10]at b10;refine gg ?_;exact next (by unfold iF;rw[q32,q9,q10];rfl)
  |false=>
  rw[q10]at b10;have hb:iF c=false:=by unfold iF;rw[q32,q9,q10];rfl
  clear next
  cases q47:c==47 with
  |false=>
   rw[q47]at b47;have n47:((c.toNat:Int) != 47)=true:=by rw[bne,b47];rfl
   have hst:starts [47,42] (c::txt.drop (i+1))=false:=by
    rw[starts];have:((47:UInt8)==c)=false:=by rw[BEq.comm];exact q47
    rw[this];rfl
   refine gg ?_;exact fin (wO hb hst)
  |true=>
   rw[q47]at b47;have n47:((c.toNat:Int) != 47)=false:=by rw[bne,b47];rfl
   have hc47:(47:UInt8)==c:=by rw[BEq.comm];exact q47
   by_cases hlt2:i+1<txt.length
   .obtain⟨e,he,hd2⟩:=drop_cons hlt2;have d1:decide ((i:Int)+1>=txt.length)=false:=decide_eq_false (by omega);have b42:=ji (c:=e) (k:=42) (n:=42) rfl;have ix:∀K:Value->Prop,K (.int .u8 e.toNat)->IxS (κs txt) (.int .i64 ((i:Int)+1)) K:=λK h=>by
     have:((i:Int)+1)=((i+1:Nat):Int):=by omega
     rw[this];exact IxS.s h he
    have hst:starts [47,42] (c::txt.drop (i+1))=(e==42):=by
     rw[starts,hd2,starts,hc47,Bool.true_and,starts,Bool.and_true,BEq.comm]
    cases q42:e==42 with
    |false=>
     rw[q42]at b42 hst;have n42:((e.toNat:Int) != 42)=true:=by rw[bne,b42];rfl
     refine gg ?_;exact fin (wO hb hst)
    |true=>
     rw[q42]at b42 hst;have n42:((e.toNat:Int) != 42)=false:=by rw[bne,b42];rfl
     refine gg ?_;have hdd:(c::txt.drop (i+1)).drop 2=txt.drop (i+2):=by rw[<- hd,List.drop_drop]
     refine Lp.nat (λm vals w9=>∃j:Nat,m+j=txt.length/\vals=[i64 j]/\i+2<=j/\find [42,47] (txt.drop (i+2))=(find [42,47] (txt.drop j)).map (·+(j - (i+2)))/\w9=w') (n:=txt.length - (i+2)) ⟨i+2,by omega,by simp,by omega,by simp,rfl⟩ ?_;rintro m2 _ w9 jk2 C2 ⟨j,hj,rfl,hij,hf,rfl⟩ hC2;refine gg ?_
     by_cases hlt3:j+1<txt.length
     .have d3:decide ((j:Int)+1<txt.length)=true:=decide_eq_true (by omega);obtain⟨x,hx,hdx⟩:=drop_cons (l:=txt) (i:=j) (by omega);obtain⟨y,hy,hdy⟩:=drop_cons hlt3;have bx:=ji (c:=x) (k:=42) (n:=42) rfl;have by_:=ji (c:=y) (k:=47) (n:=47) rfl;have hst2:starts [42,47] (txt.drop j)=(x==42&&y==47):=by
       rw[hdx,starts,hdy,starts,starts,Bool.and_true,BEq.comm (a:=x),BEq.comm (a:=y)]
      have go:(x==42&&y==47)=false->C2 [i64 ((j:Int)+1)] w9:=λh=>hC2 (m2 - 1) _ _ (by omega) ⟨j+1,by omega,by simp,by omega,by
       rw[hf];rw[h,hdx]at hst2;rw[hdx,Xy hst2];cases find [42,47] (txt.drop (j+1))with
       |none=>rfl
       |some e=>simp only[Option.map_some,Option.some.injEq];omega,rfl⟩
      have stop:(x==42&&y==47)=true->i+(j - (i+2)+4)+pJ (txt.drop (i+(j - (i+2)+4)))=at_+pJ (txt.drop at_):=λh=>by
       have hf0:find [42,47] (txt.drop j)=some 0:=by
        rw[h]at hst2;rw[hdx]at hst2 ⊢;rw[find,hst2];rfl
       rw[hf0,Option.map_some,Nat.zero_add,<- hdd]at hf;have:=KX hb hst hf;rw[this,<- hd,List.drop_drop]at hs;omega
      cases qx:x==42 with
      |false=>
       rw[qx]at bx;have nx:((x.toNat:Int) != 42)=true:=by rw[bne,bx];rfl
       refine gg ?_;exact go (by rw[qx];rfl)
      |true=>
       rw[qx]at bx;have nx:((x.toNat:Int) != 42)=false:=by rw[bne,bx];rfl
       cases qy:y==47 with
       |false=>
        rw[qy]at by_;have ny:((y.toNat:Int) != 47)=true:=by rw[bne,by_];rfl
        refine gg ?_;exact go (by rw[qx,qy];rfl)
       |true=>
        rw[qy]at by_;have ny:((y.toNat:Int) != 47)=false:=by rw[bne,by_];rfl
        have st:=stop (by rw[qx,qy];rfl);have d4:decide ((j:Int)+1>=txt.length)=false:=decide_eq_false (by omega);refine gg ?_;refine hC (txt.length - (j+2)) _ _ (by omega) ⟨j+2,_,by omega,rfl,?_,rfl⟩;rw[show j+2=i+(j - (i+2)+4)by omega];exact st
     .have d3:decide ((j:Int)+1<txt.length)=false:=decide_eq_false (by omega);have d4:decide ((j:Int)+1>=txt.length)=true:=decide_eq_true (by omega);have hfn:find [42,47] ((c::txt.drop (i+1)).drop 2)=none:=by
       rw[hdd,hf];have hlen:(txt.drop j).length<=1:=by rw[List.length_drop];omega
       cases hdj:txt.drop j with
       |nil=>rfl
       |cons x r=>
        rw[hdj]at hlen;cases r with
        |nil=>simp[find,starts]
        |cons y r=>simp at hlen
      refine gg ?_;exact fin (Iu hb hst hfn)
   .have d1:decide ((i:Int)+1>=txt.length)=true:=decide_eq_true (by omega);have hst:starts [47,42] (c::txt.drop (i+1))=false:=by
     rw[List.drop_eq_nil_of_le (by omega),starts,starts,Bool.and_false]
    refine gg ?_;exact fin (wO hb hst)
 .have hge:¬ i<txt.length:=by have:=of_decide_eq_false hh;omega
  exact fin (by rw[List.drop_eq_nil_of_le (by omega)];rfl)
def Ya:Res (Wd×Nat)->List Value
 |.ok (x,e)=>[i64 (x.kind:Nat),κs x.s,i64 (x.at_:Nat),i64 (e:Nat),.int .i64 x.n,.int .i64 0]
 |.no e a=>[.int .i64 5,κs [],i64 (a:Nat),.int .i64 0,.int .i64 0,i64 (e:Nat)]
theorem YR(h:n=aY r):∀x∈r.take n,eP x=true:=by
 subst h;induction r with
 |nil=>simp
 |cons c r ih=>
  intro x hx;rw[aY]at hx;split at hx
  .rename_i hc;rw[List.take_succ_cons]at hx;rcases List.mem_cons.mp hx with rfl|hx
   .exact hc
   .exact ih x hx
  .simp at hx
theorem LC(h:eP c=true):c≠32:=by rintro rfl;exact absurd h dcd
theorem q_Next(w:World)(txt:By)(at_:Nat)(hl:txt.length<=2000)(ha:at_<=txt.length):Calls P 70 #[κs txt,i64 at_] w (Ret λv w'=>v=.agg (List.toArray (Ya (next txt at_)))/\Kp [] w w'):=by
 refine Ret.R λR hR=>?_;refine cf [6,11,87,112] Tryz.func70 ?_;have hle:=Cj _ (txt.drop at_) (Nat.le_refl _);rw[List.length_drop]at hle;refine .s ?_;refine Cl.ret (q_gap _ txt at_ hl ha) ?_;rintro _ w1 ⟨rfl,rfl⟩;generalize hnx:next txt at_=X at *
 rw[next,Ci (txt.length+1) (l:=txt.drop at_) (by rw[List.length_drop];omega)]at hnx;have hqle:at_+pJ (txt.drop at_)<=txt.length:=by omega
 clear hle;generalize at_+pJ (txt.drop at_)=q at *;have hR':∀(l:List Value) w',l=Ya X->Kp [] w w'->R (.returned (.agg (List.toArray l))) w':=λl w' h k=>hR _ _ ⟨by rw[h],k⟩;clear hR
 by_cases hq:q=txt.length
 .have q0:((q:Int)==txt.length)=true:=by rw[hq];simp
  rw[List.drop_eq_nil_of_le (by omega)]at hnx;simp only[]at hnx;refine gg ?_;exact hR' _ _ (by rw[<- hnx];rfl) (by exact kpA)
 .have hlt:q<txt.length:=by omega
  have q0:((q:Int)==txt.length)=false:=by rw[beq_eq_false_iff_ne];omega
  obtain⟨c,hc,hd⟩:=drop_cons hlt;generalize hr:txt.drop (q+1)=r at *;have hrl:r.length+(q+1)=txt.length:=by rw[<- hr,List.length_drop];omega
  rw[hd]at hnx;simp only[]at hnx;have b45:=ji (c:=c) (k:=45) (n:=45) rfl;refine gg ?_;refine Cl.ret (yM _ c) ?_;rintro _ w2 ⟨rfl,rfl⟩;refine Cl.ret (C9 _ c) ?_;rintro _ w3 ⟨rfl,rfl⟩;have k1:Kp [] w (w.alloc (cl [.int .i64 0,.string ⟨#[]⟩,.int .i64 0,.int .i64 0,.int .i64 0,.int .i64 0] 110)):=by exact kpA
  have n1:(w.alloc (cl [.int .i64 0,.string ⟨#[]⟩,.int .i64 0,.int .i64 0,.int .i64 0,.int .i64 0] 110)).heap[w.heap.size]?=some (cl [.int .i64 0,.string ⟨#[]⟩,.int .i64 0,.int .i64 0,.int .i64 0,.int .i64 0] 110):=by exact lookA
  generalize w.alloc (cl [.int .i64 0,.string ⟨#[]⟩,.int .i64 0,.int .i64 0,.int .i64 0,.int .i64 0] 110)=w1 at *;have z1:=lt_of_heap n1;have hrl2:=zO r
  have loop:∀J:List Value->World->Prop,(∀vals w',vals=[i64 ((q+1+aY r:Nat))]/\w'=w1->J vals w') ->
    Lp [(.int .i64 ((q:Int)+1))] w1 λjk29 vals w30 C31=>
    V1 vals λv32=>
    Ln true (κs txt) λx33=>
    Bi .lss v32 x33 λx34=>
    Gd x34 true w30 (λK35=>K35 (κs txt) w30) λx36 w37=>
    Gd x34 true w37 (λK38=>K38 v32 w37) λx39 w40=>
    Gd x34 true w40 (λK41=>IxS x36 x39 λx42=>K41 x42 w40) λx43 w44=>
    Gd x34 true w44 (λK45=>Cl P 116 #[x43] w44 (pE R) λx46 w47=>K45 x46 w47) λx48 w49=>
    Gd x34 true w49 (λK50=>K50 x48 w49) λx51 w52=>
    Gd x51 false w52 (λK53=>K53 (κs txt) w52) λx54 w55=>
    Gd x51 false w55 (λK56=>K56 v32 w55) λx57 w58=>
    Gd x51 false w58 (λK59=>IxS x54 x57 λx60=>K59 x60 w58) λx61 w62=>
    Gd x51 false w62 (λK63=>Cl P 117 #[x61] w62 (pE R) λx64 w65=>K63 x64 w65) λx66 w67=>
    Gd x34 true w67 (λK68=>Pk x51 (.bool true) x66 λx69=>K68 x69 w67) λx70 w71=>
    Gd x34 true w71 (λK72=>K72 x70 w71) λx73 w74=>
    Gd x73 false w74 (λK75=>K75 (κs txt) w74) λx76 w77=>
    Gd x73 false w77 (λK78=>K78 v32 w77) λx79 w80=>
    Gd x73 false w80 (λK81=>IxS x76 x79 λx82=>K81 x82 w80) λx83 w84=>
    Gd x73 false w84 (λK85=>Bi .eql x83 (.int .u8 95) λx86=>K85 x86 w84) λx87 w88=>
    Gd x34 true w88 (λK89=>Pk x73 (.bool true) x87 λx90=>K89 x90 w88) λx91 w92=>
    Pk x34 x91 (.bool false) λx93=>
    If x93 (
    Bi .add v32 (.int .i64 1) λx94=>
    C31 [x94] w92) (
    J [v32] w92):=by
   intro J hJ;refine Lp.nat (λm vals w9=>∃j:Nat,m+j=txt.length/\vals=[i64 j]/\q+1<=j/\aY r=(j - (q+1))+aY (txt.drop j)/\w9=w1) (n:=r.length) ⟨q+1,by omega,by simp,by omega,by rw[hr];omega,rfl⟩ ?_;rintro m _ w9 jk C ⟨j,hj,rfl,hjq,hrun,rfl⟩ hC
   by_cases hjl:j<txt.length
   .have d1:decide ((j:Int)<txt.length)=true:=decide_eq_true (by omega);obtain⟨x,hx,hdx⟩:=drop_cons hjl;have b95:=ji (c:=x) (k:=95) (n:=95) rfl;rw[hdx,aY]at hrun;have go:eP x=true->C [i64 ((j:Int)+1)] w9:=λh=>hC (m - 1) _ _ (by omega) ⟨j+1,by omega,by simp,by omega,by rw[if_pos h]at hrun;omega,rfl⟩;have stop:eP x=false->J [i64 j] w9:=λh=>hJ _ _ ⟨by rw[h,if_neg (by simp)]at hrun;rw[hrun,show q+1+(j - (q+1)+0)=j by omega],rfl⟩;have hp:eP x=(letter x||digit x||x==95):=rfl;cases ql:letter x with
    |true=>
     refine gg ?_;refine gg ?_;refine Cl.ret (yM _ x) ?_;rintro _ w2 ⟨rfl,rfl⟩;rw[ql];refine gg ?_;exact go (by rw[hp,ql];rfl)
    |false=>
     cases qd:digit x with
     |true=>
      refine gg ?_;refine Cl.ret (yM _ x) ?_;rintro _ w2 ⟨rfl,rfl⟩;rw[ql];refine gg ?_;refine Cl.ret (C9 _ x) ?_;rintro _ w2 ⟨rfl,rfl⟩;rw[qd];refine gg ?_;exact go (by rw[hp,ql,qd];rfl)
     |false=>
      cases q95:x==95 with
      |true=>
       rw[q95]at b95;refine gg ?_;refine Cl.ret (yM _ x) ?_;rintro _ w2 ⟨rfl,rfl⟩;rw[ql];refine gg ?_;refine Cl.ret (C9 _ x) ?_;rintro _ w2 ⟨rfl,rfl⟩;rw[qd];refine gg ?_;exact go (by rw[hp,ql,qd,q95];rfl)
      |false=>
       rw[q95]at b95;refine gg ?_;refine Cl.ret (yM _ x) ?_;rintro _ w2 ⟨rfl,rfl⟩;rw[ql];refine gg ?_;refine Cl.ret (C9 _ x) ?_;rintro _ w2 ⟨rfl,rfl⟩;rw[qd];refine gg ?_;exact stop (by rw[hp,ql,qd,q95];rfl)
   .have d1:decide ((j:Int)<txt.length)=false:=decide_eq_false (by omega);have:txt.drop j=[]:=List.drop_eq_nil_of_le (by omega);rw[this,aY]at hrun;refine gg ?_;exact hJ _ _ ⟨by rw[hrun,show q+1+(j - (q+1)+0)=j by omega],rfl⟩
  generalize hrun:(if letter c||digit c||c==45 then aY r else 0)=run;refine Jn.by (λvals w'=>vals=[i64 ((q+1+run:Nat))]/\w'=w1) (λJ hJ=>?_) ?_
  .cases ql:letter c with
   |true=>
    rw[ql]at hrun;refine gg ?_;refine loop J (by rw[show aY r=run from hrun];exact hJ)
   |false=>
   cases qd:digit c with
   |true=>
    rw[ql,qd]at hrun;refine gg ?_;refine loop J (by rw[show aY r=run from hrun];exact hJ)
   |false=>
   cases q45:c==45 with
   |true=>
    rw[ql,qd,q45]at hrun;rw[q45]at b45;refine gg ?_;refine loop J (by rw[show aY r=run from hrun];exact hJ)
   |false=>
    rw[ql,qd,q45]at hrun;rw[q45]at b45;refine gg ?_;exact hJ _ _ ⟨by rw[<- show 0=run from hrun];simp,rfl⟩
  clear loop;rintro _ w96 jk ⟨rfl,rfl⟩;have hrunle:run<=aY r:=by rw[<- hrun];split<;>omega
  refine .s ?_;refine SlS.s (n:=q) (m:=q+1+run) ?_ (by omega) (by omega);have hsl:(txt.drop q).take (q+1+run - q)=c::r.take run:=by
   rw[hd,show q+1+run - q=run+1 by omega,List.take_succ_cons]
  rw[hsl];have hmem32:∀x∈r.take (aY r),x≠32:=λx hx=>LC (YR rfl x hx);cases ql:letter c with
  |true=>
   have hA:(c==45||digit c)=false:=by
    rw[Jm]at ql;rw[L8,<- b45];simp only[Bool.or_eq_true,Bool.and_eq_true,decide_eq_true_eq]at ql;rw[Bool.or_eq_false_iff,beq_eq_false_iff_ne,Bool.and_eq_false_iff];refine⟨by omega,Or.inr (decide_eq_false (by omega))⟩
   have hp:eP c=true:=by unfold eP;rw[ql];rfl
   have hB:(c != 95&&eP c)=true:=by
    rw[hp,Bool.and_true,bne_iff_ne];rintro rfl;exact absurd ql (by decide)
   rw[ql,Bool.true_or,Bool.true_or,if_pos rfl]at hrun;subst hrun;have htk:(c::r).take (aY (c::r))=c::r.take (aY r):=by rw[aY,if_pos hp,List.take_succ_cons]
   have hkey:contains keys (32::(c::r.take (aY r))++[32])=mr.contains (c::r.take (aY r)):=abX (by simp) λx hx=>by
    rcases List.mem_cons.mp hx with rfl|hx
    .exact LC hp
    .exact hmem32 x hx
   rw[if_neg (by rw[hA];simp),if_pos hB,htk,hkey]at hnx;have ZQ:(c::r.take (aY r)).length=1+aY r:=by rw[List.length_cons,List.length_take,Nat.min_eq_left hrl2];omega
   generalize c::r.take (aY r)=sw at *;refine .t ?_;refine Cl.ret (q_key _ sw) ?_;rintro _ w2 ⟨rfl,rfl⟩;cases hk:mr.contains sw with
   |true=>
    rw[hk,if_pos rfl]at hnx;refine gg ?_;exact hR' _ _ (by rw[<- hnx,ZQ,<- Nat.add_assoc];rfl) (by exact kpA)
   |false=>
    rw[hk,if_neg (by simp)]at hnx
    by_cases h16:16<sw.length
    .have d16:decide ((sw.length:Int)>16)=true:=decide_eq_true (by omega);rw[if_pos h16]at hnx;refine gg ?_;exact hR' _ _ (by rw[<- hnx];rfl) (by exact kpA)
    .have d16:decide ((sw.length:Int)>16)=false:=decide_eq_false (by omega);rw[if_neg h16]at hnx;refine gg ?_;exact hR' _ _ (by rw[<- hnx,ZQ,<- Nat.add_assoc];rfl) (by exact kpA)
  |false=>
   refine .f ?_;refine Jn.by (λvals w'=>vals=[.bool (digit c||c==45)]/\w'=w96) (λJ hJ=>?_) ?_
   .cases qd:digit c with
    |true=>
     refine gg ?_;exact hJ _ _ ⟨by rw[qd];rfl,rfl⟩
    |false=>
     refine gg ?_;exact hJ _ _ ⟨by rw[qd,b45];rfl,rfl⟩
   rintro _ w115 jk2 ⟨rfl,rfl⟩;refine .s ?_;cases hA:(digit c||c==45)with
   |true=>
    have hA':(c==45||digit c)=true:=by rw[Bool.or_comm];exact hA
    rw[ql,Bool.false_or,hA,if_pos rfl]at hrun;subst hrun;rw[if_pos hA',show 1+aY r=aY r+1 by omega,List.take_succ_cons]at hnx;have hnum:=TF (c:=c) (r:=r.take (aY r)) hA';rw[<- hnum]at hnx;refine .t ?_;refine Jn.by (λvals w'=>vals=[κs (if c==45 then r.take (aY r)else c::r.take (aY r))]/\w'=w115) (λJ hJ=>?_) ?_
    .cases q45:c==45 with
     |true=>
      rw[q45]at b45 hJ;refine gg ?_;exact hJ _ _ ⟨rfl,rfl⟩
     |false=>
      rw[q45]at b45 hJ;refine gg ?_;exact hJ _ _ ⟨rfl,rfl⟩
    rintro _ w121 jk3 ⟨rfl,rfl⟩;refine gg ?_;rw[b45];refine Cl.ret (Y3 _ _ (c==45) (by split<;>simp only[List.length_cons,List.length_take]<;>omega)) ?_;rintro _ w125 ⟨⟨n,b,rfl,hn⟩,rfl⟩;rw[<- hn]at hnx;cases b with
    |true=>
     simp only[if_true]at hnx;refine gg ?_;exact hR' _ _ (by rw[<- hnx,show q+(aY r+1)=q+1+aY r by omega];try rfl) (by exact kpA)
    |false=>
     simp only[Bool.false_eq_true,if_false]at hnx;refine gg ?_;exact hR' _ _ (by rw[<- hnx];try rfl) (by exact kpA)
   |false=>
    have hA':(c==45||digit c)=false:=by rw[Bool.or_comm];exact hA
    rw[ql,Bool.false_or,hA,if_neg (by simp)]at hrun;subst hrun;have hB:(c != 95&&eP c)=false:=by
     rw[Bool.or_eq_false_iff]at hA;unfold eP;rw[ql,hA.1,Bool.false_or,Bool.false_or,bne];cases c==95<;>rfl
    rw[if_neg (by rw[hA'];simp),if_neg (by rw[hB];simp)]at hnx;rw[show r.take 0=[]from rfl];refine .f ?_;have s123:=ji (c:=c) (k:=123) (n:=123) rfl;have IE:=ji (c:=c) (k:=125) (n:=125) rfl;have s40:=ji (c:=c) (k:=40) (n:=40) rfl;have s41:=ji (c:=c) (k:=41) (n:=41) rfl;have s91:=ji (c:=c) (k:=91) (n:=91) rfl;have s93:=ji (c:=c) (k:=93) (n:=93) rfl;have s60:=ji (c:=c) (k:=60) (n:=60) rfl;have s62:=ji (c:=c) (k:=62) (n:=62) rfl;have s42:=ji (c:=c) (k:=42) (n:=42) rfl;have s44:=ji (c:=c) (k:=44) (n:=44) rfl;have s59:=ji (c:=c) (k:=59) (n:=59) rfl;have s58:=ji (c:=c) (k:=58) (n:=58) rfl;have s61:=ji (c:=c) (k:=61) (n:=61) rfl;refine Jn.by (λvals w'=>vals=[.bool (signs.contains c)]/\w'=w115) (λJ hJ=>?_) ?_
    .have last:∀x:Bool,x=signs.contains c->J [.bool x] w115:=λx hx=>hJ _ _ ⟨by rw[hx],rfl⟩;have yes:∀x:Bool,x=true->signs.contains c=true->J [.bool x] w115:=λx hx h=>hJ _ _ ⟨by rw[hx,h],rfl⟩;have sg:signs.contains c=(c==123||(c==125||(c==40||(c==41||(c==91||(c==93||(c==60||(c==62||(c==42||(c==44||(c==59||(c==58||(c==61||false))))))))))))):=rfl;rw[<- s123,<- IE,<- s40,<- s41,<- s91,<- s93,<- s60,<- s62,<- s42,<- s44,<- s59,<- s58,<- s61]at sg;clear s123 IE s40 s41 s91 s93 s60 s62 s42 s44 s59 s58 s61 hJ hR' hnx b45
     repeat' first
      |refine .s ?_
      |(refine If.split (λh=>?_) (λh=>?_))
      |(refine yes _ (by assumption) ?_;rw[sg];clear sg last yes;simp only[*,Bool.true_or,Bool.or_true];done)
      |(refine last _ ?_;rw[sg];clear sg last yes;simp only[*,Bool.false_or,Bool.or_false];done)
    .rintro _ w150 jk3 ⟨rfl,rfl⟩;refine .s ?_;cases hs:signs.contains c with
     |true=>
      rw[hs,if_pos rfl]at hnx;refine gg ?_;exact hR' _ _ (by rw[<- hnx];rfl) (by exact kpA)
     |false=>
      rw[hs,if_neg (by simp)]at hnx;refine gg ?_;exact hR' _ _ (by rw[<- hnx];rfl) (by exact kpA)
end Go.W.T

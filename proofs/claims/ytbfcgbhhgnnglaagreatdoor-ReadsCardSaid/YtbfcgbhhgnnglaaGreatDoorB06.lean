/- Texts of mine, one behind the other; nothing is assumed. -/
import Derived.Test.YtbfcgbhhgnnglaaGreatDoorB05
import Derived.RegionTactic
set_option autoImplicit true
set_option relaxedAutoImplicit true
set_option linter.unusedSimpArgs false
set_option linter.unusedVariables false
namespace Go.W
open Go
section
variable {P:Program} {n:Nat} {ds:List Deferred} {ops:Array Oper} {E:KE} {Q':Exit->Act->World->Prop}
theorem JE(n:Nat)(ρ:Fr)(v:Value):ev n ρ (.const v)=v:=rfl
theorem VD(n:Nat)(ρ:Fr)(f:FuncId):ev n ρ (.func f)=.func (.func f) #[] #[]:=rfl
theorem Et(h:∀e,d=some e->i≠e):upd ρ d v i=ρ i:=by
 cases d with
 |none=>rfl
 |some e=>
  have:Nat.beq i e=false:=Bool.eq_false_iff.2 λhb=>h e rfl (Nat.eq_of_beq_eq_true hb);simp[upd,this]
theorem vw
  (h:guarded n ops o ρ w A K)
  (hA1:∀K':KV,A K'->(∀v w',K' v w'->next (act n (upd ρ o.dst v) ds) w')->o.wp P (act n ρ ds) w next Q')
  (hK:∀v w',K v w'->next (act n (upd ρ o.dst v) ds) w'):
  if Region.wanted o (yielded ops (act n ρ ds).tmps)then o.wp P (act n ρ ds) w next Q' else next ((act n ρ ds).put o.dst undef) w:=by
 unfold guarded at h;split at h
 .rename_i hg;simp only[Region.wanted,hg,if_true];exact hA1 K h hK
 .rename_i j want hg;simp only[Region.wanted,hg,Dz];replace h:=h.out;unfold GdD at h;split at h
  .rename_i b hb;simp only[hb];split at h
   .rename_i hbw;subst hbw;simp only[beq_self_eq_true,if_true];exact hA1 K h hK
   .rename_i hbw;have:((some b==some want):Bool)=false:=by simpa using hbw
    simp only[this,Bool.false_eq_true,if_false];rw[uS];exact hK _ _ h
  .rename_i hb;have:((match Q8 n ρ ops j with|.bool b=>some b|_=>none)==some want)=false:=by
    split
    .rename_i b hb';exact absurd hb' (hb b)
    .rfl
   simp only[this,Bool.false_eq_true,if_false];rw[uS];exact hK _ _ h
theorem Qj(hE:∀ch w' ρ',E ch w'->Q' (.panic ch) (act n ρ' ds) w')
  (h:opW P o (ev n ρ) w E K) (hK:∀v w',K v w'->next (act n (upd ρ o.dst v) ds) w'):o.wp P (act n ρ ds) w next Q':=
 LG (nG n ρ ds) (JE n ρ) (VD n ρ) h (λv w' hk=>by rw[uS];exact hK v w' hk) (λch w' he=>hE ch w' ρ he)
theorem TR{S:List Nat}(hE:∀ch w' ρ',E ch w'->Q' (.panic ch) (act n ρ' ds) w'):∀(l:List Oper) (Q:Fr->World->Prop) (ρ:Fr) (w:World),
  (∀o∈l,∀d,o.dst=some d->d∈S)->(∀ρ' w',(∀i,i ∉ S->ρ' i=ρ i)->Q ρ' w'->Q' .normal (act n ρ' ds) w')->J7 P n ops E l Q ρ w->wpList P ops Q' l (act n ρ ds) w:=by
 intro l;induction l with
 |nil=>intro Q ρ w _ hQ h;exact hQ _ _ (λ_ _=>rfl) h
 |cons o rest ih=>
  intro Q ρ w hS hQ h;simp only[J7]at h;refine wpList_step λK hK=>?_;refine vw (K:=λv w'=>J7 P n ops E rest Q (upd ρ o.dst v) w') h ?_ ?_
  .intro K' hA hK';exact Qj hE hA hK'
  .intro v w' h';refine hK _ _ (ih Q _ w' (λo' ho'=>hS o' (List.mem_cons_of_mem _ ho')) (λρ' w'' hag hq=>hQ ρ' w'' (λi hi=>?_) hq) h');rw[hag i hi];exact Et (λd hd=>by rintro rfl;exact hi (hS o (List.mem_cons_self ..) _ hd))
theorem f_Nk(v:Value)(h:Nk v K):∃r,K r/\Nk v λx=>x=r:=by
 suffices hs:∃r,K r/\NkD v λx=>x=r from let ⟨r,h1,h2⟩:=hs;⟨r,h1,⟨h2⟩⟩
 replace h:=h.out;unfold NkD at h ⊢
 (repeat' split at h)<;>simp_all
theorem f_Fa(v:Value)(off:Nat)(h:Fa v off K):∃r,K r/\Fa v off λx=>x=r:=by
 suffices hs:∃r,K r/\FaD v off λx=>x=r from let ⟨r,h1,h2⟩:=hs;⟨r,h1,⟨h2⟩⟩
 replace h:=h.out;unfold FaD at h ⊢
 (repeat' split at h)<;>simp_all
theorem f_Ld(v:Value)(w:World)(h:Ld v w K):∃r,K r/\Ld v w λx=>x=r:=by
 suffices hs:∃r,K r/\LdD v w λx=>x=r from let ⟨r,h1,h2⟩:=hs;⟨r,h1,⟨h2⟩⟩
 replace h:=h.out;unfold LdD at h ⊢
 (repeat' split at h)<;>simp_all
theorem f_LdN(v:Value)(m:Nat)(w:World)(h:LdN v m w K):∃r,K r/\LdN v m w λx=>x=r:=by
 suffices hs:∃r,K r/\SL v m w λx=>x=r from let ⟨r,h1,h2⟩:=hs;⟨r,h1,⟨h2⟩⟩
 replace h:=h.out;unfold SL at h ⊢
 (repeat' split at h)<;>simp_all
theorem f_Bu(z:Value)(ps:List (Nat×Nat×Value))(h:Bu z ps K):∃r,K r/\Bu z ps λx=>x=r:=by
 suffices hs:∃r,K r/\BuD z ps λx=>x=r from let ⟨r,h1,h2⟩:=hs;⟨r,h1,⟨h2⟩⟩
 replace h:=h.out;unfold BuD at h ⊢
 (repeat' split at h)<;>simp_all
theorem f_Bi(op:BinOp)(x y:Value)(h:Bi op x y K):∃r,K r/\Bi op x y λx=>x=r:=by
 suffices hs:∃r,K r/\BiD op x y λx=>x=r from let ⟨r,h1,h2⟩:=hs;⟨r,h1,⟨h2⟩⟩
 replace h:=h.out;unfold BiD at h ⊢
 (repeat' split at h)<;>simp_all
theorem f_Sh(op:BinOp)(x y:Value)(h:Sh op x y K):∃r,K r/\Sh op x y λx=>x=r:=by
 suffices hs:∃r,K r/\ShD op x y λx=>x=r from let ⟨r,h1,h2⟩:=hs;⟨r,h1,⟨h2⟩⟩
 replace h:=h.out;unfold ShD at h ⊢
 (repeat' split at h)<;>simp_all
theorem f_Bs(op:BinOp)(x y:Value)(h:Bs op x y K):∃r,K r/\Bs op x y λx=>x=r:=by
 suffices hs:∃r,K r/\BsD op x y λx=>x=r from let ⟨r,h1,h2⟩:=hs;⟨r,h1,⟨h2⟩⟩
 replace h:=h.out;unfold BsD at h ⊢
 (repeat' split at h)<;>simp_all
theorem f_En(k:NK)(b:Bool)(x:Value)(h:En k b x K):∃r,K r/\En k b x λx=>x=r:=by
 suffices hs:∃r,K r/\EnD k b x λx=>x=r from let ⟨r,h1,h2⟩:=hs;⟨r,h1,⟨h2⟩⟩
 replace h:=h.out;unfold EnD at h ⊢
 (repeat' split at h)<;>simp_all
theorem f_Eb(b:Bool)(x y:Value)(h:Eb b x y K):∃r,K r/\Eb b x y λx=>x=r:=by
 suffices hs:∃r,K r/\EbD b x y λx=>x=r from let ⟨r,h1,h2⟩:=hs;⟨r,h1,⟨h2⟩⟩
 replace h:=h.out;unfold EbD at h ⊢
 (repeat' split at h)<;>simp_all
theorem f_Nt(x:Value)(h:Nt x K):∃r,K r/\Nt x λx=>x=r:=by
 suffices hs:∃r,K r/\NtD x λx=>x=r from let ⟨r,h1,h2⟩:=hs;⟨r,h1,⟨h2⟩⟩
 replace h:=h.out;unfold NtD at h ⊢
 (repeat' split at h)<;>simp_all
theorem f_Ng(x:Value)(h:Ng x K):∃r,K r/\Ng x λx=>x=r:=by
 suffices hs:∃r,K r/\NgD x λx=>x=r from let ⟨r,h1,h2⟩:=hs;⟨r,h1,⟨h2⟩⟩
 replace h:=h.out;unfold NgD at h ⊢
 (repeat' split at h)<;>simp_all
theorem f_Cv(k:IntKind)(x:Value)(h:Cv k x K):∃r,K r/\Cv k x λx=>x=r:=by
 suffices hs:∃r,K r/\CvD k x λx=>x=r from let ⟨r,h1,h2⟩:=hs;⟨r,h1,⟨h2⟩⟩
 replace h:=h.out;unfold CvD at h ⊢
 (repeat' split at h)<;>simp_all
theorem f_CvS(x:Value)(h:CvS x K):∃r,K r/\CvS x λx=>x=r:=by
 suffices hs:∃r,K r/\CvSD x λx=>x=r from let ⟨r,h1,h2⟩:=hs;⟨r,h1,⟨h2⟩⟩
 replace h:=h.out;unfold CvSD at h ⊢
 (repeat' split at h)<;>simp_all
theorem f_CvB(x:Value)(w:World)(h:CvB x w K):∃r,K r/\CvB x w λx=>x=r:=by
 suffices hs:∃r,K r/\XT x w λx=>x=r from let ⟨r,h1,h2⟩:=hs;⟨r,h1,⟨h2⟩⟩
 replace h:=h.out;unfold XT at h ⊢
 (repeat' split at h)<;>simp_all
theorem f_SlS(x:Value)(lo hi:Option Value)(h:SlS x lo hi K):∃r,K r/\SlS x lo hi λx=>x=r:=by
 suffices hs:∃r,K r/\UC x lo hi λx=>x=r from let ⟨r,h1,h2⟩:=hs;⟨r,h1,⟨h2⟩⟩
 replace h:=h.out;unfold UC at h ⊢
 (repeat' split at h)<;>simp_all
theorem f_SlL(m:Nat)(x:Value)(lo hi:Option Value)(h:SlL m x lo hi K):∃r,K r/\SlL m x lo hi λx=>x=r:=by
 suffices hs:∃r,K r/\SlLD m x lo hi λx=>x=r from let ⟨r,h1,h2⟩:=hs;⟨r,h1,⟨h2⟩⟩
 replace h:=h.out;unfold SlLD at h ⊢
 (repeat' split at h)<;>simp_all
theorem f_IxS(x i:Value)(h:IxS x i K):∃r,K r/\IxS x i λx=>x=r:=by
 suffices hs:∃r,K r/\IxSD x i λx=>x=r from let ⟨r,h1,h2⟩:=hs;⟨r,h1,⟨h2⟩⟩
 replace h:=h.out;unfold IxSD at h ⊢
 (repeat' split at h)<;>simp_all
theorem f_IaS(m:Nat)(x i:Value)(h:IaS m x i K):∃r,K r/\IaS m x i λx=>x=r:=by
 suffices hs:∃r,K r/\IaSD m x i λx=>x=r from let ⟨r,h1,h2⟩:=hs;⟨r,h1,⟨h2⟩⟩
 replace h:=h.out;unfold IaSD at h ⊢
 (repeat' split at h)<;>simp_all
theorem f_IaA(l m:Nat)(x i:Value)(h:IaA l m x i K):∃r,K r/\IaA l m x i λx=>x=r:=by
 suffices hs:∃r,K r/\IaAD l m x i λx=>x=r from let ⟨r,h1,h2⟩:=hs;⟨r,h1,⟨h2⟩⟩
 replace h:=h.out;unfold IaAD at h ⊢
 (repeat' split at h)<;>simp_all
theorem f_Ex(x:Value)(i:Nat)(h:Ex x i K):∃r,K r/\Ex x i λx=>x=r:=by
 suffices hs:∃r,K r/\ExD x i λx=>x=r from let ⟨r,h1,h2⟩:=hs;⟨r,h1,⟨h2⟩⟩
 replace h:=h.out;unfold ExD at h ⊢
 (repeat' split at h)<;>simp_all
theorem f_Pk(c a b:Value)(h:Pk c a b K):∃r,K r/\Pk c a b λx=>x=r:=by
 suffices hs:∃r,K r/\PkD c a b λx=>x=r from let ⟨r,h1,h2⟩:=hs;⟨r,h1,⟨h2⟩⟩
 replace h:=h.out;unfold PkD at h ⊢
 (repeat' split at h)<;>simp_all
theorem f_Ln(s:Bool)(x:Value)(h:Ln s x K):∃r,K r/\Ln s x λx=>x=r:=by
 suffices hs:∃r,K r/\LnD s x λx=>x=r from let ⟨r,h1,h2⟩:=hs;⟨r,h1,⟨h2⟩⟩
 replace h:=h.out;unfold LnD at h ⊢
 (repeat' split at h)<;>simp_all
theorem f_Ta(t:TypeId)(z x:Value)(h:Ta t z x K):∃r,K r/\Ta t z x λx=>x=r:=by
 suffices hs:∃r,K r/\TaD t z x λx=>x=r from let ⟨r,h1,h2⟩:=hs;⟨r,h1,⟨h2⟩⟩
 replace h:=h.out;unfold TaD at h ⊢
 (repeat' split at h)<;>simp_all
theorem f_Ta1(t:TypeId)(x:Value)(h:Ta1 t x K):∃r,K r/\Ta1 t x λx=>x=r:=by
 suffices hs:∃r,K r/\Ta1D t x λx=>x=r from let ⟨r,h1,h2⟩:=hs;⟨r,h1,⟨h2⟩⟩
 replace h:=h.out;unfold Ta1D at h ⊢
 (repeat' split at h)<;>simp_all
theorem f_Lk(k:TypeDesc)(z m y:Value)(ok:Bool)(w:World)(h:Lk k z m y ok w K):∃r,K r/\Lk k z m y ok w λx=>x=r:=by
 suffices hs:∃r,K r/\LkD k z m y ok w λx=>x=r from let ⟨r,h1,h2⟩:=hs;⟨r,h1,⟨h2⟩⟩
 replace h:=h.out;unfold LkD at h ⊢
 (repeat' split at h)<;>simp_all
theorem Va(hq:quiet P o=true)(h:opW P o e w E K):
  ∃v,K v w/\∀w',looks o.op=false\/w'=w->opW P o e w' E λx _=>x=v:=by
 obtain⟨dst,op,type,pos,after,guard⟩:=o;cases op<;>try (simp[quiet]at hq;done)
 case move x=>exact⟨_,h,λ_ _=>rfl⟩
 case assign x=>exact⟨_,h,λ_ _=>rfl⟩
 case pick c a b=>
  obtain⟨r,h1,h2⟩:=f_Pk (K:=λv=>K v w) _ _ _ h;exact⟨r,h1,λ_ _=>h2⟩
 case build t parts=>
  simp only[opW,vop]at h ⊢;split at h
  .rename_i fs z hu hz;cases ha:qI P fs.toList with
   |false=>simp[ha]at h
   |true=>
    simp only[ha,cond_true]at h;split at h
    .rename_i ps hps;obtain⟨r,h1,h2⟩:=f_Bu _ _ h;exact⟨r,h1,λ_ _=>by first|exact h2|(simp only[hu,hz,ha,cond_true,hps];exact h2)⟩
    .exact h.elim
  .rename_i hu hz;simp[quiet,hu]at hq
  .exact h.elim
 case load t a=>
  simp only[opW,vop]at h ⊢;split at h
  .rename_i hk;obtain⟨r,h1,h2⟩:=f_Ld _ _ h;refine⟨r,h1,λw' hw=>?_⟩;rcases hw with hw|rfl
   .cases hw
   .first|exact h2|(simp only[hk];exact h2)
  .rename_i m hk;obtain⟨r,h1,h2⟩:=f_LdN _ _ _ h;refine⟨r,h1,λw' hw=>?_⟩;rcases hw with hw|rfl
   .cases hw
   .first|exact h2|(simp only[hk];exact h2)
  .exact h.elim
 case nilCheck x=>
  obtain⟨r,h1,h2⟩:=f_Nk (K:=λv=>K v w) _ h;exact⟨r,h1,λ_ _=>h2⟩
 case binOp op t x y yt=>
  by_cases hsh:op=.shl\/op=.shr
  .have h':Sh op (e x) (e y) λv=>K v w:=by rcases hsh with rfl|rfl<;>exact h
   obtain⟨r,h1,h2⟩:=f_Sh _ _ _ h';exact⟨r,h1,λ_ _=>by rcases hsh with rfl|rfl<;>exact h2⟩
  .by_cases heq:op=.eql\/op=.neq
   .cases hu:und P t with
    |int k=>
     have h':Bi op (e x) (e y) λv=>K v w:=by rcases heq with rfl|rfl<;>simpa [opW,vop,hu] using h
     obtain⟨r,h1,h2⟩:=f_Bi _ _ _ h';exact⟨r,h1,λ_ _=>by rcases heq with rfl|rfl<;>(simp only[opW,vop,hu];exact h2)⟩
    |str=>
     have h':Bs op (e x) (e y) λv=>K v w:=by rcases heq with rfl|rfl<;>simpa [opW,vop,hu] using h
     obtain⟨r,h1,h2⟩:=f_Bs _ _ _ h';exact⟨r,h1,λ_ _=>by rcases heq with rfl|rfl<;>(simp only[opW,vop,hu];exact h2)⟩
    |bool=>
     have h':Eb (pK op) (e x) (e y) λv=>K v w:=by rcases heq with rfl|rfl<;>simpa [opW,vop,hu] using h
     obtain⟨r,h1,h2⟩:=f_Eb _ _ _ h';exact⟨r,h1,λ_ _=>by rcases heq with rfl|rfl<;>(simp only[opW,vop,hu];exact h2)⟩
    |nilable nk=>
     have hn:dV nk y=true:=by rcases heq with rfl|rfl<;>simpa [quiet,hu] using hq
     have h':En nk (pK op) (e x) λv=>K v w:=by rcases heq with rfl|rfl<;>simpa [opW,vop,hu,hn] using h
     obtain⟨r,h1,h2⟩:=f_En _ _ _ h';exact⟨r,h1,λ_ _=>by rcases heq with rfl|rfl<;>(simp only[opW,vop,hu,hn,cond_true];exact h2)⟩
    |slice m=>
     have hn:dV .slc y=true:=by rcases heq with rfl|rfl<;>simpa [quiet,hu] using hq
     have h':En .slc (pK op) (e x) λv=>K v w:=by rcases heq with rfl|rfl<;>simpa [opW,vop,hu,hn] using h
     obtain⟨r,h1,h2⟩:=f_En _ _ _ h';exact⟨r,h1,λ_ _=>by rcases heq with rfl|rfl<;>(simp only[opW,vop,hu,hn,cond_true];exact h2)⟩
    |_=>exfalso;rcases heq with rfl|rfl<;>simp[quiet,hu]at hq
   .cases hu:und P t with
    |int k=>
     have h':Bi op (e x) (e y) λv=>K v w:=by cases op<;>first|(simpa [opW,vop,hu] using h)|exact absurd (.inl rfl) hsh|exact absurd (.inr rfl) hsh|exact absurd (.inl rfl) heq|exact absurd (.inr rfl) heq
     obtain⟨r,h1,h2⟩:=f_Bi _ _ _ h';exact⟨r,h1,λ_ _=>by cases op<;>first|(simp only[opW,vop,hu];exact h2)|exact absurd (.inl rfl) hsh|exact absurd (.inr rfl) hsh|exact absurd (.inl rfl) heq|exact absurd (.inr rfl) heq⟩
    |str=>
     have h':Bs op (e x) (e y) λv=>K v w:=by cases op<;>first|(simpa [opW,vop,hu] using h)|exact absurd (.inl rfl) hsh|exact absurd (.inr rfl) hsh|exact absurd (.inl rfl) heq|exact absurd (.inr rfl) heq
     obtain⟨r,h1,h2⟩:=f_Bs _ _ _ h';exact⟨r,h1,λ_ _=>by cases op<;>first|(simp only[opW,vop,hu];exact h2)|exact absurd (.inl rfl) hsh|exact absurd (.inr rfl) hsh|exact absurd (.inl rfl) heq|exact absurd (.inr rfl) heq⟩
    |_=>exfalso;cases op<;>first|(simp[quiet,hu]at hq;done)|exact absurd (.inl rfl) hsh|exact absurd (.inr rfl) hsh|exact absurd (.inl rfl) heq|exact absurd (.inr rfl) heq
 case unOp op t x=>
  cases op<;>try (simp[quiet]at hq;done)
  .obtain⟨r,h1,h2⟩:=f_Ng (K:=λv=>K v w) _ h;exact⟨r,h1,λ_ _=>h2⟩
  .obtain⟨r,h1,h2⟩:=f_Nt (K:=λv=>K v w) _ h;exact⟨r,h1,λ_ _=>h2⟩
 case convert src dst x=>
  simp only[opW,vop]at h ⊢;split at h
  .rename_i hs hd;obtain⟨r,h1,h2⟩:=f_Cv _ _ h;exact⟨r,h1,λ_ _=>by first|exact h2|(simp only[hs,hd];exact h2)⟩
  .rename_i hs hd;obtain⟨r,h1,h2⟩:=f_CvS _ h;exact⟨r,h1,λ_ _=>by first|exact h2|(simp only[hs,hd];exact h2)⟩
  .rename_i m hs hd;have hb:isBytes P src=true:=by simpa [quiet,hs,hd] using hq
   simp only[hb,cond_true]at h;obtain⟨r,h1,h2⟩:=f_CvB _ _ h;refine⟨r,h1,λw' hw=>?_⟩;rcases hw with hw|rfl
   .cases hw
   .first|exact h2|(simp only[hs,hd,hb,cond_true];exact h2)
  .rename_i h1 h2 h3;exfalso;simp only[quiet]at hq
   first|(cases hq;done)|(split at hq<;>simp_all)
 case makeInterface t x=>
  simp only[opW,vop]at h ⊢;cases hi:isIface P t with
  |true=>simp[hi]at h
  |false=>simp only[hi,cond_false]at h ⊢;exact⟨_,h,λ_ _=>rfl⟩
 case makeFunc fn first captured=>exact⟨_,h,λ_ _=>rfl⟩
 case slice t x lo hi mx=>
  simp only[opW,vop]at h ⊢;cases hs:und P t with
  |str=>
   cases mx with
   |none=>
    simp only[hs]at h ⊢;obtain⟨r,h1,h2⟩:=f_SlS _ _ _ h;exact⟨r,h1,λ_ _=>h2⟩
   |some m=>simp[quiet,hs]at hq
  |slice m=>
   cases mx with
   |none=>
    simp only[hs]at h ⊢;obtain⟨r,h1,h2⟩:=f_SlL _ _ _ _ h;exact⟨r,h1,λ_ _=>h2⟩
   |some m=>simp[quiet,hs]at hq
  |_=>simp[quiet,hs]at hq
 case fieldAddr s x f=>
  simp only[opW,vop]at h ⊢;split at h
  .rename_i off hk;obtain⟨r,h1,h2⟩:=f_Fa _ _ h;exact⟨r,h1,λ_ _=>by first|exact h2|(simp only[hk];exact h2)⟩
  .exact h.elim
 case indexAddr t x i=>
  simp only[opW,vop]at h ⊢;split at h
  .rename_i m hs;obtain⟨r,h1,h2⟩:=f_IaS _ _ _ h;exact⟨r,h1,λ_ _=>by first|exact h2|(simp only[hs];exact h2)⟩
  .rename_i l m hs;obtain⟨r,h1,h2⟩:=f_IaA _ _ _ _ h;exact⟨r,h1,λ_ _=>by first|exact h2|(simp only[hs];exact h2)⟩
  .exact h.elim
 case index t x i=>
  simp only[opW,vop]at h ⊢;have hs:und P t=.str:=by
   simp only[quiet]at hq;split at hq<;>simp_all
  simp only[hs]at h ⊢;obtain⟨r,h1,h2⟩:=f_IxS _ _ h;exact⟨r,h1,λ_ _=>h2⟩
 case lookup t m k ok=>
  simp only[opW,vop]at h ⊢;split at h
  .rename_i kind el hk;split at h
   .rename_i z hz;obtain⟨r,h1,h2⟩:=f_Lk _ _ _ _ _ _ h;refine⟨r,h1,λw' hw=>?_⟩;rcases hw with hw|rfl
    .cases hw
    .first|exact h2|(simp only[hk,hz];exact h2)
   .exact h.elim
  .rename_i hk;simp[quiet,hk]at hq
 case typeAssert x xt t ok=>
  simp only[opW,vop]at h ⊢;have hi:isIface P t=false:=by simpa [quiet] using hq
  simp only[hi,cond_false]at h ⊢;split at h
  .rename_i z hz;obtain⟨r,h1,h2⟩:=f_Ta _ _ _ h;exact⟨r,h1,λ_ _=>by first|exact h2|(simp only[hz];exact h2)⟩
  .obtain⟨r,h1,h2⟩:=f_Ta1 _ _ h;exact⟨r,h1,λ_ _=>h2⟩
  .exact h.elim
 case extract x i=>
  obtain⟨r,h1,h2⟩:=f_Ex (K:=λv=>K v w) _ _ h;exact⟨r,h1,λ_ _=>h2⟩
 case call c=>
  obtain⟨callee,args,argTypes⟩:=c;cases callee with
  |builtin b=>
   cases b<;>try (simp[quiet]at hq;done)
   simp only[quiet]at hq;simp only[opW]at h ⊢;split at h
   .rename_i t x ht hx;simp only[ht]at hq;split at h
    .rename_i hu;obtain⟨r,h1,h2⟩:=f_Ln _ _ h;exact⟨r,h1,λ_ _=>by first|exact h2|(simp only[ht,hx,hu];exact h2)⟩
    .rename_i m hu;obtain⟨r,h1,h2⟩:=f_Ln _ _ h;exact⟨r,h1,λ_ _=>by first|exact h2|(simp only[ht,hx,hu];exact h2)⟩
    .exfalso;split at hq<;>simp_all
   .exact h.elim
  |_=>simp[quiet]at hq
end
end Go.W
namespace Go.W
open Go
section
variable {P:Program} {n:Nat} {ds:List Deferred} {ops:Array Oper} {E:KE} {Q':Exit->Act->World->Prop}
def Yv(P:Program)(ops:Array Oper)(o:Oper)(v:Value)(a:Act)(w:World):Prop:=
 (Region.wanted o (yielded ops a.tmps)=true/\(execOp a.eval o).run P w=.ok (.value v) w) \/
 (Region.wanted o (yielded ops a.tmps)=false/\v=undef)
theorem Yv.wpOp(hi:ops[i]?=some o)(hy:Yv P ops o v a w)(h:K (a.put o.dst v) w):wpOp P ops Q' i K a w:=by
 unfold Go.wpOp;simp only[hi];rcases hy with⟨hw,hv⟩|⟨hw,rfl⟩
 .simp only[hw,if_true,Oper.wp,hv,Oper.upon];exact .inl h
 .simp only[hw,Bool.false_eq_true,if_false];exact h
theorem Yv.of_same(hy:Yv P ops o v a w)(he:execOp a'.eval o=execOp a.eval o)
  (hw:Region.wanted o (yielded ops a'.tmps)=Region.wanted o (yielded ops a.tmps)):Yv P ops o v a' w:=by
 unfold Yv at *;rw[he,hw];exact hy
theorem SQ{j:Nat}{oi oj:Oper}{v:Value}(hj:ops[j]?=some oj)(hap:oi.apart ops oj=true)
  (hsi:∀cs b,oi.op≠.select cs b) (hsj:∀cs b,oj.op≠.select cs b)
  (hQ:∀c a w,Q' (.panic c) (a.put oi.dst v) w->Q' (.panic c) a w) {C:World->Prop} {K:Act->World->Prop} {a:Act} {w:World}
  (hy:∀u,C u->Yv P ops oi v a u) (h:wpOp P ops Q' j K (a.put oi.dst v) w):
  wpOp P ops Q' j (λa' w'=>(∀u,C u->Yv P ops oi v a' u)/\K (a'.put oi.dst v) w') a w:=by
 obtain⟨h1,h2,h3⟩:=Oper.apart_spec hap;have keep:∀(a:Act),(∀u,C u->Yv P ops oi v a u)->∀x u,C u->Yv P ops oi v (a.put oj.dst x) u:=λa hy x u hu=>
  (hy u hu).of_same (execOp_put oi hsi a oj.dst x h3) (wanted_put oi a oj.dst x h3)
 have keepD:∀d u,C u->Yv P ops oi v { a with defers:=d::a.defers } u:=λd u hu=>(hy u hu).of_same rfl rfl;unfold Go.wpOp at *;simp only[hj]at *;rw[wanted_put oj a oi.dst v h1]at h;split
 .rename_i hw;simp only[hw,if_true]at h;rcases h with h|⟨hasks,hlets⟩
  case inr=>exact .inr ⟨by unfold Oper.asks at *;rw[execOp_put oj hsj a oi.dst v h1]at hasks;exact hasks,hlets⟩
  refine .inl ?_;unfold Oper.wp at *;rw[execOp_put oj hsj a oi.dst v h1]at h;generalize (execOp a.eval oj).run P w=r at *;cases r with
  |ok nx w'=>
   cases nx<;>simp only[Oper.upon]at h ⊢
   case value u=>exact⟨keep a hy u,by rw[<- Act.put_comm a v u h2];exact h⟩
   case skip=>exact⟨keep a hy _,by rw[<- Act.put_comm a v undef h2];exact h⟩
   case defer d=>
    refine⟨keep _ (keepD d) _,?_⟩;rw[<- Act.put_comm _ v undef h2,<- Act.put_defers];exact h
   case enter f args=>
    refine Calls.mono h λe w'' he=>?_;cases e with
    |returned u=>exact⟨keep a hy u,by rw[<- Act.put_comm a v u h2];exact he⟩
    |panicked c=>exact hQ _ _ _ he
    |outgrown=>exact he
   case row row args=>exact Rows.mono h λu w'' he=>⟨keep a hy u,by rw[<- Act.put_comm a v u h2];exact he⟩
  |halt x w'=>
   cases x<;>simp only[Oper.upon]at h ⊢
   case panic u=>exact hQ _ _ _ h
 .rename_i hw;simp only[hw]at h;exact⟨keep a hy _,by rw[<- Act.put_comm a v undef h2];exact h⟩
def SE(P:Program)(ops:Array Oper)(Q':Exit->Act->World->Prop)(F:Nat->World->World->Prop):Nat->Array Bool->Act->World->Prop
 |0,listed,a,w=>Region.ready .any ops listed=[]/\Q' .normal a w
 |fuel+1,listed,a,w=>
  (Region.ready .any ops listed=[]->Q' .normal a w) /\
  ∀i∈Region.ready .any ops listed,wpOp P ops Q' i (λa' w'=>F i w w'/\SE P ops Q' F fuel (listed.setIfInBounds i true) a' w') a w
theorem SC:∀(fuel:Nat) (listed:Array Bool) (a:Act) (w:World),SE P ops Q' F fuel listed a w->wpAny P .any ops Q' fuel listed a w
 |0,_,_,_,h=>h
 |fuel+1,_,_,_,h=>⟨h.1,λi hi=>wpOp_mono (λa' w' h'=>SC fuel _ a' w' h'.2) (h.2 i hi)⟩
def closed(ops:Array Oper)(listed:Array Bool):Prop:=
 ∀k o,listed.getD k false=true->ops[k]?=some o->∀e∈o.after,Region.binds .any e=true->listed.getD e.on false=true
theorem xN(h:closed ops listed)(hi:i∈Region.ready .any ops listed):closed ops (listed.setIfInBounds i true):=by
 intro k o hk ho e he hb
 by_cases hki:i=k
 .subst hki;obtain⟨_,o',ho',hall⟩:=mem_ready.1 hi;rw[ho]at ho';cases ho';exact getD_set_true (hall e he hb)
 .rw[getD_set_ne false hki]at hk;exact getD_set_true (h k o hk ho e he hb)
theorem O3(hc:closed ops listed)(hi:listed.getD i false=false):∀(fuel k:Nat),
  (∀o,ops[k]?=some o->∀e∈o.after,Region.binds .any e=true->listed.getD e.on false=true)->uk ops fuel k i=false:=by
 intro fuel;induction fuel with
 |zero=>intro k _;rfl
 |succ fuel ih=>
  intro k hk;simp only[uk];cases ho:ops[k]? with
  |none=>rfl
  |some o=>
   simp only;rw[List.any_eq_false];intro e he hh;simp only[Bool.and_eq_true,Bool.or_eq_true]at hh;have hl:=hk o ho e (Array.mem_toList_iff.1 he) hh.1;rcases hh.2 with h2|h2
   .have:=Nat.eq_of_beq_eq_true h2;rw[this,hi]at hl;cases hl
   .rw[ih e.on (λo' ho' e' he' hb'=>hc e.on o' hl ho' e' he' hb')]at h2;cases h2
theorem JU{F F':Nat->World->World->Prop}{C:World->Prop}{i:Nat}{oi:Oper}{v:Value}(hi:ops[i]?=some oi)
  (hsel:∀(j:Nat) (o:Oper) cs b,ops[j]?=some o->o.op≠.select cs b)
  (hQ:∀c a w,Q' (.panic c) (a.put oi.dst v) w->Q' (.panic c) a w)
  (hF:∀j w w',F' j w w'->F j w w') (hFi:∀w,F i w w) (hC:∀j w w',uk ops ops.size j i=false->F' j w w'->C w->C w'):
  ∀(fuel:Nat) (listed:Array Bool) (a:Act) (w:World),closed ops listed ->
   (∀j oj,ops[j]?=some oj->j≠i->listed.getD j true=false->(∀e∈oj.after,Region.binds .any e=true->e.on≠i)->oi.apart ops oj=true) ->
   i∈Region.ready .any ops listed->(∀u,C u->Yv P ops oi v a u)->C w ->
   SE P ops Q' F' fuel (listed.setIfInBounds i true) (a.put oi.dst v) w->SE P ops Q' F (fuel+1) listed a w:=by
 intro fuel;induction fuel with
 |zero=>
  intro listed a w _ _ hr hy hw H;refine⟨λh=>(by rw[h]at hr;cases hr),λj hj=>?_⟩
  by_cases hji:j=i
  .subst hji;exact(hy w hw).wpOp hi ⟨hFi w,H⟩
  .have:=ready_mono hj hji;rw[H.1]at this;cases this
 |succ fuel ih=>
  intro listed a w hcl hfree hr hy hw H;refine⟨λh=>(by rw[h]at hr;cases hr),λj hj=>?_⟩
  by_cases hji:j=i
  .subst hji;refine(hy w hw).wpOp hi ⟨hFi w,?_⟩
   -- the rest under the weaker demand
   have mono:∀(fuel:Nat) (listed:Array Bool) (a:Act) (w:World),SE P ops Q' F' fuel listed a w->SE P ops Q' F fuel listed a w:=by
    intro fuel;induction fuel with
    |zero=>intro listed a w h;exact h
    |succ fuel ih=>intro listed a w h;exact⟨h.1,λk hk=>wpOp_mono (λa' w' h'=>⟨hF _ _ _ h'.1,ih _ _ _ h'.2⟩) (h.2 k hk)⟩
   exact mono _ _ _ _ H
  .have h1:=H.2 j (ready_mono hj hji);obtain⟨hjun,oj,hoj,hall⟩:=mem_ready.1 hj;have hiun:listed.getD i false=false:=by
    have h0:=(mem_ready.1 hr).1;rcases Nat.lt_or_ge i listed.size with h'|h'
    .simp[h']at h0 ⊢;exact h0
    .simp[Array.getElem?_eq_none h']at h0
   have hnot:∀e∈oj.after,Region.binds .any e=true->e.on≠i:=λe he hb heq=>by
    have h1:=hall e he hb;rw[heq,hiun]at h1;cases h1
   have hwt:uk ops ops.size j i=false:=O3 hcl hiun _ j λo ho e he hb=>by
    rw[hoj]at ho;cases ho;exact hall e he hb
   have h2:=SQ hoj (hfree j oj hoj hji hjun hnot) (λcs b=>hsel i oi cs b hi) (λcs b=>hsel j oj cs b hoj) hQ hy h1
   have hfree':∀k ok,ops[k]?=some ok->k≠i->(listed.setIfInBounds j true).getD k true=false ->
     (∀e∈ok.after,Region.binds .any e=true->e.on≠i)->oi.apart ops ok=true:=λk ok hk hki hun hno=>by
    refine hfree k ok hk hki ?_ hno
    by_cases hjk:j=k
    .subst hjk;exact hjun
    .rw[getD_set_ne true hjk]at hun;exact hun
   refine wpOp_mono (λa' w' h3=>⟨hF _ _ _ h3.2.1,ih (listed.setIfInBounds j true) a' w' (xN hcl hj) hfree' (ready_mono hr (Ne.symm hji)) h3.1 (hC j w w' hwt h3.2.1 hw) ?_⟩) h2;rw[Array.setIfInBounds_comm _ _ hji];exact h3.2.2
def Fof(ops:Array Oper)(G:List (Nat×(World->Prop)))(j:Nat)(w w':World):Prop:=
 w'=w\/∀p∈G,uk ops ops.size j p.1=false->p.2 w'
theorem Xi:∀(G:List (Nat×(World->Prop))),kept ops waits w G k->(∀p∈G,waits p.1=false->p.2 w)/\k:=by
 intro G;induction G with
 |nil=>intro h;exact⟨smp,h⟩
 |cons p r ih=>
  intro h;obtain⟨i,f⟩:=p;simp only[kept]at h;cases hw:waits i with
  |true=>
   simp only[hw,cond_true]at h;obtain⟨h1,h2⟩:=ih h
   exact⟨λp hp hpw=>by
    rcases List.mem_cons.1 hp with rfl|hp
    .rw[hw]at hpw;cases hpw
    .exact h1 p hp hpw,h2⟩
  |false=>
   simp only[hw,cond_false]at h;obtain⟨h1,h2⟩:=ih h.2
   exact⟨λp hp hpw=>by
    rcases List.mem_cons.1 hp with rfl|hp
    .exact h.1
    .exact h1 p hp hpw,h2⟩
theorem UA:∀(l:List α),allOf l f->∀x∈l,f x:=by
 intro l;induction l with
 |nil=>intro _ x hx;cases hx
 |cons a r ih=>
  intro h x hx;cases r with
  |nil=>simp at hx;subst hx;exact h
  |cons b r=>
   simp only[allOf]at h;rcases List.mem_cons.1 hx with rfl|hx
   .exact h.1
   .exact ih h.2 x hx
theorem abI(he:∀v,e (.const v)=v)(hq:quiet P o=true)(h:opW P o e w E K):
  ∃v,(execOp e o).run P w=.ok (.value v) w/\K v w:=by
 obtain⟨dst,op,type,pos,after,guard⟩:=o;have base:vop P ⟨dst,op,type,pos,after,guard⟩ e w K->∃v,(execOp e ⟨dst,op,type,pos,after,guard⟩).run P w=.ok (.value v) w/\K v w:=by
  intro h;obtain⟨nx,w',h1,h2,h3⟩:=UL he h;have:=h3 hq;subst this;rcases h2 with⟨v,rfl,hv⟩|⟨_,_,hn⟩
  .exact⟨v,h1,hv⟩
  .rw[hq]at hn;cases hn
 cases op<;>try exact base h
 case call c=>
  obtain⟨callee,args,argTypes⟩:=c;cases callee with
  |builtin b=>
   cases b<;>try (simp[quiet]at hq;done)
   simp only[quiet]at hq;simp only[opW]at h;have fin:∀{v},(Builtin.len_ argTypes type (args.map e)).run P w=.ok v w->(execOp e ⟨dst,.call ⟨.builtin .len,args,argTypes⟩,type,pos,after,guard⟩).run P w=.ok (.value v) w:=by
    intro v hv;have:execOp e ⟨dst,.call ⟨.builtin .len,args,argTypes⟩,type,pos,after,guard⟩=(do pure (Next.value (<- Builtin.len_ argTypes type (args.map e)))):=rfl;rw[this];simp[hv]
   split at h
   .rename_i t x ht hx;simp only[ht]at hq;split at h
    .rename_i hu;obtain⟨v,h1,h2⟩:=Vo (P:=P) (w:=w) (ty:=type) (c:=⟨.builtin .len,args,argTypes⟩) ht hx hu h;exact⟨v,fin h1,h2⟩
    .rename_i m hu;obtain⟨v,h1,h2⟩:=Vp (P:=P) (w:=w) (ty:=type) (c:=⟨.builtin .len,args,argTypes⟩) ht hx hu h;exact⟨v,fin h1,h2⟩
    .exfalso
     first|(cases hq;done)|(split at hq<;>simp_all)
   .exact h.elim
  |_=>simp[quiet]at hq
 case panic x=>simp[quiet]at hq
theorem Q9(hq:quiet P o=true)(h:guarded n ops o ρ w (opW P o (ev n ρ) w E) K):
  ∃v,K v w/\guarded n ops o ρ w (opW P o (ev n ρ) w E) (λx _=>x=v) /\
   ∀u,looks o.op=false\/guarded n ops o ρ u (opW P o (ev n ρ) u E) (λx _=>x=v)->Yv P ops o v (act n ρ ds) u:=by
 have yv:∀v u,opW P o (ev n ρ) u E (λx _=>x=v)->(execOp (act n ρ ds).eval o).run P u=.ok (.value v) u:=by
  intro v u h;rw[nG];obtain⟨x,h1,h2⟩:=abI (JE n ρ) hq h;rw[h1,h2]
 unfold guarded at h ⊢;cases hg:o.guard with
 |none=>
  simp only[hg]at h ⊢;obtain⟨v,hv,hall⟩:=Va hq h;refine⟨v,hv,hall w (.inr rfl),λu hu=>.inl ⟨by simp[Region.wanted,hg],yv v u ?_⟩⟩;rcases hu with hu|hu
  .exact hall u (.inl hu)
  .exact hu
 |some g=>
  obtain⟨j,want⟩:=g;simp only[hg]at h ⊢;replace h:=h.out;unfold GdD at h;have Dx:∀b,(match Q8 n ρ ops j with|.bool b=>some b|_=>none)=b->Region.wanted o (yielded ops (act n ρ ds).tmps)=(b==some want):=by
   intro b hb;simp only[Region.wanted,hg];rw[Dz];exact congrArg (λz=>z==some want) hb
  generalize Q8 n ρ ops j=gv at h Dx ⊢;cases gv with
  |bool b=>
   simp only at h Dx ⊢
   by_cases hbw:b=want
   .subst hbw;simp only[if_true]at h ⊢;obtain⟨v,hv,hall⟩:=Va hq h;refine⟨v,hv,⟨by unfold GdD;simp only[if_true];exact hall w (.inr rfl)⟩,λu hu=>.inl ⟨by rw[Dx _ rfl];simp,yv v u ?_⟩⟩;rcases hu with hu|hu
    .exact hall u (.inl hu)
    .have:=hu.out;unfold GdD at this;simpa only[if_true] using this
   .simp only[if_neg hbw]at h ⊢;exact⟨undef,h,⟨by unfold GdD;simp only[if_neg hbw]⟩,λu _=>.inr ⟨by rw[Dx _ rfl];simp[hbw],rfl⟩⟩
  |_=>exact⟨undef,h,⟨rfl⟩,λu _=>.inr ⟨by rw[Dx _ rfl];rfl,rfl⟩⟩
theorem Ry{S:List Nat}(hSd:∀(i:Nat) (o:Oper),ops[i]?=some o->∀d,o.dst=some d->d∈S)(hs:Region.noSelect ops=true)(hE:∀ch w' ρ',E ch w'->Q' (.panic ch) (act n ρ' ds) w')
  (hQp:∀c a w d v,Q' (.panic c) (a.put d v) w->Q' (.panic c) a w):
  ∀(fuel:Nat) (listed:Array Bool) (G:List (Nat×(World->Prop))) (Q:Fr->World->Prop) (ρ:Fr) (w:World),
   (∀ρ' w',(∀i,i ∉ S->ρ' i=ρ i)->Q ρ' w'->Q' .normal (act n ρ' ds) w')->closed ops listed ->
   AV P n ops E Q fuel listed G ρ w->SE P ops Q' (Fof ops G) fuel listed (act n ρ ds) w:=by
 intro fuel;induction fuel with
 |zero=>
  intro listed G Q ρ w hQ _ h;simp only[AV]at h;split at h
  .rename_i hr;exact⟨hr,hQ _ _ (λ_ _=>rfl) h⟩
  .exact h.elim
 |succ fuel ih=>
  intro listed G Q ρ w hQ hcl h;simp only[AV]at h;have hQ1:∀(i:Nat) (o:Oper) (v:Value),ops[i]?=some o->∀ρ' w',(∀j,j ∉ S->ρ' j=upd ρ o.dst v j)->Q ρ' w'->Q' .normal (act n ρ' ds) w':=by
   intro i o v ho ρ' w' hag hq;refine hQ ρ' w' (λj hj=>?_) hq;rw[hag j hj];exact Et (λd hd=>by rintro rfl;exact hj (hSd i o ho _ hd))
  split at h
  .rename_i i hp;split at h
   .rename_i o ho;have hfind:=List.find?_some hp;have hmem:=List.mem_of_find?_eq_some hp;simp only[ho,Bool.and_eq_true]at hfind;obtain⟨hq,hfree⟩:=hfind;obtain⟨v,hv,hg0,hyv⟩:=Q9 (ds:=ds) hq h;have hsel:=Region.noSelect_spec hs;cases hl:looks o.op with
    |true=>
     simp only[hl,cond_true]at hv;have hv':=ih _ _ Q _ w (hQ1 i o v ho) (xN hcl hmem) hv;rw[<- uS n ρ ds o.dst v]at hv';refine JU (F':=Fof ops (G++[(i,λu=>guarded n ops o ρ u (opW P o (ev n ρ) u E) λv' _=>v'=v)]))
      (C:=λu=>guarded n ops o ρ u (opW P o (ev n ρ) u E) λv' _=>v'=v) ho hsel (λc a w h=>hQp c a w _ _ h) ?_ ?_ ?_ fuel listed _ w hcl (Region.free_spec ho hfree) hmem (λu hu=>hyv u (.inr hu)) hg0 hv'
     .intro j w1 w2 hf;rcases hf with rfl|hf
      .exact .inl rfl
      .exact .inr λp hp=>hf p (List.mem_append_left _ hp)
     .exact λw=>.inl rfl
     .intro j w1 w2 hw hf hc;rcases hf with rfl|hf
      .exact hc
      .exact hf _ (List.mem_append_right _ (List.mem_singleton.2 rfl)) hw
    |false=>
     simp only[hl,cond_false]at hv;have hv':=ih _ _ Q _ w (hQ1 i o v ho) (xN hcl hmem) hv;rw[<- uS n ρ ds o.dst v]at hv';exact JU (F':=Fof ops G) (C:=λ_=>True) ho hsel (λc a w h=>hQp c a w _ _ h) (λ_ _ _ h=>h) (λ_=>.inl rfl) (λ_ _ _ _ _ _=>trivial) fuel listed _ w hcl (Region.free_spec ho hfree) hmem
      (λu _=>hyv u (.inl hl)) trivial hv'
   .exact h.elim
  .rename_i hp;split at h
   .exact h.elim
   .rename_i hne;have hall:=UA _ h;refine⟨λh0=>absurd h0 hne,λi hi=>?_⟩;have hi':=hall i hi;split at hi'
    .rename_i o ho;unfold Go.wpOp;simp only[ho];have key:=vw (P:=P) (n:=n) (ds:=ds) (ops:=ops) (Q':=Q') (next:=λa' w'=>Fof ops G i w w'/\SE P ops Q' (Fof ops G) fuel (listed.setIfInBounds i true) a' w') hi'
      (λK' hA hK'=>Qj hE hA hK') (λv w' hk=>by
       obtain⟨h1,h2⟩:=Xi _ hk
       exact⟨.inr h1,ih _ _ Q _ w' (hQ1 i o v ho) (xN hcl hi) h2⟩)
     split
     .rename_i hw;rw[if_pos hw]at key;exact .inl key
     .rename_i hw;rw[if_neg hw]at key;exact key
    .exact hi'.elim
end
end Go.W
namespace Go.W
open Go
section
variable {P:Program} {n:Nat} {keep:List Nat} {ds:List Deferred} {E:KE}
def Post(n:Nat)(ds:List Deferred)(E:KE)(W:List Nat)(ρ:Fr)(Q:Exit->Fr->World->Prop):Exit->Act->World->Prop
 |.panic ch,a,w=>a.defers=ds/\E ch w
 |.outgrown,_,_=>False
 |e,a,w=>∃ρ',a=act n ρ' ds/\(∀i,i ∉ W->ρ' i=ρ i)/\Q e ρ' w
theorem Post.mono(hW:∀i,i ∉ W'->i ∉ W)(hρ:∀i,i ∉ W'->BN i=ρ i)
  (hQ:∀e ρ' w,Q e ρ' w->Q₁ e ρ' w) (e:Exit) (a:Act) (w:World) (h:Post n ds E W BN Q e a w):Post n ds E W' ρ Q₁ e a w:=by
 cases e<;>simp only[Post]at h ⊢<;>first
  |exact h
  |(obtain⟨ρ',h1,h2,h3⟩:=h;exact⟨ρ',h1,λi hi=>(h2 i (hW i hi)).trans (hρ i hi),hQ _ _ _ h3⟩)
theorem Q3:∀(l:List Nat) (k i m:Nat),idx l k i=some m->∃j,m=k+j/\l[j]?=some i:=by
 intro l;induction l with
 |nil=>intro k i m h;simp[idx]at h
 |cons a l ih=>
  intro k i m h;simp only[idx]at h;cases hb:Nat.beq i a with
  |true=>
   simp only[hb,cond_true,Option.some.injEq]at h;exact⟨0,omg,by simp[Nat.eq_of_beq_eq_true hb]⟩
  |false=>
   simp only[hb,cond_false]at h;obtain⟨j,h1,h2⟩:=ih (k+1) i m h;exact⟨j+1,omg,by simpa using h2⟩
theorem wY(hag:∀i,i ∉ ws->ρ' i=ρ i):overlay ρ ws L ρ' (L.map ρ')=ρ':=by
 funext i;unfold overlay;split
 .rename_i k hk;obtain⟨j,rfl,hj⟩:=Q3 L 0 i k hk;simp[hj]
 .by_cases hc:i∈ws
  .have:ws.contains i=true:=by simpa using hc
   rw[this];rfl
  .have:ws.contains i=false:=by simpa using hc
   rw[this];exact(hag i hc).symm
theorem Xu(h:i∈handed n keep ws):i<n:=by
 unfold handed at h;rw[List.mem_filter]at h;simp only[Bool.and_eq_true]at h;exact Nat.le_of_ble_eq_true h.2.2
theorem aaM(h:i<n):(act n ρ ds).tmps.getD i undef=ρ i:=by simp[act,h]
theorem acX:((handed n keep ws).map λi=>(act n ρ ds).tmps.getD i undef)=(handed n keep ws).map ρ:=
 List.map_congr_left λi hi=>aaM (Xu hi)
theorem Ep:∀(c:Code) (Q:Exit->Fr->World->Prop) (ρ:Fr) (w:World),wpc P n keep E c Q ρ w->c.wp P (Post n ds E (writes c) ρ Q) (act n ρ ds) w:=by
 intro c;induction c with
 |skip=>intro Q ρ w h;exact wp_skip ⟨ρ,rfl,λ_ _=>rfl,h⟩
 |label l=>intro Q ρ w h;exact wp_label ⟨ρ,rfl,λ_ _=>rfl,h⟩
 |exit i=>intro Q ρ w h;exact wp_exit ⟨ρ,rfl,λ_ _=>rfl,h⟩
 |ret=>intro Q ρ w h;exact wp_ret ⟨ρ,rfl,λ_ _=>rfl,h⟩
 |goto l=>intro Q ρ w h;exact h.elim
 |scope b=>intro Q ρ w h;exact h.elim
 |rangeFunc f ps as b=>intro Q ρ w h;exact h.elim
 |refuse s=>intro Q ρ w h;exact h.elim
 |region id ops draw=>
  intro Q ρ w h;simp only[wpc]at h;have hE:∀ch w' (ρ':Fr),E ch w'->Post n ds E (writes (.region id ops draw)) ρ Q (.panic ch) (act n ρ' ds) w':=λch w' ρ' he=>⟨rfl,he⟩;have hS:∀o∈ops.toList,∀d,o.dst=some d->d∈writes (.region id ops draw):=λo ho d hd=>by
   simp only[writes];exact List.mem_filterMap.2 ⟨o,ho,hd⟩
  cases draw with
  |false=>
   simp only[cond_false]at h;refine wp_region_list (TR (S:=writes (.region id ops false)) hE ops.toList (Q .normal) ρ w hS ?_ h);intro ρ' w' hag hq;exact⟨ρ',rfl,hag,hq⟩
  |true=>
   simp only[cond_true]at h;cases hc:P.follows .mixedOrders&&Region.noSelect ops with
   |false=>simp[hc]at h
   |true=>
    simp only[hc,cond_true]at h;rw[Bool.and_eq_true]at hc;have:=Ry (P:=P) (n:=n) (ds:=ds) (ops:=ops) (E:=E) (Q':=Post n ds E (writes (.region id ops true)) ρ Q) (S:=writes (.region id ops true))
     (λi o ho d hd=>hS o (Array.mem_toList_iff.2 (Array.mem_of_getElem? ho)) d hd) hc.2 hE
     (λc a w d v hp=>⟨by have:=hp.1;cases d<;>exact this,hp.2⟩)
     ops.size (Array.replicate ops.size false) [] (Q .normal) ρ w.drew (λρ' w' hag hq=>⟨ρ',rfl,hag,hq⟩)
     (by intro k o hk;simp only[Array.getD_eq_getD_getElem?]at hk;exfalso;by_cases hlt:k<ops.size<;>simp[hlt]at hk) h
    exact wp_region_any hc.1 (SC _ _ _ _ this)
 |seq a b iha ihb=>
  intro Q ρ w h;simp only[wpc]at h;cases hj:Nat.ble (ends a) 1 with
  |true=>
   simp only[hj,cond_true]at h;refine wp_seq (wp_mono (iha _ ρ w h) ?_);intro e a' w' hp;cases e with
   |normal=>
    obtain⟨ρ',rfl,hag,hq⟩:=hp;refine wp_mono (ihb Q ρ' w' hq) (Post.mono (λi hi=>?_) (λi hi=>hag i ?_) (λ_ _ _ h=>h))
    .simp only[writes,List.mem_append,not_or]at hi;exact hi.2
    .simp only[writes,List.mem_append,not_or]at hi;exact hi.1
   |panic ch=>exact hp
   |outgrown=>exact hp
   |exit i=>obtain⟨ρ',h1,h2,h3⟩:=hp;exact⟨ρ',h1,λi hi=>h2 i (by simp only[writes,List.mem_append,not_or]at hi;exact hi.1),h3⟩
   |goto i=>obtain⟨ρ',h1,h2,h3⟩:=hp;exact⟨ρ',h1,λi hi=>h2 i (by simp only[writes,List.mem_append,not_or]at hi;exact hi.1),h3⟩
   |ret=>obtain⟨ρ',h1,h2,h3⟩:=hp;exact⟨ρ',h1,λi hi=>h2 i (by simp only[writes,List.mem_append,not_or]at hi;exact hi.1),h3⟩
  |false=>
   simp only[hj,cond_false]at h;obtain⟨J,hA,hB⟩:=h;refine wp_seq (wp_mono (iha _ ρ w hA) ?_);intro e a' w' hp;cases e with
   |normal=>
    obtain⟨ρ',rfl,hag,hq⟩:=hp;have hb:wpc P n keep E b Q (overlay ρ (writes a) (handed n keep (writes a)) ρ' ((handed n keep (writes a)).map ρ')) w':=hB _ _ ρ' hq;rw[wY hag]at hb;refine wp_mono (ihb Q ρ' w' hb) (Post.mono (λi hi=>?_) (λi hi=>hag i ?_) (λ_ _ _ h=>h))
    .simp only[writes,List.mem_append,not_or]at hi;exact hi.2
    .simp only[writes,List.mem_append,not_or]at hi;exact hi.1
   |panic ch=>exact hp
   |outgrown=>exact hp
   |exit i=>obtain⟨ρ',h1,h2,h3⟩:=hp;exact⟨ρ',h1,λi hi=>h2 i (by simp only[writes,List.mem_append,not_or]at hi;exact hi.1),h3⟩
   |goto i=>obtain⟨ρ',h1,h2,h3⟩:=hp;exact⟨ρ',h1,λi hi=>h2 i (by simp only[writes,List.mem_append,not_or]at hi;exact hi.1),h3⟩
   |ret=>obtain⟨ρ',h1,h2,h3⟩:=hp;exact⟨ρ',h1,λi hi=>h2 i (by simp only[writes,List.mem_append,not_or]at hi;exact hi.1),h3⟩
 |cond c a b iha ihb=>
  intro Q ρ w h;simp only[wpc]at h;replace h:=h.out;unfold IfD at h;split at h
  .rename_i t ht;refine wp_cond (t:=t) (by rw[nG];exact ht) ?_;cases t with
   |true=>
    simp only[if_true]at h ⊢;exact wp_mono (iha Q ρ w h) (Post.mono (λi hi=>by simp only[writes,List.mem_append,not_or]at hi;exact hi.1) (λ_ _=>rfl) (λ_ _ _ h=>h))
   |false=>
    simp only[Bool.false_eq_true,if_false]at h ⊢;exact wp_mono (ihb Q ρ w h) (Post.mono (λi hi=>by simp only[writes,List.mem_append,not_or]at hi;exact hi.2) (λ_ _=>rfl) (λ_ _ _ h=>h))
  .exact h.elim
 |block id b ihb=>
  intro Q ρ w h;simp only[wpc]at h;refine wp_block (wp_mono (ihb _ ρ w h) ?_);intro e a' w' hp;cases e with
  |exit i=>
   obtain⟨ρ',h1,h2,h3⟩:=hp;simp only[Exit.inBlock];cases hb:Nat.beq i id with
   |true=>
    simp only[hb,cond_true]at h3;rw[if_pos (Nat.eq_of_beq_eq_true hb)];exact⟨ρ',h1,h2,h3⟩
   |false=>
    simp only[hb,cond_false]at h3;rw[if_neg (λhe=>by rw[he]at hb;simp at hb)];exact⟨ρ',h1,h2,h3⟩
  |_=>exact hp
 |loop b ihb=>
  intro Q ρ w h;simp only[wpc]at h;obtain⟨J,μ,h0,hstep⟩:=h;refine wp_loop (λa w=>∃ρ',a=act n ρ' ds/\(∀i,i ∉ writes b->ρ' i=ρ i)/\J ((handed n keep (writes b)).map ρ') w)
   (λa w=>μ ((handed n keep (writes b)).map λi=>a.tmps.getD i undef) w) ⟨ρ,rfl,λ_ _=>rfl,h0⟩ ?_
  rintro a₁ w₁ ⟨BN,rfl,hag,hJ⟩
  have hb:wpc P n keep E b (λe ρ' w''=>match e with
    |.normal=>J ((handed n keep (writes b)).map ρ') w''/\μ ((handed n keep (writes b)).map ρ') w''<μ ((handed n keep (writes b)).map BN) w₁
    |e=>Q e ρ' w'') (overlay ρ (writes b) (handed n keep (writes b)) BN ((handed n keep (writes b)).map BN)) w₁:=hstep _ _ BN hJ
  rw[wY hag]at hb;refine wp_mono (ihb _ BN w₁ hb) ?_;intro e a' w' hp;cases e with
  |normal=>
   obtain⟨ρ',rfl,h2,h3,h4⟩:=hp;refine⟨⟨ρ',rfl,λi hi=>(h2 i hi).trans (hag i hi),h3⟩,?_⟩;simp only[acX];exact h4
  |panic ch=>exact hp
  |outgrown=>exact hp
  |exit i=>obtain⟨ρ',h1,h2,h3⟩:=hp;exact⟨ρ',h1,λi hi=>(h2 i hi).trans (hag i hi),h3⟩
  |goto i=>obtain⟨ρ',h1,h2,h3⟩:=hp;exact⟨ρ',h1,λi hi=>(h2 i hi).trans (hag i hi),h3⟩
  |ret=>obtain⟨ρ',h1,h2,h3⟩:=hp;exact⟨ρ',h1,λi hi=>(h2 i hi).trans (hag i hi),h3⟩
def res1(tmps:Array Value):ResultVar->Sem Value
 |.tmp t=>pure (tmps.getD t undef)
 |.cell a t=>do loadVar t (<- asAddr (tmps.getD a undef))
theorem TD:∀(l:List ResultVar) (K:List Value->Prop),wU P n ρ w l K ->
  ∃vs,(l.mapM (res1 (act n ρ ds).tmps)).run P w=.ok vs w/\K vs:=by
 intro l;induction l with
 |nil=>intro K h;exact⟨[],smp,h⟩
 |cons r l ih=>
  intro K h;have hev:∀t,(act n ρ ds).tmps.getD t undef=ev n ρ (.tmp t):=λt=>congrFun (nG n ρ ds) (.tmp t);cases r with
  |tmp t=>
   simp only[wU]at h;obtain⟨vs,h1,h2⟩:=ih _ h;refine⟨_,?_,h2⟩;simp only[List.mapM_cons,Sem.run_bind,res1,hev,Sem.run_pure,Result.andThen_ok,h1]
  |cell a t=>
   simp only[wU]at h;have step:∀{v},(Instr.loadAt t (ev n ρ (.tmp a))).run P w=.ok v w->(res1 (act n ρ ds).tmps (.cell a t)).run P w=.ok v w:=by
    intro v hv;simp only[res1];rw[hev];cases hx:ev n ρ (.tmp a)<;>simp[hx,Instr.loadAt,Instr.sureAddr]at hv;rename_i p;cases p with
    |none=>simp at hv
    |some p=>simpa [asAddr] using hv
   split at h
   .rename_i hk;obtain⟨x,h1,h2⟩:=Zx (P:=P) hk h;obtain⟨vs,h3,h4⟩:=ih _ h2;refine⟨_,?_,h4⟩;simp only[List.mapM_cons,Sem.run_bind,step h1,Result.andThen_ok,h3,Sem.run_pure]
   .rename_i m hk;obtain⟨x,h1,h2⟩:=Vq (P:=P) hk h;obtain⟨vs,h3,h4⟩:=ih _ h2;refine⟨_,?_,h4⟩;simp only[List.mapM_cons,Sem.run_bind,step h1,Result.andThen_ok,h3,Sem.run_pure]
   .exact h.elim
theorem mY{fn:Func}{ρ:Fr}{w:World}{R:Value->Prop}(h:wU P n ρ w fn.results.toList λl=>R (tup l)):
  ∃v,(results fn (act n ρ ds).tmps).run P w=.ok v w/\R v:=by
 obtain⟨vs,h1,h2⟩:=TD (ds:=ds) _ _ h;refine⟨tup vs,?_,h2⟩;have h3:(fn.results.mapM (res1 (act n ρ ds).tmps)).run P w=.ok vs.toArray w:=by
  have:fn.results=fn.results.toList.toArray:=by simp
  rw[this,List.mapM_toArray];simp[h1]
 have h4:results fn (act n ρ ds).tmps=(do let vs <- fn.results.mapM (res1 (act n ρ ds).tmps);pure (if h:vs.size=1 then vs[0]else .tuple vs)):=by
  unfold results;congr 1
 rw[h4];simp only[Sem.run_bind,h3,Result.andThen_ok,Sem.run_pure];congr 1
 match vs with
 |[]=>rfl
 |[v]=>rfl
 |a::b::r=>simp[tup]
theorem OM(hf:P.funcs[f]?=some fn)(hlen:Nat.ble args.length fn.ntmps=true)
  (h:fnB P fn keep args w R):Calls P f args.toArray w R:=by
 unfold fnB at h;split at h
 .rename_i c hc;refine calls_of_wp hf hc ?_;have hact:({ tmps:=args.toArray++Array.replicate (fn.ntmps - args.toArray.size) undef,defers:=[] }:Act)=act fn.ntmps (λi=>args.getD i undef) []:=by
   have hl:=Nat.le_of_ble_eq_true hlen;simp only[act,Act.mk.injEq,and_true];apply Array.ext';apply List.ext_getElem?;intro i;simp only[Array.toList_append,Array.toList_replicate,List.size_toArray,List.getElem?_append,List.getElem?_map,List.getElem?_replicate]
   by_cases h1:i<args.length
   .simp[h1,show i<fn.ntmps by omega]
   .by_cases h2:i<fn.ntmps
    .simp[h1,h2,show i - args.length<fn.ntmps - args.length by omega]
    .simp[h1,h2,show ¬ i - args.length<fn.ntmps - args.length by omega]
  rw[hact];refine wp_mono (Ep (ds:=[]) c _ _ w h) ?_;intro e a w' hp;cases e with
  |panic ch=>exact hp
  |outgrown=>exact hp.elim
  |normal=>
   obtain⟨ρ',rfl,_,hq⟩:=hp;obtain⟨v,h1,h2⟩:=mY (ds:=[]) (R:=λv=>R (.returned v) w') hq;exact⟨rfl,v,h1,h2⟩
  |ret=>
   obtain⟨ρ',rfl,_,hq⟩:=hp;obtain⟨v,h1,h2⟩:=mY (ds:=[]) (R:=λv=>R (.returned v) w') hq;exact⟨rfl,v,h1,h2⟩
  |exit i=>obtain⟨_,_,_,hq⟩:=hp;exact hq.elim
  |goto i=>obtain⟨_,_,_,hq⟩:=hp;exact hq.elim
 .exact h.elim
end
end Go.W
namespace Go.W
open Go
def Obj.cellAt(o:Obj)(i:Nat):Option Value:=match o with|.cells c _ _=>c[i]?|_=>none
def Obj.frozenAt(o:Obj)(i:Nat):Bool:=match o with|.cells _ _ (lo,hi)=>decide (lo<=i)&&decide (i<hi)|_=>false
def Obj.put(o:Obj)(i:Nat)(v:Value):Obj:=match o with|.cells c e f=>.cells (c.setIfInBounds i v) e f|o=>o
theorem fM(c:Array Value)(e:TypeId)(f:Nat×Nat)(i:Nat):Obj.cellAt (.cells c e f) i=c[i]?:=rfl
theorem tN(c:Array Value)(e:TypeId)(i:Nat):Obj.frozenAt (.cells c e (0,0)) i=false:=by simp[Obj.frozenAt]
theorem jM(w:World)(b o:Nat):w.cell? ⟨b,o,none⟩=(w.heap[b]?).bind (Obj.cellAt · o):=by
 unfold World.cell?;cases w.heap[b]? with
 |none=>rfl
 |some x=>cases x<;>rfl
theorem Ac(w:World)(b o:Nat):w.frozen? ⟨b,o,none⟩=((w.heap[b]?).map (Obj.frozenAt · o)).getD false:=by
 unfold World.frozen?;cases w.heap[b]? with
 |none=>rfl
 |some x=>cases x<;>rfl
theorem add_eq(b o n:Nat):(⟨b,o,none⟩:Addr).add n=⟨b,o+n,none⟩:=by simp[Addr.add]
theorem heap_set(w:World)(b o b':Nat)(v:Value):(w.setCell ⟨b,o,none⟩ v).heap[b']?=if b=b' then(w.heap[b']?).map (Obj.put · o v)else w.heap[b']?:=by
 simp only[World.setCell,Array.getElem?_modify]
 by_cases h:b=b'
 .subst h;simp only[if_true];cases w.heap[b]? with
  |none=>rfl
  |some x=>cases x<;>rfl
 .simp[h]
theorem Q7{w:World}{b o b':Nat}{v:Value}(h:b≠b'):(w.setCell ⟨b,o,none⟩ v).heap[b']?=w.heap[b']?:=by rw[heap_set,if_neg h]
theorem heap_alloc(w:World)(o:Obj)(b:Nat):(w.alloc o).heap[b]?=if b=w.heap.size then some o else w.heap[b]?:=by
 simp only[World.alloc,Array.getElem?_push]
theorem bH(w:World)(o:Obj):(w.alloc o).heap[w.heap.size]?=some o:=by rw[heap_alloc,if_pos rfl]
theorem AU{w:World}{o:Obj}{b:Nat}(h:b=w.heap.size):(w.alloc o).heap[b]?=some o:=by rw[heap_alloc,if_pos h]
theorem cZ{w:World}{o:Obj}{b:Nat}(h:b<w.heap.size):(w.alloc o).heap[b]?=w.heap[b]?:=by rw[heap_alloc,if_neg omg]
theorem mF(h:w.heap[b]?=some o'):(ag w b o).heap[b]?=some o:=by
 have:b<w.heap.size:=by
  rcases Nat.lt_or_ge b w.heap.size with h'|h'
  .exact h'
  .simp[Array.getElem?_eq_none h']at h
 simp[ag,this]
theorem bW(h:b≠b'):(ag w b o).heap[b']?=w.heap[b']?:=by
 simp[ag,Array.getElem?_setIfInBounds_ne h]
theorem ah(w:World)(b:Nat)(o:Obj):(ag w b o).heap.size=w.heap.size:=by simp[ag]
theorem lt_of_heap{w:World}{b:Nat}{o:Obj}(h:w.heap[b]?=some o):b<w.heap.size:=by
 rcases Nat.lt_or_ge b w.heap.size with h'|h'
 .exact h'
 .simp[Array.getElem?_eq_none h']at h
section
variable {w:World} {P:Program} {E:KE}
theorem rFa(b o n:Nat)(K:Value->Prop):Fa (.pointer (some ⟨b,o,none⟩)) n K=K (.pointer (some ⟨b,o+n,none⟩)):=
 propext ⟨λh=>by have:=h.out;simp only[FaD,add_eq]at this;exact this,λh=>⟨by simp only[FaD,add_eq];exact h⟩⟩
theorem rLd(b o:Nat)(K:Value->Prop):Ld (.pointer (some ⟨b,o,none⟩)) w K=(match (w.heap[b]?).bind (Obj.cellAt · o)with|some x=>K x|none=>False):=
 propext ⟨λh=>by have:=h.out;simp only[LdD,jM]at this;exact this,λh=>⟨by simp only[LdD,jM];exact h⟩⟩
theorem Ut(b o:Nat)(c:Array Value)(e:TypeId)(f:Nat×Nat)(h:w.heap[b]?=some (.cells c e f)):∀(n i:Nat),o+i+n<=c.size ->
  eY w ⟨b,o,none⟩ i n=some ((c.toList.drop (o+i)).take n):=by
 intro n;induction n with
 |zero=>intro i _;simp[eY]
 |succ n ih=>
  intro i hi;have hlt:o+i<c.toList.length:=by simp;omega
  rw[eY,ih (i+1) omg,add_eq,jM,h,Option.bind_some,fM];rw[List.drop_eq_getElem_cons hlt,List.take_succ_cons];have:c[o+i]?=some c.toList[o+i]:=by
   rw[<- Array.getElem?_toList];exact List.getElem?_eq_getElem hlt
  rw[this];rfl
theorem rLdN(h:w.heap[b]?=some (.cells c e f))(hn:o+n<=c.size):
  LdN (.pointer (some ⟨b,o,none⟩)) n w K=K (.agg ((c.toList.drop o).take n).toArray):=by
 have hc:=Ut b o c e f h n 0 omg;exact propext ⟨λhh=>by have:=hh.out;simp only[SL,hc]at this;exact this,λhh=>⟨by simp only[SL,hc];exact hh⟩⟩
theorem rNw(t:TypeId)(v:Value)(K:KV):Nw t v w K=K (.pointer (some ⟨w.heap.size,0,none⟩)) (w.alloc (.cells v.cells t)):=propext ⟨λh=>h.out,λh=>⟨h⟩⟩
theorem rBu(z:Value)(ps:List (Nat×Nat×Value))(K:Value->Prop):Bu z ps K=(match o8 z.cells.toList ps with|some cells=>K (.agg cells.toArray)|none=>False):=
 propext ⟨λh=>h.out,λh=>⟨h⟩⟩
theorem rBuS(e m:Nat)(vals:List Value)(K:KV):BuS e m vals w K=((∀v∈vals,v.cells.size=m) /\
  K (.slice (some ⟨w.heap.size,0,none⟩) vals.length vals.length) (w.alloc (.cells (vals.flatMap (·.cells.toList)).toArray e))):=propext ⟨λh=>h.out,λh=>⟨h⟩⟩
theorem rBi(op:BinOp)(k:IntKind)(a b:Int)(K:Value->Prop):Bi op (.int k a) (.int k b) K=(match binI op k a b with|some v=>K v|none=>False):=
 propext ⟨λh=>h.out.2,λh=>⟨rfl,h⟩⟩
theorem Y0(k:IntKind)(a b:Int)(K:Value->Prop):Bi .add (.int k a) (.int k b) K=K (.int k (k.wrap (a+b))):=rBi ..
theorem rBsub(k:IntKind)(a b:Int)(K:Value->Prop):Bi .sub (.int k a) (.int k b) K=K (.int k (k.wrap (a - b))):=rBi ..
theorem rBmul(k:IntKind)(a b:Int)(K:Value->Prop):Bi .mul (.int k a) (.int k b) K=K (.int k (k.wrap (a*b))):=rBi ..
theorem abr(a b:ByteArray)(K:Value->Prop):Bs .eql (.string a) (.string b) K=K (.bool (a.toList==b.toList)):=propext ⟨λh=>h.out,λh=>⟨h⟩⟩
theorem abq(a b:ByteArray)(K:Value->Prop):Bs .neq (.string a) (.string b) K=K (.bool !(a.toList==b.toList)):=propext ⟨λh=>h.out,λh=>⟨h⟩⟩
theorem abt(h:a.size+b.size<=9223372036854775807):Bs .add (.string a) (.string b) K=K (.string (a++b)):=by
 have:¬ IntKind.i64.max<((a.size+b.size:Nat):Int):=by simp only[IntKind.max_i64];omega
 refine propext ⟨λhh=>?_,λhh=>⟨?_⟩⟩
 .have:=hh.out;simp only[BsD,binS]at this;rw[if_neg asu]at this;exact this
 .simp only[BsD,binS];rw[if_neg asu];exact hh
theorem rIaS{a:Addr}{m len cap:Nat}{k:IntKind}{i:Int}{K:Value->Prop}(h0:0<=i)(h1:i<len):
  IaS m (.slice (some a) len cap) (.int k i) K=K (.pointer (some (a.add (i.toNat*m)))):=propext ⟨λh=>h.out.2.2,λh=>⟨h0,h1,h⟩⟩
theorem rIaA{a:Addr}{l m:Nat}{k:IntKind}{i:Int}{K:Value->Prop}(h0:0<=i)(h1:i<l):
  IaA l m (.pointer (some a)) (.int k i) K=K (.pointer (some (a.add (i.toNat*m)))):=propext ⟨λh=>h.out.2.2,λh=>⟨h0,h1,h⟩⟩
theorem rEx(vs:Array Value)(i:Nat)(K:Value->Prop):Ex (.tuple vs) i K=(match vs[i]? with|some v=>K v|none=>False):=propext ⟨λh=>h.out,λh=>⟨h⟩⟩
theorem rPk(t:Bool)(a b:Value)(K:Value->Prop):Pk (.bool t) a b K=K (if t then a else b):=propext ⟨λh=>h.out,λh=>⟨h⟩⟩
theorem rLnS(s:ByteArray)(K:Value->Prop):Ln true (.string s) K=K (.int .i64 s.size):=propext ⟨λh=>h.out,λh=>⟨h⟩⟩
theorem rTa(t u:TypeId)(z v:Value)(K:Value->Prop):Ta t z (.iface u v) K=K (if u=t then .tuple #[v,.bool true]else .tuple #[z,.bool false]):=propext ⟨λh=>h.out,λh=>⟨h⟩⟩
theorem rMm(K:KV):Mm w K=K (.map (some w.heap.size)) (w.alloc (.map #[] 0)):=propext ⟨λh=>h.out,λh=>⟨h⟩⟩
theorem rGd(b want:Bool)(A:KV->Prop)(K:KV):Gd (.bool b) want w A K=(if b=want then A K else K undef w):=propext ⟨λh=>h.out,λh=>⟨h⟩⟩
theorem rIf(b:Bool)(A B:Prop):If (.bool b) A B=(if b=true then A else B):=propext ⟨λh=>h.out,λh=>⟨h⟩⟩
theorem If.intro(h1:b=true->A)(h2:b=false->B):If (.bool b) A B:=by
 rw[rIf];cases b
 .exact h2 rfl
 .exact h1 rfl
theorem Jn.direct(h:A λvals w=>∀jk,B jk vals w):Jn A B:=
 ⟨_,h,λ_ _ jk hh=>hh jk⟩
theorem Lp.intro(J:List Value->World->Prop)(μ:List Value->World->Nat)
  (h0:J init w) (h:∀vals w jk,J vals w->body jk vals w λAh w'=>J Ah w'/\μ Ah w'<μ vals w):Lp init w body:=⟨J,μ,h0,h⟩
theorem Lp.nat(I:Nat->List Value->World->Prop)
  (h0:I n init w) (h:∀n vals w jk (C:List Value->World->Prop),I n vals w->(∀m Ah w',m<n->I m Ah w'->C Ah w')->body jk vals w C):Lp init w body:=by
 classical
 let J:List Value->World->Prop:=λvals w=>∃n,I n vals w
 let least:∀vals w,J vals w->∃n,I n vals w/\∀m,I m vals w->n<=m:=by
  rintro vals w ⟨n,hn⟩;induction n using Nat.strongRecOn with
  |_ n ih=>
   by_cases hm:∃m,m<n/\I m vals w
   .obtain⟨m,hm,hi⟩:=hm;exact ih m hm hi
   .exact⟨n,hn,λm hi=>by
     rcases Nat.lt_or_ge m n with h|h
     .exact absurd ⟨m,h,hi⟩ hm
     .exact h⟩
 let μ:List Value->World->Nat:=λvals w=>if hj:J vals w then Classical.choose (least vals w hj)else 0
 have hμ:∀vals w (hj:J vals w),I (μ vals w) vals w/\∀m,I m vals w->μ vals w<=m:=by
  intro vals w hj;have:=Classical.choose_spec (least vals w hj);simp only[μ,dif_pos hj];exact this
 refine⟨J,μ,⟨n,h0⟩,λvals w jk hj=>?_⟩;refine h (μ vals w) vals w jk _ (hμ vals w hj).1 λm Ah w' hm hi=>⟨⟨m,hi⟩,?_⟩;exact Nat.lt_of_le_of_lt ((hμ Ah w' ⟨m,hi⟩).2 m hi) hm
theorem Jn.by(I:List Value->World->Prop)
  (h:∀J:List Value->World->Prop,(∀vals w,I vals w->J vals w)->A J) (h2:∀vals w jk,I vals w->B jk vals w):Jn A B:=
 ⟨I,h I (λ_ _ h=>h),h2⟩
theorem rBuS'(h1:(vals.all λv=>Nat.beq v.cells.size m)=true)
  (h2:(vals.flatMap (·.cells.toList)).toArray=c) (h3:vals.length=n):
  BuS e m vals w K=K (.slice (some ⟨w.heap.size,0,none⟩) n n) (w.alloc (.cells c e)):=by
 rw[rBuS,h2,h3];refine propext ⟨λh=>h.2,λh=>⟨λv hv=>?_,h⟩⟩;exact Nat.eq_of_beq_eq_true (List.all_eq_true.mp h1 v hv)
theorem size_alloc(w:World)(o:Obj):(w.alloc o).heap.size=w.heap.size+1:=by simp only[World.alloc,Array.size_push]
theorem size_set(w:World)(a:Addr)(v:Value):(w.setCell a v).heap.size=w.heap.size:=by simp only[World.setCell,Array.size_modify]
theorem rIaS'(h1:i<len):
  IaS m (.slice (some ⟨b,o,none⟩) len cap) (.int k (i:Nat)) K=K (.pointer (some ⟨b,o+i*m,none⟩)):=by
 rw[rIaS omg omg,add_eq,Int.toNat_natCast]
theorem rq(h0 : -9223372036854775808<=x)(h1:x<=9223372036854775807):IntKind.i64.wrap x=x:=by
 rw[IntKind.wrap_i64];omega
theorem Cl.by(h:Calls P f args w R)(hr:∀v w',R (.returned v) w'->K v w')
  (hp:∀ch w',R (.panicked ch) w'->E ch w') (ho:∀w',¬ R .outgrown w'):Cl P f args w E K:=
 ⟨h.mono λe w' he=>by
  cases e with
  |returned v=>exact hr v w' he
  |panicked ch=>exact hp ch w' he
  |outgrown=>exact ho w' he⟩
end
end Go.W

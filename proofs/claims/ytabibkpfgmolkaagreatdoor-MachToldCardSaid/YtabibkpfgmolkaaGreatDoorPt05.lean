/- Lemmas for the claim, part 5. Conditions: none. -/
import Derived.Test.YtabibkpfgmolkaaGreatDoorPt04
import Derived.Deep.RegionHeld3
import Derived.Shelf.Spec.TrailingZeros
set_option maxRecDepth 100000
set_option maxHeartbeats 16000000
set_option linter.unusedVariables false
set_option linter.unusedSimpArgs false
open Go.Lib renaming hid→fQ
open Go.Proofs.Tryz renaming prog→fZ
open Go.Proofs.Tryz
open Go.RowKit
open List renaming getElem?_eq_getElem→Aj,getD_eq_getElem?_getD→Az,getD_cons_zero→Av,getD_cons_succ→Aw,getElem_mem→AJ,getElem?_toArray→AZ,getElem?_map→AW,mem_of_getElem?→AY,getElem_map→Ad,all_append→Ai,mem_cons_of_mem→Bj,length_take→By,not_mem_nil→BJ,countP_cons→BQ,mem_cons→BY,range→Bd
open Nat renaming le_refl→Aq,and_two_pow_sub_one_eq_mod→AX,div_div_eq_div_mul→AV,and_le_right→Aa,div_le_self→Ae,pow_succ→Ag,strongRecOn→Ah,add_assoc→Bq,reduceMul→Bx,lt_or_eq_of_le→Bz,add_zero→Bv,zero_le→BZ,add_le_add→BW,reducePow→Ba,le_trans→Bb,mul_comm→Bc,mod_le→Be,mod_lt→Bf
open Go.Value renaming pointer→Ax,func→Ay,int→Af,bool→Bk
open Go.RowKit.Below renaming refl→Ak
open Go.IntKind renaming wrap_u64→AQ,wrap_u32→AK,wrap_i64→BX
open Int renaming toNat_natCast→Ab,emod_eq_of_lt→Bw,ediv_nonneg→BK,natCast_add→BV
open Go.World renaming size_alloc→Ac
open Go renaming World→Bg,Calls→Bi
open Go.RowKit renaming Below→Bh
open Go.Value renaming int->fF,slice->fG,bool->fH,tuple->fI,agg->fM,pointer->fN
open Go.IntKind renaming i64->fO,u64->fP,u32->fR
open Go.Obj renaming cells->fS
open Go.Ending renaming returned->fT
open Option renaming none->fU,some->gh
open Bool renaming true->gj,false->gm
namespace Go.Proofs.YtabibkpfgmolkaaGreatDoor
variable {k x n j:Nat}{a l:List Nat}{out op:Int}{w:Bg}
theorem hY{e:ia}{r:gR}{c:gP}(h:codeOk e r c=gj):∃ i o,iV e r.a2 c.op c.n=gh (i,o)/\c.args.length=i.length/\c.O.length=o.length/\vQ c.op<=c.to.length/\(c.to.length:Int)<=sW c.op/\(∀ x∈c.to,0<=x/\x<r.K.length)/\(∀ x∈c.args,0<=x/\x<r.M)/\(∀ x∈c.O,0<=x/\x<r.M)/\c.O.Nodup:=by
 unfold codeOk at h
 cases hf:iV e r.a2 c.op c.n with
 | none=>rw[hf]at h;cases h
 | some b=>
  obtain⟨i,o⟩:=b;rw[hf]at h;simp only[Bool.and_eq_true,decide_eq_true_eq]at h;obtain⟨⟨h1,h2,d,f⟩,g,j,k,m⟩:=h
  have w:∀ {n:Int} {l:List Int},within n l=gj->∀ x∈l,0<=x/\x<n:=fun a x p=>by
   unfold within at a;have:=List.all_eq_true.1 a x p
   simpa using this
  exact⟨i,o,rfl,h1,h2,d,f,w m,w g,w j,k⟩
theorem sr{e:ia}{c:gP}{s:iM}(h:iF e c k a s = .ret l):c.op=276/\l=a:=by
 unfold iF at h;simp only at h
 repeat' split at h
 all_goals first|cases h|skip
 ·rename_i h1;exact⟨h1,rfl⟩
theorem bXb{e:ia}{c:gP}{s:iM}(h:iF e c k a s = .go j):(c.op=273/\j=(c.to.getD 0 0).toNat)\/(c.op=274/\(j=k+1\/j=(c.to.getD 0 0).toNat))\/(c.op=275/\j=(c.to.getD (min (a.getD 0 0) (c.to.length - 1)) 0).toNat):=by
 unfold iF at h;simp only at h
 repeat' split at h
 all_goals first
  | cases h
  | skip
 all_goals simp_all
theorem qP{e:ia}{c:gP}{s s':iM}{x:Int}(h:iF e c k a s = .trap x s'):x≠0:=by
 unfold iF at h;simp only at h
 repeat' split at h
 all_goals first
  | (injection h with h1 h2;subst h1;first|assumption|decide)
  | cases h
theorem rZ{e:ia}{c:gP}{s:iM}(h:iF e c k a s = .call n):c.op=16/\n=c.n/\¬(c.n:Int)<e.G:=by
 unfold iF at h;simp only at h
 repeat' split at h
 all_goals first
  | (injection h with h1;subst h1;exact⟨by assumption,rfl,by assumption⟩)
  | cases h
theorem uZ{e:ia}{c:gP}{s s':iM}(h:iF e c k a s = .vals l s'):c.op≠273/\c.op≠274/\c.op≠275/\c.op≠276/\c.op≠277 /\
  ((c.op=16/\(c.n:Int)<e.G/\iy c.n ((e.R.getD c.n ⟨[],[]⟩).out) a s=(l,0,s'))\/(c.op≠16/\l = [(jV c a s).1]/\(jV c a s).2.1=0/\s'=(jV c a s).2.2)):=by
 unfold iF at h;simp only at h
 repeat' split at h
 all_goals first
  | (injection h with h1 h2;subst h1;subst h2;refine⟨by assumption,by assumption,by assumption,by assumption,by assumption,?_⟩)
  | cases h
 ·rename_i b himp d;refine .inl ⟨b,himp,?_⟩;rw[<-d]
 ·rename_i b d;exact .inr ⟨b,rfl,d,rfl⟩
theorem aYt{outs:List Int}{s s':iM}(h:iy n outs a s=(l,0,s')):l.length=outs.length/\s'.U=s.U:=by
 unfold iy at h
 split at h
 ·rename_i hle;injection h with h1 h2;injection h2 with h2 b;subst h1;subst b;refine⟨?_,rfl⟩;rw[pY _ _ (by rw[By];omega),By];omega
 ·injection h with h1 h2;injection h2 with h2 b;omega
theorem qR(c:gP)(a:List Nat)(s:iM):(jV c a s).2.2.U<=s.U/\(c.op=258->(jV c a s).2.1=0->(jV c a s).2.2.U<s.U):=by
 unfold jV
 repeat' split
 all_goals simp_all
 all_goals omega
theorem dKh{c:gP}{s:iM}(h:c.op=272):(jV c a s).1=a.getD 0 0:=by
 unfold jV;rw[gy fu,gz h]
theorem dKi{m:Bool}{i o:List Int}(h:mW m op n=gh (i,o)):o.length<=1:=by
 unfold mW at h
 repeat' split at h
 all_goals (cases h <;> first|exact Aq _|exact BZ _|(split <;> first|exact Aq _|exact BZ _)|skip)
theorem bJq{e:ia}{s:iu}{i o:List Int}(h:iV e s op n=gh (i,o))(a:op≠16):o.length<=1:=by
 unfold iV at h
 repeat' split at h
 all_goals first
  | exact dKi h
  | (cases hg:e.E[n]? with
    | none=>rw[hg]at h;cases h
    | some g=>rw[hg]at h;cases h;exact Aq _)
  | (rename_i hq;exact gH hq a)
  | (cases h <;> first|exact Aq _|exact BZ _)
theorem cQy{e:ia}{r:gR}{c:gP}{s s':iM}(h:iF e c k a s = .vals l s')(f:codeOk e r c=gj):c.O.length<=l.length:=by
 obtain⟨i,o,hf,_,d,_⟩:=hY f;obtain⟨_,_,_,_,_,h|⟨b,rfl,_⟩⟩:=uZ h
 ·obtain⟨b,_,j⟩:=h;rw[(aYt j).1,d];rw[b]at hf;have hf:(e.R[c.n]?).map (fun g=>(g.a1,g.out))=gh (i,o):=hf
  cases hg:e.R[c.n]? with
  | none=>rw[hg]at hf;cases hf
  | some g=>
   rw[hg]at hf;injection hf with hf;injection hf with h1 h2;rw[Az,hg,<-h2];exact Aq _
 ·have:=bJq hf b;rw[d]
  simpa using this
theorem yX{c:gP}(h1:c.op≠273)(h2:c.op≠274)(h3:c.op≠275)(h4:c.op≠276)(h5:c.op≠277):ib c k = [(k:Int)+1]:=by
 unfold ib;rw[gy fu,gy fu,gy fu]
theorem bXc{e:ia}{r:gR}{c:gP}{s:iM}(h:iF e c k a s = .go j)(p:codeOk e r c=gj):(j:Int)∈ib c k/\c.O = []:=by
 obtain⟨i,o,hf,_,t,d,_,u,_⟩:=hY p
 have g:∀ x∈c.to,((x.toNat:Nat):Int)=x:=fun x v=>by have:=u x v;omega
 have m:o = []->c.O = []:=fun e=>by subst e;exact List.length_eq_zero_iff.1 t
 have hn:∀ op,(op=273\/op=274\/op=275)->c.op=op->o = []:=fun op h1 h2=>by
  rw[h2]at hf;rcases h1 with rfl|rfl|rfl
  ·have hf:(if c.n=0 then gh (([]:List Int),([]:List Int))else fU)=gh (i,o):=hf
   split at hf
   ·injection hf with hf;injection hf with _ h;exact h.symm
   ·cases hf
  ·have hf:(if c.n=0 then gh (([127]:List Int),([]:List Int))else fU)=gh (i,o):=hf
   split at hf
   ·injection hf with hf;injection hf with _ h;exact h.symm
   ·cases hf
  ·have hf:(if c.n=0 then gh (([127]:List Int),([]:List Int))else fU)=gh (i,o):=hf
   split at hf
   ·injection hf with hf;injection hf with _ h;exact h.symm
   ·cases hf
 have hg:∀ q,q<c.to.length->c.to.getD q 0∈c.to:=fun q hq=>by
  rw[Az,Aj hq];exact AJ hq
 rcases bXb h with⟨b,rfl⟩|⟨b,hj⟩|⟨b,rfl⟩
 ·have f:0<c.to.length:=(by rw[b]at d;have:(1:Int)<=c.to.length:=d;omega);refine⟨?_,m (hn 273 (.inl rfl) b)⟩;unfold ib;rw[gy fu,gz fu,g _ (hg 0 f)];exact hg 0 f
 ·have f:0<c.to.length:=(by rw[b]at d;have:(1:Int)<=c.to.length:=d;omega);refine⟨?_,m (hn 274 (.inr (.inl rfl)) b)⟩;unfold ib;rw[gy fu,gy fu,gz b];rcases hj with rfl|rfl
  ·simp
  ·rw[g _ (hg 0 f)]
   match hc:c.to,f with
   | x :: l,_=>simp
 ·have f:0<c.to.length:=(by rw[b]at d;have:(1:Int)<=c.to.length:=d;omega);refine⟨?_,m (hn 275 (.inr (.inr rfl)) b)⟩;unfold ib;rw[gy fu,gz fu,g _ (hg _ fu)];exact hg _ fu
theorem zW{e:ia}{r:gR}{c:gP}(hc:iq e r)(a:r.K[k]? = gh c)(hj:(j:Int)∈ib c k):j<r.K.length:=by
 have f:=AY a;obtain⟨_,_,_,_,_,b,_,g,_⟩:=hY (hc.K c f);have ai:=(gw a).1
 have last:(c.op≠273/\c.op≠275/\c.op≠276/\c.op≠277)->k+1<r.K.length:=fun hn=>by
  refine Classical.byContradiction fun aj=>?_;have:k=r.K.length - 1:=fu;rw[this]at a;have:=hc.last c a;omega
 have d:(j:Int)∈c.to->j<r.K.length:=fun h=>by have:=g _ h;omega
 unfold ib at hj
 split at hj
 ·simp at hj
 ·split at hj
  ·exact d hj
  ·split at hj
   ·simp only[BY,BJ,or_false]at hj;rcases hj with hj|hj
    ·have:=last fu;omega
    ·refine d ?_;rename_i i;have m:0<c.to.length:=(by rw[i]at b;have:(1:Int)<=c.to.length:=b;omega)
     match n:c.to,m with
     | x :: l,_=>rw[n]at hj;simp at hj;rw[hj];simp
   ·simp only[BY,BJ,or_false]at hj;have:=last fu;omega
theorem ss{p:hU}{r:gR}{c:gP}(hp:iD p)(a:c.op=16)(b:codeOk p.J r c=gj)(hi:¬(c.n:Int)<p.J.G):∃ q g,p.b0[c.n - p.J.G.toNat]? = gh q/\p.J.R[c.n]? = gh g/\g=q.a2:=by
 obtain⟨i,o,hf,_⟩:=hY b;rw[a]at hf;have hf:(p.J.R[c.n]?).map (fun g=>(g.a1,g.out))=gh (i,o):=hf
 cases hg:p.J.R[c.n]? with
 | none=>rw[hg]at hf;cases hf
 | some g=>
  have hl:=(gw hg).1;have he:=kY hp.J;have hn:=hp.len;obtain⟨q,hq⟩:∃ q,p.b0[c.n - p.J.G.toNat]? = gh q:=⟨_,Aj fu⟩;refine⟨q,g,hq,rfl,?_⟩;have:=(hp.row _ q hq).2;rw[show p.J.G.toNat+(c.n - p.J.G.toNat)=c.n by omega,hg]at this;injection this
theorem Ev.total{p:hU}(hp:iD p)(lost:Nat):∀ (f D:Nat) (m:Nat) (r:gR) (rk:Nat->Nat),iq p.J r->(∀ i c (k:Nat),r.K[i]? = gh c->c.op≠258->(k:Int)∈ib c i->rk k<rk i) ->
  ∀ (d k:Nat) (V:List Nat) (s:iM),s.U=f->16 - d=D->rk k=m->k<r.K.length->∃ R,Ev p lost d r k V s R/\R.s.U<=s.U:=by
 intro f
 induction f using Ah with
 | _ f G=>
 intro D
 induction D using Ah with
 | _ D H=>
 intro m
 induction m using Ah with
 | _ m I=>
 intro r rk hc b d k V s hf A hm J
 have again:∀ (j:Nat) (V':List Nat) (s':iM),j<r.K.length->(s'.U<s.U\/(s'.U=s.U/\rk j<rk k))->∃ R,Ev p lost d r j V' s' R/\R.s.U<=s'.U:=fun j V' s' hj B=>by
  rcases B with B|⟨h1,h2⟩
  ·exact G s'.U fu D (rk j) r rk hc b d j V' s' rfl A rfl hj
  ·exact I (rk j) fu r rk hc b d j V' s' fu A rfl hj
 obtain⟨c,a⟩:∃ c,r.K[k]? = gh c:=⟨_,Aj J⟩;have C:=hc.K c (AY a)
 cases ha:iF p.J c k (iw p.J r c V) s with
 | ret l=>exact⟨_,.ret a ha,Aq _⟩
 | trap x s'=>
  refine⟨_,.trap a ha,?_⟩;show s'.U<=s.U;unfold iF at ha;simp only at ha
  repeat' split at ha
  all_goals first
   | (injection ha with h1 h2;subst h2;first|exact Aq _|exact(qR c _ s).1|(unfold iy;split <;> exact Aq _))
   | cases ha
 | go j=>
  obtain⟨hn,_⟩:=bXc ha C;have t:c.op≠258:=(by rcases bXb ha with⟨h,_⟩|⟨h,_⟩|⟨h,_⟩ <;> omega);obtain⟨R,u,E⟩:=again j V s (zW hc a hn) (.inr ⟨rfl,b k c j a t hn⟩);exact⟨_,.go a ha u,E⟩
 | vals l s'=>
  obtain⟨h1,h2,K,L,M,hv⟩:=uZ ha;have v:=yX (k:=k) h1 h2 K L M;have o:((k+1:Nat):Int)∈ib c k:=(by rw[v];simp)
  have N:s'.U<s.U\/(s'.U=s.U/\c.op≠258)\/(s'.U<=s.U/\c.op≠258):=by
   rcases hv with⟨aA,_,O⟩|⟨_,_,P,rfl⟩
   ·exact .inr (.inl ⟨(aYt O).2,fu⟩)
   ·by_cases t:c.op=258
    ·exact .inl ((qR c _ s).2 t P)
    ·exact .inr (.inr ⟨(qR c _ s).1,t⟩)
  obtain⟨R,u,E⟩:=again (k+1) (iS c.O l V) s' (zW hc a o) (by
   rcases N with h|⟨h,w⟩|⟨h,w⟩
   ·exact .inl h
   ·exact .inr ⟨h,b k c (k+1) a w o⟩
   ·rcases Bz h with h|h
    ·exact .inl h
    ·exact .inr ⟨h,b k c (k+1) a w o⟩)
  refine⟨_,.vals a ha u,?_⟩;show R.s.U<=s.U;omega
 | call n=>
  obtain⟨Q,rfl,hi⟩:=rZ ha;by_cases hd:d<16
  ·obtain⟨q,g,hq,hg,rfl⟩:=ss hp Q C hi;have y:=(hp.row _ q hq).1;obtain⟨qS,S⟩:=y.rank;obtain⟨R1,F,z⟩:=H (16 - (d+1)) fu (qS 0) q qS y S (d+1) 0 (jb q (ie q.a2.a1 (iw p.J r c V))) s hf rfl rfl (by have:=y.n1;omega);by_cases he:R1.e=0
   ·have v:=yX (c:=c) (k:=k) fu fu fu fu fu;have o:((k+1:Nat):Int)∈ib c k:=(by rw[v];simp)
    obtain⟨R2,T,U⟩:=again (k+1) (iS c.O R1.out (zeroV lost V)) R1.s (zW hc a o) (by
     rcases Bz z with h|h
     ·exact .inl h
     ·exact .inr ⟨h,b k c (k+1) a fu o⟩)
    exact⟨_,.call a ha hd hq hg F he T,Bb U z⟩
   ·exact⟨_,.jO a ha hd hq hg F he,z⟩
  ·exact⟨_,.deep a ha fu,Aq _⟩
theorem Ev.some{p:hU}(hp:iD p)(lost:Nat){r:gR}(hc:iq p.J r)(d k:Nat)(V:List Nat)(s:iM)(a:k<r.K.length):∃ R,Ev p lost d r k V s R:=by
 obtain⟨rk,b⟩:=hc.rank;obtain⟨R,c,_⟩:=Ev.total hp lost _ _ _ r rk hc b d k V s rfl rfl rfl a;exact⟨R,c⟩
theorem bJr{α:Type}{p q:α->Bool}:∀ (l:List α),(∀ x∈l,p x=gj->q x=gj)->(∃ x∈l,q x=gj/\p x=gm)->l.countP p<l.countP q
 | [],_,h=>by obtain⟨x,b,_⟩:=h;simp at b
 | a :: l,hi,h=>by
  have hle:l.countP p<=l.countP q:=List.countP_mono_left (fun x b=>hi x (Bj _ b));have ha:=hi a (List.mem_cons_self ..);rw[BQ,BQ];obtain⟨x,b,hq,hp⟩:=h;rcases List.mem_cons.1 b with rfl|b
  ·rw[hq,hp];simp;omega
  ·have:=bJr l (fun x b=>hi x (Bj _ b)) ⟨x,b,hq,hp⟩;cases hpa:p a
   ·simp only[Bool.false_eq_true,if_false,Bv];exact Nat.lt_of_lt_of_le this (Nat.le_add_right _ _)
   ·rw[ha hpa];simp only[if_true];omega
structure su (r:gR) (rk:Nat->Nat):Prop where
 lt:∀ i,rk i<=4096
 fall:∀ i c (k:Nat),r.K[i]? = gh c->c.op≠258->(k:Int)∈ib c i->k<r.K.length->rk k<rk i
theorem iq.fYe{e:ia}{r:gR}(h:iq e r):∃ rk,su r rk:=by
 obtain⟨rk,a⟩:=h.rank;refine⟨fun i=>(Bd r.K.length).countP fun j=>decide (rk j<rk i),fun i=>?_,fun i c k hc b hn d=>?_⟩
 ·have:=List.countP_le_length (p:=fun j=>decide (rk j<rk i)) (l:=Bd r.K.length);rw[List.length_range]at this;have:=h.n2;omega
 ·have f:=a i c k hc b hn;refine bJr _ (fun j _ hj=>?_) ⟨k,List.mem_range.2 d,by simpa using f,fz⟩;simp only[decide_eq_true_eq]at hj ⊢;omega
theorem dKm{e:ia}{c:gP}{s s':iM}{x:Int}(ha:iF e c k a s = .trap x s'):s'.U<=s.U:=by
 unfold iF at ha;simp only at ha
 repeat' split at ha
 all_goals first
  | (injection ha with h1 h2;subst h2;first|exact Aq _|exact(qR c _ s).1|(unfold iy;split <;> exact Aq _))
  | cases ha
theorem dKn{e:ia}{c:gP}{s s':iM}(ha:iF e c k a s = .vals l s'):s'.U<=s.U/\(c.op=258->s'.U<s.U):=by
 obtain⟨h1,h2,h3,h4,h5,hv⟩:=uZ ha;rcases hv with⟨aa,_,b⟩|⟨_,_,d,rfl⟩
 ·exact⟨Nat.le_of_eq (aYt b).2,fun h=>fu⟩
 ·exact⟨(qR c _ s).1,fun h=>(qR c _ s).2 h d⟩
def fVr(s:iM)(R:jD)(op:Int)(n:Nat):Prop:=
 R.a7+4098*R.s.U<=4098*s.U+n+1/\(op=258->R.a7+4098*R.s.U<=4098*s.U+1/\(R.e=0->R.a7+4098*R.s.U<=4098*s.U))
theorem Ev.gQk{p:hU}{lost d:Nat}{r:gR}{V:List Nat}{s:iM}{R:jD}(hp:iD p)(h:Ev p lost d r k V s R):iq p.J r->∀ rk,su r rk->∀ c,r.K[k]? = Option.some c->fVr s R c.op (rk k):=by
 induction h with
 | ret hc ha=>
  intro b rk e c a;rw[hc]at a;injection a with a;subst a;have:=(sr ha).1;exact⟨by dsimp only;omega,fun h=>fu⟩
 | trap hc ha=>
  intro b rk e c a;have:=dKm ha;have m:=qP ha;refine⟨?_,fun h=>⟨?_,fun h=>gH h m⟩⟩ <;> (dsimp only;omega)
 | @go d r k k' V s c R hc ha hn u=>
  intro b rk e c a;rw[hc]at a;injection a with a;subst a;have y:=b.K _ (AY hc);obtain⟨j,_⟩:=bXc ha y;have f:=zW b hc j;have t:c.op≠258:=(by rcases bXb ha with⟨h,_⟩|⟨h,_⟩|⟨h,_⟩ <;> omega);have v:=e.fall k c k' hc t j f;have:=(u b rk e _ (Aj f)).1;exact⟨by dsimp only;omega,fun h=>gH h t⟩
 | @vals d r k V s s' c l R hc ha hn u=>
  intro b rk e c a;rw[hc]at a;injection a with a;subst a;obtain⟨h1,h2,A,B,C,_⟩:=uZ ha;have j:=yX (k:=k) h1 h2 A B C;have f:((k+1:Nat):Int)∈ib c k:=(by rw[j];simp);have o:=zW b hc f;obtain⟨hf,D⟩:=dKn ha;have:=(u b rk e _ (Aj o)).1;have ar:=e.lt (k+1);by_cases t:c.op=258
  ·have:=D t;exact⟨by dsimp only;omega,fun _=>⟨by dsimp only;omega,fun _=>by dsimp only;omega⟩⟩
  ·have v:=e.fall k c (k+1) hc t f o;exact⟨by dsimp only;omega,fun h=>gH h t⟩
 | @call d r q k n V s c g R1 R2 hc ha hd hq hg h1 he h2 ih1 ih2=>
  intro b rk e c a;rw[hc]at a;injection a with a;subst a;obtain⟨z,rfl,_⟩:=rZ ha;have j:=yX (c:=c) (k:=k) fu fu fu fu fu;have f:((k+1:Nat):Int)∈ib c k:=(by rw[j];simp);have o:=zW b hc f;have v:=e.fall k c (k+1) hc fu f o;have i:=(hp.row _ q hq).1;obtain⟨qS,w⟩:=i.fYe;have x:0<q.K.length:=(by have:=i.n1;omega);have m:=Aj x;have E:=((ih1 i qS w _ m).2 (i.first _ m)).2 he;have a2:=(ih2 b rk e _ (Aj o)).1;exact⟨by dsimp only;omega,fun h=>fu⟩
 | @jO d r q k n V s c g R1 hc ha hd hq hg h1 he ih1=>
  intro b rk e c a;rw[hc]at a;injection a with a;subst a;obtain⟨z,rfl,_⟩:=rZ ha;have j:=yX (c:=c) (k:=k) fu fu fu fu fu;have f:((k+1:Nat):Int)∈ib c k:=(by rw[j];simp);have o:=zW b hc f;have v:=e.fall k c (k+1) hc fu f o;have i:=(hp.row _ q hq).1;obtain⟨qS,w⟩:=i.fYe;have x:0<q.K.length:=(by have:=i.n1;omega);have m:=Aj x;have E:=((ih1 i qS w _ m).2 (i.first _ m)).1;exact⟨by dsimp only;omega,fun h=>fu⟩
 | @deep d r k n V s c hc ha hd=>
  intro b rk e c a;rw[hc]at a;injection a with a;subst a;obtain⟨z,rfl,_⟩:=rZ ha;exact⟨by dsimp only;omega,fun h=>fu⟩
theorem Ev.gQl{p:hU}{lost d:Nat}{r:gR}{V:List Nat}{s:iM}{R:jD}(hp:iD p)(h:Ev p lost d r 0 V s R)(a:iq p.J r):R.a7<=4098*s.U+1:=by
 obtain⟨rk,c⟩:=a.fYe;have e:0<r.K.length:=(by have:=a.n1;omega);have b:=Aj e;have:=((h.gQk hp a rk c _ b).2 (a.first _ b)).1;omega
theorem hJ{k:IntKind}{p q:Int}{r:Value}(h:p=q):Ending.returned (fI #[fF k p,r]) = fT (fI #[fF k q,r]):=by rw[h]
theorem oW(z:Int):IntKind.u64.wrap (wrap64 z)=z % 18446744073709551616:=by rw[AQ];unfold wrap64;omega
theorem qT(z:Int):wrap32 z % 4294967296=z % 4294967296:=by unfold wrap32;omega
theorem wQ{M:Int}{a b:Nat}(h:(a:Int)<M):((a:Int) / b) % M=(a:Int) / b:=by
 have h1:((a:Int) / b)=((a / b:Nat):Int):=fz;have h2:=Ae a b;rw[h1];exact Bw (Int.natCast_nonneg _) fu
theorem wJ{M:Int}{a b:Nat}(h:(a:Int)<M):((a:Int) % b) % M=(a:Int) % b:=by
 have h1:((a:Int) % b)=((a % b:Nat):Int):=fz;have h2:=Be a b;rw[h1];exact Bw fu fu
theorem dWt(a b:Nat)(x y:Int)(w:Bg):Bi fZ 153 #[fF fP a,fF fP b,fF fO x,fF fO y] w fun e w'=>e = fT (fG (gh ⟨w.heap.size,0,fU⟩) 10 10)/\w.alloc (fS ((sY a b x y).map Bk).toArray 4)=w':=by
 go_in;go_wp2;go_ret;exact⟨rfl,rfl⟩
theorem dWu(a b:Nat)(x y:Int)(w:Bg):Bi fZ 154 #[fF fR a,fF fR b,fF .i32 x,fF .i32 y] w fun e w'=>e = fT (fG (gh ⟨w.heap.size,0,fU⟩) 10 10)/\w.alloc (fS ((sY a b x y).map Bk).toArray 4)=w':=by
 go_in;go_wp2;go_ret;exact⟨rfl,rfl⟩
theorem dWv(a b:Nat)(x:Int)(w:Bg)(ha:a<18446744073709551616)(hb:b<18446744073709551616)(hx : -9223372036854775808<=x)(aa:x<=9223372036854775807)(ke:Nat)(ad:bits .and fO (wrap64 (b:Int)) 63=(ke:Int))(ae:ke<64):
  Bi fZ 158 #[fF fP a,fF fP b,fF fO x,fF fO 64] w fun e w'=>e = fT (fG (gh ⟨w.heap.size,0,fU⟩) 15 15)/\(w.alloc (fS ((oX fP 64 a b ke x).map (Af fP)).toArray 52)).drew=w':=by
 go_in;go_wp2_with fail;go_region;go_wp2;go_ret;exact⟨rfl,rfl⟩
theorem dWw(a b:Nat)(x:Int)(w:Bg)(ha:a<4294967296)(hb:b<4294967296)(hx : -2147483648<=x)(aa:x<=2147483647)(ke:Nat)(ad:bits .and fO (b:Int) 31=(ke:Int))(ae:ke<32):
  Bi fZ 159 #[fF fR a,fF fR b,fF .i32 x,fF fO 32] w fun e w'=>e = fT (fG (gh ⟨w.heap.size,0,fU⟩) 15 15)/\(w.alloc (fS ((oX fR 32 a b ke x).map (Af fR)).toArray 112)).drew=w':=by
 go_in;go_wp2_with fail;go_region;go_wp2;go_ret;exact⟨rfl,rfl⟩
theorem dWx(k:Int)(a b:Nat)(x y:Int)(w:Bg)(ha:a<18446744073709551616)(hb:b<18446744073709551616)(hx : -9223372036854775808<=x)(aj:x<=9223372036854775807)(hy : -9223372036854775808<=y)(ak:y<=9223372036854775807)(f:y=0->b=0):
  Bi fZ 156 #[fF fO k,fF fP a,fF fP b,fF fO x,fF fO y] w fun e w'=>e = fT (fI #[fF fP (iX 18446744073709551616 (-9223372036854775808) k a b x y).1,fF fO (iX 18446744073709551616 (-9223372036854775808) k a b x y).2])/\w=w':=by
 by_cases c:b=0
 ·have m:((b:Int) == 0)=gj:=(by simp[c]);have d:=fQ (show iX 18446744073709551616 (-9223372036854775808) k a b x y=(0,33) by simp[iX,c]);clear c f;go_in;go_wp2;go_ret2;rw[d.out];exact⟨rfl,rfl⟩
 ·have m:((b:Int) == 0)=gm:=fw;have ai:¬y=0:=fun e=>c (f e);have an:0<b:=fu;by_cases g:k=0
  ·subst g;by_cases hy1:y = -1
   ·have y1:(y == -1)=gj:=(by simp[hy1]);by_cases h:x = -9223372036854775808
    ·have d:=fQ (show iX 18446744073709551616 (-9223372036854775808) 0 a b x y=(0,34) by simp[iX,c,hy1,h]);have x0:(x != 0)=gj:=fw;have x1:(x == wrap64 (-x))=gj:=(by simp[wrap64];omega);clear f c hy1 h;go_in;go_wp2;go_ret2;rw[d.out];exact⟨rfl,rfl⟩
    ·have d:=fQ (show iX 18446744073709551616 (-9223372036854775808) 0 a b x y=((x.tdiv y) % 18446744073709551616,0) by simp[iX,c,h]);by_cases j:x=0
     ·have x0:(x != 0)=gm:=(by simp[j]);have x1:(x == wrap64 (-x))=gj:=(by simp[j,wrap64]);clear f c hy1 h j;go_in;go_wp2;go_ret2;rw[d.out];exact⟨hJ (by first|exact qT _|exact oW _),rfl⟩
     ·have x1:(x == wrap64 (-x))=gm:=(by simp[wrap64];omega);clear f c hy1 h j;go_in;go_wp2;go_ret2;rw[d.out];exact⟨hJ (by first|exact qT _|exact oW _),rfl⟩
   ·have y1:(y == -1)=gm:=(by simp[hy1]);have d:=fQ (show iX 18446744073709551616 (-9223372036854775808) 0 a b x y=((x.tdiv y) % 18446744073709551616,0) by simp[iX,c,hy1]);clear f c hy1;go_in;go_wp2;go_ret2;rw[d.out];exact⟨hJ (by first|exact qT _|exact oW _),rfl⟩
  ·have k0:(k == 0)=gm:=(by simp[g]);by_cases i:k=1
   ·subst i;have d:=fQ (show iX 18446744073709551616 (-9223372036854775808) 1 a b x y=((a:Int) / b,0) by simp[iX,c]);clear f c g;go_in;go_wp2;go_ret2;rw[d.out];exact⟨hJ (by first|exact wQ fu|(rw[AQ];exact wQ fu)),rfl⟩
   ·have k1:(k == 1)=gm:=(by simp[i]);by_cases l:k=2
    ·subst l;have d:=fQ (show iX 18446744073709551616 (-9223372036854775808) 2 a b x y=((x.tmod y) % 18446744073709551616,0) by simp[iX,c]);clear f c g i;go_in;go_wp2;go_ret2;rw[d.out];exact⟨hJ (by first|rfl|rw[AQ]),rfl⟩
    ·have k2:(k == 2)=gm:=(by simp[l]);have d:=fQ (show iX 18446744073709551616 (-9223372036854775808) k a b x y=((a:Int) % b,0) by simp[iX,c,g,i,l]);clear f c g i l;go_in;go_wp2;go_ret2;rw[d.out];exact⟨hJ (by first|rfl|exact wJ fu|(rw[AQ];exact wJ fu)),rfl⟩
theorem dWy(k:Int)(a b:Nat)(x y:Int)(w:Bg)(ha:a<4294967296)(hb:b<4294967296)(hx : -2147483648<=x)(aj:x<=2147483647)(hy : -2147483648<=y)(ak:y<=2147483647)(f:y=0->b=0):
  Bi fZ 157 #[fF fO k,fF fR a,fF fR b,fF .i32 x,fF .i32 y] w fun e w'=>e = fT (fI #[fF fR (iX 4294967296 (-2147483648) k a b x y).1,fF fO (iX 4294967296 (-2147483648) k a b x y).2])/\w=w':=by
 by_cases c:b=0
 ·have m:((b:Int) == 0)=gj:=(by simp[c]);have d:=fQ (show iX 4294967296 (-2147483648) k a b x y=(0,33) by simp[iX,c]);clear c f;go_in;go_wp2;go_ret2;rw[d.out];exact⟨rfl,rfl⟩
 ·have m:((b:Int) == 0)=gm:=fw;have ai:¬y=0:=fun e=>c (f e);have an:0<b:=fu;by_cases g:k=0
  ·subst g;by_cases hy1:y = -1
   ·have y1:(y == -1)=gj:=(by simp[hy1]);by_cases h:x = -2147483648
    ·have d:=fQ (show iX 4294967296 (-2147483648) 0 a b x y=(0,34) by simp[iX,c,hy1,h]);have x0:(x != 0)=gj:=fw;have x1:(x == wrap32 (-x))=gj:=(by simp[wrap32];omega);clear f c hy1 h;go_in;go_wp2;go_ret2;rw[d.out];exact⟨rfl,rfl⟩
    ·have d:=fQ (show iX 4294967296 (-2147483648) 0 a b x y=((x.tdiv y) % 4294967296,0) by simp[iX,c,h]);by_cases j:x=0
     ·have x0:(x != 0)=gm:=(by simp[j]);have x1:(x == wrap32 (-x))=gj:=(by simp[j,wrap32]);clear f c hy1 h j;go_in;go_wp2;go_ret2;rw[d.out];exact⟨hJ (by first|exact qT _|exact oW _),rfl⟩
     ·have x1:(x == wrap32 (-x))=gm:=(by simp[wrap32];omega);clear f c hy1 h j;go_in;go_wp2;go_ret2;rw[d.out];exact⟨hJ (by first|exact qT _|exact oW _),rfl⟩
   ·have y1:(y == -1)=gm:=(by simp[hy1]);have d:=fQ (show iX 4294967296 (-2147483648) 0 a b x y=((x.tdiv y) % 4294967296,0) by simp[iX,c,hy1]);clear f c hy1;go_in;go_wp2;go_ret2;rw[d.out];exact⟨hJ (by first|exact qT _|exact oW _),rfl⟩
  ·have k0:(k == 0)=gm:=(by simp[g]);by_cases i:k=1
   ·subst i;have d:=fQ (show iX 4294967296 (-2147483648) 1 a b x y=((a:Int) / b,0) by simp[iX,c]);clear f c g;go_in;go_wp2;go_ret2;rw[d.out];exact⟨hJ (by first|exact wQ fu|(rw[AQ];exact wQ fu)),rfl⟩
   ·have k1:(k == 1)=gm:=(by simp[i]);by_cases l:k=2
    ·subst l;have d:=fQ (show iX 4294967296 (-2147483648) 2 a b x y=((x.tmod y) % 4294967296,0) by simp[iX,c]);clear f c g i;go_in;go_wp2;go_ret2;rw[d.out];exact⟨hJ (by first|rfl|rw[AQ]),rfl⟩
    ·have k2:(k == 2)=gm:=(by simp[l]);have d:=fQ (show iX 4294967296 (-2147483648) k a b x y=((a:Int) % b,0) by simp[iX,c,g,i,l]);clear f c g i l;go_in;go_wp2;go_ret2;rw[d.out];exact⟨hJ (by first|rfl|exact wJ fu|(rw[AQ];exact wJ fu)),rfl⟩
theorem dWz(n:Int):bits .and fO n 63=n % 64:=by
 have a:(BitVec.ofInt 64 63).toNat=2 ^ 6 - 1:=fy
 have key:(BitVec.ofInt 64 n &&& BitVec.ofInt 64 63).toNat=(n % ((2 ^ 64:Nat):Int)).toNat % 2 ^ 6:=by
  rw[BitVec.toNat_and,BitVec.toNat_ofInt,a,AX]
 show IntKind.i64.wrap ((BitVec.ofInt 64 n &&& BitVec.ofInt 64 63).toNat:Nat)=n % 64;rw[key,BX];omega
theorem dYa(n:Int):bits .and fO n 31=n % 32:=by
 have a:(BitVec.ofInt 64 31).toNat=2 ^ 5 - 1:=fy
 have key:(BitVec.ofInt 64 n &&& BitVec.ofInt 64 31).toNat=(n % ((2 ^ 64:Nat):Int)).toNat % 2 ^ 5:=by
  rw[BitVec.toNat_and,BitVec.toNat_ofInt,a,AX]
 show IntKind.i64.wrap ((BitVec.ofInt 64 n &&& BitVec.ofInt 64 31).toNat:Nat)=n % 32;rw[key,BX];omega
theorem bQj(z:Int): -9223372036854775808<=wrap64 z/\wrap64 z<=9223372036854775807:=by unfold wrap64;omega
theorem bQk(z:Int): -2147483648<=wrap32 z/\wrap32 z<=2147483647:=by unfold wrap32;omega
def wV(p:Int×Int)(w:Bg)(e:Ending)(w':Bg):Prop:=e = fT (fI #[fF fP p.1,fF fO p.2])/\Bh w.heap.size w w'
theorem bWn(k:Int)(a b:Nat)(x y:Int)(ha:a<4294967296):0<=(iX 4294967296 (-2147483648) k a b x y).1/\(iX 4294967296 (-2147483648) k a b x y).1<4294967296:=by
 have h2:=Ae a b;have h5:0<=(a:Int) / b:=BK fu fu;have h4:=Be a b;unfold iX
 repeat' split
 all_goals (simp only;omega)
theorem cZc(o:BinOp)(x y:Int):0<=bits o fR x y/\bits o fR x y<4294967296:=by
 have h:∃ z,bits o fR x y=IntKind.u32.wrap z:=⟨_,rfl⟩;obtain⟨z,a⟩:=h;rw[a,AK];omega
theorem bWo(a b ke:Nat)(x:Int)(ha:a<4294967296)(k:Nat):0<=(oX fR 32 a b ke x).getD k 0/\(oX fR 32 a b ke x).getD k 0<4294967296:=by
 have h1:(a:Int) / 2 ^ ke=((a / 2 ^ ke:Nat):Int):=fz;have h2:=Ae a (2 ^ ke);have h5:0<=(a:Int) / 2 ^ ke:=BK fu (Int.le_of_lt (Int.pow_pos fu));have c:=fun o x y=>cZc o x y;unfold oX
 match k with
 | 0=>simp only[Av,AK];omega
 | 1=>simp only[Av,Aw,AK];omega
 | 2=>simp only[Av,Aw,AK];omega
 | 3=>simp
 | 4=>simp
 | 5=>simp
 | 6=>simp
 | 7=>simp only[Av,Aw];exact c _ _ _
 | 8=>simp only[Av,Aw];exact c _ _ _
 | 9=>simp only[Av,Aw];exact c _ _ _
 | 10=>simp only[Av,Aw,AK];omega
 | 11=>simp only[Av,Aw,AK];omega
 | 12=>simp only[Av,Aw];omega
 | 13=>simp only[Av,Aw];exact c _ _ _
 | 14=>simp only[Av,Aw];exact c _ _ _
 | k+15=>simp
theorem dYb(d f:Int)(k a b:Nat)(w:Bg)(hk:k<10)(ha:a<18446744073709551616)(hb:b<18446744073709551616):
  Bi fZ 130 #[fM #[fF fO d,fF fO f,fF fO 1,fF fO 126],fF fO k,fF fP a,fF fP b] w (wV (gY 1 126 k a b) w):=by
 have g:=fQ (show gY 1 126 k a b=(b01 ((sY a b (wrap64 a) (wrap64 b)).getD k gm),0) by simp[gY]);obtain⟨y,c⟩:=fX ((sY a b (wrap64 a) (wrap64 b)).getD k gm)
 have hcell:∀ W:Bg,(W.alloc (fS ((sY a b (wrap64 a) (wrap64 b)).map Bk).toArray 4)).cell? ⟨W.heap.size,k,fU⟩=gh (fH y):=fun W=>by
  rw[(gO.a4 W 4 _).cell k];simp only[AZ,AW];rw[Aj (by simp[sY];omega),<-c,Az,Aj (by simp[sY];omega)];rfl
 rw[c]at g;have h:=fQ hcell;clear c hcell;go_in;go_wp2_with fail;refine(dWt a b _ _ _).mono ?_;rintro e w1 ⟨rfl,rfl⟩;have hcell:=h.out (w.alloc (.cells #[.int .i64 d,.int .i64 f,.int .i64 1,.int .i64 126] 181));simp only[Ac]at hcell;go_wp2_with fail;refine(bKk y _).mono ?_;rintro e w1 ⟨rfl,rfl⟩;go_wp2;go_ret2;unfold wV;rw[g.out];exact⟨rfl,((Ak _ _).alloc (Aq _) _).alloc fz _⟩
theorem dYc(d f:Int)(k a b:Nat)(w:Bg)(hk:k<10)(ha:a<4294967296)(hb:b<4294967296):
  Bi fZ 130 #[fM #[fF fO d,fF fO f,fF fO 1,fF fO 127],fF fO k,fF fP a,fF fP b] w (wV (gY 1 127 k a b) w):=by
 have g:=fQ (show gY 1 127 k a b=(b01 ((sY a b (wrap32 a) (wrap32 b)).getD k gm),0) by simp[gY]);obtain⟨y,c⟩:=fX ((sY a b (wrap32 a) (wrap32 b)).getD k gm)
 have hcell:∀ W:Bg,(W.alloc (fS ((sY a b (wrap32 a) (wrap32 b)).map Bk).toArray 4)).cell? ⟨W.heap.size,k,fU⟩=gh (fH y):=fun W=>by
  rw[(gO.a4 W 4 _).cell k];simp only[AZ,AW];rw[Aj (by simp[sY];omega),<-c,Az,Aj (by simp[sY];omega)];rfl
 rw[c]at g;have h:=fQ hcell;clear c hcell;go_in;go_wp2_with fail;refine(dWu a b _ _ _).mono ?_;rintro e w1 ⟨rfl,rfl⟩;have hcell:=h.out (w.alloc (.cells #[.int .i64 d,.int .i64 f,.int .i64 1,.int .i64 127] 181));simp only[Ac]at hcell;go_wp2_with fail;refine(bKk y _).mono ?_;rintro e w1 ⟨rfl,rfl⟩;go_wp2;go_ret2;unfold wV;rw[g.out];exact⟨rfl,((Ak _ _).alloc (Aq _) _).alloc fz _⟩
theorem dYd(g h:Int)(k a b:Nat)(w:Bg)(i:3<=k)(j:k<=6)(ha:a<18446744073709551616)(l:b<18446744073709551616):
  Bi fZ 130 #[fM #[fF fO g,fF fO h,fF fO 3,fF fO 126],fF fO k,fF fP a,fF fP b] w (wV (gY 3 126 k a b) w):=by
 have m:=fQ (show gY 3 126 k a b=iX 18446744073709551616 (-9223372036854775808) ((k:Int) - 3) a b (wrap64 a) (wrap64 b) by simp[gY,j];omega);have hd:mN k=gj:=(by simp[mN];omega);have q1:=bQj a;have d:=bQj b;have f:wrap64 (b:Int)=0->b=0:=(by unfold wrap64;omega);have n:=fQ f;clear f;generalize c:iX 18446744073709551616 (-9223372036854775808) ((k:Int) - 3) a b (wrap64 a) (wrap64 b)=R at *;replace c:=fQ c;obtain⟨r1,r2⟩:=R;go_in;go_wp2_with fail;refine gu (wW k _) ?_;rw[hd];go_wp2_with fail;refine gu (dWx _ a b _ _ _ ha l q1.1 q1.2 d.1 d.2 n.out) ?_;rw[c.out];go_wp2;go_ret2;unfold wV;rw[m.out];exact⟨rfl,(Ak _ _).alloc (Aq _) _⟩
theorem dYe(g h:Int)(k a b:Nat)(w:Bg)(i:3<=k)(j:k<=6)(ha:a<4294967296)(l:b<4294967296):
  Bi fZ 130 #[fM #[fF fO g,fF fO h,fF fO 3,fF fO 127],fF fO k,fF fP a,fF fP b] w (wV (gY 3 127 k a b) w):=by
 have m:=fQ (show gY 3 127 k a b=iX 4294967296 (-2147483648) ((k:Int) - 3) a b (wrap32 a) (wrap32 b) by simp[gY,j];omega);have hd:mN k=gj:=(by simp[mN];omega);have q1:=bQk a;have d:=bQk b;have f:wrap32 (b:Int)=0->b=0:=(by unfold wrap32;omega);have q4:=bWn ((k:Int) - 3) a b (wrap32 a) (wrap32 b) ha;have n:=fQ f;clear f;generalize c:iX 4294967296 (-2147483648) ((k:Int) - 3) a b (wrap32 a) (wrap32 b)=R at *;replace c:=fQ c;obtain⟨r1,r2⟩:=R;go_in;go_wp2_with fail;refine gu (wW k _) ?_;rw[hd];go_wp2_with fail;refine gu (wW k _) ?_;rw[hd];go_wp2_with fail;refine gu (dWy _ a b _ _ _ ha l q1.1 q1.2 d.1 d.2 n.out) ?_;rw[c.out];go_wp2;go_ret2;unfold wV;rw[m.out];exact⟨rfl,(Ak _ _).alloc (Aq _) _⟩
theorem dYf(d f:Int)(k a b:Nat)(w:Bg)(hk:k<3\/6<k)(ae:k<15)(ha:a<18446744073709551616)(i:b<18446744073709551616):
  Bi fZ 130 #[fM #[fF fO d,fF fO f,fF fO 3,fF fO 126],fF fO k,fF fP a,fF fP b] w (wV (gY 3 126 k a b) w):=by
 have g:=fQ (show gY 3 126 k a b=((oX fP 64 a b (b % 64) (wrap64 a)).getD k 0,0) by
  rw[gY,gz rfl,gy fy,gy fu]
  simp)
 have hd:mN k=gm:=(by simp[mN];omega);have q1:=bQj a
 have h:bits .and fO (wrap64 (b:Int)) 63=((b % 64:Nat):Int):=by
  rw[dWz];unfold wrap64;omega
 obtain⟨y,c⟩:=fX ((oX fP 64 a b (b % 64) (wrap64 a)).getD k 0)
 have hcell:∀ W:Bg,(W.alloc (fS ((oX fP 64 a b (b % 64) (wrap64 a)).map (Af fP)).toArray 52)).drew.cell? ⟨W.heap.size,k,fU⟩=gh (fF fP y):=fun W=>by
  rw[(gO.a4 W 52 _).drew.cell k];simp only[AZ,AW];rw[Aj (by simp[oX];omega),<-c,Az,Aj (by simp[oX];omega)];rfl
 rw[c]at g;have j:=fQ hcell;have l:=fQ h;clear c hcell h;go_in;go_wp2_with fail;refine(wW k _).mono ?_;rintro e w1 ⟨rfl,rfl⟩;rw[hd];go_wp2_with fail;refine(wW k _).mono ?_;rintro e w1 ⟨rfl,rfl⟩;rw[hd];go_wp2_with fail;refine(dWv a b _ _ ha i q1.1 q1.2 _ l.out (Bf _ (by omega))).mono ?_;rintro e w1 ⟨rfl,rfl⟩;have hcell:=j.out (w.alloc (.cells #[.int .i64 d,.int .i64 f,.int .i64 3,.int .i64 126] 181));simp only[Ac]at hcell;go_wp2;go_ret2;unfold wV;rw[g.out];exact⟨rfl,(((Ak _ _).alloc (Aq _) _).alloc fz _).drew⟩
theorem dYg(d f:Int)(k a b:Nat)(w:Bg)(hk:k<3\/6<k)(ae:k<15)(ha:a<4294967296)(i:b<4294967296):
  Bi fZ 130 #[fM #[fF fO d,fF fO f,fF fO 3,fF fO 127],fF fO k,fF fP a,fF fP b] w (wV (gY 3 127 k a b) w):=by
 have g:=fQ (show gY 3 127 k a b=((oX fR 32 a b (b % 32) (wrap32 a)).getD k 0,0) by
  rw[gY,gy fy,gy fy,gy fu]
  simp)
 have hd:mN k=gm:=(by simp[mN];omega);have q1:=bQk a
 have h:bits .and fO (b:Int) 31=((b % 32:Nat):Int):=by
  rw[dYa];simp
 obtain⟨y,c⟩:=fX ((oX fR 32 a b (b % 32) (wrap32 a)).getD k 0);have hy:0<=y/\y<4294967296:=(by rw[<-c];exact bWo a b (b % 32) (wrap32 a) ha k)
 have hcell:∀ W:Bg,(W.alloc (fS ((oX fR 32 a b (b % 32) (wrap32 a)).map (Af fR)).toArray 112)).drew.cell? ⟨W.heap.size,k,fU⟩=gh (fF fR y):=fun W=>by
  rw[(gO.a4 W 112 _).drew.cell k];simp only[AZ,AW];rw[Aj (by simp[oX];omega),<-c,Az,Aj (by simp[oX];omega)];rfl
 rw[c]at g;have j:=fQ hcell;have l:=fQ h;clear c hcell h;go_in;go_wp2_with fail;refine(wW k _).mono ?_;rintro e w1 ⟨rfl,rfl⟩;rw[hd];go_wp2_with fail;refine(wW k _).mono ?_;rintro e w1 ⟨rfl,rfl⟩;rw[hd];go_wp2_with fail;refine(dWw a b _ _ ha i q1.1 q1.2 _ l.out (Bf _ (by omega))).mono ?_;rintro e w1 ⟨rfl,rfl⟩;have hcell:=j.out (w.alloc (.cells #[.int .i64 d,.int .i64 f,.int .i64 3,.int .i64 127] 181));simp only[Ac]at hcell;go_wp2;go_ret2;unfold wV;rw[g.out];exact⟨rfl,(((Ak _ _).alloc (Aq _) _).alloc fz _).drew⟩
section
open Go.Lib
theorem sw:∀ (a b x:Nat),popAux (a+b) x=popAux a x+popAux b (x / 2 ^ a)
 | 0,b,x=>by simp[popAux]
 | a+1,b,x=>by
  rw[show a+1+b=(a+b)+1 from by omega,popAux,popAux,sw a b (x / 2),AV,Ag,Bc 2];omega
theorem bKb:∀ (a x:Nat),popAux a (x % 2 ^ a)=popAux a x
 | 0,x=>rfl
 | a+1,x=>by
  rw[popAux,popAux,<-bKb a (x / 2)];have h1:x % 2 ^ (a+1) % 2=x % 2:=(by rw[Ag];exact Nat.mod_mul_left_mod x (2 ^ a) 2);have h2:x % 2 ^ (a+1) / 2=x / 2 % 2 ^ a:=(by rw[Ag,Bc];exact Nat.mod_mul_right_div_self x 2 (2 ^ a));rw[h1,h2]
theorem bXw:∀ a,popAux a 0=0
 | 0=>rfl
 | a+1=>by rw[popAux,bXw a]
theorem dYh{a:Nat}(h:x<2 ^ a)(b:Nat):popAux (a+b) x=popAux a x:=by
 rw[sw,Nat.div_eq_of_lt h,bXw,Bv]
theorem pW:∀ a x,popAux a x<=a
 | 0,_=>Aq _
 | a+1,x=>by rw[popAux];have:=pW a (x / 2);omega
theorem fQg(x y:Nat):(x &&& y) % 256=x % 256 &&& y % 256:=Nat.and_mod_two_pow (n:=8) ..
theorem eKf(x y:Nat):(x &&& y) / 256=x / 256 &&& y / 256:=Nat.and_div_two_pow (n:=8) ..
def lM(c:Nat):Nat->Nat
 | 0=>0
 | n+1=>lM c n*256+c
theorem sy{c:Nat}(hc:c<256):x &&& lM c (n+1)=(x / 256 &&& lM c n)*256+(x % 256 &&& c):=by
 have h1:=fQg x (lM c (n+1));have h2:=eKf x (lM c (n+1));have a:lM c (n+1) % 256=c:=(by rw[lM];omega);have b:lM c (n+1) / 256=lM c n:=(by rw[lM];omega);rw[a]at h1;rw[b]at h2;omega
def lf(s c n x:Nat):Nat:=(x / s &&& lM c n)+(x &&& lM c n)
def lF(s c b:Nat):Nat:=(b / s &&& c)+(b &&& c)
theorem fKq:∀ (b:Fin 256) (h:Fin 2),(b.val / 2+128*h.val) &&& 85=b.val / 2 &&& 85:=fC
theorem fKr:∀ (b:Fin 256) (h:Fin 4),(b.val / 4+64*h.val) &&& 51=b.val / 4 &&& 51:=fC
theorem fJn(n x:Nat):lf 2 85 (n+1) x=lf 2 85 n (x / 256)*256+lF 2 85 (x % 256):=by
 have a:=fKq ⟨x % 256,fu⟩ ⟨x / 256 % 2,fu⟩;simp only at a;unfold lf lF;rw[sy fu,sy fu,show x / 2 % 256=x % 256 / 2+128*(x / 256 % 2)from by omega,a,show x / 2 / 256=x / 256 / 2 from by omega];omega
theorem fWb(n x:Nat):lf 4 51 (n+1) x=lf 4 51 n (x / 256)*256+lF 4 51 (x % 256):=by
 have a:=fKr ⟨x % 256,fu⟩ ⟨x / 256 % 4,fu⟩;simp only at a;unfold lf lF;rw[sy fu,sy fu,show x / 4 % 256=x % 256 / 4+64*(x / 256 % 4)from by omega,a,show x / 4 / 256=x / 256 / 4 from by omega];omega
theorem fQh:∀ b:Fin 256,lF 2 85 b.val<256/\lF 4 51 (lF 2 85 b.val)<=68/\lF 4 51 (lF 2 85 b.val) % 16<=4/\(lF 4 51 (lF 2 85 b.val) / 16+lF 4 51 (lF 2 85 b.val)) % 16=popAux 8 b.val:=fC
def pz:Nat->Nat->Nat
 | 0,_=>0
 | n+1,x=>pz n (x / 256)*256+popAux 8 (x % 256)
theorem bWp:∀ n x,(lf 4 51 n (lf 2 85 n x)) % 16<=4/\((lf 4 51 n (lf 2 85 n x)) / 16+lf 4 51 n (lf 2 85 n x)) &&& lM 15 n=pz n x
 | 0,x=>by simp[lf,lM,pz]
 | n+1,x=>by
  obtain⟨h1,h2⟩:=bWp n (x / 256);obtain⟨q1,b,c,a⟩:=fQh ⟨x % 256,fu⟩;simp only at q1 b c a;have d:lf 2 85 (n+1) x / 256=lf 2 85 n (x / 256):=(by rw[fJn];omega);have e2:lf 2 85 (n+1) x % 256=lF 2 85 (x % 256):=(by rw[fJn];omega);have e:lf 4 51 (n+1) (lf 2 85 (n+1) x)=lf 4 51 n (lf 2 85 n (x / 256))*256+lF 4 51 (lF 2 85 (x % 256)):=(by rw[fWb,d,e2]);rw[e];generalize lf 4 51 n (lf 2 85 n (x / 256))=hi at h1 h2 ⊢;generalize lF 4 51 (lF 2 85 (x % 256))=lo at b c a ⊢;refine⟨fu,?_⟩;rw[sy fu,show((hi*256+lo) / 16+(hi*256+lo)) / 256=hi / 16+hi from by omega,h2,pz,<-a];rw[show((hi*256+lo) / 16+(hi*256+lo)) % 256 &&& 15=((hi*256+lo) / 16+(hi*256+lo)) % 256 % 16 from AX _ 4];omega
theorem fWc(a c1 b c d f y:Nat)(b0:a<=8)(b1:c1<=8)(b2:b<=8)(t1:c=d*256+c1)(t2:d=f*256+b)(hy:y=c*256+a):y+y / 256=(d+f)*65536+((c1+b)*256+(a+c1)):=by
 have e:y / 256=c:=fu;omega
theorem fWd(g c1 a b c h d f i y1:Nat)(b0:g<=8)(b1:c1<=8)(b2:a<=8)(b3:b<=8)(b4:c<=8)(t2:h=d*256+a)(t3:d=f*256+b)(t4:f=i*256+c)(hy:y1=(h+d)*65536+((c1+a)*256+(g+c1))):
  y1+y1 / 65536=(f+i)*4294967296+(f+i)*65536+(((b+c)*256+(a+b))*65536+((b+c)*256+(a+b))+((c1+a)*256+(g+c1))):=by
 have e:y1 / 65536=h+d:=fu;omega
theorem fKs(d a e f b c g:Nat)(t4:f=b*256+d)(t5:b=c*256+a)(t6:c=g*256+e):(f+b)*65536=(c+g)*4294967296+((a+e)*256+(d+a))*65536:=fu
theorem fKt(e f g c a b d:Nat)(b4:e<=8)(b5:f<=8)(b6:g<=8)(h:c=a*256+e)(i:a=b*256+f)(j:b=d*256+g)(b7:d<=8):(c+a+b+d) % 128=e+f+g+d/\c+a+b+d<4294967295:=by
 have h6:b % 256=g:=fu;have h5:a % 256=f:=fu;have h4:c % 256=e:=fu;have g6:b<=2056:=fu;have g5:a<=526344:=fu;have g4:c<=134744072:=fu;clear h i j;omega
theorem fKu(V L y2 m v:Nat)(h2:y2=V*4294967296+L)(aa:L<4294967296)(ad:L % 128=m)(ae:V % 128=v)(hm:m+v<128)(af:V<4294967295):(y2+y2 / 4294967296) % 128=m+v/\y2+y2 / 4294967296<18446744073709551616:=by
 have e:y2 / 4294967296=V:=fu;rw[e];omega
theorem fKv(a b c d:Nat)(ha:a<=32)(hb:b<=32)(hc:c<=32)(hd:d<=32):(d*16777216+c*65536+b*256+a) % 128=a/\d*16777216+c*65536+b*256+a<4294967296:=fu
theorem fWe(f c1 c a b d e m k n g y2:Nat)(A:f<=8)(B:c1<=8)(C:c<=8)(D:a<=8)(o:b<=8)(p:d<=8)(q:e<=8)(h:m=k*256+b)(i:k=n*256+d)(j:n=g*256+e)(r:g<=8)
  (l:y2=(m+k)*4294967296+(m+k)*65536+(((a+b)*256+(c+a))*65536+((a+b)*256+(c+a))+((c1+c)*256+(f+c1)))) :
  (y2+y2 / 4294967296) % 128=f+c1+c+a+b+d+e+g/\y2+y2 / 4294967296<18446744073709551616:=by
 have s:f+c1+c+a+(b+d+e+g)<128:=(by clear l h i j;omega);have t:f+c1+c+a<=32:=(by clear l h i j;omega);have k2:c1+c+a+b<=32:=(by clear l h i j;omega);have u:c+a+b+d<=32:=(by clear l h i j;omega);have v:a+b+d+e<=32:=(by clear l h i j;omega);have e0:=fKs b d e m k n g h i j;obtain⟨w,x⟩:=fKt b d e m k n g o p q h i j r;obtain⟨y,z⟩:=fKv (f+c1+c+a) (c1+c+a+b) (c+a+b+d) (a+b+d+e) t k2 u v
 have h2:y2=(m+k+n+g)*4294967296+((a+b+d+e)*16777216+(c+a+b+d)*65536+(c1+c+a+b)*256+(f+c1+c+a)):=by
  rw[l,e0];clear e0 l w x y z h i j A B C D o p q r s t k2 u v;omega
 have:=fKu _ _ y2 _ _ h2 z y w s x;rw[show f+c1+c+a+b+d+e+g=f+c1+c+a+(b+d+e+g)from by simp only[Bq]];exact this
theorem fWf(a c1 b c d e f g:Nat)(h:a<=8)(i:c1<=8)(j:b<=8)(k:c<=8)(l:d<=8)(m:e<=8)(n:f<=8)(o:g<=8)(y y1 y2:Nat)(p:y=((((((g*256+f)*256+e)*256+d)*256+c)*256+b)*256+c1)*256+a)
  (h1:y1=y+y / 256) (h2:y2=y1+y1 / 65536):(y2+y2 / 4294967296) % 128=a+c1+b+c+d+e+f+g/\y2+y2 / 4294967296<18446744073709551616:=by
 have q:=h1.trans (fWc a c1 b _ _ _ y h i j rfl rfl p);have e2:=h2.trans (fWd a c1 b c d _ _ _ _ y1 h i j k l rfl rfl rfl q);exact fWe a c1 b c d e f _ _ _ g y2 h i j k l m n rfl rfl rfl o e2
theorem cKp(z:Nat):popAux 8 (z % 256)=popAux 8 z:=bKb 8 z
theorem fKw(x:Nat):popAux 64 x=popAux 8 (x % 256)+popAux 8 (x / 256 % 256)+popAux 8 (x / 65536 % 256)+popAux 8 (x / 16777216 % 256)+popAux 8 (x / 4294967296 % 256)+popAux 8 (x / 1099511627776 % 256)+popAux 8 (x / 281474976710656 % 256)+popAux 8 (x / 72057594037927936 % 256):=by
 rw[show(64:Nat)=8+(8+(8+(8+(8+(8+(8+8))))))from rfl];simp only[sw,cKp,<-Bq,Ba]
theorem fKx(x:Nat):popAux 32 x=popAux 8 (x % 256)+popAux 8 (x / 256 % 256)+popAux 8 (x / 65536 % 256)+popAux 8 (x / 16777216 % 256):=by
 rw[show(32:Nat)=8+(8+(8+8))from rfl];simp only[sw,cKp,<-Bq,Ba]
theorem eKg(x y y1 y2:Nat)(a:y=pz 8 x)(h1:y1=y+y / 256)(h2:y2=y1+y1 / 65536):(y2+y2 / 4294967296) % 128=popAux 64 x/\y2+y2 / 4294967296<18446744073709551616:=by
 rw[fKw];refine fWf _ _ _ _ _ _ _ _ (pW 8 _) (pW 8 _) (pW 8 _) (pW 8 _) (pW 8 _) (pW 8 _) (pW 8 _) (pW 8 _) y y1 y2 ?_ h1 h2;rw[a];simp only[pz,AV,Bx,Nat.zero_mul,Nat.zero_add]
end
def Tabs(w:Bg):Prop:=TabAt 0 Lib.deBruijn64tab w/\TabAt 1 Lib.deBruijn32tab w/\2<=w.heap.size
theorem bWm{g:Nat}{w':Bg}{B:Nat}(h:TabAt g l w)(a:Bh B w w')(b:g<B):TabAt g l w':=fun j hj=>(a.cell (p:=⟨g,j,fU⟩) b).trans (h j hj)
theorem Tabs.C{w':Bg}{B:Nat}(h:Tabs w)(a:Bh B w w')(hB:2<=B):Tabs w':=⟨bWm h.1 a fu,bWm h.2.1 a fu,Bb h.2.2 a.size⟩
theorem dVq(x k idx:Nat)(w:Bg)(aa:((x:Int) == 0)=gm)(key:IntKind.u64.wrap (bits BinOp.and IntKind.u64 (x:Int) (IntKind.u64.wrap (-(x:Int)))*285870213051353865) / 288230376151711744=(idx:Int))(hi:idx<64)(hk:k<64)(hcell:w.cell? ⟨0,idx,fU⟩=gh (fF .u8 k)):
  Bi fZ 148 #[fF fP x] w fun e w'=>e = fT (fF fO k)/\w=w':=by
 go_in;go_wp2_with (simp only[key]);go_ret;exact⟨rfl,rfl⟩
theorem dVr(w:Bg):Bi fZ 148 #[fF fP 0] w fun e w'=>e = fT (fF fO 64)/\w=w':=by
 go_in;go_wp2;go_ret;exact⟨rfl,rfl⟩
theorem eJo(x:Nat)(b:x<18446744073709551616)(w:Bg)(d:Tabs w):Bi fZ 148 #[fF fP x] w fun e w'=>e = fT (fF fO (Lib.ctz 64 x))/\w=w':=by
 by_cases a:x=0
 ·subst a;exact dVr w
 ·obtain⟨f,c⟩:=Lib.lowest_bit 64 x a b;obtain⟨hi,g⟩:=Lib.deBruijn64_at _ c;have hcell:=d.1 _ hi;rw[g]at hcell;exact dVq x _ _ w fw (tz64_key x _ b a f) hi c hcell
theorem dVs(x k idx:Nat)(w:Bg)(aa:((x:Int) == 0)=gm)(key:bits BinOp.and IntKind.u32 (x:Int) (-(x:Int) % 4294967296)*125613361 % 4294967296 / 134217728=(idx:Int))(hi:idx<32)(hk:k<32)(hcell:w.cell? ⟨1,idx,fU⟩=gh (fF .u8 k)):
  Bi fZ 151 #[fF fR x] w fun e w'=>e = fT (fF fO k)/\w=w':=by
 go_in;go_wp2_with (simp only[key]);go_ret;exact⟨rfl,rfl⟩
theorem dVt(w:Bg):Bi fZ 151 #[fF fR 0] w fun e w'=>e = fT (fF fO 32)/\w=w':=by
 go_in;go_wp2;go_ret;exact⟨rfl,rfl⟩
theorem eJp(x:Nat)(b:x<4294967296)(w:Bg)(d:Tabs w):Bi fZ 151 #[fF fR x] w fun e w'=>e = fT (fF fO (Lib.ctz 32 x))/\w=w':=by
 by_cases a:x=0
 ·subst a;exact dVt w
 ·obtain⟨f,c⟩:=Lib.lowest_bit 32 x a b;obtain⟨hi,g⟩:=Lib.deBruijn32_at _ c;have hcell:=d.2.1 _ hi;rw[g]at hcell;exact dVs x _ _ w fw (tz32_key x _ b a f) hi c hcell
theorem m0:lM 85 8=6148914691236517205:=fy
theorem m1:lM 51 8=3689348814741910323:=fy
theorem m2:lM 15 8=1085102592571150095:=fy
theorem dVu(x d m p:Nat)(a:x<18446744073709551616)(b:m<18446744073709551616)(h:x / d &&& m=p):bits .and fP ((x:Int) / (d:Int)) (m:Int)=(p:Int):=by
 rw[<-h,show(x:Int) / (d:Int)=((x / d:Nat):Int)from by simp];exact bits_and_u64_nat (x / d) m (Nat.lt_of_le_of_lt (Ae _ _) a) b
theorem eWt(x m p:Nat)(hx:x<=7378697629483820646)(a:m<18446744073709551616)(h:(x / 16+x) &&& m=p):bits .and fP ((x:Int) / 16+(x:Int)) (m:Int)=(p:Int):=by
 rw[<-h,show(x:Int) / 16+(x:Int)=((x / 16+x:Nat):Int)from by simp];exact bits_and_u64_nat (x / 16+x) m fu a
theorem fXv(y2 p:Nat)(h:(y2+y2 / 4294967296) % 128=p):bits .and fO ((y2:Int)+(y2:Int) / 4294967296) 127=(p:Int):=by rw[i64_and127];omega
theorem fVw(x3 y1:Nat)(b:x3<=1085102592571150095)(h:x3+x3 / 256=y1):y1<=1090000000000000000:=fu
theorem fKi(x3 y1:Nat)(b:x3<=1090000000000000000)(h:x3+x3 / 65536=y1):y1<=1100000000000000000:=fu
theorem eJq(x:Nat)(k:x<18446744073709551616)(w:Bg):Bi fZ 149 #[fF fP x] w fun e w'=>e = fT (fF fO (Lib.popAux 64 x))/\w=w':=by
 have hle:=pW 64 x;obtain⟨p1,a⟩:∃ p,x / 2 &&& 6148914691236517205=p:=⟨_,rfl⟩;obtain⟨q1,b⟩:∃ p,x &&& 6148914691236517205=p:=⟨_,rfl⟩;have l:p1<=6148914691236517205:=(by rw[<-a];exact Aa);have m:q1<=6148914691236517205:=(by rw[<-b];exact Aa);obtain⟨x1,c⟩:∃ y,p1+q1=y:=⟨_,rfl⟩;obtain⟨p2,d⟩:∃ p,x1 / 4 &&& 3689348814741910323=p:=⟨_,rfl⟩;obtain⟨f,g⟩:∃ p,x1 &&& 3689348814741910323=p:=⟨_,rfl⟩;have n:p2<=3689348814741910323:=(by rw[<-d];exact Aa);have o:f<=3689348814741910323:=(by rw[<-g];exact Aa);obtain⟨x2,h⟩:∃ y,p2+f=y:=⟨_,rfl⟩;obtain⟨x3,i⟩:∃ y,(x2 / 16+x2) &&& 1085102592571150095=y:=⟨_,rfl⟩;have q:x3<=1085102592571150095:=(by rw[<-i];exact Aa);obtain⟨y1,hy1⟩:∃ y,x3+x3 / 256=y:=⟨_,rfl⟩;obtain⟨y2,j⟩:∃ y,y1+y1 / 65536=y:=⟨_,rfl⟩
 have hc:x3=pz 8 x:=by
  have:=(bWp 8 x).2;unfold lf at this;rw[m0,m1,m2,a,b,c,d,g,h,i]at this;exact this
 obtain⟨hs,hb⟩:=eKg x x3 y1 y2 hc hy1.symm j.symm;have b1:x1<=12297829382473034410:=(by rw[<-c];exact BW l m);have r:x2<=7378697629483820646:=(by rw[<-h];exact BW n o);have e1:bits .and fP ((x:Int) / 2) 6148914691236517205=(p1:Int):=dVu x 2 6148914691236517205 p1 k fy a;have e2:bits .and fP (x:Int) 6148914691236517205=(q1:Int):=(by rw[<-b];exact bits_and_u64_nat x 6148914691236517205 k fy);have e3:(p1:Int)+(q1:Int)=(x1:Int):=(by rw[<-c,BV]);have e4:bits .and fP ((x1:Int) / 4) 3689348814741910323=(p2:Int):=dVu x1 4 3689348814741910323 p2 fu fy d;have e5:bits .and fP (x1:Int) 3689348814741910323=(f:Int):=(by rw[<-g];exact bits_and_u64_nat x1 3689348814741910323 fu fy);have e6:(p2:Int)+(f:Int)=(x2:Int):=(by rw[<-h,BV]);have e7:bits .and fP ((x2:Int) / 16+(x2:Int)) 1085102592571150095=(x3:Int):=eWt x2 1085102592571150095 x3 r fy i;have c3:(x3:Int)+(x3:Int) / 256=(y1:Int):=(by rw[<-hy1];simp);have c4:(y1:Int)+(y1:Int) / 65536=(y2:Int):=(by rw[<-j];simp);have e8:=fXv y2 _ hs;have s:y1<=1090000000000000000:=fVw x3 y1 q hy1;have b4:y2<=1100000000000000000:=fKi y1 y2 s j;generalize Lib.popAux 64 x=pc at *;clear a b c d g h i hy1 j hc hs;go_in;go_wp2;go_ret;exact⟨rfl,rfl⟩
theorem eWu{k:IntKind}{a b:Int}(h:a=b):Ending.returned (fF k a) = fT (fF k b):=by rw[h]
theorem fVx(a c1 b c:Nat):(c:Int)+b+c1+a=((a+c1+b+c:Nat):Int):=fu
theorem cXs(x p:Nat)(a:x<4294967296)(h:x % 256=p):bits .and fR (x:Int) 255=(p:Int):=by
 rw[<-h,show(255:Int)=((2 ^ 8 - 1:Nat):Int)from rfl,bits_and_u32_nat x (2 ^ 8 - 1) a fy,AX]
theorem fKj(b:Nat)(a:b<256):Lib.pop8 (b:Int)=(Lib.popAux 8 b:Int):=by
 have:=Lib.pop8_eq ⟨b,a⟩;simp only[Lib.onesCount]at this;rw[this,show(64:Nat)=8+56 from rfl,dYh fu]
theorem bYk(b:Nat)(c:b<256)(a:b<Lib.pop8tab.size):(Lib.pop8tab[b]'(a)).toNat=Lib.popAux 8 b:=by
 have:=fKj b c;unfold Lib.pop8 at this;rw[Ab,ByteArray.getElem?_lt' _ _ a,Option.getD_some]at this;omega
theorem eJr(x:Nat)(o:x<4294967296)(w:Bg):Bi fZ 152 #[fF fR x] w fun e w'=>e = fT (fF fO (Lib.popAux 32 x))/\w.drew=w':=by
 have hp:=fKx x;obtain⟨a,g⟩:∃ b,x % 256=b:=⟨_,rfl⟩;obtain⟨c,h1⟩:∃ b,x / 256 % 256=b:=⟨_,rfl⟩;obtain⟨d,h2⟩:∃ b,x / 65536 % 256=b:=⟨_,rfl⟩;obtain⟨f,h⟩:∃ b,x / 16777216 % 256=b:=⟨_,rfl⟩;have i:a<256:=fu;have j:c<256:=fu;have k:d<256:=fu;have l3:f<256:=fu;rw[g,h1,h2,h]at hp;have e3:(x:Int) / 16777216=(f:Int):=fu;have e2:bits .and fR ((x:Int) / 65536) 255=(d:Int):=(by rw[show(x:Int) / 65536=((x / 65536:Nat):Int)from by simp];exact cXs _ _ fu h2);have e1:bits .and fR ((x:Int) / 256) 255=(c:Int):=(by rw[show(x:Int) / 256=((x / 256:Nat):Int)from by simp];exact cXs _ _ fu h1);have e0:bits .and fR (x:Int) 255=(a:Int):=cXs _ _ o g;have p:a<Lib.pop8tab.size:=(by rw[Lib.pop8tab_size];exact i);have p0:=bYk a i p;have q:c<Lib.pop8tab.size:=(by rw[Lib.pop8tab_size];exact j);have p1:=bYk c j q;have r:d<Lib.pop8tab.size:=(by rw[Lib.pop8tab_size];exact k);have p2:=bYk d k r;have s:f<Lib.pop8tab.size:=(by rw[Lib.pop8tab_size];exact l3);have p3:=bYk f l3 s;have m0:=pW 8 a;have m1:=pW 8 c;have m2:=pW 8 d;have m3:=pW 8 f;generalize Lib.popAux 8 a=l at *;generalize Lib.popAux 8 c=c1 at *;generalize Lib.popAux 8 d=m at *;generalize Lib.popAux 8 f=n at *;have t:=fQ (show(n:Int)+m+c1+l=(Lib.popAux 32 x:Int) by rw[hp];exact fVx l c1 m n);clear hp g h1 h2 h;go_in;go_wp2_with fail;go_region;go_wp2;go_ret;exact⟨eWu t.out,rfl⟩
theorem bQg:∀ f x,Lib.bitLenAux f x<=f
 | 0,_=>Aq _
 | f+1,x=>by
  rw[Lib.bitLenAux];have:=bQg f (x / 2)
  split <;> omega
def bKy(W x:Nat)(w:Bg)(e:Ending)(w':Bg):Prop:=
 ∃ g,e = fT (fG (gh ⟨g,0,fU⟩) 3 3)/\w.heap.size<=g/\gO w' g 3 ((lE W x).map (Af fO)).toArray/\Bh w.heap.size w w'
theorem eJs(x:Nat)(a:x<18446744073709551616)(w:Bg)(b:Tabs w):Bi fZ 126 #[fF fP x,fH gj] w (bKy 64 x w):=by
 have c:=fQ b;clear b;go_in;go_wp2_with fail;refine gr (Tryz.bits_LeadingZeros64 x _ fu fu) ?_;rw[Ab];go_wp2_with fail;refine gu (eJo x a _ c.out) ?_;go_wp2_with fail;refine gu (eJq x a _) ?_;go_wp2;go_ret;exact⟨_,rfl,Aq _,gO.a4 _ _ _,(Ak _ _).alloc (Aq _) _⟩
theorem eJt(x:Nat)(a:x<4294967296)(w:Bg)(b:Tabs w):Bi fZ 126 #[fF fP x,fH gm] w (bKy 32 x w):=by
 have c:=fQ b;clear b;go_in;go_wp2_with fail;refine(Tryz.bits_LeadingZeros32 x _ (by omega) (by omega)).mono ?_;rintro e w1 ⟨rfl,rfl⟩;rw[Ab];go_wp2_with fail;refine(eJp x a _ c.out).mono ?_;rintro e w1 ⟨rfl,rfl⟩;go_wp2_with fail;refine(eJr x a _).mono ?_;rintro e w1 ⟨rfl,rfl⟩;go_wp2;go_ret;exact⟨_,rfl,Aq _,(gO.a4 _ _ _).drew,((Ak _ _).alloc (Aq _) _).drew⟩
theorem eWo(a b o n c x:Nat)(w:Bg)(hc:w.cell? ⟨a,0,fU⟩=gh (fG (gh ⟨b,o,fU⟩) n c))(h0:w.cell? ⟨b,o,fU⟩=gh (fF fP x))(hn:1<=n):
  Bi fZ 123 #[fN (gh ⟨a,0,fU⟩)] w fun e w'=>e = fT (fF fP (b01 ((x:Int) == 0)))/\w=w':=by
 obtain⟨y,d⟩:=fX (((x:Int) == 0));rw[d];have aa:0<n:=fu;go_in;go_wp2_with fail;refine gu (bKk y _) ?_;go_wp2;go_ret;exact⟨rfl,rfl⟩
theorem eWp(a b o n c x:Nat)(w:Bg)(hc:w.cell? ⟨a,0,fU⟩=gh (fG (gh ⟨b,o,fU⟩) n c))(h0:w.cell? ⟨b,o,fU⟩=gh (fF fP x))(hn:1<=n):
  Bi fZ 127 #[fN (gh ⟨a,0,fU⟩)] w fun e w'=>e = fT (fF fP ((x:Int) % 4294967296))/\w=w':=by
 have aa:0<n:=fu;go_in;go_wp2;go_ret;exact⟨rfl,rfl⟩
theorem eKl(q:(out == 127)=gj):tZ 0 out x=wrap64 (IntKind.i8.wrap x) % 4294967296:=by rw[tZ,gz (eq_of_beq q),oG,gz rfl]
theorem eKm(q:(out == 127)=gm):tZ 0 out x=IntKind.u64.wrap (wrap64 (IntKind.i8.wrap x)):=by rw[tZ,gy (ne_of_beq_false q),oG,gz rfl]
theorem eKn(q:(out == 127)=gj):tZ 1 out x=wrap64 (IntKind.i16.wrap x) % 4294967296:=by rw[tZ,gz (eq_of_beq q),oG,gy fy,gz rfl]
theorem eKo(q:(out == 127)=gm):tZ 1 out x=IntKind.u64.wrap (wrap64 (IntKind.i16.wrap x)):=by rw[tZ,gy (ne_of_beq_false q),oG,gy fy,gz rfl]
theorem fKh(q:(out == 127)=gj):tZ 2 out x=wrap64 (wrap32 x) % 4294967296:=by rw[tZ,gz (eq_of_beq q),oG,gy fy,gy fy]
theorem eKp(q:(out == 127)=gm):tZ 2 out x=IntKind.u64.wrap (wrap64 (wrap32 x)):=by rw[tZ,gy (ne_of_beq_false q),oG,gy fy,gy fy]
theorem fVu:ny 0 x=IntKind.u64.wrap (wrap64 (wrap32 x)):=by rw[ny,gz rfl]
theorem fVv:ny 1 x=x:=by rw[ny,gy fy]
theorem eWq(a d b o n c x:Nat)(k:Int)(w:Bg)(hc:w.cell? ⟨a,0,fU⟩=gh (fG (gh ⟨b,o,fU⟩) n c))(h0:w.cell? ⟨b,o,fU⟩=gh (fF fP x))(hn:1<=n)(hk:w.cell? ⟨d,0,fU⟩=gh (fF fO k))(f:k=0\/k=1)
  (l1:a<w.heap.size) (l2:d<w.heap.size) (l3:b<w.heap.size) :
  Bi fZ 128 #[fN (gh ⟨a,0,fU⟩),fN (gh ⟨d,0,fU⟩)] w fun e w'=>e = fT (fF fP (ny k x))/\Bh w.heap.size w w':=by
 have ad:0<n:=fu;rcases f with rfl|rfl
 all_goals
  go_in;go_wp2_with fail;go_region;go_wp2;go_ret
  first|rw[fVu]|rw[fVv]
  exact⟨rfl,((Ak _ _).alloc (Aq _) _).drew⟩
theorem eWr(d f po b o n c x:Nat)(k out:Int)(w:Bg)(hc:w.cell? ⟨d,0,fU⟩=gh (fG (gh ⟨b,o,fU⟩) n c))(h0:w.cell? ⟨b,o,fU⟩=gh (fF fP x))(hn:1<=n)(hk:w.cell? ⟨f,0,fU⟩=gh (fF fO k))(g:k=0\/k=1\/k=2)
  (ho:w.cell? ⟨po,0,fU⟩=gh (fF fO out)) (l1:d<w.heap.size) (l2:f<w.heap.size) (l3:b<w.heap.size) (l4:po<w.heap.size) :
  Bi fZ 129 #[fN (gh ⟨d,0,fU⟩),fN (gh ⟨f,0,fU⟩),fN (gh ⟨po,0,fU⟩)] w fun e w'=>e = fT (fF fP (tZ k out x))/\Bh w.heap.size w w':=by
 have ae:0<n:=fu;by_cases a:out=127
 ·have q:(out == 127)=gj:=(by simp[a]);clear a;rcases g with rfl|rfl|rfl
  all_goals
   go_in;go_wp2_with fail;go_region;go_wp2;go_ret
   first|rw[eKl q]|rw[eKn q]|rw[fKh q]
   exact⟨rfl,((Ak _ _).alloc (Aq _) _).drew⟩
 ·have q:(out == 127)=gm:=(by simp[a]);clear a;rcases g with rfl|rfl|rfl
  all_goals
   go_in;go_wp2_with fail;go_region;go_wp2;go_ret
   first|rw[eKm q]|rw[eKo q]|rw[eKp q]
   exact⟨rfl,((Ak _ _).alloc (Aq _) _).drew⟩
theorem aKp:∀ (f x n:Nat),x<2 ^ n->Lib.bitLenAux f x<=n
 | 0,x,n,_=>by simp[Lib.bitLenAux]
 | f+1,x,0,h=>by
  have:x=0:=(by simpa using h);simp[Lib.bitLenAux,this]
 | f+1,x,n+1,h=>by
  rw[Lib.bitLenAux];have:=aKp f (x / 2) n (by rw[Ag]at h;omega)
  split <;> omega
theorem dVp(h:x<4294967296):Lib.bitLen x<=32:=aKp 64 x 32 h
theorem cXr{W g:Nat}{y:Int}(h:(lE W x).getD k 0=y)(hk:k<3)(a:gO w g 3 ((lE W x).map (Af fO)).toArray):w.cell? ⟨g,k,fU⟩=gh (fF fO y):=by
 rw[a.cell k];simp only[AZ,AW];rw[Aj (by simp[lE];omega),<-h,Az,Aj (by simp[lE];omega)];rfl
theorem bKx{W x k:Nat}(a:(W=64/\x<18446744073709551616)\/(W=32/\x<4294967296))(hk:k<3):0<=(lE W x).getD k 0/\(lE W x).getD k 0<=64:=by
 have e:k=0\/k=1\/k=2:=fu
 have hb:Lib.bitLen x<=W:=by
  rcases a with⟨rfl,_⟩|⟨rfl,c⟩
  ·exact bQg 64 x
  ·exact dVp c
 have hc:Lib.ctz W x<=W:=by
  by_cases b:x=0
  ·simp[Lib.ctz,b]
  ·have:=(Lib.lowest_bit W x b (by rcases a with⟨rfl,h⟩|⟨rfl,h⟩ <;> exact h)).2;omega
 have hp:=pW W x;have aa:W<=64:=(by rcases a with⟨rfl,_⟩|⟨rfl,_⟩ <;> decide);clear a;rcases e with rfl|rfl|rfl
 ·show 0<=(W:Int) - Lib.bitLen x/\(W:Int) - Lib.bitLen x<=64;omega
 ·show 0<=((Lib.ctz W x:Nat):Int)/\((Lib.ctz W x:Nat):Int)<=64;omega
 ·show 0<=((Lib.popAux W x:Nat):Int)/\((Lib.popAux W x:Nat):Int)<=64;omega
theorem eWs(j pg f b o n c x W k:Nat)(a0 b0 c0 d:Int)(w:Bg)(hc:w.cell? ⟨j,0,fU⟩=gh (fG (gh ⟨b,o,fU⟩) n c))(h0:w.cell? ⟨b,o,fU⟩=gh (fF fP x))(hn:1<=n)(v:w.cell? ⟨f,0,fU⟩=gh (fF fO k))(r:k<3)
  (hd:w.cell? ⟨pg,3,fU⟩=gh (fF fO d)) (l1:j<w.heap.size) (z:f<w.heap.size) (l3:b<w.heap.size) (l4:pg<w.heap.size) (s:Tabs w) (l:(d=126/\W=64/\x<18446744073709551616)\/(d=127/\W=32/\x<4294967296)) :
  Bi fZ 125 #[fN (gh ⟨j,0,fU⟩),fN (gh ⟨pg,0,fU⟩),fN (gh ⟨f,0,fU⟩)] w fun e w'=>e = fT (fF fP ((lE W x).getD k 0))/\Bh w.heap.size w w':=by
 have ah:0<n:=fu
 obtain⟨wd,ai,A⟩:∃ wd,(d == 126)=wd/\Hid (∀ a:Bg,Tabs a->Bi fZ 126 #[fF fP x,fH wd] a (bKy W x a)):=by
  rcases l with⟨rfl,rfl,m⟩|⟨rfl,rfl,m⟩
  ·exact⟨gj,rfl,fQ (fun a h=>eJs x m a h)⟩
  ·exact⟨gm,rfl,fQ (fun a h=>eJt x m a h)⟩
 have B:=fQ (@bKx W x k (by rcases l with⟨_,h1,h2⟩|⟨_,h1,h2⟩;exact .inl ⟨h1,h2⟩;exact .inr ⟨h1,h2⟩) r);have t:=fQ s;clear s l;obtain⟨y,i⟩:=fX ((lE W x).getD k 0);have hy:0<=y/\y<=64:=(by rw[<-i];exact B.out);have aj:IntKind.u64.wrap y=y:=(by rw[AQ];omega);rw[i];replace i:=fQ i;go_in;go_wp2_with fail;go_region_with ((go_at_call 126;refine(A.out _ (t.C (Ak _ _).drew t.2.2)).mono ?_;rintro e w1 ⟨g,rfl,hg,u,q⟩;have ak:w1.cell? ⟨g,k,fU⟩=gh (fF fO y):=cXr i.out r u;have al:w1.cell? ⟨f,0,fU⟩=gh (fF fO k):=(q.cell (p:=⟨f,0,fU⟩) z).trans v;have C:=fQ q;clear q u))
 all_goals
  go_wp2;go_ret;exact⟨rfl,(Ak w.heap.size w).drew.trans C.out⟩
def jW(p:Int×Int)(w:Bg)(e:Ending)(w':Bg):Prop:=e = fT (fI #[fF fP p.1,fF fO p.2])/\Bh w.heap.size w w'
theorem dVv(op:Int)(A:Option Addr)(n c:Nat)(l:List Nat)(w:Bg)(h1 : -9223372036854775808<=op)(h2:op<=9223372036854775807)(hg:gQ op=fU):
  Bi fZ 94 #[fF fO op,fG A n c] w (jW (oV op l) w):=by
 have g:=fQ (show oV op l=(0,1) by simp[oV,hg]);have h:=fQ (show mM op = fI #[fM #[fF fO 0,fF fO 0,fF fO 0,fF fO 0],fF fO 0,fH gm] by simp[mM,hg]);have i:=fQ (show(gQ op).isSome=gm by simp[hg]);have j:=fQ (show Bh w.heap.size w (w.alloc (fS #[fG A n c] 30))from(Ak _ _).alloc (Aq _) _);clear hg;go_in;go_wp2_with fail;refine(qw op _ h1 h2).mono ?_;rintro e w1 ⟨rfl,b⟩;rw[h.out];have a:=fQ (j.trans (b.mono fz));clear b;go_wp2_with fail;refine(qC op _ h1 h2).mono ?_;rintro e w2 ⟨A2,c2,rfl,_,d⟩;rw[i.out];have f:=fQ (show Bh w.heap.size w w2 from((a.alloc a.out.size _).alloc (by have:=a.out.size;simp;omega) _).trans (d.mono (by have:=a.out.size;simp;omega)));generalize (gJ op).length=L;generalize mX op=O;clear d;go_wp2;go_ret2;unfold jW;rw[g.out];exact⟨rfl,f.alloc f.out.size _⟩
theorem eJu(op a b c d:Int)(A:Option Addr)(n i:Nat)(l:List Nat)(w:Bg)(h1 : -9223372036854775808<=op)(h2:op<=9223372036854775807)(hg:gQ op=gh (a,b,c,d))(m:l.length=n)(j:(gJ op).length≠n):
  Bi fZ 94 #[fF fO op,fG A n i] w (jW (oV op l) w):=by
 have r:=fQ (show oV op l=(0,1) by simp[oV,hg,m,j]);have s:=fQ (show mM op = fI #[fM #[fF fO a,fF fO b,fF fO c,fF fO d],fF fO (op - a),fH gj] by simp[mM,hg,gV]);have t:=fQ (show(gQ op).isSome=gj by simp[hg]);have u:=fQ (show Bh w.heap.size w (w.alloc (fS #[fG A n i] 30))from(Ak _ _).alloc (Aq _) _);generalize k:(gJ op).length=L at j;replace k:=fQ k;have ak:((L:Int) != (n:Int))=gj:=fw;clear hg m j;go_in;go_wp2_with fail;refine(qw op _ h1 h2).mono ?_;rintro e w1 ⟨rfl,g⟩;rw[s.out];have v:w.heap.size<w1.heap.size:=(by have:=g.size;simp at this;omega);have o:=g.cell (p:=⟨w.heap.size,0,fU⟩) fz;simp at o;have h:=fQ (u.trans (g.mono fz));clear g;go_wp2_with fail;refine(qC op _ h1 h2).mono ?_;rintro e w2 ⟨A2,c2,rfl,x,f⟩;rw[t.out];have ax:w1.heap.size+1+1<=w2.heap.size:=(by have:=f.size;simpa using this);have q:=fQ (show Bh w.heap.size w w2 from((h.alloc h.out.size _).alloc (by have:=h.out.size;simp;omega) _).trans (f.mono (by have:=h.out.size;simp;omega)));have ay:w.heap.size<w2.heap.size:=fu;have aB:w2.cell? ⟨w.heap.size,0,fU⟩=gh (fG A n i):=(f.cell (p:=⟨w.heap.size,0,fU⟩) fw).trans (((((Ak w1.heap.size w1).alloc (Aq _) _).alloc fz _).cell (p:=⟨w.heap.size,0,fU⟩) v).trans o);have y:=(f.cell (p:=⟨w1.heap.size,0,fU⟩) fw);have z:=(f.cell (p:=⟨w1.heap.size,1,fU⟩) fw);have B:=(f.cell (p:=⟨w1.heap.size,2,fU⟩) fw);have C:=(f.cell (p:=⟨w1.heap.size,3,fU⟩) fw);have D:=(f.cell (p:=⟨w1.heap.size+1,0,fU⟩) fz);simp at y z B C D;rw[k.out];generalize mX op=O;clear f x;go_wp2;go_ret2;unfold jW;rw[r.out];exact⟨rfl,q.alloc q.out.size _⟩
def vZ(a pg b po:Nat):List (Int×Value):=[(0,Ay (.func 123) #[] #[Ax (gh ⟨a,0,fU⟩)]),(2,Ay (.func 125) #[] #[Ax (gh ⟨a,0,fU⟩),Ax (gh ⟨pg,0,fU⟩),Ax (gh ⟨b,0,fU⟩)]),(4,Ay (.func 127) #[] #[Ax (gh ⟨a,0,fU⟩)]),(5,Ay (.func 128) #[] #[Ax (gh ⟨a,0,fU⟩),Ax (gh ⟨b,0,fU⟩)]),(6,Ay (.func 129) #[] #[Ax (gh ⟨a,0,fU⟩),Ax (gh ⟨b,0,fU⟩),Ax (gh ⟨po,0,fU⟩)])]
def fL(a pg b po i:Nat):Obj:=lit ((vZ a pg b po).take i)
theorem fi0(a pg b po:Nat)(W:Bg):(Instr.mapUpdate 189 (.map (gh W.heap.size)) (fF fO 0) (Ay (.func 123) #[] #[Ax (gh ⟨a,0,fU⟩)])).run fZ (W.alloc (fL a pg b po 0)) = .ok () (W.alloc (fL a pg b po 1)):=
 jJ W 189 3 108 ((vZ a pg b po).take 0) 0 _ underlying189 underlying3 (by simp[vZ,kK])
theorem fi1(a pg b po:Nat)(W:Bg):(Instr.mapUpdate 189 (.map (gh W.heap.size)) (fF fO 2) (Ay (.func 125) #[] #[Ax (gh ⟨a,0,fU⟩),Ax (gh ⟨pg,0,fU⟩),Ax (gh ⟨b,0,fU⟩)])).run fZ (W.alloc (fL a pg b po 1)) = .ok () (W.alloc (fL a pg b po 2)):=
 jJ W 189 3 108 ((vZ a pg b po).take 1) 2 _ underlying189 underlying3 (by simp[vZ,kK])
theorem fi2(a pg b po:Nat)(W:Bg):(Instr.mapUpdate 189 (.map (gh W.heap.size)) (fF fO 4) (Ay (.func 127) #[] #[Ax (gh ⟨a,0,fU⟩)])).run fZ (W.alloc (fL a pg b po 2)) = .ok () (W.alloc (fL a pg b po 3)):=
 jJ W 189 3 108 ((vZ a pg b po).take 2) 4 _ underlying189 underlying3 (by simp[vZ,kK])
theorem fi3(a pg b po:Nat)(W:Bg):(Instr.mapUpdate 189 (.map (gh W.heap.size)) (fF fO 5) (Ay (.func 128) #[] #[Ax (gh ⟨a,0,fU⟩),Ax (gh ⟨b,0,fU⟩)])).run fZ (W.alloc (fL a pg b po 3)) = .ok () (W.alloc (fL a pg b po 4)):=
 jJ W 189 3 108 ((vZ a pg b po).take 3) 5 _ underlying189 underlying3 (by simp[vZ,kK])
theorem fi4(a pg b po:Nat)(W:Bg):(Instr.mapUpdate 189 (.map (gh W.heap.size)) (fF fO 6) (Ay (.func 129) #[] #[Ax (gh ⟨a,0,fU⟩),Ax (gh ⟨b,0,fU⟩),Ax (gh ⟨po,0,fU⟩)])).run fZ (W.alloc (fL a pg b po 4)) = .ok () (W.alloc (fL a pg b po 5)):=
 jJ W 189 3 108 ((vZ a pg b po).take 4) 6 _ underlying189 underlying3 (by simp[vZ,kK])
theorem pB(w:Bg):(zeroValue 108).run fZ w = .ok .nilFunc w:=fx
theorem fVy(a pg b po:Nat)(W:Bg):(Instr.lookup 189 (.map (gh W.heap.size)) (fF fO 0) gj).run fZ (W.alloc (fL a pg b po 5)) = .ok (fI #[Ay (.func 123) #[] #[Ax (gh ⟨a,0,fU⟩)],fH gj]) (W.alloc (fL a pg b po 5)):=by
 have:=qK (P:=fZ) W 189 3 108 .nilFunc ((vZ a pg b po).take 5) 0 underlying189 underlying3 pB;rw[fL,this];simp[vZ,kK]
theorem fk2(a pg b po:Nat)(W:Bg):(Instr.lookup 189 (.map (gh W.heap.size)) (fF fO 2) gj).run fZ (W.alloc (fL a pg b po 5)) = .ok (fI #[Ay (.func 125) #[] #[Ax (gh ⟨a,0,fU⟩),Ax (gh ⟨pg,0,fU⟩),Ax (gh ⟨b,0,fU⟩)],fH gj]) (W.alloc (fL a pg b po 5)):=by
 have:=qK (P:=fZ) W 189 3 108 .nilFunc ((vZ a pg b po).take 5) 2 underlying189 underlying3 pB;rw[fL,this];simp[vZ,kK]
theorem fk4(a pg b po:Nat)(W:Bg):(Instr.lookup 189 (.map (gh W.heap.size)) (fF fO 4) gj).run fZ (W.alloc (fL a pg b po 5)) = .ok (fI #[Ay (.func 127) #[] #[Ax (gh ⟨a,0,fU⟩)],fH gj]) (W.alloc (fL a pg b po 5)):=by
 have:=qK (P:=fZ) W 189 3 108 .nilFunc ((vZ a pg b po).take 5) 4 underlying189 underlying3 pB;rw[fL,this];simp[vZ,kK]
theorem fk5(a pg b po:Nat)(W:Bg):(Instr.lookup 189 (.map (gh W.heap.size)) (fF fO 5) gj).run fZ (W.alloc (fL a pg b po 5)) = .ok (fI #[Ay (.func 128) #[] #[Ax (gh ⟨a,0,fU⟩),Ax (gh ⟨b,0,fU⟩)],fH gj]) (W.alloc (fL a pg b po 5)):=by
 have:=qK (P:=fZ) W 189 3 108 .nilFunc ((vZ a pg b po).take 5) 5 underlying189 underlying3 pB;rw[fL,this];simp[vZ,kK]
theorem fk6(a pg b po:Nat)(W:Bg):(Instr.lookup 189 (.map (gh W.heap.size)) (fF fO 6) gj).run fZ (W.alloc (fL a pg b po 5)) = .ok (fI #[Ay (.func 129) #[] #[Ax (gh ⟨a,0,fU⟩),Ax (gh ⟨b,0,fU⟩),Ax (gh ⟨po,0,fU⟩)],fH gj]) (W.alloc (fL a pg b po 5)):=by
 have:=qK (P:=fZ) W 189 3 108 .nilFunc ((vZ a pg b po).take 5) 6 underlying189 underlying3 pB;rw[fL,this];simp[vZ,kK]
theorem fk1(a pg b po:Nat)(W:Bg):(Instr.lookup 189 (.map (gh W.heap.size)) (fF fO 1) gj).run fZ (W.alloc (fL a pg b po 5)) = .ok (fI #[.nilFunc,fH gm]) (W.alloc (fL a pg b po 5)):=by
 have:=qK (P:=fZ) W 189 3 108 .nilFunc ((vZ a pg b po).take 5) 1 underlying189 underlying3 pB;rw[fL,this];simp[vZ,kK]
theorem fk3(a pg b po:Nat)(W:Bg):(Instr.lookup 189 (.map (gh W.heap.size)) (fF fO 3) gj).run fZ (W.alloc (fL a pg b po 5)) = .ok (fI #[.nilFunc,fH gm]) (W.alloc (fL a pg b po 5)):=by
 have:=qK (P:=fZ) W 189 3 108 .nilFunc ((vZ a pg b po).take 5) 3 underlying189 underlying3 pB;rw[fL,this];simp[vZ,kK]
theorem cKl{a b c d:Int}(h:gQ op=gh (a,b,c,d)):(c=0->b=1)/\(c=1->b=10)/\(c=2->b=3)/\(c=3->b=15)/\(c=4->b=1)/\(c=5->b=2)/\(c=6->b<=3):=by
 have e:=List.mem_of_find?_eq_some h;have f:∀ g∈uV,(g.2.2.1=0->g.2.1=1)/\(g.2.2.1=1->g.2.1=10)/\(g.2.2.1=2->g.2.1=3)/\(g.2.2.1=3->g.2.1=15)/\(g.2.2.1=4->g.2.1=1)/\(g.2.2.1=5->g.2.1=2)/\(g.2.2.1=6->g.2.1<=3):=fy;exact f _ e
theorem cKm(e f c d:Int)(k a b:Nat)(w:Bg)(hc:(c=1/\k<10)\/(c=3/\k<15))(hd:d=126\/d=127)(ha:iK d a=gj)(n:iK d b=gj)(i:a<18446744073709551616)(j:b<18446744073709551616):
  Bi fZ 130 #[fM #[fF fO e,fF fO f,fF fO c,fF fO d],fF fO k,fF fP a,fF fP b] w (wV (gY c d k a b) w):=by
 rcases hd with rfl|rfl
 ·rcases hc with⟨rfl,g⟩|⟨rfl,g⟩
  ·exact dYb e f k a b w g i j
  ·by_cases h:3<=k/\k<=6
   ·exact dYd e f k a b w h.1 h.2 i j
   ·exact dYf e f k a b w fu g i j
 ·have l:a<4294967296:=(by simpa[iK]using ha);have m:b<4294967296:=(by simpa[iK]using n);rcases hc with⟨rfl,g⟩|⟨rfl,g⟩
  ·exact dYc e f k a b w g l m
  ·by_cases h:3<=k/\k<=6
   ·exact dYe e f k a b w h.1 h.2 l m
   ·exact dYg e f k a b w fu g l m
def fKk(n:Nat)(d:Int)(l:List Nat)(i:Value):Prop:=∃ k:Nat,k<=n/\i = fF fO k/\Hid ((l.take k).all (iK d)=gj)
theorem dVw(op a b c d:Int)(A:Option Addr)(n r:Nat)(l:List Nat)(w:Bg)(h1 : -9223372036854775808<=op)(h2:op<=9223372036854775807)(hg:gQ op=gh (a,b,c,d))(hs:Src w A n (hH l))(bD:ij l)(hT:Tabs w)(aN:(gJ op).length=n):
  Bi fZ 94 #[fF fO op,fG A n r] w (jW (oV op l) w):=by
 have hl:l.length=n:=(by have:=hs.1;simpa[hH]using this);have HF:=fQ (show mM op = fI #[fM #[fF fO a,fF fO b,fF fO c,fF fO d],fF fO (op - a),fH gj] by simp[mM,hg,gV]);have HI:=fQ (show(gQ op).isSome=gj by simp[hg]);have aU:=fQ (show gJ op=List.replicate n d by rw[<-aN];simp only[gJ,hg];split <;> rfl);have aV:n=1\/n=2:=(by rw[<-aN];simp only[gJ,hg];split <;> simp);have Y:1<=n:=fu;have bU:n<=2:=fu;have bI:=fQ (show Bh w.heap.size w (w.alloc (fS #[fG A n r] 30))from(Ak _ _).alloc (Aq _) _);obtain⟨ab,f,rfl,bV⟩:=hs.addr fu;have HS:=fQ hs;have aA:=fQ aN;have Z:=fQ hg;have m:=fQ hl;have aW:=fQ hT;have aw:=fQ bD;have bW:((n:Int) != (n:Int))=gm:=fz;clear hg hl aN hs aV hT bD;go_in;go_wp2_with fail;refine(qw op _ h1 h2).mono ?_;rintro e w1 ⟨rfl,aO⟩;rw[HF.out];have bJ:w.heap.size<w1.heap.size:=(by have:=aO.size;simp at this;omega);have aX:=aO.cell (p:=⟨w.heap.size,0,fU⟩) fz;simp at aX;have aB:=fQ (bI.trans (aO.mono fz));clear aO;go_wp2_with fail;refine(qC op _ h1 h2).mono ?_;rintro e w2 ⟨A2,c2,rfl,aY,u⟩;rw[HI.out];have bX:w1.heap.size+1+1<=w2.heap.size:=(by have:=u.size;simpa using this);have aZ:=fQ (show Bh w.heap.size w w2 from((aB.alloc aB.out.size _).alloc (by have:=aB.out.size;simp;omega) _).trans (u.mono (by have:=aB.out.size;simp;omega)));have bL:w.heap.size<w2.heap.size:=fu;have aP:w1.heap.size<w2.heap.size:=fu;have bM:w1.heap.size+1<w2.heap.size:=fu;have bE:w2.cell? ⟨w.heap.size,0,fU⟩=gh (fG (gh ⟨ab,f,fU⟩) n r):=(u.cell (p:=⟨w.heap.size,0,fU⟩) fw).trans (((((Ak w1.heap.size w1).alloc (Aq _) _).alloc fz _).cell (p:=⟨w.heap.size,0,fU⟩) bJ).trans aX);have a1:=(u.cell (p:=⟨w1.heap.size,0,fU⟩) fw);have a6:=(u.cell (p:=⟨w1.heap.size,1,fU⟩) fw);have a7:=(u.cell (p:=⟨w1.heap.size,2,fU⟩) fw);have a8:=(u.cell (p:=⟨w1.heap.size,3,fU⟩) fw);have ba:=(u.cell (p:=⟨w1.heap.size+1,0,fU⟩) fz);simp at a1 a6 a7 a8 ba;rw[aA.out];rw[aA.out,aU.out]at aY;generalize HO:mX op=O;replace HO:=fQ HO;have bb:=fQ aY;clear u aY;obtain⟨g2,bY,e,bZ,b0,_⟩:=lZ bb.out Y;injection e with e1 e2 e3;subst e1;subst e3;have aC:=fQ (aZ.alloc aZ.out.size (fS #[fF fO O] 3));have E:Bh w2.heap.size w2 (w2.alloc (fS #[fF fO O] 3)):=(Ak _ _).alloc (Aq _) _;have hq:=(E.cell (p:=⟨w.heap.size,0,fU⟩) bL).trans bE;have aQ:=(E.cell (p:=⟨w1.heap.size,0,fU⟩) aP).trans a1;have aR:=(E.cell (p:=⟨w1.heap.size,1,fU⟩) aP).trans a6;have aS:=(E.cell (p:=⟨w1.heap.size,2,fU⟩) aP).trans a7;have bc:=(E.cell (p:=⟨w1.heap.size,3,fU⟩) aP).trans a8;have bd:=(E.cell (p:=⟨w1.heap.size+1,0,fU⟩) bM).trans ba;have be:(w2.alloc (fS #[fF fO O] 3)).cell? ⟨w2.heap.size,0,fU⟩=gh (fF fO O):=(gO.a4 w2 3 #[fF fO O]).cell 0;have ax:=fQ (HS.C aC.out (Aq _));have aT:=fQ (aW.C aC.out aW.2.2)
 have aD:=fQ (iJ bb.out E (Aq _));have bN:w2.heap.size<(w2.alloc (fS #[fF fO O] 3)).heap.size:=fz
 have bF:∀ k,k<n->(w2.alloc (fS #[fF fO O] 3)).cell? ⟨g2,k,fU⟩=gh (fF fO d):=fun k hk=>by
  rw[aD.cellAt k fu];simp[qz,hk]
 have bf:=fQ bF;go_wp2_with fail;clear aX bE a1 a6 a7 a8 ba E aZ bb aD aB HS bF aW;generalize w2.alloc (fS #[fF fO O] 3)=g at *;go_loop [40] (fun i=>fKk n d l i) (fun i=>n+1 - (intOf i).toNat)
 case atStart=>exact⟨0,fu,rfl,fQ fz⟩
 case round=>
  obtain⟨k,hk,rfl,bg⟩:=hrel;by_cases ay:k<n
  ·have az:=ax.at_ ay;simp only[hH,Ad]at az;have b1:=bf.out k ay;have F:=aw.out _ (AJ (show k<l.length by rw[m.out];exact ay));have bj:=fQ (List.take_succ_eq_append_getElem (show k<l.length by rw[m.out];exact ay));generalize l[k]'(by rw[m.out];exact ay)=x at az F bj
   cases hf:iK d x with
   | true=>
    have aE:=fQ hf;clear hf;go_wp2_with fail;refine gu (bZb d x _ F) ?_;rw[aE.out];go_wp2;exact⟨⟨k+1,fu,fz,fQ (by rw[bj.out,Ai,bg.out];simp[aE.out])⟩,fB⟩
   | false=>
    have aE:=fQ hf;clear hf;go_wp2_with fail;refine(bZb d x _ F).mono ?_;rintro e o ⟨rfl,rfl⟩;rw[aE.out];go_wp2;go_ret2;unfold jW
    have hV:oV op l=(0,1):=by
     have af:l.all (iK d)=gm:=by
      rw[<-List.take_append_drop (k+1) l,Ai,bj.out,Ai];simp[aE.out]
     simp[oV,Z.out,af]
    rw[hV];exact⟨rfl,aC.out⟩
  ·obtain rfl:k=n:=by omega
   have af:l.all (iK d)=gj:=by
    have:=bg.out
    rwa[List.take_of_length_le (by rw[m.out];omega)]at this
   have G:=fQ (show oV op l=oZ c d (op - a) O l by rw[oV,Z.out];simp only;rw[gz ⟨by rw[aA.out,m.out],af⟩,HO.out]);obtain⟨bP,bk,_,b2,b3,_,_⟩:=pq Z.out;obtain⟨Q,H,I,J,R,K,L⟩:=cKl Z.out;obtain⟨q,bm⟩:=Int.eq_ofNat_of_zero_le (show 0<=op - a by omega);have bG:∀ (t:TypeId) (S:Bg),(Instr.makeMap t fU).run fZ S = .ok (.map (gh S.heap.size)) (S.alloc (fL w.heap.size w1.heap.size (w1.heap.size+1) w2.heap.size 0)):=fun _ _=>rfl;have i0:=fi0 w.heap.size w1.heap.size (w1.heap.size+1) w2.heap.size;have i1:=fi1 w.heap.size w1.heap.size (w1.heap.size+1) w2.heap.size;have i2:=fi2 w.heap.size w1.heap.size (w1.heap.size+1) w2.heap.size;have i3:=fi3 w.heap.size w1.heap.size (w1.heap.size+1) w2.heap.size;have i4:=fi4 w.heap.size w1.heap.size (w1.heap.size+1) w2.heap.size;have T:Bh g.heap.size g (g.alloc (fL w.heap.size w1.heap.size (w1.heap.size+1) w2.heap.size 5)):=(Ak _ _).alloc (Aq _) _;have s:=fQ (aC.alloc aC.out.size (fL w.heap.size w1.heap.size (w1.heap.size+1) w2.heap.size 5));have za:w.heap.size<g.heap.size:=fu;have U:w1.heap.size<g.heap.size:=fu;have zc:w1.heap.size+1<g.heap.size:=fu;have zd:ab<g.heap.size:=fu;have v:=(T.cell (p:=⟨w.heap.size,0,fU⟩) za).trans hq;have M:=(T.cell (p:=⟨w1.heap.size+1,0,fU⟩) zc).trans bd;have qg:=(T.cell (p:=⟨w1.heap.size,3,fU⟩) U).trans bc;have qo:=(T.cell (p:=⟨w2.heap.size,0,fU⟩) bN).trans be;have bn:=fQ (aT.C T aT.2.2);have az:=ax.at_ (k:=0) fu;simp only[hH,Ad,Bv]at az;have F:=aw.out _ (AJ (show 0<l.length by rw[m.out];omega));have N:=fQ (show l.getD 0 0=l[0]'(by rw[m.out];omega) by rw[Az,Aj (by rw[m.out];omega)];rfl);have bo:=List.all_eq_true.1 af _ (AJ (show 0<l.length by rw[m.out];omega));generalize l[0]'(by rw[m.out];omega)=x at az F N bo;have B:=(T.cell (p:=⟨ab,f,fU⟩) zd).trans az;have aF:w.heap.size<(g.alloc (fL w.heap.size w1.heap.size (w1.heap.size+1) w2.heap.size 5)).heap.size:=fw;have C:w1.heap.size<(g.alloc (fL w.heap.size w1.heap.size (w1.heap.size+1) w2.heap.size 5)).heap.size:=fw;have aG:(w1.heap.size+1)<(g.alloc (fL w.heap.size w1.heap.size (w1.heap.size+1) w2.heap.size 5)).heap.size:=fw;have V:ab<(g.alloc (fL w.heap.size w1.heap.size (w1.heap.size+1) w2.heap.size 5)).heap.size:=fw;have bQ:w2.heap.size<(g.alloc (fL w.heap.size w1.heap.size (w1.heap.size+1) w2.heap.size 5)).heap.size:=fw;have bp:=fQ bo;have aH:=fQ af;rw[bm]at M G;have bH:=fQ bm;have bT:(q:Int)<b:=fu;clear bm T af bg bo;rcases bP with rfl|rfl|rfl|rfl|rfl|rfl|rfl
   ·have P:=fVy w.heap.size w1.heap.size (w1.heap.size+1) w2.heap.size;clear Q H I J R K L;go_wp2_with fail;refine gu (eWo w.heap.size ab f _ r x _ v B Y) ?_;go_wp2;go_ret2;unfold jW;rw[G.out,oZ,gz rfl,N.out];exact⟨rfl,s.out⟩
   ·have P:=fk1 w.heap.size w1.heap.size (w1.heap.size+1) w2.heap.size;have bq:2<=k:=(by have:=aA.out;rw[gJ,Z.out]at this;simp at this;omega);have W:=ax.at_ (k:=1) fu;simp only[hH,Ad]at W;have ah:=aw.out _ (AJ (show 1<l.length by rw[m.out];omega));have aI:=fQ (show l.getD 1 0=l[1]'(by rw[m.out];omega) by rw[Az,Aj (by rw[m.out];omega)];rfl);have X:=List.all_eq_true.1 aH.out _ (AJ (show 1<l.length by rw[m.out];omega));generalize l[1]'(by rw[m.out];omega)=y at W ah aI X;have q1:=((Ak g.heap.size g).alloc (Aq _) (fL w.heap.size w1.heap.size (w1.heap.size+1) w2.heap.size 5)).cell (p:=⟨ab,f+1,fU⟩) zd |>.trans W;have aJ:=((Ak g.heap.size g).alloc (Aq _) (fL w.heap.size w1.heap.size (w1.heap.size+1) w2.heap.size 5)).cell (p:=⟨w1.heap.size,0,fU⟩) U |>.trans aQ;have aK:=((Ak g.heap.size g).alloc (Aq _) (fL w.heap.size w1.heap.size (w1.heap.size+1) w2.heap.size 5)).cell (p:=⟨w1.heap.size,1,fU⟩) U |>.trans aR;have aL:=((Ak g.heap.size g).alloc (Aq _) (fL w.heap.size w1.heap.size (w1.heap.size+1) w2.heap.size 5)).cell (p:=⟨w1.heap.size,2,fU⟩) U |>.trans aS;have br:q<10:=(by have:=H rfl;omega);have bs:=fQ (fun S=>cKm a b 1 d q x y S fu bk bp.out X F ah);have bt:0<k:=fu;have bw:(1:Int)<(k:Int):=fu;clear X Q H I J R K L;go_wp2_with fail;generalize g.alloc (fL w.heap.size w1.heap.size (w1.heap.size+1) w2.heap.size 5)=o at *;have bz:o.cell? ⟨w.heap.size,0,fU⟩=gh (fG (gh ⟨ab,f,fU⟩) k r)/\o.cell? ⟨w1.heap.size,0,fU⟩=gh (fF fO a)/\o.cell? ⟨w1.heap.size,1,fU⟩=gh (fF fO b)/\o.cell? ⟨w1.heap.size,2,fU⟩=gh (fF fO 1)/\o.cell? ⟨w1.heap.size,3,fU⟩=gh (fF fO d)/\o.cell? ⟨w1.heap.size+1,0,fU⟩=gh (fF fO q)/\o.cell? ⟨ab,f,fU⟩=gh (fF fP x)/\o.cell? ⟨ab,f+1,fU⟩=gh (fF fP y):=⟨v,aJ,aK,aL,qg,M,B,q1⟩;clear P bn aT ax bf aQ aR aS bc bd be hq qo i0 i1 i2 i3 i4 bG bH HF HI aU aw;go_region_held3 (fun w'=>w'.cell? ⟨w.heap.size,0,fU⟩=gh (fG (gh ⟨ab,f,fU⟩) k r)/\w'.cell? ⟨w1.heap.size,0,fU⟩=gh (fF fO a)/\w'.cell? ⟨w1.heap.size,1,fU⟩=gh (fF fO b)/\w'.cell? ⟨w1.heap.size,2,fU⟩=gh (fF fO 1)/\w'.cell? ⟨w1.heap.size,3,fU⟩=gh (fF fO d)/\w'.cell? ⟨w1.heap.size+1,0,fU⟩=gh (fF fO q)/\w'.cell? ⟨ab,f,fU⟩=gh (fF fP x)/\w'.cell? ⟨ab,f+1,fU⟩=gh (fF fP y)) (first|exact bz|exact bB) (first|(go_at_call 130;refine(bs.out _).mono ?_;rintro e j ⟨rfl,h⟩;have bB:j.cell? ⟨w.heap.size,0,fU⟩=gh (fG (gh ⟨ab,f,fU⟩) k r)/\j.cell? ⟨w1.heap.size,0,fU⟩=gh (fF fO a)/\j.cell? ⟨w1.heap.size,1,fU⟩=gh (fF fO b)/\j.cell? ⟨w1.heap.size,2,fU⟩=gh (fF fO 1)/\j.cell? ⟨w1.heap.size,3,fU⟩=gh (fF fO d)/\j.cell? ⟨w1.heap.size+1,0,fU⟩=gh (fF fO q)/\j.cell? ⟨ab,f,fU⟩=gh (fF fP x)/\j.cell? ⟨ab,f+1,fU⟩=gh (fF fP y):=⟨(h.cell (p:=⟨w.heap.size,0,fU⟩) aF).trans v,(h.cell (p:=⟨w1.heap.size,0,fU⟩) C).trans aJ,(h.cell (p:=⟨w1.heap.size,1,fU⟩) C).trans aK,(h.cell (p:=⟨w1.heap.size,2,fU⟩) C).trans aL,(h.cell (p:=⟨w1.heap.size,3,fU⟩) C).trans qg,(h.cell (p:=⟨w1.heap.size+1,0,fU⟩) aG).trans M,(h.cell (p:=⟨ab,f,fU⟩) V).trans B,(h.cell (p:=⟨ab,f+1,fU⟩) V).trans q1⟩;have D:=fQ h;clear h))
    all_goals
     go_wp2;go_ret2;unfold jW;rw[G.out,oZ,gy fy,gy fy,gy fy,gy fy,gy fy,N.out,aI.out];exact⟨rfl,s.drew.trans (D.mono s.out.size)⟩
   ·have P:=fk2 w.heap.size w1.heap.size (w1.heap.size+1) w2.heap.size
    have hW:(d=126/\(if d=126 then 64 else 32:Nat)=64/\x<18446744073709551616)\/(d=127/\(if d=126 then 64 else 32:Nat)=32/\x<4294967296):=by
     rcases bk with rfl|rfl
     ·exact .inl ⟨rfl,rfl,F⟩
     ·exact .inr ⟨rfl,rfl,by have:=bp.out;simp[iK]at this;exact this⟩
    have bC:=(eWs w.heap.size w1.heap.size (w1.heap.size+1) ab f k r x _ q a b 2 d _ v B Y M (by have:=I rfl;omega) qg aF aG V C bn.out hW);obtain⟨z,HZ⟩:∃ z,(lE (if d=126 then 64 else 32) x).getD q 0=z:=⟨_,rfl⟩;rw[HZ]at bC;have aM:=fQ bC;replace HZ:=fQ HZ;clear hW bC;clear Q H I J R K L;go_wp2_with fail;refine aM.mono ?_;rintro e j ⟨rfl,h⟩;have D:=fQ (s.trans (h.mono s.out.size));clear h;go_wp2;go_ret2;unfold jW;rw[G.out,oZ,gy fy,gz rfl,N.out,Ab,HZ.out];exact⟨rfl,D.out⟩
   ·have P:=fk3 w.heap.size w1.heap.size (w1.heap.size+1) w2.heap.size;have bq:2<=k:=(by have:=aA.out;rw[gJ,Z.out]at this;simp at this;omega);have W:=ax.at_ (k:=1) fu;simp only[hH,Ad]at W;have ah:=aw.out _ (AJ (show 1<l.length by rw[m.out];omega));have aI:=fQ (show l.getD 1 0=l[1]'(by rw[m.out];omega) by rw[Az,Aj (by rw[m.out];omega)];rfl);have X:=List.all_eq_true.1 aH.out _ (AJ (show 1<l.length by rw[m.out];omega));generalize l[1]'(by rw[m.out];omega)=y at W ah aI X;have q1:=((Ak g.heap.size g).alloc (Aq _) (fL w.heap.size w1.heap.size (w1.heap.size+1) w2.heap.size 5)).cell (p:=⟨ab,f+1,fU⟩) zd |>.trans W;have aJ:=((Ak g.heap.size g).alloc (Aq _) (fL w.heap.size w1.heap.size (w1.heap.size+1) w2.heap.size 5)).cell (p:=⟨w1.heap.size,0,fU⟩) U |>.trans aQ;have aK:=((Ak g.heap.size g).alloc (Aq _) (fL w.heap.size w1.heap.size (w1.heap.size+1) w2.heap.size 5)).cell (p:=⟨w1.heap.size,1,fU⟩) U |>.trans aR;have aL:=((Ak g.heap.size g).alloc (Aq _) (fL w.heap.size w1.heap.size (w1.heap.size+1) w2.heap.size 5)).cell (p:=⟨w1.heap.size,2,fU⟩) U |>.trans aS;have br:q<15:=(by have:=J rfl;omega);have bs:=fQ (fun S=>cKm a b 3 d q x y S fu bk bp.out X F ah);have bt:0<k:=fu;have bw:(1:Int)<(k:Int):=fu;clear X Q H I J R K L;go_wp2_with fail;generalize g.alloc (fL w.heap.size w1.heap.size (w1.heap.size+1) w2.heap.size 5)=o at *;have bz:o.cell? ⟨w.heap.size,0,fU⟩=gh (fG (gh ⟨ab,f,fU⟩) k r)/\o.cell? ⟨w1.heap.size,0,fU⟩=gh (fF fO a)/\o.cell? ⟨w1.heap.size,1,fU⟩=gh (fF fO b)/\o.cell? ⟨w1.heap.size,2,fU⟩=gh (fF fO 3)/\o.cell? ⟨w1.heap.size,3,fU⟩=gh (fF fO d)/\o.cell? ⟨w1.heap.size+1,0,fU⟩=gh (fF fO q)/\o.cell? ⟨ab,f,fU⟩=gh (fF fP x)/\o.cell? ⟨ab,f+1,fU⟩=gh (fF fP y):=⟨v,aJ,aK,aL,qg,M,B,q1⟩;clear P bn aT ax bf aQ aR aS bc bd be hq qo i0 i1 i2 i3 i4 bG bH HF HI aU aw;go_region_held3 (fun w'=>w'.cell? ⟨w.heap.size,0,fU⟩=gh (fG (gh ⟨ab,f,fU⟩) k r)/\w'.cell? ⟨w1.heap.size,0,fU⟩=gh (fF fO a)/\w'.cell? ⟨w1.heap.size,1,fU⟩=gh (fF fO b)/\w'.cell? ⟨w1.heap.size,2,fU⟩=gh (fF fO 3)/\w'.cell? ⟨w1.heap.size,3,fU⟩=gh (fF fO d)/\w'.cell? ⟨w1.heap.size+1,0,fU⟩=gh (fF fO q)/\w'.cell? ⟨ab,f,fU⟩=gh (fF fP x)/\w'.cell? ⟨ab,f+1,fU⟩=gh (fF fP y)) (first|exact bz|exact bB) (first|(go_at_call 130;refine(bs.out _).mono ?_;rintro e j ⟨rfl,h⟩;have bB:j.cell? ⟨w.heap.size,0,fU⟩=gh (fG (gh ⟨ab,f,fU⟩) k r)/\j.cell? ⟨w1.heap.size,0,fU⟩=gh (fF fO a)/\j.cell? ⟨w1.heap.size,1,fU⟩=gh (fF fO b)/\j.cell? ⟨w1.heap.size,2,fU⟩=gh (fF fO 3)/\j.cell? ⟨w1.heap.size,3,fU⟩=gh (fF fO d)/\j.cell? ⟨w1.heap.size+1,0,fU⟩=gh (fF fO q)/\j.cell? ⟨ab,f,fU⟩=gh (fF fP x)/\j.cell? ⟨ab,f+1,fU⟩=gh (fF fP y):=⟨(h.cell (p:=⟨w.heap.size,0,fU⟩) aF).trans v,(h.cell (p:=⟨w1.heap.size,0,fU⟩) C).trans aJ,(h.cell (p:=⟨w1.heap.size,1,fU⟩) C).trans aK,(h.cell (p:=⟨w1.heap.size,2,fU⟩) C).trans aL,(h.cell (p:=⟨w1.heap.size,3,fU⟩) C).trans qg,(h.cell (p:=⟨w1.heap.size+1,0,fU⟩) aG).trans M,(h.cell (p:=⟨ab,f,fU⟩) V).trans B,(h.cell (p:=⟨ab,f+1,fU⟩) V).trans q1⟩;have D:=fQ h;clear h))
    all_goals
     go_wp2;go_ret2;unfold jW;rw[G.out,oZ,gy fy,gy fy,gy fy,gy fy,gy fy,N.out,aI.out];exact⟨rfl,s.drew.trans (D.mono s.out.size)⟩
   ·have P:=fk4 w.heap.size w1.heap.size (w1.heap.size+1) w2.heap.size;clear Q H I J R K L;go_wp2_with fail;refine gu (eWp w.heap.size ab f _ r x _ v B Y) ?_;go_wp2;go_ret2;unfold jW;rw[G.out,oZ,gy fy,gy fy,gz rfl,N.out];exact⟨rfl,s.out⟩
   ·have P:=fk5 w.heap.size w1.heap.size (w1.heap.size+1) w2.heap.size;have aM:=fQ (eWq w.heap.size (w1.heap.size+1) ab f k r x q _ v B Y M (by have:=K rfl;omega) aF aG V);clear Q H I J R K L;go_wp2_with fail;refine aM.mono ?_;rintro e j ⟨rfl,h⟩;have D:=fQ (s.trans (h.mono s.out.size));clear h;go_wp2;go_ret2;unfold jW;rw[G.out,oZ,gy fy,gy fy,gy fy,gz rfl,N.out];exact⟨rfl,D.out⟩
   ·have P:=fk6 w.heap.size w1.heap.size (w1.heap.size+1) w2.heap.size;have aM:=fQ (eWr w.heap.size (w1.heap.size+1) w2.heap.size ab f k r x q O _ v B Y M (by have:=L rfl;omega) qo aF aG V bQ);clear Q H I J R K L;go_wp2_with fail;refine aM.mono ?_;rintro e j ⟨rfl,h⟩;have D:=fQ (s.trans (h.mono s.out.size));clear h;go_wp2;go_ret2;unfold jW;rw[G.out,oZ,gy fy,gy fy,gy fy,gy fy,gz rfl,N.out];exact⟨rfl,D.out⟩
theorem eJv(op:Int)(A:Option Addr)(n e:Nat)(l:List Nat)(w:Bg)(h1 : -9223372036854775808<=op)(h2:op<=9223372036854775807)(hs:Src w A n (hH l))(h:ij l)(i:Tabs w):
  Bi fZ 94 #[fF fO op,fG A n e] w (jW (oV op l) w):=by
 cases hg:gQ op with
 | none=>exact dVv op A n e l w h1 h2 hg
 | some g=>
  obtain⟨a,b,c,d⟩:=g;by_cases f:(gJ op).length=n
  ·exact dVw op a b c d A n e l w h1 h2 hg hs h i f
  ·exact eJu op a b c d A n e l w h1 h2 hg (by have:=hs.1;simpa[hH]using this) f
end Go.Proofs.YtabibkpfgmolkaaGreatDoor

/- Lemmas for the claim, part 7. Conditions: none. -/
import Derived.Test.YtabibkpfgmolkaaGreatPl06
import Derived.Deep.RegionHeld3
import Derived.Shelf.Spec.TrailingZeros
set_option maxRecDepth 100000
set_option maxHeartbeats 16000000
set_option linter.unusedVariables false
set_option linter.unusedSimpArgs false
open Go.Lib renaming hid→fQ
open Go.Proofs.Tryz renaming prog→fZ
open Go.Proofs.Tryz
open Go.RowKit
open List renaming getElem?_eq_getElem→Aj,getD_cons_zero→Aq,getD_cons_succ→Ax,mem_of_getElem?→Ak,length_drop→Aw,getD_eq_getElem?_getD→Ay,drop_eq_nil_of_le→AZ,length_replicate→AK,mem_cons_of_mem→AV,length_take→AW,mem_cons_self→Ad,length_append→Af,take_of_length_le→Ah,mem_of_mem_take→Bj,mem_of_mem_drop→Bq,take_succ_cons→Bx,not_mem_nil→By,countP_cons→BJ,length_set→BX,length_map→BZ,replicate→BV,mem_cons→BW,range→Bd
open Nat renaming le_refl→Az,zero_le→AJ,le_add_right→AY,div_le_self→Ab,lt_of_lt_of_le→Ae,pow_succ→Ag,strongRecOn→Ai,lt_or_eq_of_le→Bz,le_trans→Bk,le_of_eq→Bv,mod_le→BK,add_zero→BY,mul_comm→Bb
open Option renaming some→AQ
open Go.IntKind renaming wrap_u32→AX,wrap_u64→BQ
open Int renaming ediv_nonneg→Ac,emod_eq_of_lt→Bw,le_of_lt→Ba,pow_pos→Bc
open Go renaming World→Be
namespace Go.Proofs.YtabibkpfgmolkaaGreat
variable {k lost n d x b i j vb rb:Nat}{a V l:List Nat}{outs:List Int}{wB wr w w':Be}{out op:Int}{p q t s v:Value}
theorem lQ{e:EnvD}{r:RowD}{c:CodeD}(h:codeOk e r c=true):∃ i o,iZ e r.sig c.op c.n=some (i,o)/\c.args.length=i.length/\c.outs.length=o.length/\qK c.op<=c.to.length/\(c.to.length:Int)<=nX c.op/\(∀ x∈c.to,0<=x/\x<r.code.length)/\(∀ x∈c.args,0<=x/\x<r.places)/\(∀ x∈c.outs,0<=x/\x<r.places)/\c.outs.Nodup:=by
 unfold codeOk at h
 cases hf:iZ e r.sig c.op c.n with
 | none=>rw[hf]at h;cases h
 | some b=>
  obtain⟨i,o⟩:=b;rw[hf]at h;simp only[Bool.and_eq_true,decide_eq_true_eq]at h;obtain⟨⟨h1,h2,d,f⟩,g,j,k,m⟩:=h
  have w:∀ {n:Int} {l:List Int},within n l=true->∀ x∈l,0<=x/\x<n:=fun a x p=>by
   unfold within at a;have:=List.all_eq_true.1 a x p
   simpa using this
  exact⟨i,o,rfl,h1,h2,d,f,w m,w g,w j,k⟩
theorem aJi{e:EnvD}{c:CodeD}{s:StD}(h:actV e c k a s = .ret l):c.op=276/\l=a:=by
 unfold actV at h;simp only at h
 repeat' split at h
 all_goals first | cases h | skip
 ·rename_i h1;exact⟨h1,rfl⟩
theorem aVj{e:EnvD}{c:CodeD}{s:StD}(h:actV e c k a s = .go j):(c.op=273/\j=(c.to.getD 0 0).toNat)\/(c.op=274/\(j=k+1\/j=(c.to.getD 0 0).toNat))\/(c.op=275/\j=(c.to.getD (min (a.getD 0 0) (c.to.length - 1)) 0).toNat):=by
 unfold actV at h;simp only at h
 repeat' split at h
 all_goals first
  | cases h
  | skip
 all_goals simp_all
theorem aQr{e:EnvD}{c:CodeD}{s s':StD}{x:Int}(h:actV e c k a s = .trap x s'):x≠0:=by
 unfold actV at h;simp only at h
 repeat' split at h
 all_goals first
  | (injection h with h1 h2;subst h1;first | assumption | decide)
  | cases h
theorem pY{e:EnvD}{c:CodeD}{s:StD}(h:actV e c k a s = .call n):c.op=16/\n=c.n/\¬(c.n:Int)<e.imports:=by
 unfold actV at h;simp only at h
 repeat' split at h
 all_goals first
  | (injection h with h1;subst h1;exact⟨by assumption,rfl,by assumption⟩)
  | cases h
theorem rK{e:EnvD}{c:CodeD}{s s':StD}(h:actV e c k a s = .vals l s'):c.op≠273/\c.op≠274/\c.op≠275/\c.op≠276/\c.op≠277 /\
  ((c.op=16/\(c.n:Int)<e.imports/\hostV c.n ((e.sigs.getD c.n ⟨[],[]⟩).out) a s=(l,0,s'))\/(c.op≠16/\l = [(mZ c a s).1]/\(mZ c a s).2.1=0/\s'=(mZ c a s).2.2)):=by
 unfold actV at h;simp only at h
 repeat' split at h
 all_goals first
  | (injection h with h1 h2;subst h1;subst h2;refine⟨by assumption,by assumption,by assumption,by assumption,by assumption,?_⟩)
  | cases h
 ·rename_i b himp d;refine .inl ⟨b,himp,?_⟩;rw[<-d]
 ·rename_i b d;exact .inr ⟨b,rfl,d,rfl⟩
theorem aKl{s s':StD}(h:hostV n outs a s=(l,0,s')):l.length=outs.length/\s'.fuel=s.fuel:=by
 unfold hostV at h
 split at h
 ·rename_i hle;injection h with h1 h2;injection h2 with h2 b;subst h1;subst b;refine⟨?_,rfl⟩;rw[uW _ _ (by rw[AW];omega),AW];omega
 ·injection h with h1 h2;injection h2 with h2 b;omega
theorem yY(c:CodeD)(a:List Nat)(s:StD):(mZ c a s).2.2.fuel<=s.fuel/\(c.op=258->(mZ c a s).2.1=0->(mZ c a s).2.2.fuel<s.fuel):=by
 unfold mZ
 repeat' split
 all_goals simp_all
 all_goals omega
theorem cKm{c:CodeD}{s:StD}(h:c.op=272):(mZ c a s).1=a.getD 0 0:=by
 unfold mZ;rw[if_neg (by omega),if_pos h]
theorem cKn{m:Bool}{i o:List Int}(h:mY m op n=some (i,o)):o.length<=1:=by
 unfold mY at h
 repeat' split at h
 all_goals (cases h <;> first | exact Az _ | exact AJ _ | (split <;> first | exact Az _ | exact AJ _) | skip)
theorem aYj{e:EnvD}{s:SigD}{i o:List Int}(h:iZ e s op n=some (i,o))(a:op≠16):o.length<=1:=by
 unfold iZ at h
 repeat' split at h
 all_goals first
  | exact cKn h
  | (cases hg:e.globals[n]? with
    | none=>rw[hg]at h;cases h
    | some g=>rw[hg]at h;cases h;exact Az _)
  | (rename_i hq;exact absurd hq a)
  | (cases h <;> first | exact Az _ | exact AJ _)
theorem bKa{e:EnvD}{r:RowD}{c:CodeD}{s s':StD}(h:actV e c k a s = .vals l s')(d:codeOk e r c=true):c.outs.length<=l.length:=by
 obtain⟨i,o,hf,_,ho,_⟩:=lQ d;obtain⟨_,_,_,_,_,h | ⟨b,rfl,_⟩⟩:=rK h
 ·obtain⟨b,_,f⟩:=h;rw[(aKl f).1,ho];rw[b]at hf;have hf:(e.sigs[c.n]?).map (fun g=>(g.inn,g.out))=some (i,o):=hf
  cases hg:e.sigs[c.n]? with
  | none=>rw[hg]at hf;cases hf
  | some g=>
   rw[hg]at hf;injection hf with hf;injection hf with h1 h2;rw[Ay,hg,<-h2];exact Az _
 ·have:=aYj hf b;rw[ho]
  simpa using this
theorem uQ{c:CodeD}(h1:c.op≠273)(h2:c.op≠274)(h3:c.op≠275)(h4:c.op≠276)(h5:c.op≠277):nextOf c k = [(k:Int)+1]:=by
 unfold nextOf;rw[if_neg (by omega),if_neg (by omega),if_neg (by omega)]
theorem bQr{e:EnvD}{r:RowD}{c:CodeD}{s:StD}(h:actV e c k a s = .go j)(p:codeOk e r c=true):(j:Int)∈nextOf c k/\c.outs = []:=by
 obtain⟨i,o,hf,_,ho,d,_,t,_⟩:=lQ p
 have g:∀ x∈c.to,((x.toNat:Nat):Int)=x:=fun x u=>by have:=t x u;omega
 have m:o = []->c.outs = []:=fun e=>by subst e;exact List.length_eq_zero_iff.1 ho
 have hn:∀ op,(op=273\/op=274\/op=275)->c.op=op->o = []:=fun op h1 h2=>by
  rw[h2]at hf;rcases h1 with rfl | rfl | rfl
  ·have hf:(if c.n=0 then some (([]:List Int),([]:List Int))else none)=some (i,o):=hf
   split at hf
   ·injection hf with hf;injection hf with _ h;exact h.symm
   ·cases hf
  ·have hf:(if c.n=0 then some (([127]:List Int),([]:List Int))else none)=some (i,o):=hf
   split at hf
   ·injection hf with hf;injection hf with _ h;exact h.symm
   ·cases hf
  ·have hf:(if c.n=0 then some (([127]:List Int),([]:List Int))else none)=some (i,o):=hf
   split at hf
   ·injection hf with hf;injection hf with _ h;exact h.symm
   ·cases hf
 have hg:∀ q,q<c.to.length->c.to.getD q 0∈c.to:=fun q hq=>by
  rw[Ay,Aj hq];exact List.getElem_mem hq
 rcases aVj h with⟨b,rfl⟩ | ⟨b,v⟩ | ⟨b,rfl⟩
 ·have f:0<c.to.length:=(by rw[b]at d;have:(1:Int)<=c.to.length:=d;omega);refine⟨?_,m (hn 273 (.inl rfl) b)⟩;unfold nextOf;rw[if_neg (by omega),if_pos (by omega),g _ (hg 0 f)];exact hg 0 f
 ·have f:0<c.to.length:=(by rw[b]at d;have:(1:Int)<=c.to.length:=d;omega);refine⟨?_,m (hn 274 (.inr (.inl rfl)) b)⟩;unfold nextOf;rw[if_neg (by omega),if_neg (by omega),if_pos b];rcases v with rfl | rfl
  ·simp
  ·rw[g _ (hg 0 f)]
   match hc:c.to,f with
   | x :: l,_=>simp
 ·have f:0<c.to.length:=(by rw[b]at d;have:(1:Int)<=c.to.length:=d;omega);refine⟨?_,m (hn 275 (.inr (.inr rfl)) b)⟩;unfold nextOf;rw[if_neg (by omega),if_pos (by omega),g _ (hg _ (by omega))];exact hg _ (by omega)
theorem wY{e:EnvD}{r:RowD}{c:CodeD}(hc:CheckP e r)(b:r.code[k]? = some c)(a:(j:Int)∈nextOf c k):j<r.code.length:=by
 have g:=Ak b;obtain⟨_,_,_,_,_,d,_,i,_⟩:=lQ (hc.code c g);have ah:=(List.getElem?_eq_some_iff.1 b).1
 have last:(c.op≠273/\c.op≠275/\c.op≠276/\c.op≠277)->k+1<r.code.length:=fun hn=>by
  refine Classical.byContradiction fun ai=>?_;have:k=r.code.length - 1:=(by omega);rw[this]at b;have:=hc.last c b;omega
 have f:(j:Int)∈c.to->j<r.code.length:=fun h=>by have:=i _ h;omega
 unfold nextOf at a
 split at a
 ·simp at a
 ·split at a
  ·exact f a
  ·split at a
   ·simp only[BW,By,or_false]at a;rcases a with a | a
    ·have:=last (by omega);omega
    ·refine f ?_;rename_i m;have n:0<c.to.length:=(by rw[m]at d;have:(1:Int)<=c.to.length:=d;omega)
     match o:c.to,n with
     | x :: l,_=>rw[o]at a;simp at a;rw[a];simp
   ·simp only[BW,By,or_false]at a;have:=last (by omega);omega
theorem bWs{p:RowsD}{r:RowD}{c:CodeD}(hp:ProgP p)(a:c.op=16)(b:codeOk p.env r c=true)(hi:¬(c.n:Int)<p.env.imports):∃ q g,p.fns[c.n - p.env.imports.toNat]? = some q/\p.env.sigs[c.n]? = some g/\g=q.sig:=by
 obtain⟨i,o,hf,_⟩:=lQ b;rw[a]at hf;have hf:(p.env.sigs[c.n]?).map (fun g=>(g.inn,g.out))=some (i,o):=hf
 cases hg:p.env.sigs[c.n]? with
 | none=>rw[hg]at hf;cases hf
 | some g=>
  have hl:=(List.getElem?_eq_some_iff.1 hg).1;have he:=mW hp.env;have hn:=hp.len;obtain⟨q,hq⟩:∃ q,p.fns[c.n - p.env.imports.toNat]? = some q:=⟨_,Aj (by omega)⟩;refine⟨q,g,hq,rfl,?_⟩;have:=(hp.row _ q hq).2;rw[show p.env.imports.toNat+(c.n - p.env.imports.toNat)=c.n by omega,hg]at this;injection this
theorem Ev.total{p:RowsD}(hp:ProgP p)(lost:Nat):∀ (f D:Nat) (m:Nat) (r:RowD) (rk:Nat->Nat),CheckP p.env r->(∀ i c (k:Nat),r.code[i]? = some c->c.op≠258->(k:Int)∈nextOf c i->rk k<rk i) ->
  ∀ (d k:Nat) (V:List Nat) (s:StD),s.fuel=f->16 - d=D->rk k=m->k<r.code.length->∃ R,Ev p lost d r k V s R/\R.s.fuel<=s.fuel:=by
 intro f
 induction f using Ai with
 | _ f H=>
 intro D
 induction D using Ai with
 | _ D I=>
 intro m
 induction m using Ai with
 | _ m J=>
 intro r rk hc b d k V s hf A hm K
 have again:∀ (j:Nat) (V':List Nat) (s':StD),j<r.code.length->(s'.fuel<s.fuel\/(s'.fuel=s.fuel/\rk j<rk k))->∃ R,Ev p lost d r j V' s' R/\R.s.fuel<=s'.fuel:=fun j V' s' B C=>by
  rcases C with C | ⟨h1,h2⟩
  ·exact H s'.fuel (by omega) D (rk j) r rk hc b d j V' s' rfl A rfl B
  ·exact J (rk j) (by omega) r rk hc b d j V' s' (by omega) A rfl B
 obtain⟨c,a⟩:∃ c,r.code[k]? = some c:=⟨_,Aj K⟩;have E:=hc.code c (Ak a)
 cases ha:actV p.env c k (argV p.env r c V) s with
 | ret l=>exact⟨_,.ret a ha,Az _⟩
 | trap x s'=>
  refine⟨_,.trap a ha,?_⟩;show s'.fuel<=s.fuel;unfold actV at ha;simp only at ha
  repeat' split at ha
  all_goals first
   | (injection ha with h1 h2;subst h2;first | exact Az _ | exact(yY c _ s).1 | (unfold hostV;split <;> exact Az _))
   | cases ha
 | go j=>
  obtain⟨hn,_⟩:=bQr ha E;have t:c.op≠258:=(by rcases aVj ha with⟨h,_⟩ | ⟨h,_⟩ | ⟨h,_⟩ <;> omega);obtain⟨R,u,F⟩:=again j V s (wY hc a hn) (.inr ⟨rfl,b k c j a t hn⟩);exact⟨_,.go a ha u,F⟩
 | vals l s'=>
  obtain⟨h1,h2,L,M,N,O⟩:=rK ha;have v:=uQ (k:=k) h1 h2 L M N;have o:((k+1:Nat):Int)∈nextOf c k:=(by rw[v];simp)
  have P:s'.fuel<s.fuel\/(s'.fuel=s.fuel/\c.op≠258)\/(s'.fuel<=s.fuel/\c.op≠258):=by
   rcases O with⟨ay,_,Q⟩ | ⟨_,_,S,rfl⟩
   ·exact .inr (.inl ⟨(aKl Q).2,by omega⟩)
   ·by_cases t:c.op=258
    ·exact .inl ((yY c _ s).2 t S)
    ·exact .inr (.inr ⟨(yY c _ s).1,t⟩)
  obtain⟨R,u,F⟩:=again (k+1) (putV c.outs l V) s' (wY hc a o) (by
   rcases P with h | ⟨h,w⟩ | ⟨h,w⟩
   ·exact .inl h
   ·exact .inr ⟨h,b k c (k+1) a w o⟩
   ·rcases Bz h with h | h
    ·exact .inl h
    ·exact .inr ⟨h,b k c (k+1) a w o⟩)
  refine⟨_,.vals a ha u,?_⟩;show R.s.fuel<=s.fuel;omega
 | call n=>
  obtain⟨T,rfl,hi⟩:=pY ha;by_cases hd:d<16
  ·obtain⟨q,g,hq,hg,rfl⟩:=bWs hp T E hi;have y:=(hp.row _ q hq).1;obtain⟨rk',U⟩:=y.rank;obtain⟨R1,G,z⟩:=I (16 - (d+1)) (by omega) (rk' 0) q rk' y U (d+1) 0 (initV q (lowL q.sig.inn (argV p.env r c V))) s hf rfl rfl (by have:=y.n1;omega);by_cases he:R1.e=0
   ·have v:=uQ (c:=c) (k:=k) (by omega) (by omega) (by omega) (by omega) (by omega);have o:((k+1:Nat):Int)∈nextOf c k:=(by rw[v];simp)
    obtain⟨R2,W,X⟩:=again (k+1) (putV c.outs R1.out (zeroV lost V)) R1.s (wY hc a o) (by
     rcases Bz z with h | h
     ·exact .inl h
     ·exact .inr ⟨h,b k c (k+1) a (by omega) o⟩)
    exact⟨_,.call a ha hd hq hg G he W,Bk X z⟩
   ·exact⟨_,.callT a ha hd hq hg G he,z⟩
  ·exact⟨_,.deep a ha (by omega),Az _⟩
theorem Ev.some{p:RowsD}(hp:ProgP p)(lost:Nat){r:RowD}(hc:CheckP p.env r)(d k:Nat)(V:List Nat)(s:StD)(a:k<r.code.length):∃ R,Ev p lost d r k V s R:=by
 obtain⟨rk,b⟩:=hc.rank;obtain⟨R,c,_⟩:=Ev.total hp lost _ _ _ r rk hc b d k V s rfl rfl rfl a;exact⟨R,c⟩
theorem aYm{α:Type}{p q:α->Bool}:∀ (l:List α),(∀ x∈l,p x=true->q x=true)->(∃ x∈l,q x=true/\p x=false)->l.countP p<l.countP q
 | [],_,h=>by obtain⟨x,b,_⟩:=h;simp at b
 | a :: l,hi,h=>by
  have hle:l.countP p<=l.countP q:=List.countP_mono_left (fun x b=>hi x (AV _ b));have ha:=hi a (Ad ..);rw[BJ,BJ];obtain⟨x,b,hq,hp⟩:=h;rcases List.mem_cons.1 b with rfl | b
  ·rw[hq,hp];simp;omega
  ·have:=aYm l (fun x b=>hi x (AV _ b)) ⟨x,b,hq,hp⟩;cases hpa:p a
   ·simp only[Bool.false_eq_true,if_false,BY];exact Ae this (AY _ _)
   ·rw[ha hpa];simp only[if_true];omega
structure RkOk (r:RowD) (rk:Nat->Nat):Prop where
 lt:∀ i,rk i<=4096
 fall:∀ i c (k:Nat),r.code[i]? = some c->c.op≠258->(k:Int)∈nextOf c i->k<r.code.length->rk k<rk i
theorem CheckP.eZc{e:EnvD}{r:RowD}(h:CheckP e r):∃ rk,RkOk r rk:=by
 obtain⟨rk,a⟩:=h.rank;refine⟨fun i=>(Bd r.code.length).countP fun j=>decide (rk j<rk i),fun i=>?_,fun i c k hc ho hn b=>?_⟩
 ·have:=List.countP_le_length (p:=fun j=>decide (rk j<rk i)) (l:=Bd r.code.length);rw[List.length_range]at this;have:=h.n2;omega
 ·have d:=a i c k hc ho hn;refine aYm _ (fun j _ f=>?_) ⟨k,List.mem_range.2 b,by simpa using d,by simp⟩;simp only[decide_eq_true_eq]at f ⊢;omega
theorem cKr{e:EnvD}{c:CodeD}{s s':StD}{x:Int}(ha:actV e c k a s = .trap x s'):s'.fuel<=s.fuel:=by
 unfold actV at ha;simp only at ha
 repeat' split at ha
 all_goals first
  | (injection ha with h1 h2;subst h2;first | exact Az _ | exact(yY c _ s).1 | (unfold hostV;split <;> exact Az _))
  | cases ha
theorem cKs{e:EnvD}{c:CodeD}{s s':StD}(ha:actV e c k a s = .vals l s'):s'.fuel<=s.fuel/\(c.op=258->s'.fuel<s.fuel):=by
 obtain⟨h1,h2,h3,h4,h5,b⟩:=rK ha;rcases b with⟨aa,_,d⟩ | ⟨_,_,f,rfl⟩
 ·exact⟨Bv (aKl d).2,fun h=>by omega⟩
 ·exact⟨(yY c _ s).1,fun h=>(yY c _ s).2 h f⟩
def eXb(s:StD)(R:ResD)(op:Int)(n:Nat):Prop:=
 R.cnt+4098*R.s.fuel<=4098*s.fuel+n+1/\(op=258->R.cnt+4098*R.s.fuel<=4098*s.fuel+1/\(R.e=0->R.cnt+4098*R.s.fuel<=4098*s.fuel))
theorem Ev.eJc{p:RowsD}{r:RowD}{s:StD}{R:ResD}(hp:ProgP p)(h:Ev p lost d r k V s R):CheckP p.env r->∀ rk,RkOk r rk->∀ c,r.code[k]? = AQ c->eXb s R c.op (rk k):=by
 induction h with
 | ret hc ha=>
  intro b rk e c a;rw[hc]at a;injection a with a;subst a;have:=(aJi ha).1;exact⟨by dsimp only;omega,fun h=>by omega⟩
 | trap hc ha=>
  intro b rk e c a;have:=cKr ha;have m:=aQr ha;refine⟨?_,fun h=>⟨?_,fun h=>absurd h m⟩⟩ <;> (dsimp only;omega)
 | @go d r k k' V s c R hc ha hn u=>
  intro b rk e c a;rw[hc]at a;injection a with a;subst a;have y:=b.code _ (Ak hc);obtain⟨j,_⟩:=bQr ha y;have f:=wY b hc j;have t:c.op≠258:=(by rcases aVj ha with⟨h,_⟩ | ⟨h,_⟩ | ⟨h,_⟩ <;> omega);have v:=e.fall k c k' hc t j f;have:=(u b rk e _ (Aj f)).1;exact⟨by dsimp only;omega,fun h=>absurd h t⟩
 | @vals d r k V s s' c l R hc ha hn u=>
  intro b rk e c a;rw[hc]at a;injection a with a;subst a;have y:=b.code _ (Ak hc);obtain⟨h1,h2,A,B,C,_⟩:=rK ha;have j:=uQ (k:=k) h1 h2 A B C;have f:((k+1:Nat):Int)∈nextOf c k:=(by rw[j];simp);have o:=wY b hc f;obtain⟨hf,D⟩:=cKs ha;have:=(u b rk e _ (Aj o)).1;have aq:=e.lt (k+1);by_cases t:c.op=258
  ·have:=D t;exact⟨by dsimp only;omega,fun _=>⟨by dsimp only;omega,fun _=>by dsimp only;omega⟩⟩
  ·have v:=e.fall k c (k+1) hc t f o;exact⟨by dsimp only;omega,fun h=>absurd h t⟩
 | @call d r q k n V s c g R1 R2 hc ha hd hq hg h1 he h2 ih1 ih2=>
  intro b rk e c a;rw[hc]at a;injection a with a;subst a;obtain⟨z,rfl,_⟩:=pY ha;have j:=uQ (c:=c) (k:=k) (by omega) (by omega) (by omega) (by omega) (by omega);have f:((k+1:Nat):Int)∈nextOf c k:=(by rw[j];simp);have o:=wY b hc f;have v:=e.fall k c (k+1) hc (by omega) f o;have i:=(hp.row _ q hq).1;obtain⟨rk',w⟩:=i.eZc;have x:0<q.code.length:=(by have:=i.n1;omega);have m:=Aj x;have a1:=((ih1 i rk' w _ m).2 (i.first _ m)).2 he;have a2:=(ih2 b rk e _ (Aj o)).1;exact⟨by dsimp only;omega,fun h=>by omega⟩
 | @callT d r q k n V s c g R1 hc ha hd hq hg h1 he ih1=>
  intro b rk e c a;rw[hc]at a;injection a with a;subst a;obtain⟨z,rfl,_⟩:=pY ha;have j:=uQ (c:=c) (k:=k) (by omega) (by omega) (by omega) (by omega) (by omega);have f:((k+1:Nat):Int)∈nextOf c k:=(by rw[j];simp);have o:=wY b hc f;have v:=e.fall k c (k+1) hc (by omega) f o;have i:=(hp.row _ q hq).1;obtain⟨rk',w⟩:=i.eZc;have x:0<q.code.length:=(by have:=i.n1;omega);have m:=Aj x;have a1:=((ih1 i rk' w _ m).2 (i.first _ m)).1;exact⟨by dsimp only;omega,fun h=>by omega⟩
 | @deep d r k n V s c hc ha hd=>
  intro b rk e c a;rw[hc]at a;injection a with a;subst a;obtain⟨z,rfl,_⟩:=pY ha;exact⟨by dsimp only;omega,fun h=>by omega⟩
theorem Ev.eJd{p:RowsD}{r:RowD}{s:StD}{R:ResD}(hp:ProgP p)(h:Ev p lost d r 0 V s R)(a:CheckP p.env r):R.cnt<=4098*s.fuel+1:=by
 obtain⟨rk,c⟩:=a.eZc;have e:0<r.code.length:=(by have:=a.n1;omega);have b:=Aj e;have:=((h.eJc hp a rk c _ b).2 (a.first _ b)).1;omega
theorem iX{k:IntKind}{p q:Int}{r:Value}(h:p=q):Ending.returned (.tuple #[.int k p,r]) = .returned (.tuple #[.int k q,r]):=by rw[h]
theorem qJ(z:Int):IntKind.u64.wrap (wrap64 z)=z % 18446744073709551616:=by rw[BQ];unfold wrap64;omega
theorem zV{M:Int}{a:Nat}(h:(a:Int)<M):((a:Int) / b) % M=(a:Int) / b:=by
 have h1:((a:Int) / b)=((a / b:Nat):Int):=(by simp);have h2:=Ab a b;rw[h1];exact Bw (Int.natCast_nonneg _) (by omega)
theorem zW{M:Int}{a:Nat}(h:(a:Int)<M):((a:Int) % b) % M=(a:Int) % b:=by
 have h1:((a:Int) % b)=((a % b:Nat):Int):=(by simp);have h2:=BK a b;rw[h1];exact Bw (by omega) (by omega)
theorem cWt(k:Int)(a b:Nat)(x y:Int)(ha:a<4294967296):0<=(jQ 4294967296 (-2147483648) k a b x y).1/\(jQ 4294967296 (-2147483648) k a b x y).1<4294967296:=by
 have h1:(a:Int) / b=((a / b:Nat):Int):=(by simp);have h2:=Ab a b;have h5:0<=(a:Int) / b:=Ac (by omega) (by omega);have h3:(a:Int) % b=((a % b:Nat):Int):=(by simp);have h4:=BK a b;unfold jQ
 repeat' split
 all_goals (simp only;omega)
theorem bKz(o:BinOp)(x y:Int):0<=bits o .u32 x y/\bits o .u32 x y<4294967296:=by
 have h:∃ z,bits o .u32 x y=IntKind.u32.wrap z:=⟨_,rfl⟩;obtain⟨z,hz⟩:=h;rw[hz,AX];omega
theorem cWu(a b by_:Nat)(x:Int)(ha:a<4294967296)(k:Nat):0<=(oW .u32 32 a b by_ x).getD k 0/\(oW .u32 32 a b by_ x).getD k 0<4294967296:=by
 have h1:(a:Int) / 2 ^ by_=((a / 2 ^ by_:Nat):Int):=(by simp);have h2:=Ab a (2 ^ by_);have h5:0<=(a:Int) / 2 ^ by_:=Ac (by omega) (Ba (Bc (by omega)));have hb:=fun o x y=>bKz o x y;unfold oW
 match k with
 | 0=>simp only[Aq,Ax,AX];omega
 | 1=>simp only[Aq,Ax,AX];omega
 | 2=>simp only[Aq,Ax,AX];omega
 | 3=>simp
 | 4=>simp
 | 5=>simp
 | 6=>simp
 | 7=>simp only[Aq,Ax];exact hb _ _ _
 | 8=>simp only[Aq,Ax];exact hb _ _ _
 | 9=>simp only[Aq,Ax];exact hb _ _ _
 | 10=>simp only[Aq,Ax,AX];omega
 | 11=>simp only[Aq,Ax,AX];omega
 | 12=>simp only[Aq,Ax];omega
 | 13=>simp only[Aq,Ax];exact hb _ _ _
 | 14=>simp only[Aq,Ax];exact hb _ _ _
 | k+15=>simp
section
open Go.Lib
theorem aYx:∀ (a b x:Nat),popAux (a+b) x=popAux a x+popAux b (x / 2 ^ a)
 | 0,b,x=>by simp[popAux]
 | a+1,b,x=>by
  rw[show a+1+b=(a+b)+1 from by omega,popAux,popAux,aYx a b (x / 2),Nat.div_div_eq_div_mul,Ag,Bb 2];omega
theorem cQv:∀ (a x:Nat),popAux a (x % 2 ^ a)=popAux a x
 | 0,x=>rfl
 | a+1,x=>by
  rw[popAux,popAux,<-cQv a (x / 2)];have h1:x % 2 ^ (a+1) % 2=x % 2:=(by rw[Ag];exact Nat.mod_mul_left_mod x (2 ^ a) 2);have h2:x % 2 ^ (a+1) / 2=x / 2 % 2 ^ a:=(by rw[Ag,Bb];exact Nat.mod_mul_right_div_self x 2 (2 ^ a));rw[h1,h2]
theorem aKy:∀ a x,popAux a x<=a
 | 0,_=>Az _
 | a+1,x=>by rw[popAux];have:=aKy a (x / 2);omega
def cQw(c:Nat):Nat->Nat
 | 0=>0
 | n+1=>cQw c n*256+c
end
theorem m0:cQw 85 8=6148914691236517205:=by decide
theorem m1:cQw 51 8=3689348814741910323:=by decide
theorem m2:cQw 15 8=1085102592571150095:=by decide
theorem aKw:∀ f x,Lib.bitLenAux f x<=f
 | 0,_=>Az _
 | f+1,x=>by
  rw[Lib.bitLenAux];have:=aKw f (x / 2)
  split <;> omega
theorem eQc(q:(out == 127)=true):rZ 0 out x=wrap64 (IntKind.i8.wrap x) % 4294967296:=by rw[rZ,if_pos (eq_of_beq q),aWr,if_pos rfl]
theorem eQd(q:(out == 127)=false):rZ 0 out x=IntKind.u64.wrap (wrap64 (IntKind.i8.wrap x)):=by rw[rZ,if_neg (ne_of_beq_false q),aWr,if_pos rfl]
theorem eQe(q:(out == 127)=true):rZ 1 out x=wrap64 (IntKind.i16.wrap x) % 4294967296:=by rw[rZ,if_pos (eq_of_beq q),aWr,if_neg (by decide),if_pos rfl]
theorem eQf(q:(out == 127)=false):rZ 1 out x=IntKind.u64.wrap (wrap64 (IntKind.i16.wrap x)):=by rw[rZ,if_neg (ne_of_beq_false q),aWr,if_neg (by decide),if_pos rfl]
theorem eQg(q:(out == 127)=false):rZ 2 out x=IntKind.u64.wrap (wrap64 (wrap32 x)):=by rw[rZ,if_neg (ne_of_beq_false q),aWr,if_neg (by decide),if_neg (by decide)]
theorem aXq:∀ (f x n:Nat),x<2 ^ n->Lib.bitLenAux f x<=n
 | 0,x,n,_=>by simp[Lib.bitLenAux]
 | f+1,x,0,h=>by
  have:x=0:=(by simpa using h);simp[Lib.bitLenAux,this]
 | f+1,x,n+1,h=>by
  rw[Lib.bitLenAux];have:=aXq f (x / 2) n (by rw[Ag]at h;omega)
  split <;> omega
theorem cVx(h:x<4294967296):Lib.bitLen x<=32:=aXq 64 x 32 h
theorem dXh{W g:Nat}{y:Int}(h:(aQe W x).getD k 0=y)(hk:k<3)(hb:Blk w g 3 ((aQe W x).map (Value.int .i64)).toArray):w.cell? ⟨g,k,none⟩=some (.int .i64 y):=by
 rw[hb.cell k];simp only[List.getElem?_toArray,List.getElem?_map];rw[Aj (by simp[aQe];omega),<-h,Ay,Aj (by simp[aQe];omega)];rfl
theorem bWv{W x k:Nat}(a:(W=64/\x<18446744073709551616)\/(W=32/\x<4294967296))(hk:k<3):0<=(aQe W x).getD k 0/\(aQe W x).getD k 0<=64:=by
 have e:k=0\/k=1\/k=2:=by omega
 have hb:Lib.bitLen x<=W:=by
  rcases a with⟨rfl,_⟩ | ⟨rfl,c⟩
  ·exact aKw 64 x
  ·exact cVx c
 have hc:Lib.ctz W x<=W:=by
  by_cases b:x=0
  ·simp[Lib.ctz,b]
  ·have:=(Lib.lowest_bit W x b (by rcases a with⟨rfl,h⟩ | ⟨rfl,h⟩ <;> exact h)).2;omega
 have hp:=aKy W x;have aa:W<=64:=(by rcases a with⟨rfl,_⟩ | ⟨rfl,_⟩ <;> decide);clear a;rcases e with rfl | rfl | rfl
 ·show 0<=(W:Int) - Lib.bitLen x/\(W:Int) - Lib.bitLen x<=64;omega
 ·show 0<=((Lib.ctz W x:Nat):Int)/\((Lib.ctz W x:Nat):Int)<=64;omega
 ·show 0<=((Lib.popAux W x:Nat):Int)/\((Lib.popAux W x:Nat):Int)<=64;omega
def jW(p:Int×Int)(w:Be)(e:Ending)(w':Be):Prop:=e = .returned (.tuple #[.int .u64 p.1,.int .i64 p.2])/\Below w.heap.size w w'
theorem dZx{a b c d:Int}(h:fV op=some (a,b,c,d)):(c=0->b=1)/\(c=1->b=10)/\(c=2->b=3)/\(c=3->b=15)/\(c=4->b=1)/\(c=5->b=2)/\(c=6->b<=3):=by
 have e:=List.mem_of_find?_eq_some h;have f:∀ g∈qY,(g.2.2.1=0->g.2.1=1)/\(g.2.2.1=1->g.2.1=10)/\(g.2.2.1=2->g.2.1=3)/\(g.2.2.1=3->g.2.1=15)/\(g.2.2.1=4->g.2.1=1)/\(g.2.2.1=5->g.2.1=2)/\(g.2.2.1=6->g.2.1<=3):=(by decide);exact f _ e
def tV(z:Int):Prop:=0<=z/\z<18446744073709551616
def In32(z:Int):Prop:=0<=z/\z<4294967296
theorem In32.eXt{z:Int}(h:In32 z):tV z:=⟨h.1,by have:=h.2;omega⟩
theorem aZq(b:Bool):In32 (b01 b):=by cases b <;> simp[b01,In32]
theorem xJ(z:Int):tV (IntKind.u64.wrap z):=by unfold tV;rw[BQ];omega
theorem aYw(z:Int):In32 (z % 4294967296):=by unfold In32;omega
theorem aXr(o:BinOp)(x y:Int):tV (bits o .u64 x y):=by
 have h:∃ z,bits o .u64 x y=IntKind.u64.wrap z:=⟨_,rfl⟩;obtain⟨z,hz⟩:=h;rw[hz];exact xJ z
theorem cWr(a b by_:Nat)(x:Int)(ha:a<18446744073709551616)(k:Nat):tV ((oW .u64 64 a b by_ x).getD k 0):=by
 have h1:(a:Int) / 2 ^ by_=((a / 2 ^ by_:Nat):Int):=(by simp);have h2:=Ab a (2 ^ by_);have d:0<=(a:Int) / 2 ^ by_:=Ac (by omega) (Ba (Bc (by omega)));have hb:=fun o x y=>aXr o x y;have c:tV 0:=⟨by omega,by omega⟩;unfold oW
 match k with
 | 0=>exact xJ _
 | 1=>exact xJ _
 | 2=>exact xJ _
 | 3=>exact c
 | 4=>exact c
 | 5=>exact c
 | 6=>exact c
 | 7=>simp only[Aq,Ax];exact hb _ _ _
 | 8=>simp only[Aq,Ax];exact hb _ _ _
 | 9=>simp only[Aq,Ax];exact hb _ _ _
 | 10=>exact xJ _
 | 11=>exact xJ _
 | 12=>exact(show tV ((a:Int) / 2 ^ by_)from⟨d,by rw[h1];omega⟩)
 | 13=>simp only[Aq,Ax];exact hb _ _ _
 | 14=>simp only[Aq,Ax];exact hb _ _ _
 | k+15=>exact c
theorem cWs(k:Int)(a b:Nat)(x y:Int)(ha:a<18446744073709551616):tV (jQ 18446744073709551616 (-9223372036854775808) k a b x y).1:=by
 have h1:(a:Int) / b=((a / b:Nat):Int):=(by simp);have h2:=Ab a b;have h5:0<=(a:Int) / b:=Ac (by omega) (by omega);have h3:(a:Int) % b=((a % b:Nat):Int):=(by simp);have h4:=BK a b;unfold jQ tV
 repeat' split
 all_goals (simp only;omega)
theorem bKx(M least k:Int)(a b:Nat)(x y:Int):(jQ M least k a b x y).2=0\/(jQ M least k a b x y).2=33\/(jQ M least k a b x y).2=34:=by
 unfold jQ
 repeat' split
 all_goals simp
theorem bKy(c d k:Int)(a b:Nat)(hd:d=126\/d=127)(ha:a<18446744073709551616)(i:d=127->a<4294967296):
  tV (hY c d k a b).1/\(c=1->In32 (hY c d k a b).1)/\(d=127->In32 (hY c d k a b).1)/\((hY c d k a b).2=0\/((hY c d k a b).2≠1/\c≠1/\3<=k/\k<=6)):=by
 have key:∀ z:Int×Int,z.2=0\/z.2=33\/z.2=34->z.2=0\/z.2≠1:=fun z h=>by omega
 rcases hd with rfl | rfl
 ·unfold hY;rw[if_pos rfl];by_cases hc:c=1
  ·rw[if_pos hc];exact⟨(aZq _).eXt,fun _=>aZq _,fun h=>absurd h (by decide),.inl rfl⟩
  ·rw[if_neg hc];by_cases e:3<=k/\k<=6
   ·rw[if_pos e];refine⟨cWs _ _ _ _ _ ha,fun h=>absurd h hc,fun h=>absurd h (by decide),?_⟩;rcases key _ (bKx 18446744073709551616 (-9223372036854775808) (k - 3) a b (wrap64 a) (wrap64 b))with h | h
    ·exact .inl h
    ·exact .inr ⟨h,hc,e.1,e.2⟩
   ·rw[if_neg e];exact⟨cWr _ _ _ _ ha _,fun h=>absurd h hc,fun h=>absurd h (by decide),.inl rfl⟩
 ·have g:=i rfl;unfold hY;rw[if_neg (by decide)];by_cases hc:c=1
  ·rw[if_pos hc];exact⟨(aZq _).eXt,fun _=>aZq _,fun _=>aZq _,.inl rfl⟩
  ·rw[if_neg hc];by_cases e:3<=k/\k<=6
   ·rw[if_pos e];have f:In32 _:=cWt (k - 3) a b (wrap32 a) (wrap32 b) g;refine⟨f.eXt,fun h=>absurd h hc,fun _=>f,?_⟩;rcases key _ (bKx 4294967296 (-2147483648) (k - 3) a b (wrap32 a) (wrap32 b))with h | h
    ·exact .inl h
    ·exact .inr ⟨h,hc,e.1,e.2⟩
   ·rw[if_neg e];have f:In32 _:=cWu a b (b % 32) (wrap32 a) g k.toNat;exact⟨f.eXt,fun h=>absurd h hc,fun _=>f,.inl rfl⟩
theorem vZ(z:Nat):iK 126 z=true:=by simp[iK]
theorem vJ{z:Nat}(h:z<4294967296):iK 127 z=true:=by simp[iK,h]
theorem dKe(k:Int)(x:Nat)(hx:x<18446744073709551616):tV (bKp k x):=by
 unfold bKp
 split
 ·exact xJ _
 ·exact⟨by omega,by omega⟩
theorem dKf(k out:Int)(x:Nat):tV (rZ k out x)/\(out=127->In32 (rZ k out x)):=by
 unfold rZ
 split
 ·exact⟨(aYw _).eXt,fun _=>aYw _⟩
 ·exact⟨xJ _,fun h=>absurd h (by assumption)⟩
theorem aKx(h:All64 l)(i:Nat):l.getD i 0<18446744073709551616:=by
 rw[Ay]
 cases hx:l[i]? with
 | none=>simp
 | some x=>exact h x (Ak hx)
theorem dKg{d:Int}(h:l.all (iK d)=true)(i:Nat)(hd:d=127):l.getD i 0<4294967296:=by
 subst hd;rw[Ay]
 cases a:l[i]? with
 | none=>simp
 | some x=>
  have:=List.all_eq_true.1 h x (Ak a)
  simpa[iK]using this
theorem cQu{a b c d:Int}(hg:fV op=some (a,b,c,d))(h:All64 l)(hf:l.all (iK d)=true):tV (oJ c d (op - a) (kW op) l).1:=by
 obtain⟨hc,hd,_,hle,ad,_,_⟩:=aJa hg;obtain⟨r0,r1,j,r3,r4,r5,r6⟩:=dZx hg;have e:=aKx h 0;have f:=dKg (i:=0) hf;rcases hc with rfl | rfl | rfl | rfl | rfl | rfl | rfl
 ·rw[oJ,if_pos rfl];exact(aZq _).eXt
 ·rw[oJ,if_neg (by decide),if_neg (by decide),if_neg (by decide),if_neg (by decide),if_neg (by decide)];exact(bKy 1 d (op - a) (l.getD 0 0) (l.getD 1 0) hd e f).1
 ·rw[oJ,if_neg (by decide),if_pos rfl]
  have g:=@bWv (if d=126 then 64 else 32) (l.getD 0 0) (op - a).toNat (by
   rcases hd with rfl | rfl
   ·exact .inl ⟨rfl,e⟩
   ·exact .inr ⟨rfl,f rfl⟩) (by have:=j rfl;omega)
  exact⟨g.1,by have:=g.2;omega⟩
 ·rw[oJ,if_neg (by decide),if_neg (by decide),if_neg (by decide),if_neg (by decide),if_neg (by decide)];exact(bKy 3 d (op - a) (l.getD 0 0) (l.getD 1 0) hd e f).1
 ·rw[oJ,if_neg (by decide),if_neg (by decide),if_pos rfl];exact(aYw _).eXt
 ·rw[oJ,if_neg (by decide),if_neg (by decide),if_neg (by decide),if_pos rfl];exact dKe _ _ e
 ·rw[oJ,if_neg (by decide),if_neg (by decide),if_neg (by decide),if_neg (by decide),if_pos rfl];exact(dKf (op - a) (kW op) (l.getD 0 0)).1
structure StOk (e:EnvD) (s:StD):Prop where
 memB:AllB s.mem
 memL:(s.mem.length:Int)<=s.most
 most:s.most<=4096
 glen:s.globals.length=e.globals.length
 g64:All64 s.globals
 l64:All64 s.log
 i64:All64 s.input
 ilen:s.input.length<=100000
 fuel:s.fuel<=1024
theorem StOk.eZq{e:EnvD}{s:StD}(h:StOk e s):s.mem.length<=4096:=by have:=h.memL;have:=h.most;omega
theorem qQ:All64 []:=fun x a=>by simp at a
theorem bXv{b:List Nat}(ha:All64 a)(hb:All64 b):All64 (a++b):=fun x c=>by
 rcases List.mem_append.1 c with h | h
 ·exact ha x h
 ·exact hb x h
theorem bXw(h:n<18446744073709551616):All64 [n]:=fun x a=>by rw[List.mem_singleton.1 a];exact h
theorem cQh(h:All64 l)(k:Nat):All64 (l.take k):=fun x a=>h x (Bj a)
theorem aJl(h:All64 l)(k:Nat):All64 (l.drop k):=fun x a=>h x (Bq a)
theorem aYp(h:All64 l)(k n:Nat)(hn:n<18446744073709551616):All64 (l.set k n):=fun x a=>by
 rcases List.mem_or_eq_of_mem_set a with h1 | h1
 ·exact h x h1
 ·omega
theorem rX:∀ (ks:List Int) (l:List Nat),All64 l->All64 (lowL ks l)
 | [],l,_=>by cases l <;> exact qQ
 | t :: ks,[],_=>qQ
 | t :: ks,x :: l,h=>fun y a=>by
  rcases List.mem_cons.1 a with rfl | a
  ·have:=h x (Ad ..);unfold tZ
   split <;> omega
  ·exact rX ks l (fun z hz=>h z (AV _ hz)) y a
theorem aQd:∀ (os:List Int) (a V:List Nat),All64 a->All64 V->All64 (putV os a V)
 | [],a,V,_,h=>by cases a <;> exact h
 | o :: os,[],V,_,h=>h
 | o :: os,n :: a,V,hn,h=>aQd os a _ (fun x b=>hn x (AV _ b)) (aYp h _ _ (hn n (Ad ..)))
theorem bXx(n:Nat):All64 (BV n 0):=fun x a=>by rw[List.eq_of_mem_replicate a];omega
theorem aVz(lost:Nat)(h:All64 V):All64 (zeroV lost V):=bXv (bXx _) (aJl h _)
theorem xV(r:RowD)(h:All64 a):All64 (initV r a):=aQd _ _ _ h (bXx _)
theorem aYq(h:All64 V)(l:List Int):All64 (qX V l):=fun x a=>by
 obtain⟨p,_,rfl⟩:=List.mem_map.1 a;exact aKx h _
theorem sW(e:EnvD)(r:RowD)(c:CodeD)(h:All64 V):All64 (argV e r c V):=rX _ _ (aYq h _)
theorem cKx(k:Int)(a:Nat)(b:Bool){q:Nat}(h:q<18446744073709551616):tV (xY k a b q):=by
 have h1:tV (if b then sxV a (q:Int)else(q:Int)):=by
  split
  ·exact xJ _
  ·exact⟨by omega,by omega⟩
 unfold xY aKo
 split
 ·exact(aYw _).eXt
 ·exact h1
theorem aKp{m:List Nat}(h:AllB m)(op:Int)(a o:Nat):tV (pV m op a o).1:=by
 have b:tV 0:=⟨by omega,by omega⟩;unfold pV
 cases c:acc op with
 | none=>exact b
 | some x=>
  obtain⟨k,wd,st,d⟩:=x;simp only
  split
  ·exact b
  ·split
   ·have hw:=(nZ c).2.1;refine cKx k _ d ?_;have h2:=aYo ((m.drop (a+o)).take wd.toNat) (fun x e=>h x (Bq (Bj e)))
    have f:((m.drop (a+o)).take wd.toNat).length<=8:=by
     rw[AW];omega
    exact Ae h2 (Nat.pow_le_pow_right (n:=256) (by omega) f)
   ·exact b
theorem bXy(op:Int)(h:All64 l):tV (rJ op l).1:=by
 have e:tV 0:=⟨by omega,by omega⟩;unfold rJ
 cases hg:fV op with
 | none=>exact e
 | some g=>
  obtain⟨a,b,c,d⟩:=g;simp only
  split
  ·rename_i h2;exact cQu hg h h2.2
  ·exact e
theorem aXo{z:Int}(h:tV z):z.toNat<18446744073709551616/\((z.toNat:Nat):Int)=z:=by
 have h1:=h.1;have h2:=h.2;omega
theorem aJm{e:EnvD}{s:StD}(hs:StOk e s)(ha:All64 a)(hn:n<18446744073709551616):StOk e (hostV n outs a s).2.2/\All64 (hostV n outs a s).1:=by
 have c:All64 (s.log++n :: a):=bXv hs.l64 (fun x b=>by
  rcases List.mem_cons.1 b with rfl | b
  ·exact hn
  ·exact ha x b)
 unfold hostV
 split
 ·exact⟨⟨hs.memB,hs.memL,hs.most,hs.glen,hs.g64,c,aJl hs.i64 _,by show(s.input.drop _).length<=_;rw[Aw];have:=hs.ilen;omega,hs.fuel⟩,rX _ _ (cQh hs.i64 _)⟩
 ·exact⟨⟨hs.memB,hs.memL,hs.most,hs.glen,hs.g64,c,qQ,AJ _,hs.fuel⟩,qQ⟩
theorem bQt{e:EnvD}{c:CodeD}{s:StD}(hs:StOk e s)(ha:All64 a)(hn:c.n<18446744073709551616):StOk e (mZ c a s).2.2/\(mZ c a s).1<18446744073709551616:=by
 have d:=aKx ha 0;have g1:=aKx ha 1;have hz:(0:Nat)<18446744073709551616:=(by omega);unfold mZ
 split;· exact⟨hs,hn⟩
 split;· exact⟨hs,d⟩
 split
 ·split
  ·exact⟨hs,hz⟩
  ·exact⟨⟨hs.memB,hs.memL,hs.most,hs.glen,hs.g64,hs.l64,hs.i64,hs.ilen,by have:=hs.fuel;show s.fuel - 1<=_;omega⟩,hz⟩
 split
 ·refine⟨hs,?_⟩;show(if a.getD 2 0=0 then a.getD 1 0 else a.getD 0 0)<_
  split <;> assumption
 split;· exact⟨hs,aKx hs.g64 _⟩
 split
 ·exact⟨⟨hs.memB,hs.memL,hs.most,(BX ..).trans hs.glen,aYp hs.g64 _ _ d,hs.l64,hs.i64,hs.ilen,hs.fuel⟩,hz⟩
 split;· exact⟨hs,hz⟩
 split
 ·rename_i ab
  split
  ·refine⟨⟨?_,?_,hs.most,hs.glen,hs.g64,hs.l64,hs.i64,hs.ilen,hs.fuel⟩,hz⟩
   ·show AllB (nW _ _ _ _ _);rename_i b;unfold nW;rw[if_pos b];exact aJk hs.memB _ _ _
   ·show((nW _ _ _ _ _).length:Int)<=s.most;rename_i b;have:=hs.memL;unfold nW;rw[if_pos b,aXn];exact this
  ·exact⟨hs,hz⟩
 ·split
  ·exact⟨hs,(aXo (aKp hs.memB _ _ _)).1⟩
  ·exact⟨hs,hz⟩
 ·have hm:=hs.eZq
  split
  ·refine⟨hs,?_⟩;show s.mem.length / 256<_;omega
  split
  ·refine⟨⟨bXu hs.memB _ _,?_,hs.most,hs.glen,hs.g64,hs.l64,hs.i64,hs.ilen,hs.fuel⟩,?_⟩
   ·show((oV _ _ _).length:Int)<=s.most;have:=hs.memL;unfold oV
    split
    ·rename_i f;unfold aQc at f;simp only[decide_eq_true_eq]at f;rw[Af,AK];omega
    ·exact this
   ·show wW _ _ _<_;unfold wW
    split <;> omega
  ·exact⟨hs,(aXo (bXy _ ha)).1⟩
theorem aVm{e:EnvD}{c:CodeD}{s:StD}(hs:StOk e s)(ha:All64 a)(hn:c.n<18446744073709551616):(∀ l s',actV e c k a s = .vals l s'->StOk e s'/\All64 l)/\(∀ x s',actV e c k a s = .trap x s'->StOk e s'):=by
 constructor
 ·intro l s' h;obtain⟨_,_,_,_,_,b⟩:=rK h;rcases b with⟨_,_,d⟩ | ⟨_,rfl,_,rfl⟩
  ·have:=aJm (n:=c.n) (outs:=(e.sigs.getD c.n ⟨[],[]⟩).out) hs ha hn;rw[d]at this;exact this
  ·have:=bQt hs ha hn (c:=c);exact⟨this.1,bXw this.2⟩
 ·intro x s' h;unfold actV at h;simp only at h
  repeat' split at h
  all_goals first
   | (injection h with h1 h2;subst h2;first | exact hs | exact(aJm hs ha hn).1 | exact(bQt hs ha hn).1)
   | cases h
theorem Ev.ok{p:RowsD}{r:RowD}{s:StD}{R:ResD}(f:∀ (i:Nat) q,p.fns[i]? = AQ q->∀ c∈q.code,c.n<18446744073709551616)(h:Ev p lost d r k V s R):(∀ c∈r.code,c.n<18446744073709551616)->StOk p.env s->All64 V->StOk p.env R.s/\All64 R.out:=by
 induction h with
 | ret hc ha=>
  intro b hs a;obtain⟨_,rfl⟩:=aJi ha;exact⟨hs,sW _ _ _ a⟩
 | trap hc ha=>
  intro b hs a;exact⟨(aVm hs (sW _ _ _ a) (b _ (Ak hc))).2 _ _ ha,qQ⟩
 | go hc ha hn e=>exact fun b hs a=>e b hs a
 | vals hc ha hn e=>
  intro b hs a;have:=(aVm hs (sW _ _ _ a) (b _ (Ak hc))).1 _ _ ha;exact e b this.1 (aQd _ _ _ this.2 a)
 | call hc ha hd hq hg h1 he h2 ih1 ih2=>
  intro b hs a;have:=ih1 (f _ _ hq) hs (xV _ (rX _ _ (sW _ _ _ a)));exact ih2 b this.1 (aQd _ _ _ this.2 (aVz _ a))
 | callT hc ha hd hq hg h1 he ih1=>
  intro b hs a;have:=ih1 (f _ _ hq) hs (xV _ (rX _ _ (sW _ _ _ a)));exact⟨this.1,qQ⟩
 | deep hc ha hd=>exact fun b hs a=>⟨hs,qQ⟩
theorem aKq:∀ (os:List Int) (c V:List Nat) (k:Nat) (o:Int) (n:Nat),os[k]? = some o->c[k]? = some n->putV (os.take (k+1)) (c.take (k+1)) V=(putV (os.take k) (c.take k) V).set o.toNat n
 | [],c,V,k,o,n,h,_=>by simp at h
 | a :: os,[],V,k,o,n,_,h=>by simp at h
 | a :: os,b :: c,V,0,o,n,h,k=>by
  simp at h k;subst h;subst k;cases os <;> cases c <;> rfl
 | a :: os,b :: c,V,k+1,o,n,h,d=>by
  simp only[Bx,putV];exact aKq os c _ k o n (by simpa using h) (by simpa using d)
theorem bKg(os:List Int)(a V:List Nat)(k:Nat)(h1:os.length<=k):putV (os.take k) (a.take k) V=putV os a V:=by
 rw[Ah h1]
 induction os generalizing a V k with
 | nil=>cases a <;> cases k <;> rfl
 | cons o os b=>
  match a,k,h1 with
  | [],k+1,_=>rfl
  | n :: a,k+1,h1=>
   simp only[Bx,putV];exact b a _ k (by simpa using h1)
theorem aQs:∀ (os:List Int) (a V:List Nat),(putV os a V).length=V.length
 | [],a,V=>by cases a <;> rfl
 | o :: os,[],V=>rfl
 | o :: os,n :: a,V=>by rw[putV,aQs os a,BX]
def aXp(i:Nat)(V:List Nat):List Nat:=BV i 0++V.drop i
theorem cVf(V:List Nat):aXp 0 V=V:=rfl
theorem dQw(h:i<=V.length):(aXp i V).length=V.length:=by
 unfold aXp;rw[Af,AK,Aw];omega
theorem cVg(h:i<V.length):(aXp i V).set i 0=aXp (i+1) V:=by
 unfold aXp;rw[List.set_append_right _ _ (by simp),AK,Nat.sub_self,List.replicate_succ',List.append_assoc]
 congr 1
 rw[List.drop_eq_getElem_cons h];rfl
theorem cVh(h:i=min lost V.length):aXp i V=zeroV lost V:=by
 unfold aXp zeroV;subst h;by_cases a:lost<=V.length
 ·rw[Nat.min_eq_left a]
 ·rw[Nat.min_eq_right (by omega),AZ (Az _),AZ (by omega)]
theorem cVi{l:List Int}{p:Int}(h:l[k]? = some p):qX V (l.take (k+1))=qX V (l.take k) ++ [V.getD p.toNat 0]:=by
 obtain⟨h1,h2⟩:=List.getElem?_eq_some_iff.1 h;unfold qX;rw[List.take_succ_eq_append_getElem h1,h2,List.map_append];rfl
inductive Did (p:RowsD) (lost d:Nat) (c:CodeD) (k:Nat) (a:List Nat) (s:StD):StD->Int->Nat->Nat->List Nat->Prop
 | vals {l:List Nat} {s':StD} (ha:actV p.env c k a s = .vals l s'):Did p lost d c k a s s' 0 0 0 l
 | trap {x:Int} {s':StD} (ha:actV p.env c k a s = .trap x s'):Did p lost d c k a s s' x 0 0 []
 | call {n:Nat} {q:RowD} {g:SigD} {R:ResD} (ha:actV p.env c k a s = .call n) (hd:d<16) (hq:p.fns[n - p.env.imports.toNat]? = AQ q) (hg:p.env.sigs[n]? = AQ g)
   (h1:Ev p lost (d+1) q 0 (initV q (lowL g.inn a)) s R):Did p lost d c k a s R.s R.e R.cnt (q.places.toNat+R.wds) R.out
 | deep {n:Nat} (ha:actV p.env c k a s = .call n) (hd:16<=d):Did p lost d c k a s s 37 0 0 []
def tJ(e:EnvD)(c:CodeD):Bool:=decide (c.op=16/\¬(c.n:Int)<e.imports)
def zIf(e:EnvD)(c:CodeD)(lost:Nat)(V:List Nat):List Nat:=if tJ e c=true then zeroV lost V else V
theorem dQx{e:EnvD}{c:CodeD}{s s':StD}(h:actV e c k a s = .vals l s'):tJ e c=false:=by
 obtain⟨_,_,_,_,_,h1 | h1⟩:=rK h
 ·simp[tJ];exact fun _=>h1.2.1
 ·simp[tJ];exact fun h2=>absurd h2 h1.1
theorem Ev.step{p:RowsD}{r:RowD}{s:StD}{R:ResD}{c:CodeD}(h:Ev p lost d r k V s R)(hc:r.code[k]? = AQ c)(h1:c.op≠273)(h2:c.op≠274)(h3:c.op≠275)(i:c.op≠276):
  ∃ (s2:StD) (e2:Int) (dc wd:Nat) (l:List Nat),Did p lost d c k (argV p.env r c V) s s2 e2 dc wd l /\
   (e2=0->∃ R2,Ev p lost d r (k+1) (putV c.outs l (zIf p.env c lost V)) s2 R2/\R=⟨R2.out,R2.s,R2.e,1+dc+R2.cnt,max wd R2.wds⟩/\(c.op=16\/c.op≠16))/\(e2≠0->R=⟨[],s2,e2,1+dc,wd⟩):=by
 cases h with
 | ret a ha=>rw[hc]at a;cases a;exact absurd (aJi ha).1 i
 | trap a ha=>rw[hc]at a;cases a;exact⟨_,_,_,_,_,.trap ha,fun b=>absurd b (aQr ha),fun _=>rfl⟩
 | go a ha hn=>rw[hc]at a;cases a;rcases aVj ha with⟨h,_⟩ | ⟨h,_⟩ | ⟨h,_⟩ <;> omega
 | @vals _ _ _ _ _ s' _ l R2 a ha hn=>
  rw[hc]at a;cases a;refine⟨_,_,_,_,_,.vals ha,fun _=>⟨R2,?_,?_,by omega⟩,fun b=>absurd rfl b⟩
  ·unfold zIf;rw[if_neg (by rw[dQx ha];decide)];exact hn
  ·simp
 | @call _ _ q _ n _ _ _ g R1 R2 a ha hd hq hg f he j=>
  rw[hc]at a;cases a;obtain⟨m,rfl,af⟩:=pY ha;refine⟨_,_,_,_,_,.call ha hd hq hg f,fun _=>⟨R2,?_,rfl,by omega⟩,fun b=>absurd he b⟩;unfold zIf;rw[if_pos (by simp[tJ,m];omega)];exact j
 | @callT _ _ q _ n _ _ _ g R1 a ha hd hq hg f he=>
  rw[hc]at a;cases a;exact⟨_,_,_,_,_,.call ha hd hq hg f,fun b=>absurd b he,fun _=>rfl⟩
 | deep a ha hd=>rw[hc]at a;cases a;exact⟨_,_,_,_,_,.deep ha hd,fun b=>absurd b (by decide),fun _=>rfl⟩
theorem bZa{s:StD}(ha:a.length<=8):(hostV n outs a s).2.2.log.length<=s.log.length+9:=by
 unfold hostV
 split <;> (simp;omega)
theorem dQy(c:CodeD)(a:List Nat)(s:StD):(mZ c a s).2.2.log=s.log:=by
 unfold mZ
 repeat' split
 all_goals rfl
theorem aJn{e:EnvD}{c:CodeD}{s:StD}(ha:a.length<=8):(∀ l s',actV e c k a s = .vals l s'->s'.log.length<=s.log.length+9)/\(∀ x s',actV e c k a s = .trap x s'->s'.log.length<=s.log.length+9):=by
 have h1:=bZa (n:=c.n) (outs:=(e.sigs.getD c.n ⟨[],[]⟩).out) (s:=s) ha;have h2:=dQy c a s;constructor
 ·intro l s' h;obtain⟨_,_,_,_,_,b⟩:=rK h;rcases b with⟨_,_,d⟩ | ⟨_,_,_,rfl⟩
  ·rw[d]at h1;exact h1
  ·rw[h2];omega
 ·intro x s' h;unfold actV at h;simp only at h
  repeat' split at h
  all_goals first
   | (injection h with h3 f;subst f;first | exact AY _ _ | exact h1 | (rw[h2];exact AY _ _))
   | cases h
theorem bWp:∀ (ts:List Int) (l:List Nat),(lowL ts l).length<=ts.length
 | [],l=>by cases l <;> exact Az _
 | t :: ts,[]=>AJ _
 | t :: ts,x :: l=>by simp only[lowL,List.length_cons];have:=bWp ts l;omega
theorem bQu{e:EnvD}{r:RowD}{c:CodeD}(a:CheckP e r)(b:codeOk e r c=true)(V:List Nat):(argV e r c V).length<=8:=by
 obtain⟨i,o,hf,_⟩:=lQ b;have:=(aQq a.env a.sig hf).1;unfold argV inK;rw[hf];exact Bk (bWp _ _) this
theorem Ev.log{p:RowsD}{lost d k:Nat}{r:RowD}{V:List Nat}{s:StD}{R:ResD}(hp:ProgP p)(h:Ev p lost d r k V s R):CheckP p.env r->R.s.log.length<=s.log.length+9*R.cnt:=by
 induction h with
 | ret hc ha=>intro _;exact AY _ _
 | trap hc ha=>
  intro a;exact(aJn (bQu a (a.code _ (Ak hc)) _)).2 _ _ ha
 | go hc ha hn b=>intro a;have:=b a;dsimp only;omega
 | vals hc ha hn b=>
  intro a;have h1:=(aJn (bQu a (a.code _ (Ak hc)) _)).1 _ _ ha;have:=b a;dsimp only;omega
 | call hc ha hd hq hg h1 he h2 ih1 ih2=>
  intro a;have a1:=ih1 (hp.row _ _ hq).1;have a2:=ih2 a;dsimp only;omega
 | callT hc ha hd hq hg h1 he ih1=>
  intro a;have a1:=ih1 (hp.row _ _ hq).1;dsimp only;omega
 | deep hc ha hd=>intro _;exact AY _ _
theorem Did.log{p:RowsD}{lost d k:Nat}{c:CodeD}{a:List Nat}{s s2:StD}{e2:Int}{dc wd:Nat}{l:List Nat}(hp:ProgP p)(ha:a.length<=8)(h:Did p lost d c k a s s2 e2 dc wd l):s2.log.length<=s.log.length+9*(1+dc):=by
 cases h with
 | vals b=>have:=(aJn ha).1 _ _ b;omega
 | trap b=>have:=(aJn ha).2 _ _ b;omega
 | call b hd hq hg h1=>have:=h1.log hp (hp.row _ _ hq).1;omega
 | deep b hd=>omega
theorem Did.ok{p:RowsD}{lost d k:Nat}{c:CodeD}{a:List Nat}{s s2:StD}{e2:Int}{dc wd:Nat}{l:List Nat}(e:∀ (i:Nat) q,p.fns[i]? = AQ q->∀ c∈q.code,c.n<18446744073709551616)(hs:StOk p.env s)(ha:All64 a)(hn:c.n<18446744073709551616)(h:Did p lost d c k a s s2 e2 dc wd l):StOk p.env s2/\All64 l:=by
 cases h with
 | vals b=>exact(aVm hs ha hn).1 _ _ b
 | trap b=>exact⟨(aVm hs ha hn).2 _ _ b,qQ⟩
 | call b hd hq hg h1=>exact h1.ok e (e _ _ hq) hs (xV _ (rX _ _ ha))
 | deep b hd=>exact⟨hs,qQ⟩
theorem dVi{p:RowsD}{r:RowD}{s:StD}{R:ResD}{c:CodeD}(h:Ev p lost d r k V s R)(hc:r.code[k]? = AQ c)(h1:c.op=276):R=⟨argV p.env r c V,s,0,1,0⟩:=
 h.one (.ret hc (by unfold actV;rw[if_pos h1]))
theorem dVj{p:RowsD}{r:RowD}{s:StD}{R:ResD}{c:CodeD}(h:Ev p lost d r k V s R)(hc:r.code[k]? = AQ c)(h1:c.op=277):R=⟨[],s,32,1,0⟩:=
 h.one (.trap hc (by unfold actV;rw[if_neg (by omega),if_pos h1]))
theorem dYz{p:RowsD}{k':Nat}{r:RowD}{s:StD}{R:ResD}{c:CodeD}(h:Ev p lost d r k V s R)(hc:r.code[k]? = AQ c)(ha:actV p.env c k (argV p.env r c V) s = .go k'):∃ R2,Ev p lost d r k' V s R2/\R=⟨R2.out,R2.s,R2.e,1+0+R2.cnt,max 0 R2.wds⟩:=by
 cases h with
 | go a b hn=>rw[hc]at a;cases a;rw[ha]at b;cases b;exact⟨_,hn,by simp⟩
 | ret a b=>rw[hc]at a;cases a;rw[ha]at b;cases b
 | trap a b=>rw[hc]at a;cases a;rw[ha]at b;cases b
 | vals a b hn=>rw[hc]at a;cases a;rw[ha]at b;cases b
 | call a b hd hq hg h1 he h2=>rw[hc]at a;cases a;rw[ha]at b;cases b
 | callT a b hd hq hg h1 he=>rw[hc]at a;cases a;rw[ha]at b;cases b
 | deep a b hd=>rw[hc]at a;cases a;rw[ha]at b;cases b
theorem dQz{e:EnvD}{c:CodeD}{s:StD}(h:c.op=273):actV e c k a s = .go (c.to.getD 0 0).toNat:=by
 unfold actV;rw[if_neg (by omega),if_neg (by omega),if_pos h]
theorem cVj{e:EnvD}{c:CodeD}{s:StD}(h:c.op=274):actV e c k a s = .go (if a.getD 0 0=0 then k+1 else(c.to.getD 0 0).toNat):=by
 unfold actV;rw[if_neg (by omega),if_neg (by omega),if_neg (by omega),if_pos h]
theorem bZb{e:EnvD}{c:CodeD}{s:StD}(h:c.op=275):actV e c k a s = .go (c.to.getD (min (a.getD 0 0) (c.to.length - 1)) 0).toNat:=by
 unfold actV;rw[if_neg (by omega),if_neg (by omega),if_neg (by omega),if_neg (by omega),if_pos h]
theorem dZp{e:EnvD}{r:RowD}{c:CodeD}(V:List Nat)(a:CheckP e r)(b:c∈r.code)(d:c.op=276):(argV e r c V).length=r.sig.out.length:=by
 obtain⟨i,o,hf,h1,_⟩:=lQ (a.code c b);have f:=hf;rw[d]at hf;have hf:(if c.n=0 then some (r.sig.out,([]:List Int))else none)=some (i,o):=hf
 split at hf
 ·injection hf with hf;injection hf with h2 _;unfold argV inK;rw[f];show(lowL i (qX V c.args)).length=_;rw[uW _ _ (by unfold qX;rw[BZ];exact h1.symm),h2];unfold qX;rw[BZ];exact h1
 ·cases hf
theorem Ev.eZg{p:RowsD}{r:RowD}{s:StD}{R:ResD}(h:Ev p lost d r k V s R)(b:CheckP p.env r)(a:R.e=0):R.out.length=r.sig.out.length:=by
 induction h with
 | ret hc ha=>
  obtain⟨f,rfl⟩:=aJi ha;exact dZp _ b (Ak hc) f
 | trap hc ha=>exact absurd a (aQr ha)
 | go hc ha hn c=>exact c b a
 | vals hc ha hn c=>exact c b a
 | call hc ha hd hq hg h1 he h2 ih1 ih2=>exact ih2 b a
 | callT hc ha hd hq hg h1 he ih1=>exact absurd a he
 | deep hc ha hd=>exact absurd a (show ¬(37:Int)=0 by decide)
theorem Did.len{p:RowsD}{r:RowD}{c:CodeD}{s s2:StD}{e2:Int}{dc wd:Nat}(hp:ProgP p)(e:codeOk p.env r c=true)(f:e2=0)(h:Did p lost d c k a s s2 e2 dc wd l):c.outs.length<=l.length:=by
 cases h with
 | vals b=>exact bKa b e
 | trap b=>exact absurd f (aQr b)
 | @call n q g R b hd hq hg h1=>
  have t:=(hp.row _ _ hq).1;rw[h1.eZg t f];obtain⟨j,rfl,u⟩:=pY b;obtain⟨q',g',m,v,w⟩:=bWs hp j e u;rw[hq]at m;cases m;obtain⟨i,o,hf,_,ho,_⟩:=lQ e;rw[j]at hf;have hf:(p.env.sigs[c.n]?).map (fun g=>(g.inn,g.out))=AQ (i,o):=hf;rw[v]at hf;cases hf;rw[ho,w];exact Az _
 | deep b hd=>exact absurd f (by decide)
theorem Ev.wds{p:RowsD}{lost d k:Nat}{r:RowD}{V:List Nat}{s:StD}{R:ResD}(hp:ProgP p)(h:Ev p lost d r k V s R):R.wds<=4096*(16 - d):=by
 induction h with
 | ret hc ha=>exact AJ _
 | trap hc ha=>exact AJ _
 | go hc ha hn a=>exact a
 | vals hc ha hn a=>exact a
 | call hc ha hd hq hg h1 he h2 ih1 ih2=>
  have:=(hp.row _ _ hq).1.p2;dsimp only;omega
 | callT hc ha hd hq hg h1 he ih1=>
  have:=(hp.row _ _ hq).1.p2;dsimp only;omega
 | deep hc ha hd=>exact AJ _
theorem Did.wd{p:RowsD}{lost d k:Nat}{c:CodeD}{a:List Nat}{s s2:StD}{e2:Int}{dc wd:Nat}{l:List Nat}(hp:ProgP p)(h:Did p lost d c k a s s2 e2 dc wd l):wd<=4096*(16 - d):=by
 cases h with
 | vals b=>exact AJ _
 | trap b=>exact AJ _
 | call b hd hq hg h1=>
  have:=(hp.row _ _ hq).1.p2;have:=h1.wds hp;omega
 | deep b hd=>exact AJ _
theorem bWq{e:EnvD}{c:CodeD}:(zIf e c lost V).length=V.length:=by
 unfold zIf zeroV
 split
 ·rw[Af,AK,Aw];omega
 ·rfl
theorem dVk{e:EnvD}{c:CodeD}(h:All64 V):All64 (zIf e c lost V):=by
 unfold zIf
 split
 ·exact aVz _ h
 ·exact h
theorem aVo{e:EnvD}{c:CodeD}(h:(tJ e c=false/\i=0)\/(tJ e c=true/\i=min lost V.length)):aXp i V=zIf e c lost V:=by
 unfold zIf;rcases h with⟨h1,rfl⟩ | ⟨h1,h2⟩
 ·rw[if_neg (by rw[h1];decide)];rfl
 ·rw[if_pos h1];exact cVh h2
def RunR(C:MaC)(x:MaS)(s2:StD)(e2:Int)(dc wd:Nat)(l:List Nat)(w:Be)(a:Ending)(w':Be):Prop:=
 ∃ (v:Value) (x':MaS),a = .returned v/\MRef C x' w'/\MK C x x' w w'/\x'.s=s2/\x'.e=e2/\x'.cnt=x.cnt+dc/\x'.wmax=max x.wmax (x.wcur+wd)/\x'.wcur=x.wcur/\x'.d=x.d/\(∃ A n c,v = .slice A n c) /\
  (e2=0->w'.ownsRow w.heap.size 50 1 v l.length (u64V l)/\All64 l)
structure MRunB (x:MaS) (n:Nat):Prop where
 cnt:x.cnt+n<=1000000000000
 log:x.s.log.length+9*n<=1000000000
 wle:x.wcur<=x.wmax
 wmx:x.wmax<=1000000
 wcr:x.wcur<=4096*x.d
 dle:x.d<=16
structure RowI (C:MaC) (x0:MaS) (r:RowD) (R:ResD) (wB:Be) (vb rb:Nat) (p q t s:Value) (k:Nat) (x1:MaS) (V:List Nat) (R':ResD) (wr:Be):Prop where
 m:MRef C x1 wr
 mq:MK C x0 x1 wB wr
 ev:Ev C.p C.lost x0.d r k V x1.s R'
 tc:x1.cnt+R'.cnt=x0.cnt+R.cnt
 ts:R'.s=R.s
 te:R'.e=R.e
 tou:R'.out=R.out
 tw:max x1.wmax (x1.wcur+R'.wds)=max x0.wmax (x0.wcur+R.wds)
 e0:x1.e=0
 d:x1.d=x0.d
 wc:x1.wcur=x0.wcur
 b:MRunB x1 R'.cnt
 vk:Blk wr vb 50 (u64V V).toArray
 vl:V.length=r.places.toNat
 v64:All64 V
 vo:¬MOwn C x1 vb
 vlo:C.w0.heap.size<=vb
 rk:Blk wr rb 43 #[p,q,.int .i64 r.places,t,s]
 ro:¬MOwn C x1 rb
 ok:StOk C.p.env x1.s
 k:k<r.code.length
theorem RowI.pos{C:MaC}{x0:MaS}{r:RowD}{R:ResD}{x1:MaS}{R':ResD}(h:RowI C x0 r R wB vb rb p q t s k x1 V R' wr):1<=R'.cnt:=by
 cases h.ev <;> simp <;> omega
theorem bQw{C:MaC}{x0 x1 x2:MaS}{r:RowD}{R R':ResD}{v:Value}(I:RowI C x0 r R wB vb rb p q t s k x1 V R' wr)(M:MRef C x2 w')(K:MK C x0 x2 wB w')(hs:R'.s=x2.s)(he:R'.e=x2.e)(hc:x2.cnt=x1.cnt+R'.cnt)(a:x2.wmax=max x1.wmax (x1.wcur+R'.wds))(b:x2.wcur=x1.wcur)(hd:x2.d=x1.d)
  (f:∃ A n c,v = .slice A n c) (ho:R'.e=0->w'.ownsRow wB.heap.size 50 1 v R'.out.length (u64V R'.out)/\All64 R'.out):RunR C x0 R.s R.e R.cnt R.wds R.out wB (.returned v) w':=by
 refine⟨v,x2,rfl,M,K,hs.symm.trans I.ts,he.symm.trans I.te,?_,?_,b.trans I.wc,hd.trans I.d,f,fun g=>?_⟩
 ·have:=I.tc;omega
 ·rw[a];exact I.tw
 ·have:=ho (I.te.trans g)
  rwa[I.tou]at this
theorem bKi{C:MaC}{x0 x1 x2:MaS}{r:RowD}{R R' R2:ResD}{k2 dc wd:Nat}{c:List Nat}(I:RowI C x0 r R wB vb rb p q t s k x1 V R' wr)(M:MRef C x2 w')(K:MK C x0 x2 wB w')(ev:Ev C.p C.lost x0.d r k2 c x2.s R2)(g:R'=⟨R2.out,R2.s,R2.e,1+dc+R2.cnt,max wd R2.wds⟩)
  (hc:x2.cnt=x1.cnt+1+dc) (h:x2.wmax=max x1.wmax (x1.wcur+wd)) (f:x2.wcur=x1.wcur) (hd:x2.d=x1.d) (he:x2.e=0) (hl:x2.s.log.length<=x1.s.log.length+9*(1+dc)) (i:x2.wmax<=1000000) (j:Blk w' vb 50 (u64V c).toArray) (l:c.length=r.places.toNat) (m:All64 c) (n:¬MOwn C x2 vb) (kr:Blk w' rb 43 #[p,q,.int .i64 r.places,t,s]) (o:¬MOwn C x2 rb) (u:StOk C.p.env x2.s) (v:k2<r.code.length) :
  RowI C x0 r R wB vb rb p q t s k2 x2 c R2 w':=by
 have t:=I.tc;have a:=I.b;rw[g]at t a;have t:x1.cnt+(1+dc+R2.cnt)=x0.cnt+R.cnt:=t;have a:MRunB x1 (1+dc+R2.cnt):=a;have tw:=I.tw;rw[g]at tw;have tw:max x1.wmax (x1.wcur+max wd R2.wds)=max x0.wmax (x0.wcur+R.wds):=tw;have ts:=I.ts;have te:=I.te;have tou:=I.tou;rw[g]at ts te tou;refine⟨M,K,ev,by omega,ts,te,tou,?_,he,hd.trans I.d,f.trans I.wc,⟨?_,?_,?_,i,?_,?_⟩,j,l,m,n,I.vlo,kr,o,u,v⟩
 ·rw[h,f];omega
 ·have:=a.cnt;omega
 ·have:=a.log;omega
 ·have:=a.wle;rw[h,f];omega
 ·have:=a.wcr;rw[f,hd];exact this
 ·have:=a.dle;rw[hd];exact this
def dXv(C:MaC)(x:MaS)(w:Be)(l:List Nat)(outs:List Int)(k:Nat)(v:Value)(wr:Be):Prop:=∃ x1:MaS,MRef C x1 wr/\MK C x x1 w wr/\x1={ x with lv:=x1.lv,iv:=x1.iv,s:={ x.s with log:=l,input:=x.s.input.drop k } }/\wr.ownsRow w.heap.size 50 1 v k (u64V (lowL (outs.take k) (x.s.input.take k)))/\(∀ g,v.ownBlock=some g->¬MOwn C x1 g)
def bKd(C:MaC)(x:MaS)(n:Nat)(outs:List Int)(a:List Nat)(w:Be)(b:Ending)(w':Be):Prop:=
 ∃ (v:Value) (x':MaS),b = .returned (.tuple #[v,.int .i64 (hostV n outs a x.s).2.1])/\MRef C x' w'/\MK C x x' w w'/\x'={ x with lv:=x'.lv,iv:=x'.iv,s:=(hostV n outs a x.s).2.2 } /\
  ((hostV n outs a x.s).2.1=0->w'.ownsRow w.heap.size 50 1 v (hostV n outs a x.s).1.length (u64V (hostV n outs a x.s).1))/\(∃ A m c,v = .slice A m c)
theorem bWo{o c:Nat}(h:UR w (.slice (some ⟨b,o,none⟩) n c) l)(hn:1<=n):UR w (.slice (some ⟨b,o+1,none⟩) (n - 1) (c - 1)) (l.drop 1):=by
 obtain⟨e,hs,hc,h0,hz,a⟩:=h.len;subst e;refine⟨some ⟨b,o+1,none⟩,c - 1,by rw[Aw],?_,by rw[Aw];omega,(fun e=>by cases e),by rw[Aw];omega,aJl a 1⟩;rw[Aw];have:=hs.drop (i:=1) hn;unfold u64V at this ⊢
 rwa[<-List.map_drop]at this
theorem bKe{o:Nat}(h:UR w (.slice (some ⟨b,o,none⟩) n 1) l)(hn:1<=n):UR w (.slice (some ⟨b,o,none⟩) 0 0) (l.drop 1):=by
 obtain⟨e,hs,hc,h0,hz,aa⟩:=h.len;have h1:n=1:=(by omega);have a:l.drop 1 = []:=AZ (by omega);rw[a];exact⟨_,0,rfl,Src.nil _ _,Az _,(fun e=>by cases e),⟨by simp,by omega⟩,qQ⟩
theorem aVl{C:MaC}{x x1:MaS}{w':Be}{l:List Nat}{outs:List Int}{k y b:Nat}{t:Int}{v c a:Value}(o:MRef C x1 wr)(p:MK C x x1 wB wr)
  (q:x1={ x with lv:=x1.lv,iv:=x1.iv,s:={ x.s with log:=l,input:=x.s.input.drop k } }) (f:wr.ownsRow wB.heap.size 50 1 v k (u64V (lowL (outs.take k) (x.s.input.take k)))) (r:∀ g,v.ownBlock=some g->¬MOwn C x1 g)
  (u:outs[k]? = some t) (i:(x.s.input.drop k)[0]? = some y) (w:tZ t y=b) (z:UR wr a ((x.s.input.drop k).drop 1)) (d:∀ k,a.ownBlock=some k->x1.iv.ownBlock=some k) (A:C.w0.heap.size<=wB.heap.size)
  (B:w'.ownsRow wB.heap.size 50 1 c (k+1) (u64V (lowL (outs.take k) (x.s.input.take k)) ++ [.int .u64 (b:Int)]))
  (j:((wr.setCell ⟨C.mb,10,none⟩ a).alloc (.cells #[.int .u64 (b:Int)] 50)).grownBy w' v.ownBlock)
  (D:c.ownBlock=v.ownBlock\/c.ownBlock=some ((wr.setCell ⟨C.mb,10,none⟩ a).alloc (.cells #[.int .u64 (b:Int)] 50)).heap.size):dXv C x wB l outs (k+1) c w':=by
 have E:=o.eZd a _ z d;have F:=p.eZd (C:=C) (x:=x1) a ((x.s.input.drop k).drop 1) d;have hb:=(Below.refl _ (wr.setCell ⟨C.mb,10,none⟩ a)).alloc (Az _) (.cells #[.int .u64 (b:Int)] 50);have m:=E.below hb
 have own2:∀ g,MOwn C { x1 with iv:=a,s:={ x1.s with input:=(x.s.input.drop k).drop 1 } } g->MOwn C x1 g:=fun g hg=>by
  rcases hg with h | h | h | h | h
  ·exact .inl h
  ·exact .inr (.inl h)
  ·exact .inr (.inr (.inl h))
  ·exact .inr (.inr (.inr (.inl (d g h))))
  ·exact .inr (.inr (.inr (.inr h)))
 have n:∀ g,v.ownBlock=some g->¬MOwn C { x1 with iv:=a,s:={ x1.s with input:=(x.s.input.drop k).drop 1 } } g:=fun g hg ho=>r g hg (own2 g ho);have G:=m.grown j (fun g hg=>⟨n g hg,Bk A (f.lt g hg).1⟩);refine⟨_,G,(F.below hb).grown j (fun g hg=>(f.lt g hg).1),?_,?_,fun g hg=>?_⟩
 ·rw[List.drop_drop];rw[q]
 ·have H:x.s.input[k]? = some y:=(by rw[List.getElem?_drop]at i;simpa using i);rw[bZg u H,w,aJq];exact B
 ·rcases D with e | e
  ·exact n g (by rw[<-e];exact hg)
  ·rw[hg]at e;injection e with e;exact m.fresh (Bv e.symm)
theorem dVe{C:MaC}{x x1:MaS}{n k:Nat}{a:List Nat}{outs:List Int}(c:Below w.heap.size w wB)(d:MRef C x1 wr)(f:MK C x x1 wB wr)
  (b:x1={ x with lv:=x1.lv,iv:=x1.iv,s:={ x.s with log:=x.s.log++n :: a,input:=x.s.input.drop k } }) (h1:x.s.input.length=k) (h2:k<outs.length):bKd C x n outs a w (.returned (.tuple #[.slice none 0 0,.int .i64 39])) wr:=by
 have e:hostV n outs a x.s=([],39,{ x.s with log:=x.s.log++n :: a,input:=[] }):=by
  unfold hostV;rw[if_neg (by omega)]
 have hd:x.s.input.drop k = []:=AZ (by omega);rw[hd]at b;refine⟨.slice none 0 0,x1,?_,d,(MK.eXn c).trans f,?_,fun h=>?_,none,0,0,rfl⟩
 ·rw[e]
 ·rw[e];exact b
 ·rw[e]at h;exact absurd h (show ¬(39:Int)=0 by decide)
theorem dYy{C:MaC}{x x1:MaS}{n k:Nat}{a:List Nat}{outs:List Int}{v:Value}(d:Below w.heap.size w wB)(f:MRef C x1 wr)(g:MK C x x1 wB wr)
  (i:x1={ x with lv:=x1.lv,iv:=x1.iv,s:={ x.s with log:=x.s.log++n :: a,input:=x.s.input.drop k } }) (b:wr.ownsRow wB.heap.size 50 1 v k (u64V (lowL (outs.take k) (x.s.input.take k)))) (h1:k<=x.s.input.length) (h2:outs.length=k):bKd C x n outs a w (.returned (.tuple #[v,.int .i64 0])) wr:=by
 have e:hostV n outs a x.s=(lowL outs (x.s.input.take k),0,{ x.s with log:=x.s.log++n :: a,input:=x.s.input.drop k }):=by
  unfold hostV;rw[if_pos (by omega),h2]
 refine⟨v,x1,?_,f,(MK.eXn d).trans g,?_,fun h=>?_,(by obtain⟨A,c,e,_⟩:=gZ b;exact⟨A,k,c,e⟩)⟩
 ·rw[e]
 ·rw[e];exact i
 ·rw[e];have j:(lowL outs (x.s.input.take k)).length=k:=(by rw[uW _ _ (by rw[AW];omega),AW];omega);rw[Ah (l:=outs) (by omega)]at b;show wr.ownsRow w.heap.size 50 1 v (lowL outs (x.s.input.take k)).length _;rw[j];exact lZ b d.size
theorem dQj(C:MaC)(x:MaS)(n:Nat)(g:SigD)(vg va:Value)(a:List Nat)(w:Be)(h:MRef C x w)(hg:SigV C.w0 vg g)(ha:UR w va a)(hf:∀ k,va.ownBlock=some k->¬MOwn C x k)(hn:n<=1000)(a7:a.length<=8)(a8:g.out.length<=8)(aG:x.s.log.length<=1000000000)(bs:x.s.input.length<=100000):
  Calls fZ 65 #[.pointer (some ⟨C.mb,6,none⟩),.int .i64 n,vg,va] w (bKd C x n g.out a w):=by
 obtain⟨p,q,rfl,hp,hq⟩:=hg;obtain⟨Aa,ca,rfl⟩:=ha.shape;obtain⟨E,j,rfl⟩:=hq.shape;obtain⟨O,hO⟩:=fX g.out.length;rw[hO]at hq a8 ⊢;have HQ:=fQ hq.ir;have aH:=fQ hO;clear hO;obtain⟨lA,lc,Q,ba⟩:=gZ h.log;obtain⟨L,hL⟩:=fX x.s.log.length;obtain⟨m,hm⟩:=fX a.length;rw[hL]at Q ba aG;rw[hm]at ha a7 hf ⊢;have HL:=fQ hL;have bb:=fQ hm;have W:=(Below.refl w.heap.size w).alloc (Az _) (.cells #[p,.slice E O j] 40);have aj:=W.alloc (by simp) (.cells #[.int .u64 (n:Int)] 50);have aR:=fQ W;have bc:=fQ (h.below W);have K:=fQ (h.below aj);have bd:=fQ (Blk.new w 40 #[p,.slice E O j]);have be:(w.alloc (.cells #[p,.slice E O j] 40)).cell? ⟨C.mb,11,none⟩=some (.slice lA L lc):=(by rw[bc.out.cell 11];simp[mCells,Q]);have aS:=fQ (show((w.alloc (.cells #[p,.slice E O j] 40)).alloc (.cells #[.int .u64 (n:Int)] 50)).ownsRow C.w0.heap.size 50 1 (.slice lA L lc) L (u64V x.s.log) by have:=K.out.log;rw[Q,HL.out]at this;exact this);have aT:=fQ (ha.below aj (Az _));have HF:=fQ hf;have M:=fQ Q;have bf:=fQ (h.fresh (Az w.heap.size));have y1:=h.blk.lt;have bg:=h.bel.size;have aI:=fQ ha.len.2.2.2.2.2;have aJ:=fQ h.l64;have bt:(n:Int)<=1000:=(by omega);clear ha h hf W aj Q hL hm hp hq;go_in;go_wp2_with (at_builtin;refine kV _ rfl (.tmp 17) (.tmp 20) 30 rfl C.w0.heap.size 50 (.int .u64 0) 1 8 underlying30 wQ rfl (by omega) (.slice lA L lc) L (u64V x.s.log) rfl aS.out (some ⟨w.heap.size+1,0,none⟩) 1 1 [.int .u64 (n:Int)] rfl (Blk.eXm (cs:=#[.int .u64 (n:Int)]) (Blk.newAt _ _ _ (by simp)) rfl) (fun u D=>by rw[List.mem_singleton.1 D];rfl) (by unfold maxLen;omega) (by omega) (by simp;omega) ?_);rintro v1 w2 d c f _;obtain⟨A1,c1,rfl,bh⟩:=gZ d;have aU:=fQ d;have aK:=fQ c;have aL:=fQ (show(Value.slice A1 (L+1) c1).ownBlock=(Value.slice lA L lc).ownBlock\/(Value.slice A1 (L+1) c1).ownBlock=some ((w.alloc (.cells #[p,.slice E O j] 40)).alloc (.cells #[.int .u64 (n:Int)] 50)).heap.size by simpa using f);have aM:w.heap.size+1+1<=w2.heap.size:=(by simpa using c.size)
 have aV:=fQ (show Src w2 Aa (m*1) (u64V a) by
  rw[Nat.mul_one]
  exact(aT.out.heap c.size (fun k l bj=>c.block k bj (fun e=>HF.out k l (.inr (.inr (.inl (by rw[M.out];exact e.symm))))))).len.2.1)
 clear d c f;go_wp2_with (at_builtin;refine kV _ rfl (.tmp 21) (.tmp 22) 30 rfl C.w0.heap.size 50 (.int .u64 0) 1 8 underlying30 wQ rfl (by omega) (.slice A1 (L+1) c1) (L+1) (u64V x.s.log ++ [.int .u64 (n:Int)]) rfl aU.out Aa m ca (u64V a) rfl aV.out (aJr _) (by unfold maxLen;omega) (by omega) (by omega) ?_);rintro X w3 R k2 k3 _;have Y:=dXe aK.out k2 aL.out
 have ak:∀ k,X.ownBlock=some k->x.lv.ownBlock=some k\/((w.alloc (.cells #[p,.slice E O j] 40)).alloc (.cells #[.int .u64 (n:Int)] 50)).heap.size<=k:=fun k l=>by
  rcases k3 with e | e
  ·rw[l]at e;rcases aL.out with e2 | e2
   ·exact .inl (by rw[M.out,<-e2,<-e])
   ·rw[<-e]at e2;injection e2 with e2;exact .inr (Bv e2.symm)
  ·rw[l]at e;injection e with e;exact .inr (by rw[e];exact aK.out.size)
 have ah:(x.s.log++n :: a).length=L+1+m:=by simp[HL.out,bb.out];omega
 have af:w3.ownsRow C.w0.heap.size 50 1 X (x.s.log++n :: a).length (u64V (x.s.log++n :: a)):=by
  rw[ah];have:u64V (x.s.log++n :: a)=u64V x.s.log ++ [.int .u64 (n:Int)]++u64V a:=(by simp[u64V]);rw[this]
  simpa using R
 have ai:All64 (x.s.log++n :: a):=fun y S=>by
  rcases List.mem_append.1 S with h1 | h1
  ·exact aJ.out y h1
  ·rcases List.mem_cons.1 h1 with rfl | h1
   ·omega
   ·exact aI.out y h1
 have ab:Blk w3 C.mb 89 (mCells C x):=K.out.blk.grown Y (fun e=>(own_ne K.out.log K.out.blk (by decide)) (by rw[M.out];exact e));have aN:w3.cell? ⟨C.mb,11,none⟩=some (.slice lA L lc):=(by rw[ab.cell 11];simp[mCells,M.out]);have f11:=frz ab 11;have y3:=ab.lt;have HX:=fQ (K.out.eZe X (x.s.log++n :: a) (by rw[M.out];exact Y) af ai ak);have aO:=fQ (((MK.eXn (C:=C) (x:=x) ((Below.refl _ _).alloc (Az _) (.cells #[.int .u64 (n:Int)] 50)))).eZe (w0:=w.alloc (.cells #[p,.slice E O j] 40)) X (x.s.log++n :: a) (by rw[M.out];exact Y) ak);obtain⟨A2,c2,rfl,_⟩:=gZ af;obtain⟨l2,aW⟩:=fX ((x.s.log++n :: a).length);rw[aW]at HX aO ⊢;clear R k2 k3 Y ak ah af ai ab aW be;go_wp2_with fail;go_loopw [10,11] (fun v i wr=>∃ k:Nat,k<=O/\k<=x.s.input.length/\i = .int .i64 k/\Hid (dXv C x (w.alloc (.cells #[p,.slice E O j] 40)) (x.s.log++n :: a) g.out k v wr)) (fun _ i _=>O - (intOf i).toNat)
 case atStart=>exact⟨0,by omega,by omega,rfl,fQ ⟨_,HX.out,aO.out,rfl,World.ownsRow_nil _ _ _ _,fun g hg=>by cases hg⟩⟩
 case round=>
  clear HX aO aS K aU aK aL aV aT aN f11 y3 aM;obtain⟨k,l,bk,rfl,IV⟩:=hrel;obtain⟨x1,F,J2,J3,J4,J5⟩:=IV.out;have K1:=J2.blk bd.out bf.out;have k0:=K1.cell 0;have R:=K1.cell 1;simp at k0 R;have yk:=K1.lt;have ym:=F.blk.lt;obtain⟨Av,cv,rfl,bu⟩:=gZ J4;have aX:=congrArg MaS.s J3;have aw:x1.s.input=x.s.input.drop k:=(by rw[aX]);have T:UR wr x1.iv (x.s.input.drop k):=(by rw[<-aw];exact F.inp);obtain⟨iA,G,U⟩:=T.shape;obtain⟨Z,hZ⟩:=fX ((x.s.input.drop k).length);have aY:x.s.input.length=k+Z:=(by rw[Aw]at hZ;omega);rw[hZ]at U;have bw:wr.cell? ⟨C.mb,10,none⟩=some (.slice iA Z G):=(by rw[F.cell 10];simp[mCells,U]);have f10:=frz F.blk 10;rw[U]at T;have r:=fQ F;have B:=fQ J2;have N:=fQ J3;have z:=fQ J4;have aD:=fQ J5;have V:=fQ T;have aE:=fQ U;have P:=fQ aY;have bx:=fQ (HQ.out.below F.bel (Az _));have bl:=T.len.2.2.1;clear F J2 J3 J4 J5 aX aw T U hZ K1 IV aY;by_cases aZ:k<O
  ·have t1:decide ((k:Int)<O)=true:=(by simp;omega);have t2:(k:Int)<O:=(by omega);obtain⟨t,ht⟩:∃ t,g.out[k]? = some t:=⟨_,Aj (by rw[aH.out];exact aZ)⟩;obtain⟨b,o,e1,aP,a6⟩:=HQ.out.cell ht;subst e1;have hc:wr.cell? ⟨b,o+k,none⟩=some (.int .i64 t):=(r.out.bel.cell (p:=⟨b,o+k,none⟩) aP).trans a6;have hb:b<wr.heap.size:=Ae aP r.out.bel.size;have bm:b≠C.mb:=(by have:=r.out.mb;omega);have bz:∀ u,(wr.setCell ⟨C.mb,10,none⟩ u).cell? ⟨b,o+k,none⟩=some (.int .i64 t):=fun u=>(pZ bm).trans hc;have bD:∀ u,(wr.setCell ⟨C.mb,10,none⟩ u).cell? ⟨w.heap.size,1,none⟩=some (.slice (some ⟨b,o,none⟩) O j):=fun u=>(pZ (by omega)).trans R;clear aP a6;by_cases bn:Z=0
   ·subst bn;clear ht;go_wp2_with fail;refine bodyPost_ret (results_tmp2 (t:=8) (u:=9) rfl _ _ _) rfl ?_;exact dVe aR.out r.out B.out N.out (by have:=P.out;omega) (by rw[aH.out];exact aZ)
   ·obtain⟨y,S⟩:∃ y,(x.s.input.drop k)[0]? = some y:=⟨_,Aj (by rw[Aw];have:=P.out;omega)⟩;obtain⟨b',o',e2,bE,bo,aA⟩:=V.out.cell S;subst e2;rw[BY]at bo;have t3:((Z:Int) == 0)=false:=(by simp;omega);have t4:(0:Int)<(Z:Int):=(by omega);have t5:(1:Int)<=(Z:Int):=(by omega);have HT:=fQ ht;have HY:=fQ S;clear ht S;have aF:1<=Z:=(by omega);by_cases bp:G=1
    ·have bq:G - 1=0:=(by omega);subst bp;have br:Z=1:=(by omega);subst br;by_cases A:t=127
     ·have t6:(t == 127)=true:=(by simp[A]);have H:=fQ (show tZ t y=y % 4294967296 by unfold tZ;rw[if_pos A]);have hand:=cQp aA;have I:=fQ (jY (iQ (k:=10) (u:=(.slice (some ⟨b',o',none⟩) 0 0)) z.out (own_ne z.out r.out.blk (by decide))) (.cells #[.int .u64 ((y % 4294967296:Nat):Int)] 50));go_wp2_with (at_builtin;refine kV _ rfl (.tmp 61) (.tmp 63) 30 rfl (w.alloc (.cells #[p,.slice (some ⟨b,o,none⟩) O j] 40)).heap.size 50 (.int .u64 0) 1 8 underlying30 wQ rfl (by omega) (.slice Av k cv) k (u64V (lowL (g.out.take k) (x.s.input.take k))) rfl I.out (some ⟨wr.heap.size,0,none⟩) 1 1 [.int .u64 ((y % 4294967296:Nat):Int)] rfl (Blk.eXm (cs:=#[.int .u64 ((y % 4294967296:Nat):Int)]) (Blk.newAt _ _ _ (by simp)) rfl) (fun u D=>by rw[List.mem_singleton.1 D];rfl) (by unfold maxLen;omega) (by omega) (by have:=B.out.size;simp at this ⊢;omega) ?_);rintro v' w' d c f _;have J:=fQ (aVl r.out B.out N.out z.out aD.out HT.out HY.out H.out (bKe V.out aF) (by rw[aE.out];exact fun k l=>l) (by simp;omega) (by first | exact d | simpa using d) (by first | exact c | simpa using c) (by first | exact f | simpa using f));clear d c f;go_wp2;exact⟨⟨k+1,by omega,by have:=P.out;omega,by simp,J⟩,by simp[intOf];omega⟩
     ·have t6:(t == 127)=false:=(by simp[A]);have H:=fQ (show tZ t y=y by unfold tZ;rw[if_neg A]);clear A;have I:=fQ (jY (iQ (k:=10) (u:=(.slice (some ⟨b',o',none⟩) 0 0)) z.out (own_ne z.out r.out.blk (by decide))) (.cells #[.int .u64 ((y:Nat):Int)] 50));go_wp2_with (at_builtin;refine kV _ rfl (.tmp 61) (.tmp 63) 30 rfl (w.alloc (.cells #[p,.slice (some ⟨b,o,none⟩) O j] 40)).heap.size 50 (.int .u64 0) 1 8 underlying30 wQ rfl (by omega) (.slice Av k cv) k (u64V (lowL (g.out.take k) (x.s.input.take k))) rfl I.out (some ⟨wr.heap.size,0,none⟩) 1 1 [.int .u64 ((y:Nat):Int)] rfl (Blk.eXm (cs:=#[.int .u64 ((y:Nat):Int)]) (Blk.newAt _ _ _ (by simp)) rfl) (fun u D=>by rw[List.mem_singleton.1 D];rfl) (by unfold maxLen;omega) (by omega) (by have:=B.out.size;simp at this ⊢;omega) ?_);rintro v' w' d c f _;have J:=fQ (aVl r.out B.out N.out z.out aD.out HT.out HY.out H.out (bKe V.out aF) (by rw[aE.out];exact fun k l=>l) (by simp;omega) (by first | exact d | simpa using d) (by first | exact c | simpa using c) (by first | exact f | simpa using f));clear d c f;go_wp2;exact⟨⟨k+1,by omega,by have:=P.out;omega,by simp,J⟩,by simp[intOf];omega⟩
    ·have bq:(G - 1 == 0)=false:=(by simp;omega);have bF:¬G - 1=0:=(by omega);by_cases A:t=127
     ·have t6:(t == 127)=true:=(by simp[A]);have H:=fQ (show tZ t y=y % 4294967296 by unfold tZ;rw[if_pos A]);have hand:=cQp aA;have I:=fQ (jY (iQ (k:=10) (u:=(.slice (some ⟨b',o'+1,none⟩) (Z - 1) (G - 1))) z.out (own_ne z.out r.out.blk (by decide))) (.cells #[.int .u64 ((y % 4294967296:Nat):Int)] 50));go_wp2_with (at_builtin;refine kV _ rfl (.tmp 61) (.tmp 63) 30 rfl (w.alloc (.cells #[p,.slice (some ⟨b,o,none⟩) O j] 40)).heap.size 50 (.int .u64 0) 1 8 underlying30 wQ rfl (by omega) (.slice Av k cv) k (u64V (lowL (g.out.take k) (x.s.input.take k))) rfl I.out (some ⟨wr.heap.size,0,none⟩) 1 1 [.int .u64 ((y % 4294967296:Nat):Int)] rfl (Blk.eXm (cs:=#[.int .u64 ((y % 4294967296:Nat):Int)]) (Blk.newAt _ _ _ (by simp)) rfl) (fun u D=>by rw[List.mem_singleton.1 D];rfl) (by unfold maxLen;omega) (by omega) (by have:=B.out.size;simp at this ⊢;omega) ?_);rintro v' w' d c f _;have J:=fQ (aVl r.out B.out N.out z.out aD.out HT.out HY.out H.out (bWo V.out aF) (by rw[aE.out];exact fun k l=>l) (by simp;omega) (by first | exact d | simpa using d) (by first | exact c | simpa using c) (by first | exact f | simpa using f));clear d c f;go_wp2;exact⟨⟨k+1,by omega,by have:=P.out;omega,by simp,J⟩,by simp[intOf];omega⟩
     ·have t6:(t == 127)=false:=(by simp[A]);have H:=fQ (show tZ t y=y by unfold tZ;rw[if_neg A]);clear A;have I:=fQ (jY (iQ (k:=10) (u:=(.slice (some ⟨b',o'+1,none⟩) (Z - 1) (G - 1))) z.out (own_ne z.out r.out.blk (by decide))) (.cells #[.int .u64 ((y:Nat):Int)] 50));go_wp2_with (at_builtin;refine kV _ rfl (.tmp 61) (.tmp 63) 30 rfl (w.alloc (.cells #[p,.slice (some ⟨b,o,none⟩) O j] 40)).heap.size 50 (.int .u64 0) 1 8 underlying30 wQ rfl (by omega) (.slice Av k cv) k (u64V (lowL (g.out.take k) (x.s.input.take k))) rfl I.out (some ⟨wr.heap.size,0,none⟩) 1 1 [.int .u64 ((y:Nat):Int)] rfl (Blk.eXm (cs:=#[.int .u64 ((y:Nat):Int)]) (Blk.newAt _ _ _ (by simp)) rfl) (fun u D=>by rw[List.mem_singleton.1 D];rfl) (by unfold maxLen;omega) (by omega) (by have:=B.out.size;simp at this ⊢;omega) ?_);rintro v' w' d c f _;have J:=fQ (aVl r.out B.out N.out z.out aD.out HT.out HY.out H.out (bWo V.out aF) (by rw[aE.out];exact fun k l=>l) (by simp;omega) (by first | exact d | simpa using d) (by first | exact c | simpa using c) (by first | exact f | simpa using f));clear d c f;go_wp2;exact⟨⟨k+1,by omega,by have:=P.out;omega,by simp,J⟩,by simp[intOf];omega⟩
  ·have t1:decide ((k:Int)<O)=false:=(by simp;omega);have aQ:O=k:=(by omega);subst aQ;go_wp2_with fail;refine bodyPost_ret (results_tmp2 (t:=8) (u:=9) rfl _ _ _) rfl ?_;exact dYy aR.out r.out B.out N.out z.out bk aH.out
end Go.Proofs.YtabibkpfgmolkaaGreat

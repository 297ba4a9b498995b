/- Lemmas for the claim, part 6. Conditions: none. -/
import Derived.Test.YtabibkpfgmolkaaGreatPk05
import Derived.Deep.RegionHeld3
import Derived.Shelf.Spec.TrailingZeros
set_option maxRecDepth 100000
set_option maxHeartbeats 16000000
set_option linter.unusedVariables false
set_option linter.unusedSimpArgs false
open Go.Lib renaming hid→fQ
open Go.Proofs.Tryz renaming prog→fZ
open Go.Proofs.Tryz
open Go.RowKit
open List renaming getElem?_eq_getElem→Aj,getD_cons_zero→Aq,getD_cons_succ→Ax,mem_of_getElem?→Ak,length_drop→Aw,getD_eq_getElem?_getD→Ay,mem_of_mem_take→AZ,drop_eq_nil_of_le→AV,length_replicate→AW,mem_cons_of_mem→AY,mem_of_mem_drop→Ab,length_take→Ad,take_succ_eq_append_getElem→Ai,mem_cons_self→Bq,length_append→Bx,take_of_length_le→Bk,take_succ_cons→Bw,not_mem_nil→BK,countP_cons→BV,length_cons→BW,length_set→Bb,length_map→Bc,replicate→Be,mem_cons→Bf,range→Cx
open Nat renaming le_refl→Az,pow_le_pow_right→AJ,zero_le→AQ,le_add_right→Ae,div_le_self→Af,lt_of_lt_of_le→Ag,pow_succ→Ah,strongRecOn→Bv,lt_or_eq_of_le→By,le_trans→BJ,le_of_eq→BQ,mul_comm→BZ,pow_mul→Ba,mod_le→Bd,add_zero→Bg,mul_one→Cj,or_comm→Cq
open Option renaming some→AX
open Go.IntKind renaming wrap_u32→AK,wrap_u64→Bz
open Go.RowKit.Below renaming refl→Ac
open Int renaming ediv_nonneg→Bj,emod_eq_of_lt→BX,ofNat→BY,le_of_lt→Bh,pow_pos→Bi
open Go renaming World→Cz,Value→Ck
namespace Go.Proofs.YtabibkpfgmolkaaGreat
variable {k lost n d x j b q i vb rb:Nat}{a V l:List Nat}{outs:List Int}{wB wr w w':Cz}{out op:Int}{p t s v:Ck}
theorem mJ{e:EnvD}{r:RowD}{c:CodeD}(h:codeOk e r c=true):∃ i o,iX e r.sig c.op c.n=some (i,o)/\c.args.length=i.length/\c.outs.length=o.length/\sX c.op<=c.to.length/\(c.to.length:Int)<=nJ c.op/\(∀ x∈c.to,0<=x/\x<r.code.length)/\(∀ x∈c.args,0<=x/\x<r.places)/\(∀ x∈c.outs,0<=x/\x<r.places)/\c.outs.Nodup:=by
 unfold codeOk at h
 cases hf:iX e r.sig c.op c.n with
 | none=>rw[hf]at h;cases h
 | some b=>
  obtain⟨i,o⟩:=b;rw[hf]at h;simp only[Bool.and_eq_true,decide_eq_true_eq]at h;obtain⟨⟨h1,h2,d,f⟩,g,j,k,m⟩:=h
  have w:∀ {n:Int} {l:List Int},within n l=true->∀ x∈l,0<=x/\x<n:=fun a x p=>by
   unfold within at a;have:=List.all_eq_true.1 a x p
   simpa using this
  exact⟨i,o,rfl,h1,h2,d,f,w m,w g,w j,k⟩
theorem aVs{e:EnvD}{c:CodeD}{s:StD}(h:actV e c k a s = .ret l):c.op=276/\l=a:=by
 unfold actV at h;simp only at h
 repeat' split at h
 all_goals first | cases h | skip
 ·rename_i h1;exact⟨h1,rfl⟩
theorem aYs{e:EnvD}{c:CodeD}{s:StD}(h:actV e c k a s = .go j):(c.op=273/\j=(c.to.getD 0 0).toNat)\/(c.op=274/\(j=k+1\/j=(c.to.getD 0 0).toNat))\/(c.op=275/\j=(c.to.getD (min (a.getD 0 0) (c.to.length - 1)) 0).toNat):=by
 unfold actV at h;simp only at h
 repeat' split at h
 all_goals first
  | cases h
  | skip
 all_goals simp_all
theorem aXz{e:EnvD}{c:CodeD}{s s':StD}{x:Int}(h:actV e c k a s = .trap x s'):x≠0:=by
 unfold actV at h;simp only at h
 repeat' split at h
 all_goals first
  | (injection h with h1 h2;subst h1;first | assumption | decide)
  | cases h
theorem rX{e:EnvD}{c:CodeD}{s:StD}(h:actV e c k a s = .call n):c.op=16/\n=c.n/\¬(c.n:Int)<e.imports:=by
 unfold actV at h;simp only at h
 repeat' split at h
 all_goals first
  | (injection h with h1;subst h1;exact⟨by assumption,rfl,by assumption⟩)
  | cases h
theorem uZ{e:EnvD}{c:CodeD}{s s':StD}(h:actV e c k a s = .vals l s'):c.op≠273/\c.op≠274/\c.op≠275/\c.op≠276/\c.op≠277 /\
  ((c.op=16/\(c.n:Int)<e.imports/\hostV c.n ((e.sigs.getD c.n ⟨[],[]⟩).out) a s=(l,0,s'))\/(c.op≠16/\l = [(mK c a s).1]/\(mK c a s).2.1=0/\s'=(mK c a s).2.2)):=by
 unfold actV at h;simp only at h
 repeat' split at h
 all_goals first
  | (injection h with h1 h2;subst h1;subst h2;refine⟨by assumption,by assumption,by assumption,by assumption,by assumption,?_⟩)
  | cases h
 ·rename_i b himp d;refine .inl ⟨b,himp,?_⟩;rw[<-d]
 ·rename_i b d;exact .inr ⟨b,rfl,d,rfl⟩
theorem aWu{s s':StD}(h:hostV n outs a s=(l,0,s')):l.length=outs.length/\s'.fuel=s.fuel:=by
 unfold hostV at h
 split at h
 ·rename_i hle;injection h with h1 h2;injection h2 with h2 b;subst h1;subst b;refine⟨?_,rfl⟩;rw[xY _ _ (by rw[Ad];omega),Ad];omega
 ·injection h with h1 h2;injection h2 with h2 b;omega
theorem aQu(c:CodeD)(a:List Nat)(s:StD):(mK c a s).2.2.fuel<=s.fuel/\(c.op=258->(mK c a s).2.1=0->(mK c a s).2.2.fuel<s.fuel):=by
 unfold mK
 repeat' split
 all_goals simp_all
 all_goals omega
theorem dXt{c:CodeD}{s:StD}(h:c.op=272):(mK c a s).1=a.getD 0 0:=by
 unfold mK;rw[if_neg (by omega),if_pos h]
theorem dXu{m:Bool}{i o:List Int}(h:nZ m op n=some (i,o)):o.length<=1:=by
 unfold nZ at h
 repeat' split at h
 all_goals (cases h <;> first | exact Az _ | exact AQ _ | (split <;> first | exact Az _ | exact AQ _) | skip)
theorem bZf{e:EnvD}{s:SigD}{i o:List Int}(h:iX e s op n=some (i,o))(a:op≠16):o.length<=1:=by
 unfold iX at h
 repeat' split at h
 all_goals first
  | exact dXu h
  | (cases hg:e.globals[n]? with
    | none=>rw[hg]at h;cases h
    | some g=>rw[hg]at h;cases h;exact Az _)
  | (rename_i hq;exact absurd hq a)
  | (cases h <;> first | exact Az _ | exact AQ _)
theorem bYp{e:EnvD}{r:RowD}{c:CodeD}{s s':StD}(h:actV e c k a s = .vals l s')(f:codeOk e r c=true):c.outs.length<=l.length:=by
 obtain⟨i,o,hf,_,d,_⟩:=mJ f;obtain⟨_,_,_,_,_,h | ⟨b,rfl,_⟩⟩:=uZ h
 ·obtain⟨b,_,j⟩:=h;rw[(aWu j).1,d];rw[b]at hf;have hf:(e.sigs[c.n]?).map (fun g=>(g.inn,g.out))=some (i,o):=hf
  cases hg:e.sigs[c.n]? with
  | none=>rw[hg]at hf;cases hf
  | some g=>
   rw[hg]at hf;injection hf with hf;injection hf with h1 h2;rw[Ay,hg,<-h2];exact Az _
 ·have:=bZf hf b;rw[d]
  simpa using this
theorem xZ{c:CodeD}(h1:c.op≠273)(h2:c.op≠274)(h3:c.op≠275)(h4:c.op≠276)(h5:c.op≠277):nextOf c k = [(k:Int)+1]:=by
 unfold nextOf;rw[if_neg (by omega),if_neg (by omega),if_neg (by omega)]
theorem bJo{e:EnvD}{r:RowD}{c:CodeD}{s:StD}(h:actV e c k a s = .go j)(p:codeOk e r c=true):(j:Int)∈nextOf c k/\c.outs = []:=by
 obtain⟨i,o,hf,_,t,d,_,u,_⟩:=mJ p
 have g:∀ x∈c.to,((x.toNat:Nat):Int)=x:=fun x v=>by have:=u x v;omega
 have m:o = []->c.outs = []:=fun e=>by subst e;exact List.length_eq_zero_iff.1 t
 have hn:∀ op,(op=273\/op=274\/op=275)->c.op=op->o = []:=fun op h1 h2=>by
  rw[h2]at hf;rcases h1 with rfl | rfl | rfl
  ·have hf:(if c.n=0 then some (([]:List Int),([]:List Int))else none)=some (i,o):=hf
   split at hf
   ·injection hf with hf;injection hf with _ h;exact h.symm
   ·cases hf
  ·have hf:(if c.n=0 then some (([127]:List Int),([]:List Int))else none)=some (i,o):=hf
   split at hf
   ·injection hf with hf;injection hf with _ h;exact h.symm
   ·cases hf
  ·have hf:(if c.n=0 then some (([127]:List Int),([]:List Int))else none)=some (i,o):=hf
   split at hf
   ·injection hf with hf;injection hf with _ h;exact h.symm
   ·cases hf
 have hg:∀ q,q<c.to.length->c.to.getD q 0∈c.to:=fun q hq=>by
  rw[Ay,Aj hq];exact List.getElem_mem hq
 rcases aYs h with⟨b,rfl⟩ | ⟨b,hj⟩ | ⟨b,rfl⟩
 ·have f:0<c.to.length:=(by rw[b]at d;have:(1:Int)<=c.to.length:=d;omega);refine⟨?_,m (hn 273 (.inl rfl) b)⟩;unfold nextOf;rw[if_neg (by omega),if_pos (by omega),g _ (hg 0 f)];exact hg 0 f
 ·have f:0<c.to.length:=(by rw[b]at d;have:(1:Int)<=c.to.length:=d;omega);refine⟨?_,m (hn 274 (.inr (.inl rfl)) b)⟩;unfold nextOf;rw[if_neg (by omega),if_neg (by omega),if_pos b];rcases hj with rfl | rfl
  ·simp
  ·rw[g _ (hg 0 f)]
   match hc:c.to,f with
   | x :: l,_=>simp
 ·have f:0<c.to.length:=(by rw[b]at d;have:(1:Int)<=c.to.length:=d;omega);refine⟨?_,m (hn 275 (.inr (.inr rfl)) b)⟩;unfold nextOf;rw[if_neg (by omega),if_pos (by omega),g _ (hg _ (by omega))];exact hg _ (by omega)
theorem aQc{e:EnvD}{r:RowD}{c:CodeD}(hc:CheckP e r)(a:r.code[k]? = some c)(hj:(j:Int)∈nextOf c k):j<r.code.length:=by
 have f:=Ak a;obtain⟨_,_,_,_,_,b,_,g,_⟩:=mJ (hc.code c f);have ah:=(List.getElem?_eq_some_iff.1 a).1
 have last:(c.op≠273/\c.op≠275/\c.op≠276/\c.op≠277)->k+1<r.code.length:=fun hn=>by
  refine Classical.byContradiction fun ai=>?_;have:k=r.code.length - 1:=(by omega);rw[this]at a;have:=hc.last c a;omega
 have d:(j:Int)∈c.to->j<r.code.length:=fun h=>by have:=g _ h;omega
 unfold nextOf at hj
 split at hj
 ·simp at hj
 ·split at hj
  ·exact d hj
  ·split at hj
   ·simp only[Bf,BK,or_false]at hj;rcases hj with hj | hj
    ·have:=last (by omega);omega
    ·refine d ?_;rename_i i;have m:0<c.to.length:=(by rw[i]at b;have:(1:Int)<=c.to.length:=b;omega)
     match n:c.to,m with
     | x :: l,_=>rw[n]at hj;simp at hj;rw[hj];simp
   ·simp only[Bf,BK,or_false]at hj;have:=last (by omega);omega
theorem cZs{p:RowsD}{r:RowD}{c:CodeD}(hp:ProgP p)(a:c.op=16)(b:codeOk p.env r c=true)(hi:¬(c.n:Int)<p.env.imports):∃ q g,p.fns[c.n - p.env.imports.toNat]? = some q/\p.env.sigs[c.n]? = some g/\g=q.sig:=by
 obtain⟨i,o,hf,_⟩:=mJ b;rw[a]at hf;have hf:(p.env.sigs[c.n]?).map (fun g=>(g.inn,g.out))=some (i,o):=hf
 cases hg:p.env.sigs[c.n]? with
 | none=>rw[hg]at hf;cases hf
 | some g=>
  have hl:=(List.getElem?_eq_some_iff.1 hg).1;have he:=lV hp.env;have hn:=hp.len;obtain⟨q,hq⟩:∃ q,p.fns[c.n - p.env.imports.toNat]? = some q:=⟨_,Aj (by omega)⟩;refine⟨q,g,hq,rfl,?_⟩;have:=(hp.row _ q hq).2;rw[show p.env.imports.toNat+(c.n - p.env.imports.toNat)=c.n by omega,hg]at this;injection this
theorem Ev.total{p:RowsD}(hp:ProgP p)(lost:Nat):∀ (f D:Nat) (m:Nat) (r:RowD) (rk:Nat->Nat),CheckP p.env r->(∀ i c (k:Nat),r.code[i]? = some c->c.op≠258->(k:Int)∈nextOf c i->rk k<rk i) ->
  ∀ (d k:Nat) (V:List Nat) (s:StD),s.fuel=f->16 - d=D->rk k=m->k<r.code.length->∃ R,Ev p lost d r k V s R/\R.s.fuel<=s.fuel:=by
 intro f
 induction f using Bv with
 | _ f G=>
 intro D
 induction D using Bv with
 | _ D H=>
 intro m
 induction m using Bv with
 | _ m I=>
 intro r rk hc b d k V s hf A hm J
 have again:∀ (j:Nat) (V':List Nat) (s':StD),j<r.code.length->(s'.fuel<s.fuel\/(s'.fuel=s.fuel/\rk j<rk k))->∃ R,Ev p lost d r j V' s' R/\R.s.fuel<=s'.fuel:=fun j V' s' hj B=>by
  rcases B with B | ⟨h1,h2⟩
  ·exact G s'.fuel (by omega) D (rk j) r rk hc b d j V' s' rfl A rfl hj
  ·exact I (rk j) (by omega) r rk hc b d j V' s' (by omega) A rfl hj
 obtain⟨c,a⟩:∃ c,r.code[k]? = some c:=⟨_,Aj J⟩;have C:=hc.code c (Ak a)
 cases ha:actV p.env c k (argV p.env r c V) s with
 | ret l=>exact⟨_,.ret a ha,Az _⟩
 | trap x s'=>
  refine⟨_,.trap a ha,?_⟩;show s'.fuel<=s.fuel;unfold actV at ha;simp only at ha
  repeat' split at ha
  all_goals first
   | (injection ha with h1 h2;subst h2;first | exact Az _ | exact(aQu c _ s).1 | (unfold hostV;split <;> exact Az _))
   | cases ha
 | go j=>
  obtain⟨hn,_⟩:=bJo ha C;have t:c.op≠258:=(by rcases aYs ha with⟨h,_⟩ | ⟨h,_⟩ | ⟨h,_⟩ <;> omega);obtain⟨R,u,E⟩:=again j V s (aQc hc a hn) (.inr ⟨rfl,b k c j a t hn⟩);exact⟨_,.go a ha u,E⟩
 | vals l s'=>
  obtain⟨h1,h2,K,L,M,N⟩:=uZ ha;have v:=xZ (k:=k) h1 h2 K L M;have o:((k+1:Nat):Int)∈nextOf c k:=(by rw[v];simp)
  have O:s'.fuel<s.fuel\/(s'.fuel=s.fuel/\c.op≠258)\/(s'.fuel<=s.fuel/\c.op≠258):=by
   rcases N with⟨ay,_,P⟩ | ⟨_,_,Q,rfl⟩
   ·exact .inr (.inl ⟨(aWu P).2,by omega⟩)
   ·by_cases t:c.op=258
    ·exact .inl ((aQu c _ s).2 t Q)
    ·exact .inr (.inr ⟨(aQu c _ s).1,t⟩)
  obtain⟨R,u,E⟩:=again (k+1) (putV c.outs l V) s' (aQc hc a o) (by
   rcases O with h | ⟨h,w⟩ | ⟨h,w⟩
   ·exact .inl h
   ·exact .inr ⟨h,b k c (k+1) a w o⟩
   ·rcases By h with h | h
    ·exact .inl h
    ·exact .inr ⟨h,b k c (k+1) a w o⟩)
  refine⟨_,.vals a ha u,?_⟩;show R.s.fuel<=s.fuel;omega
 | call n=>
  obtain⟨S,rfl,hi⟩:=rX ha;by_cases hd:d<16
  ·obtain⟨q,g,hq,hg,rfl⟩:=cZs hp S C hi;have y:=(hp.row _ q hq).1;obtain⟨rk',T⟩:=y.rank;obtain⟨R1,F,z⟩:=H (16 - (d+1)) (by omega) (rk' 0) q rk' y T (d+1) 0 (initV q (lowL q.sig.inn (argV p.env r c V))) s hf rfl rfl (by have:=y.n1;omega);by_cases he:R1.e=0
   ·have v:=xZ (c:=c) (k:=k) (by omega) (by omega) (by omega) (by omega) (by omega);have o:((k+1:Nat):Int)∈nextOf c k:=(by rw[v];simp)
    obtain⟨R2,U,W⟩:=again (k+1) (putV c.outs R1.out (zeroV lost V)) R1.s (aQc hc a o) (by
     rcases By z with h | h
     ·exact .inl h
     ·exact .inr ⟨h,b k c (k+1) a (by omega) o⟩)
    exact⟨_,.call a ha hd hq hg F he U,BJ W z⟩
   ·exact⟨_,.callT a ha hd hq hg F he,z⟩
  ·exact⟨_,.deep a ha (by omega),Az _⟩
theorem Ev.some{p:RowsD}(hp:ProgP p)(lost:Nat){r:RowD}(hc:CheckP p.env r)(d k:Nat)(V:List Nat)(s:StD)(a:k<r.code.length):∃ R,Ev p lost d r k V s R:=by
 obtain⟨rk,b⟩:=hc.rank;obtain⟨R,c,_⟩:=Ev.total hp lost _ _ _ r rk hc b d k V s rfl rfl rfl a;exact⟨R,c⟩
theorem bZi{α:Type}{p q:α->Bool}:∀ (l:List α),(∀ x∈l,p x=true->q x=true)->(∃ x∈l,q x=true/\p x=false)->l.countP p<l.countP q
 | [],_,h=>by obtain⟨x,b,_⟩:=h;simp at b
 | a :: l,hi,h=>by
  have hle:l.countP p<=l.countP q:=List.countP_mono_left (fun x b=>hi x (AY _ b));have ha:=hi a (Bq ..);rw[BV,BV];obtain⟨x,b,hq,hp⟩:=h;rcases List.mem_cons.1 b with rfl | b
  ·rw[hq,hp];simp;omega
  ·have:=bZi l (fun x b=>hi x (AY _ b)) ⟨x,b,hq,hp⟩;cases hpa:p a
   ·simp only[Bool.false_eq_true,if_false,Bg];exact Ag this (Ae _ _)
   ·rw[ha hpa];simp only[if_true];omega
structure RkOk (r:RowD) (rk:Nat->Nat):Prop where
 lt:∀ i,rk i<=4096
 fall:∀ i c (k:Nat),r.code[i]? = some c->c.op≠258->(k:Int)∈nextOf c i->k<r.code.length->rk k<rk i
theorem CheckP.fQx{e:EnvD}{r:RowD}(h:CheckP e r):∃ rk,RkOk r rk:=by
 obtain⟨rk,a⟩:=h.rank;refine⟨fun i=>(Cx r.code.length).countP fun j=>decide (rk j<rk i),fun i=>?_,fun i c k hc b hn d=>?_⟩
 ·have:=List.countP_le_length (p:=fun j=>decide (rk j<rk i)) (l:=Cx r.code.length);rw[List.length_range]at this;have:=h.n2;omega
 ·have f:=a i c k hc b hn;refine bZi _ (fun j _ hj=>?_) ⟨k,List.mem_range.2 d,by simpa using f,by simp⟩;simp only[decide_eq_true_eq]at hj ⊢;omega
theorem dXy{e:EnvD}{c:CodeD}{s s':StD}{x:Int}(ha:actV e c k a s = .trap x s'):s'.fuel<=s.fuel:=by
 unfold actV at ha;simp only at ha
 repeat' split at ha
 all_goals first
  | (injection ha with h1 h2;subst h2;first | exact Az _ | exact(aQu c _ s).1 | (unfold hostV;split <;> exact Az _))
  | cases ha
theorem dXz{e:EnvD}{c:CodeD}{s s':StD}(ha:actV e c k a s = .vals l s'):s'.fuel<=s.fuel/\(c.op=258->s'.fuel<s.fuel):=by
 obtain⟨h1,h2,h3,h4,h5,b⟩:=uZ ha;rcases b with⟨aa,_,d⟩ | ⟨_,_,f,rfl⟩
 ·exact⟨BQ (aWu d).2,fun h=>by omega⟩
 ·exact⟨(aQu c _ s).1,fun h=>(aQu c _ s).2 h f⟩
def eYw(s:StD)(R:ResD)(op:Int)(n:Nat):Prop:=
 R.cnt+4098*R.s.fuel<=4098*s.fuel+n+1/\(op=258->R.cnt+4098*R.s.fuel<=4098*s.fuel+1/\(R.e=0->R.cnt+4098*R.s.fuel<=4098*s.fuel))
theorem Ev.fZc{p:RowsD}{r:RowD}{s:StD}{R:ResD}(hp:ProgP p)(h:Ev p lost d r k V s R):CheckP p.env r->∀ rk,RkOk r rk->∀ c,r.code[k]? = AX c->eYw s R c.op (rk k):=by
 induction h with
 | ret hc ha=>
  intro b rk hr c a;rw[hc]at a;injection a with a;subst a;have:=(aVs ha).1;exact⟨by dsimp only;omega,fun h=>by omega⟩
 | trap hc ha=>
  intro b rk hr c a;have:=dXy ha;have j:=aXz ha;refine⟨?_,fun h=>⟨?_,fun h=>absurd h j⟩⟩ <;> (dsimp only;omega)
 | @go d r k k' V s c R hc ha hn t=>
  intro b rk hr c a;rw[hc]at a;injection a with a;subst a;have x:=b.code _ (Ak hc);obtain⟨i,_⟩:=bJo ha x;have e:=aQc b hc i;have o:c.op≠258:=(by rcases aYs ha with⟨h,_⟩ | ⟨h,_⟩ | ⟨h,_⟩ <;> omega);have u:=hr.fall k c k' hc o i e;have:=(t b rk hr _ (Aj e)).1;exact⟨by dsimp only;omega,fun h=>absurd h o⟩
 | @vals d r k V s s' c l R hc ha hn t=>
  intro b rk hr c a;rw[hc]at a;injection a with a;subst a;have x:=b.code _ (Ak hc);obtain⟨h1,h2,z,A,B,_⟩:=uZ ha;have i:=xZ (k:=k) h1 h2 z A B;have e:((k+1:Nat):Int)∈nextOf c k:=(by rw[i];simp);have m:=aQc b hc e;obtain⟨hf,C⟩:=dXz ha;have:=(t b rk hr _ (Aj m)).1;have aq:=hr.lt (k+1);by_cases o:c.op=258
  ·have:=C o;exact⟨by dsimp only;omega,fun _=>⟨by dsimp only;omega,fun _=>by dsimp only;omega⟩⟩
  ·have u:=hr.fall k c (k+1) hc o e m;exact⟨by dsimp only;omega,fun h=>absurd h o⟩
 | @call d r q k n V s c g R1 R2 hc ha hd hq hg h1 he h2 ih1 ih2=>
  intro b rk hr c a;rw[hc]at a;injection a with a;subst a;obtain⟨y,rfl,_⟩:=rX ha;have i:=xZ (c:=c) (k:=k) (by omega) (by omega) (by omega) (by omega) (by omega);have e:((k+1:Nat):Int)∈nextOf c k:=(by rw[i];simp);have m:=aQc b hc e;have u:=hr.fall k c (k+1) hc (by omega) e m;have f:=(hp.row _ q hq).1;obtain⟨rk',v⟩:=f.fQx;have w:0<q.code.length:=(by have:=f.n1;omega);have j:=Aj w;have D:=((ih1 f rk' v _ j).2 (f.first _ j)).2 he;have a2:=(ih2 b rk hr _ (Aj m)).1;exact⟨by dsimp only;omega,fun h=>by omega⟩
 | @callT d r q k n V s c g R1 hc ha hd hq hg h1 he ih1=>
  intro b rk hr c a;rw[hc]at a;injection a with a;subst a;obtain⟨y,rfl,_⟩:=rX ha;have i:=xZ (c:=c) (k:=k) (by omega) (by omega) (by omega) (by omega) (by omega);have e:((k+1:Nat):Int)∈nextOf c k:=(by rw[i];simp);have m:=aQc b hc e;have u:=hr.fall k c (k+1) hc (by omega) e m;have f:=(hp.row _ q hq).1;obtain⟨rk',v⟩:=f.fQx;have w:0<q.code.length:=(by have:=f.n1;omega);have j:=Aj w;have D:=((ih1 f rk' v _ j).2 (f.first _ j)).1;exact⟨by dsimp only;omega,fun h=>by omega⟩
 | @deep d r k n V s c hc ha hd=>
  intro b rk hr c a;rw[hc]at a;injection a with a;subst a;obtain⟨y,rfl,_⟩:=rX ha;exact⟨by dsimp only;omega,fun h=>by omega⟩
theorem Ev.fZd{p:RowsD}{r:RowD}{s:StD}{R:ResD}(hp:ProgP p)(h:Ev p lost d r 0 V s R)(a:CheckP p.env r):R.cnt<=4098*s.fuel+1:=by
 obtain⟨rk,hr⟩:=a.fQx;have c:0<r.code.length:=(by have:=a.n1;omega);have b:=Aj c;have:=((h.fZc hp a rk hr _ b).2 (a.first _ b)).1;omega
theorem iQ{k:IntKind}{p q:Int}{r:Ck}(h:p=q):Ending.returned (.tuple #[.int k p,r]) = .returned (.tuple #[.int k q,r]):=by rw[h]
theorem rV(z:Int):IntKind.u64.wrap (wrap64 z)=z % 18446744073709551616:=by rw[Bz];unfold wrap64;omega
theorem aQz{M:Int}{a:Nat}(h:(a:Int)<M):((a:Int) / b) % M=(a:Int) / b:=by
 have h1:((a:Int) / b)=((a / b:Nat):Int):=(by simp);have h2:=Af a b;rw[h1];exact BX (Int.natCast_nonneg _) (by omega)
theorem aXa{M:Int}{a:Nat}(h:(a:Int)<M):((a:Int) % b) % M=(a:Int) % b:=by
 have h1:((a:Int) % b)=((a % b:Nat):Int):=(by simp);have h2:=Bd a b;rw[h1];exact BX (by omega) (by omega)
theorem dKa(k:Int)(a b:Nat)(x y:Int)(ha:a<4294967296):0<=(jZ 4294967296 (-2147483648) k a b x y).1/\(jZ 4294967296 (-2147483648) k a b x y).1<4294967296:=by
 have h1:(a:Int) / b=((a / b:Nat):Int):=(by simp);have h2:=Af a b;have h5:0<=(a:Int) / b:=Bj (by omega) (by omega);have h3:(a:Int) % b=((a % b:Nat):Int):=(by simp);have h4:=Bd a b;unfold jZ
 repeat' split
 all_goals (simp only;omega)
theorem cQq(o:BinOp)(x y:Int):0<=bits o .u32 x y/\bits o .u32 x y<4294967296:=by
 have h:∃ z,bits o .u32 x y=IntKind.u32.wrap z:=⟨_,rfl⟩;obtain⟨z,hz⟩:=h;rw[hz,AK];omega
theorem dKb(a b by_:Nat)(x:Int)(ha:a<4294967296)(k:Nat):0<=(pJ .u32 32 a b by_ x).getD k 0/\(pJ .u32 32 a b by_ x).getD k 0<4294967296:=by
 have h1:(a:Int) / 2 ^ by_=((a / 2 ^ by_:Nat):Int):=(by simp);have h2:=Af a (2 ^ by_);have h5:0<=(a:Int) / 2 ^ by_:=Bj (by omega) (Bh (Bi (by omega)));have c:=fun o x y=>cQq o x y;unfold pJ
 match k with
 | 0=>simp only[Aq,Ax,AK];omega
 | 1=>simp only[Aq,Ax,AK];omega
 | 2=>simp only[Aq,Ax,AK];omega
 | 3=>simp
 | 4=>simp
 | 5=>simp
 | 6=>simp
 | 7=>simp only[Aq,Ax];exact c _ _ _
 | 8=>simp only[Aq,Ax];exact c _ _ _
 | 9=>simp only[Aq,Ax];exact c _ _ _
 | 10=>simp only[Aq,Ax,AK];omega
 | 11=>simp only[Aq,Ax,AK];omega
 | 12=>simp only[Aq,Ax];omega
 | 13=>simp only[Aq,Ax];exact c _ _ _
 | 14=>simp only[Aq,Ax];exact c _ _ _
 | k+15=>simp
section
open Go.Lib
theorem bZt:∀ (a b x:Nat),popAux (a+b) x=popAux a x+popAux b (x / 2 ^ a)
 | 0,b,x=>by simp[popAux]
 | a+1,b,x=>by
  rw[show a+1+b=(a+b)+1 from by omega,popAux,popAux,bZt a b (x / 2),Nat.div_div_eq_div_mul,Ah,BZ 2];omega
theorem cVe:∀ (a x:Nat),popAux a (x % 2 ^ a)=popAux a x
 | 0,x=>rfl
 | a+1,x=>by
  rw[popAux,popAux,<-cVe a (x / 2)];have h1:x % 2 ^ (a+1) % 2=x % 2:=(by rw[Ah];exact Nat.mod_mul_left_mod x (2 ^ a) 2);have h2:x % 2 ^ (a+1) / 2=x / 2 % 2 ^ a:=(by rw[Ah,BZ];exact Nat.mod_mul_right_div_self x 2 (2 ^ a));rw[h1,h2]
theorem aYh:∀ a x,popAux a x<=a
 | 0,_=>Az _
 | a+1,x=>by rw[popAux];have:=aYh a (x / 2);omega
def cVf(c:Nat):Nat->Nat
 | 0=>0
 | n+1=>cVf c n*256+c
end
theorem m0:cVf 85 8=6148914691236517205:=by decide
theorem m1:cVf 51 8=3689348814741910323:=by decide
theorem m2:cVf 15 8=1085102592571150095:=by decide
theorem aYf:∀ f x,Lib.bitLenAux f x<=f
 | 0,_=>Az _
 | f+1,x=>by
  rw[Lib.bitLenAux];have:=aYf f (x / 2)
  split <;> omega
theorem eYb(q:(out == 127)=true):uQ 0 out x=wrap64 (IntKind.i8.wrap x) % 4294967296:=by rw[uQ,if_pos (eq_of_beq q),bXj,if_pos rfl]
theorem eYc(q:(out == 127)=false):uQ 0 out x=IntKind.u64.wrap (wrap64 (IntKind.i8.wrap x)):=by rw[uQ,if_neg (ne_of_beq_false q),bXj,if_pos rfl]
theorem eYd(q:(out == 127)=true):uQ 1 out x=wrap64 (IntKind.i16.wrap x) % 4294967296:=by rw[uQ,if_pos (eq_of_beq q),bXj,if_neg (by decide),if_pos rfl]
theorem eYe(q:(out == 127)=false):uQ 1 out x=IntKind.u64.wrap (wrap64 (IntKind.i16.wrap x)):=by rw[uQ,if_neg (ne_of_beq_false q),bXj,if_neg (by decide),if_pos rfl]
theorem eYf(q:(out == 127)=false):uQ 2 out x=IntKind.u64.wrap (wrap64 (wrap32 x)):=by rw[uQ,if_neg (ne_of_beq_false q),bXj,if_neg (by decide),if_neg (by decide)]
theorem aJo:∀ (f x n:Nat),x<2 ^ n->Lib.bitLenAux f x<=n
 | 0,x,n,_=>by simp[Lib.bitLenAux]
 | f+1,x,0,h=>by
  have:x=0:=(by simpa using h);simp[Lib.bitLenAux,this]
 | f+1,x,n+1,h=>by
  rw[Lib.bitLenAux];have:=aJo f (x / 2) n (by rw[Ah]at h;omega)
  split <;> omega
theorem dJe(h:x<4294967296):Lib.bitLen x<=32:=aJo 64 x 32 h
theorem dYf{W g:Nat}{y:Int}(h:(aXk W x).getD k 0=y)(hk:k<3)(a:Blk w g 3 ((aXk W x).map (Value.int .i64)).toArray):w.cell? ⟨g,k,none⟩=some (.int .i64 y):=by
 rw[a.cell k];simp only[List.getElem?_toArray,List.getElem?_map];rw[Aj (by simp[aXk];omega),<-h,Ay,Aj (by simp[aXk];omega)];rfl
theorem cZv{W x k:Nat}(a:(W=64/\x<18446744073709551616)\/(W=32/\x<4294967296))(hk:k<3):0<=(aXk W x).getD k 0/\(aXk W x).getD k 0<=64:=by
 have e:k=0\/k=1\/k=2:=by omega
 have hb:Lib.bitLen x<=W:=by
  rcases a with⟨rfl,_⟩ | ⟨rfl,c⟩
  ·exact aYf 64 x
  ·exact dJe c
 have hc:Lib.ctz W x<=W:=by
  by_cases b:x=0
  ·simp[Lib.ctz,b]
  ·have:=(Lib.lowest_bit W x b (by rcases a with⟨rfl,h⟩ | ⟨rfl,h⟩ <;> exact h)).2;omega
 have hp:=aYh W x;have aa:W<=64:=(by rcases a with⟨rfl,_⟩ | ⟨rfl,_⟩ <;> decide);clear a;rcases e with rfl | rfl | rfl
 ·show 0<=(W:Int) - Lib.bitLen x/\(W:Int) - Lib.bitLen x<=64;omega
 ·show 0<=((Lib.ctz W x:Nat):Int)/\((Lib.ctz W x:Nat):Int)<=64;omega
 ·show 0<=((Lib.popAux W x:Nat):Int)/\((Lib.popAux W x:Nat):Int)<=64;omega
def kQ(p:Int×Int)(w:Cz)(e:Ending)(w':Cz):Prop:=e = .returned (.tuple #[.int .u64 p.1,.int .i64 p.2])/\Below w.heap.size w w'
theorem eXr{a b c d:Int}(h:fY op=some (a,b,c,d)):(c=0->b=1)/\(c=1->b=10)/\(c=2->b=3)/\(c=3->b=15)/\(c=4->b=1)/\(c=5->b=2)/\(c=6->b<=3):=by
 have e:=List.mem_of_find?_eq_some h;have f:∀ g∈tQ,(g.2.2.1=0->g.2.1=1)/\(g.2.2.1=1->g.2.1=10)/\(g.2.2.1=2->g.2.1=3)/\(g.2.2.1=3->g.2.1=15)/\(g.2.2.1=4->g.2.1=1)/\(g.2.2.1=5->g.2.1=2)/\(g.2.2.1=6->g.2.1<=3):=(by decide);exact f _ e
def wY(z:Int):Prop:=0<=z/\z<18446744073709551616
def In32(z:Int):Prop:=0<=z/\z<4294967296
theorem In32.fQm{z:Int}(h:In32 z):wY z:=⟨h.1,by have:=h.2;omega⟩
theorem aKx(b:Bool):In32 (b01 b):=by cases b <;> simp[b01,In32]
theorem aQg(z:Int):wY (IntKind.u64.wrap z):=by unfold wY;rw[Bz];omega
theorem bZs(z:Int):In32 (z % 4294967296):=by unfold In32;omega
theorem aJp(o:BinOp)(x y:Int):wY (bits o .u64 x y):=by
 have h:∃ z,bits o .u64 x y=IntKind.u64.wrap z:=⟨_,rfl⟩;obtain⟨z,hz⟩:=h;rw[hz];exact aQg z
theorem dJy(a b by_:Nat)(x:Int)(ha:a<18446744073709551616)(k:Nat):wY ((pJ .u64 64 a b by_ x).getD k 0):=by
 have h1:(a:Int) / 2 ^ by_=((a / 2 ^ by_:Nat):Int):=(by simp);have h2:=Af a (2 ^ by_);have e:0<=(a:Int) / 2 ^ by_:=Bj (by omega) (Bh (Bi (by omega)));have c:=fun o x y=>aJp o x y;have d:wY 0:=⟨by omega,by omega⟩;unfold pJ
 match k with
 | 0=>exact aQg _
 | 1=>exact aQg _
 | 2=>exact aQg _
 | 3=>exact d
 | 4=>exact d
 | 5=>exact d
 | 6=>exact d
 | 7=>simp only[Aq,Ax];exact c _ _ _
 | 8=>simp only[Aq,Ax];exact c _ _ _
 | 9=>simp only[Aq,Ax];exact c _ _ _
 | 10=>exact aQg _
 | 11=>exact aQg _
 | 12=>exact(show wY ((a:Int) / 2 ^ by_)from⟨e,by rw[h1];omega⟩)
 | 13=>simp only[Aq,Ax];exact c _ _ _
 | 14=>simp only[Aq,Ax];exact c _ _ _
 | k+15=>exact d
theorem dJz(k:Int)(a b:Nat)(x y:Int)(ha:a<18446744073709551616):wY (jZ 18446744073709551616 (-9223372036854775808) k a b x y).1:=by
 have h1:(a:Int) / b=((a / b:Nat):Int):=(by simp);have h2:=Af a b;have h5:0<=(a:Int) / b:=Bj (by omega) (by omega);have h3:(a:Int) % b=((a % b:Nat):Int):=(by simp);have h4:=Bd a b;unfold jZ wY
 repeat' split
 all_goals (simp only;omega)
theorem cQo(M least k:Int)(a b:Nat)(x y:Int):(jZ M least k a b x y).2=0\/(jZ M least k a b x y).2=33\/(jZ M least k a b x y).2=34:=by
 unfold jZ
 repeat' split
 all_goals simp
theorem cQp(c d k:Int)(a b:Nat)(hd:d=126\/d=127)(ha:a<18446744073709551616)(g:d=127->a<4294967296):
  wY (hY c d k a b).1/\(c=1->In32 (hY c d k a b).1)/\(d=127->In32 (hY c d k a b).1)/\((hY c d k a b).2=0\/((hY c d k a b).2≠1/\c≠1/\3<=k/\k<=6)):=by
 have key:∀ z:Int×Int,z.2=0\/z.2=33\/z.2=34->z.2=0\/z.2≠1:=fun z h=>by omega
 rcases hd with rfl | rfl
 ·unfold hY;rw[if_pos rfl];by_cases hc:c=1
  ·rw[if_pos hc];exact⟨(aKx _).fQm,fun _=>aKx _,fun h=>absurd h (by decide),.inl rfl⟩
  ·rw[if_neg hc];by_cases e:3<=k/\k<=6
   ·rw[if_pos e];refine⟨dJz _ _ _ _ _ ha,fun h=>absurd h hc,fun h=>absurd h (by decide),?_⟩;rcases key _ (cQo 18446744073709551616 (-9223372036854775808) (k - 3) a b (wrap64 a) (wrap64 b))with h | h
    ·exact .inl h
    ·exact .inr ⟨h,hc,e.1,e.2⟩
   ·rw[if_neg e];exact⟨dJy _ _ _ _ ha _,fun h=>absurd h hc,fun h=>absurd h (by decide),.inl rfl⟩
 ·have f:=g rfl;unfold hY;rw[if_neg (by decide)];by_cases hc:c=1
  ·rw[if_pos hc];exact⟨(aKx _).fQm,fun _=>aKx _,fun _=>aKx _,.inl rfl⟩
  ·rw[if_neg hc];by_cases e:3<=k/\k<=6
   ·rw[if_pos e];have hr:In32 _:=dKa (k - 3) a b (wrap32 a) (wrap32 b) f;refine⟨hr.fQm,fun h=>absurd h hc,fun _=>hr,?_⟩;rcases key _ (cQo 4294967296 (-2147483648) (k - 3) a b (wrap32 a) (wrap32 b))with h | h
    ·exact .inl h
    ·exact .inr ⟨h,hc,e.1,e.2⟩
   ·rw[if_neg e];have hr:In32 _:=dKb a b (b % 32) (wrap32 a) f k.toNat;exact⟨hr.fQm,fun h=>absurd h hc,fun _=>hr,.inl rfl⟩
theorem yZ(z:Nat):iV 126 z=true:=by simp[iV]
theorem yJ{z:Nat}(h:z<4294967296):iV 127 z=true:=by simp[iV,h]
theorem eZy(k:Int)(x:Nat)(hx:x<18446744073709551616):wY (cQg k x):=by
 unfold cQg
 split
 ·exact aQg _
 ·exact⟨by omega,by omega⟩
theorem eZz(k out:Int)(x:Nat):wY (uQ k out x)/\(out=127->In32 (uQ k out x)):=by
 unfold uQ
 split
 ·exact⟨(bZs _).fQm,fun _=>bZs _⟩
 ·exact⟨aQg _,fun h=>absurd h (by assumption)⟩
theorem aYg(h:All64 l)(i:Nat):l.getD i 0<18446744073709551616:=by
 rw[Ay]
 cases hx:l[i]? with
 | none=>simp
 | some x=>exact h x (Ak hx)
theorem eJa{d:Int}(h:l.all (iV d)=true)(i:Nat)(hd:d=127):l.getD i 0<4294967296:=by
 subst hd;rw[Ay]
 cases a:l[i]? with
 | none=>simp
 | some x=>
  have:=List.all_eq_true.1 h x (Ak a)
  simpa[iV]using this
theorem cVd{a b c d:Int}(hg:fY op=some (a,b,c,d))(g:All64 l)(hf:l.all (iV d)=true):wY (oW c d (op - a) (kW op) l).1:=by
 obtain⟨hc,hd,_,hle,ad,_,_⟩:=aVk hg;obtain⟨r0,r1,h,r3,r4,r5,r6⟩:=eXr hg;have e:=aYg g 0;have f:=eJa (i:=0) hf;rcases hc with rfl | rfl | rfl | rfl | rfl | rfl | rfl
 ·rw[oW,if_pos rfl];exact(aKx _).fQm
 ·rw[oW,if_neg (by decide),if_neg (by decide),if_neg (by decide),if_neg (by decide),if_neg (by decide)];exact(cQp 1 d (op - a) (l.getD 0 0) (l.getD 1 0) hd e f).1
 ·rw[oW,if_neg (by decide),if_pos rfl]
  have hr:=@cZv (if d=126 then 64 else 32) (l.getD 0 0) (op - a).toNat (by
   rcases hd with rfl | rfl
   ·exact .inl ⟨rfl,e⟩
   ·exact .inr ⟨rfl,f rfl⟩) (by have:=h rfl;omega)
  exact⟨hr.1,by have:=hr.2;omega⟩
 ·rw[oW,if_neg (by decide),if_neg (by decide),if_neg (by decide),if_neg (by decide),if_neg (by decide)];exact(cQp 3 d (op - a) (l.getD 0 0) (l.getD 1 0) hd e f).1
 ·rw[oW,if_neg (by decide),if_neg (by decide),if_pos rfl];exact(bZs _).fQm
 ·rw[oW,if_neg (by decide),if_neg (by decide),if_neg (by decide),if_pos rfl];exact eZy _ _ e
 ·rw[oW,if_neg (by decide),if_neg (by decide),if_neg (by decide),if_neg (by decide),if_pos rfl];exact(eZz (op - a) (kW op) (l.getD 0 0)).1
structure StOk (e:EnvD) (s:StD):Prop where
 memB:AllB s.mem
 memL:(s.mem.length:Int)<=s.most
 most:s.most<=4096
 glen:s.globals.length=e.globals.length
 g64:All64 s.globals
 l64:All64 s.log
 i64:All64 s.input
 ilen:s.input.length<=100000
 fuel:s.fuel<=1024
theorem StOk.fXo{e:EnvD}{s:StD}(h:StOk e s):s.mem.length<=4096:=by have:=h.memL;have:=h.most;omega
theorem rZ:All64 []:=fun x a=>by simp at a
theorem bKv{b:List Nat}(ha:All64 a)(c:All64 b):All64 (a++b):=fun x d=>by
 rcases List.mem_append.1 d with h | h
 ·exact ha x h
 ·exact c x h
theorem bKw(h:n<18446744073709551616):All64 [n]:=fun x a=>by rw[List.mem_singleton.1 a];exact h
theorem cKq(h:All64 l)(k:Nat):All64 (l.take k):=fun x a=>h x (AZ a)
theorem aVv(h:All64 l)(k:Nat):All64 (l.drop k):=fun x a=>h x (Ab a)
theorem bZl(h:All64 l)(k n:Nat)(hn:n<18446744073709551616):All64 (l.set k n):=fun x a=>by
 rcases List.mem_or_eq_of_mem_set a with h1 | h1
 ·exact h x h1
 ·omega
theorem tY:∀ (ks:List Int) (l:List Nat),All64 l->All64 (lowL ks l)
 | [],l,_=>by cases l <;> exact rZ
 | t :: ks,[],_=>rZ
 | t :: ks,x :: l,h=>fun y a=>by
  rcases List.mem_cons.1 a with rfl | a
  ·have:=h x (Bq ..);unfold wV
   split <;> omega
  ·exact tY ks l (fun z hz=>h z (AY _ hz)) y a
theorem aXj:∀ (os:List Int) (a V:List Nat),All64 a->All64 V->All64 (putV os a V)
 | [],a,V,_,h=>by cases a <;> exact h
 | o :: os,[],V,_,h=>h
 | o :: os,n :: a,V,hn,h=>aXj os a _ (fun x b=>hn x (AY _ b)) (bZl h _ _ (hn n (Bq ..)))
theorem bKx(n:Nat):All64 (Be n 0):=fun x a=>by rw[List.eq_of_mem_replicate a];omega
theorem bQk(lost:Nat)(h:All64 V):All64 (zeroV lost V):=bKv (bKx _) (aVv h _)
theorem aQk(r:RowD)(h:All64 a):All64 (initV r a):=aXj _ _ _ h (bKx _)
theorem bZm(h:All64 V)(l:List Int):All64 (rJ V l):=fun x a=>by
 obtain⟨p,_,rfl⟩:=List.mem_map.1 a;exact aYg h _
theorem vV(e:EnvD)(r:RowD)(c:CodeD)(h:All64 V):All64 (argV e r c V):=tY _ _ (bZm h _)
theorem dZe(k:Int)(a:Nat)(b:Bool)(h:q<18446744073709551616):wY (aQo k a b q):=by
 have h1:wY (if b then sxV a (q:Int)else(q:Int)):=by
  split
  ·exact aQg _
  ·exact⟨by omega,by omega⟩
 unfold aQo aWx
 split
 ·exact(bZs _).fQm
 ·exact h1
theorem aWy{m:List Nat}(h:AllB m)(op:Int)(a o:Nat):wY (qZ m op a o).1:=by
 have b:wY 0:=⟨by omega,by omega⟩;unfold qZ
 cases c:acc op with
 | none=>exact b
 | some x=>
  obtain⟨k,wd,st,d⟩:=x;simp only
  split
  ·exact b
  ·split
   ·have hw:=(nW c).2.1;refine dZe k _ d ?_;have h2:=bZk ((m.drop (a+o)).take wd.toNat) (fun x e=>h x (Ab (AZ e)))
    have f:((m.drop (a+o)).take wd.toNat).length<=8:=by
     rw[Ad];omega
    exact Ag h2 (AJ (n:=256) (by omega) f)
   ·exact b
theorem bKy(op:Int)(h:All64 l):wY (uX op l).1:=by
 have e:wY 0:=⟨by omega,by omega⟩;unfold uX
 cases hg:fY op with
 | none=>exact e
 | some g=>
  obtain⟨a,b,c,d⟩:=g;simp only
  split
  ·rename_i h2;exact cVd hg h h2.2
  ·exact e
theorem aJk{z:Int}(h:wY z):z.toNat<18446744073709551616/\((z.toNat:Nat):Int)=z:=by
 have h1:=h.1;have h2:=h.2;omega
theorem aVw{e:EnvD}{s:StD}(hs:StOk e s)(ha:All64 a)(hn:n<18446744073709551616):StOk e (hostV n outs a s).2.2/\All64 (hostV n outs a s).1:=by
 have c:All64 (s.log++n :: a):=bKv hs.l64 (fun x b=>by
  rcases List.mem_cons.1 b with rfl | b
  ·exact hn
  ·exact ha x b)
 unfold hostV
 split
 ·exact⟨⟨hs.memB,hs.memL,hs.most,hs.glen,hs.g64,c,aVv hs.i64 _,by show(s.input.drop _).length<=_;rw[Aw];have:=hs.ilen;omega,hs.fuel⟩,tY _ _ (cKq hs.i64 _)⟩
 ·exact⟨⟨hs.memB,hs.memL,hs.most,hs.glen,hs.g64,c,rZ,AQ _,hs.fuel⟩,rZ⟩
theorem bJq{e:EnvD}{c:CodeD}{s:StD}(hs:StOk e s)(ha:All64 a)(hn:c.n<18446744073709551616):StOk e (mK c a s).2.2/\(mK c a s).1<18446744073709551616:=by
 have d:=aYg ha 0;have g1:=aYg ha 1;have hz:(0:Nat)<18446744073709551616:=(by omega);unfold mK
 split;· exact⟨hs,hn⟩
 split;· exact⟨hs,d⟩
 split
 ·split
  ·exact⟨hs,hz⟩
  ·exact⟨⟨hs.memB,hs.memL,hs.most,hs.glen,hs.g64,hs.l64,hs.i64,hs.ilen,by have:=hs.fuel;show s.fuel - 1<=_;omega⟩,hz⟩
 split
 ·refine⟨hs,?_⟩;show(if a.getD 2 0=0 then a.getD 1 0 else a.getD 0 0)<_
  split <;> assumption
 split;· exact⟨hs,aYg hs.g64 _⟩
 split
 ·exact⟨⟨hs.memB,hs.memL,hs.most,(Bb ..).trans hs.glen,bZl hs.g64 _ _ d,hs.l64,hs.i64,hs.ilen,hs.fuel⟩,hz⟩
 split;· exact⟨hs,hz⟩
 split
 ·rename_i ab
  split
  ·refine⟨⟨?_,?_,hs.most,hs.glen,hs.g64,hs.l64,hs.i64,hs.ilen,hs.fuel⟩,hz⟩
   ·show AllB (oX _ _ _ _ _);rename_i b;unfold oX;rw[if_pos b];exact aVu hs.memB _ _ _
   ·show((oX _ _ _ _ _).length:Int)<=s.most;rename_i b;have:=hs.memL;unfold oX;rw[if_pos b,aJj];exact this
  ·exact⟨hs,hz⟩
 ·split
  ·exact⟨hs,(aJk (aWy hs.memB _ _ _)).1⟩
  ·exact⟨hs,hz⟩
 ·have hm:=hs.fXo
  split
  ·refine⟨hs,?_⟩;show s.mem.length / 256<_;omega
  split
  ·refine⟨⟨bKu hs.memB _ _,?_,hs.most,hs.glen,hs.g64,hs.l64,hs.i64,hs.ilen,hs.fuel⟩,?_⟩
   ·show((pZ _ _ _).length:Int)<=s.most;have:=hs.memL;unfold pZ
    split
    ·rename_i f;unfold aXi at f;simp only[decide_eq_true_eq]at f;rw[Bx,AW];omega
    ·exact this
   ·show aQb _ _ _<_;unfold aQb
    split <;> omega
  ·exact⟨hs,(aJk (bKy _ ha)).1⟩
theorem aYv{e:EnvD}{c:CodeD}{s:StD}(hs:StOk e s)(ha:All64 a)(hn:c.n<18446744073709551616):(∀ l s',actV e c k a s = .vals l s'->StOk e s'/\All64 l)/\(∀ x s',actV e c k a s = .trap x s'->StOk e s'):=by
 constructor
 ·intro l s' h;obtain⟨_,_,_,_,_,b⟩:=uZ h;rcases b with⟨_,_,d⟩ | ⟨_,rfl,_,rfl⟩
  ·have:=aVw (n:=c.n) (outs:=(e.sigs.getD c.n ⟨[],[]⟩).out) hs ha hn;rw[d]at this;exact this
  ·have:=bJq hs ha hn (c:=c);exact⟨this.1,bKw this.2⟩
 ·intro x s' h;unfold actV at h;simp only at h
  repeat' split at h
  all_goals first
   | (injection h with h1 h2;subst h2;first | exact hs | exact(aVw hs ha hn).1 | exact(bJq hs ha hn).1)
   | cases h
theorem Ev.ok{p:RowsD}{r:RowD}{s:StD}{R:ResD}(e:∀ (i:Nat) q,p.fns[i]? = AX q->∀ c∈q.code,c.n<18446744073709551616)(h:Ev p lost d r k V s R):(∀ c∈r.code,c.n<18446744073709551616)->StOk p.env s->All64 V->StOk p.env R.s/\All64 R.out:=by
 induction h with
 | ret hc ha=>
  intro hr hs a;obtain⟨_,rfl⟩:=aVs ha;exact⟨hs,vV _ _ _ a⟩
 | trap hc ha=>
  intro hr hs a;exact⟨(aYv hs (vV _ _ _ a) (hr _ (Ak hc))).2 _ _ ha,rZ⟩
 | go hc ha hn b=>exact fun hr hs a=>b hr hs a
 | vals hc ha hn b=>
  intro hr hs a;have:=(aYv hs (vV _ _ _ a) (hr _ (Ak hc))).1 _ _ ha;exact b hr this.1 (aXj _ _ _ this.2 a)
 | call hc ha hd hq hg h1 he h2 ih1 ih2=>
  intro hr hs a;have:=ih1 (e _ _ hq) hs (aQk _ (tY _ _ (vV _ _ _ a)));exact ih2 hr this.1 (aXj _ _ _ this.2 (bQk _ a))
 | callT hc ha hd hq hg h1 he ih1=>
  intro hr hs a;have:=ih1 (e _ _ hq) hs (aQk _ (tY _ _ (vV _ _ _ a)));exact⟨this.1,rZ⟩
 | deep hc ha hd=>exact fun hr hs a=>⟨hs,rZ⟩
theorem aWz:∀ (os:List Int) (c V:List Nat) (k:Nat) (o:Int) (n:Nat),os[k]? = some o->c[k]? = some n->putV (os.take (k+1)) (c.take (k+1)) V=(putV (os.take k) (c.take k) V).set o.toNat n
 | [],c,V,k,o,n,h,_=>by simp at h
 | a :: os,[],V,k,o,n,_,h=>by simp at h
 | a :: os,b :: c,V,0,o,n,h,k=>by
  simp at h k;subst h;subst k;cases os <;> cases c <;> rfl
 | a :: os,b :: c,V,k+1,o,n,h,d=>by
  simp only[Bw,putV];exact aWz os c _ k o n (by simpa using h) (by simpa using d)
theorem bYw(os:List Int)(a V:List Nat)(k:Nat)(h1:os.length<=k):putV (os.take k) (a.take k) V=putV os a V:=by
 rw[Bk h1]
 induction os generalizing a V k with
 | nil=>cases a <;> cases k <;> rfl
 | cons o os b=>
  match a,k,h1 with
  | [],k+1,_=>rfl
  | n :: a,k+1,h1=>
   simp only[Bw,putV];exact b a _ k (by simpa using h1)
theorem aZa:∀ (os:List Int) (a V:List Nat),(putV os a V).length=V.length
 | [],a,V=>by cases a <;> rfl
 | o :: os,[],V=>rfl
 | o :: os,n :: a,V=>by rw[putV,aZa os a,Bb]
def aJl(i:Nat)(V:List Nat):List Nat:=Be i 0++V.drop i
theorem dZm(V:List Nat):aJl 0 V=V:=rfl
theorem dWv(h:i<=V.length):(aJl i V).length=V.length:=by
 unfold aJl;rw[Bx,AW,Aw];omega
theorem dZn(h:i<V.length):(aJl i V).set i 0=aJl (i+1) V:=by
 unfold aJl;rw[List.set_append_right _ _ (by simp),AW,Nat.sub_self,List.replicate_succ',List.append_assoc]
 congr 1
 rw[List.drop_eq_getElem_cons h];rfl
theorem dZo(h:i=min lost V.length):aJl i V=zeroV lost V:=by
 unfold aJl zeroV;subst h;by_cases a:lost<=V.length
 ·rw[Nat.min_eq_left a]
 ·rw[Nat.min_eq_right (by omega),AV (Az _),AV (by omega)]
theorem dZp{l:List Int}{p:Int}(h:l[k]? = some p):rJ V (l.take (k+1))=rJ V (l.take k) ++ [V.getD p.toNat 0]:=by
 obtain⟨h1,h2⟩:=List.getElem?_eq_some_iff.1 h;unfold rJ;rw[Ai h1,h2,List.map_append];rfl
inductive Did (p:RowsD) (lost d:Nat) (c:CodeD) (k:Nat) (a:List Nat) (s:StD):StD->Int->Nat->Nat->List Nat->Prop
 | vals {l:List Nat} {s':StD} (ha:actV p.env c k a s = .vals l s'):Did p lost d c k a s s' 0 0 0 l
 | trap {x:Int} {s':StD} (ha:actV p.env c k a s = .trap x s'):Did p lost d c k a s s' x 0 0 []
 | call {n:Nat} {q:RowD} {g:SigD} {R:ResD} (ha:actV p.env c k a s = .call n) (hd:d<16) (hq:p.fns[n - p.env.imports.toNat]? = AX q) (hg:p.env.sigs[n]? = AX g)
   (h1:Ev p lost (d+1) q 0 (initV q (lowL g.inn a)) s R):Did p lost d c k a s R.s R.e R.cnt (q.places.toNat+R.wds) R.out
 | deep {n:Nat} (ha:actV p.env c k a s = .call n) (hd:16<=d):Did p lost d c k a s s 37 0 0 []
def wW(e:EnvD)(c:CodeD):Bool:=decide (c.op=16/\¬(c.n:Int)<e.imports)
def zIf(e:EnvD)(c:CodeD)(lost:Nat)(V:List Nat):List Nat:=if wW e c=true then zeroV lost V else V
theorem dWw{e:EnvD}{c:CodeD}{s s':StD}(h:actV e c k a s = .vals l s'):wW e c=false:=by
 obtain⟨_,_,_,_,_,h1 | h1⟩:=uZ h
 ·simp[wW];exact fun _=>h1.2.1
 ·simp[wW];exact fun h2=>absurd h2 h1.1
theorem Ev.step{p:RowsD}{r:RowD}{s:StD}{R:ResD}{c:CodeD}(h:Ev p lost d r k V s R)(hc:r.code[k]? = AX c)(h1:c.op≠273)(h2:c.op≠274)(h3:c.op≠275)(i:c.op≠276):
  ∃ (s2:StD) (e2:Int) (dc wd:Nat) (l:List Nat),Did p lost d c k (argV p.env r c V) s s2 e2 dc wd l /\
   (e2=0->∃ R2,Ev p lost d r (k+1) (putV c.outs l (zIf p.env c lost V)) s2 R2/\R=⟨R2.out,R2.s,R2.e,1+dc+R2.cnt,max wd R2.wds⟩/\(c.op=16\/c.op≠16))/\(e2≠0->R=⟨[],s2,e2,1+dc,wd⟩):=by
 cases h with
 | ret a ha=>rw[hc]at a;cases a;exact absurd (aVs ha).1 i
 | trap a ha=>rw[hc]at a;cases a;exact⟨_,_,_,_,_,.trap ha,fun b=>absurd b (aXz ha),fun _=>rfl⟩
 | go a ha hn=>rw[hc]at a;cases a;rcases aYs ha with⟨h,_⟩ | ⟨h,_⟩ | ⟨h,_⟩ <;> omega
 | @vals _ _ _ _ _ s' _ l R2 a ha hn=>
  rw[hc]at a;cases a;refine⟨_,_,_,_,_,.vals ha,fun _=>⟨R2,?_,?_,by omega⟩,fun b=>absurd rfl b⟩
  ·unfold zIf;rw[if_neg (by rw[dWw ha];decide)];exact hn
  ·simp
 | @call _ _ q _ n _ _ _ g R1 R2 a ha hd hq hg f he j=>
  rw[hc]at a;cases a;obtain⟨m,rfl,af⟩:=rX ha;refine⟨_,_,_,_,_,.call ha hd hq hg f,fun _=>⟨R2,?_,rfl,by omega⟩,fun b=>absurd he b⟩;unfold zIf;rw[if_pos (by simp[wW,m];omega)];exact j
 | @callT _ _ q _ n _ _ _ g R1 a ha hd hq hg f he=>
  rw[hc]at a;cases a;exact⟨_,_,_,_,_,.call ha hd hq hg f,fun b=>absurd b he,fun _=>rfl⟩
 | deep a ha hd=>rw[hc]at a;cases a;exact⟨_,_,_,_,_,.deep ha hd,fun b=>absurd b (by decide),fun _=>rfl⟩
theorem bVa{s:StD}(ha:a.length<=8):(hostV n outs a s).2.2.log.length<=s.log.length+9:=by
 unfold hostV
 split <;> (simp;omega)
theorem dWx(c:CodeD)(a:List Nat)(s:StD):(mK c a s).2.2.log=s.log:=by
 unfold mK
 repeat' split
 all_goals rfl
theorem aVx{e:EnvD}{c:CodeD}{s:StD}(ha:a.length<=8):(∀ l s',actV e c k a s = .vals l s'->s'.log.length<=s.log.length+9)/\(∀ x s',actV e c k a s = .trap x s'->s'.log.length<=s.log.length+9):=by
 have h1:=bVa (n:=c.n) (outs:=(e.sigs.getD c.n ⟨[],[]⟩).out) (s:=s) ha;have h2:=dWx c a s;constructor
 ·intro l s' h;obtain⟨_,_,_,_,_,b⟩:=uZ h;rcases b with⟨_,_,d⟩ | ⟨_,_,_,rfl⟩
  ·rw[d]at h1;exact h1
  ·rw[h2];omega
 ·intro x s' h;unfold actV at h;simp only at h
  repeat' split at h
  all_goals first
   | (injection h with h3 f;subst f;first | exact Ae _ _ | exact h1 | (rw[h2];exact Ae _ _))
   | cases h
theorem cZp:∀ (ts:List Int) (l:List Nat),(lowL ts l).length<=ts.length
 | [],l=>by cases l <;> exact Az _
 | t :: ts,[]=>AQ _
 | t :: ts,x :: l=>by simp only[lowL,BW];have:=cZp ts l;omega
theorem bJr{e:EnvD}{r:RowD}{c:CodeD}(a:CheckP e r)(b:codeOk e r c=true)(V:List Nat):(argV e r c V).length<=8:=by
 obtain⟨i,o,hf,_⟩:=mJ b;have:=(aXy a.env a.sig hf).1;unfold argV inK;rw[hf];exact BJ (cZp _ _) this
theorem Ev.log{p:RowsD}{lost d k:Nat}{r:RowD}{V:List Nat}{s:StD}{R:ResD}(hp:ProgP p)(h:Ev p lost d r k V s R):CheckP p.env r->R.s.log.length<=s.log.length+9*R.cnt:=by
 induction h with
 | ret hc ha=>intro _;exact Ae _ _
 | trap hc ha=>
  intro a;exact(aVx (bJr a (a.code _ (Ak hc)) _)).2 _ _ ha
 | go hc ha hn b=>intro a;have:=b a;dsimp only;omega
 | vals hc ha hn b=>
  intro a;have h1:=(aVx (bJr a (a.code _ (Ak hc)) _)).1 _ _ ha;have:=b a;dsimp only;omega
 | call hc ha hd hq hg h1 he h2 ih1 ih2=>
  intro a;have c:=ih1 (hp.row _ _ hq).1;have a2:=ih2 a;dsimp only;omega
 | callT hc ha hd hq hg h1 he ih1=>
  intro a;have c:=ih1 (hp.row _ _ hq).1;dsimp only;omega
 | deep hc ha hd=>intro _;exact Ae _ _
theorem Did.log{p:RowsD}{lost d k:Nat}{c:CodeD}{a:List Nat}{s s2:StD}{e2:Int}{dc wd:Nat}{l:List Nat}(hp:ProgP p)(ha:a.length<=8)(h:Did p lost d c k a s s2 e2 dc wd l):s2.log.length<=s.log.length+9*(1+dc):=by
 cases h with
 | vals b=>have:=(aVx ha).1 _ _ b;omega
 | trap b=>have:=(aVx ha).2 _ _ b;omega
 | call b hd hq hg h1=>have:=h1.log hp (hp.row _ _ hq).1;omega
 | deep b hd=>omega
theorem Did.ok{p:RowsD}{lost d k:Nat}{c:CodeD}{a:List Nat}{s s2:StD}{e2:Int}{dc wd:Nat}{l:List Nat}(e:∀ (i:Nat) q,p.fns[i]? = AX q->∀ c∈q.code,c.n<18446744073709551616)(hs:StOk p.env s)(ha:All64 a)(hn:c.n<18446744073709551616)(h:Did p lost d c k a s s2 e2 dc wd l):StOk p.env s2/\All64 l:=by
 cases h with
 | vals b=>exact(aYv hs ha hn).1 _ _ b
 | trap b=>exact⟨(aYv hs ha hn).2 _ _ b,rZ⟩
 | call b hd hq hg h1=>exact h1.ok e (e _ _ hq) hs (aQk _ (tY _ _ ha))
 | deep b hd=>exact⟨hs,rZ⟩
theorem eKj{p:RowsD}{r:RowD}{s:StD}{R:ResD}{c:CodeD}(h:Ev p lost d r k V s R)(hc:r.code[k]? = AX c)(h1:c.op=276):R=⟨argV p.env r c V,s,0,1,0⟩:=
 h.one (.ret hc (by unfold actV;rw[if_pos h1]))
theorem eKk{p:RowsD}{r:RowD}{s:StD}{R:ResD}{c:CodeD}(h:Ev p lost d r k V s R)(hc:r.code[k]? = AX c)(h1:c.op=277):R=⟨[],s,32,1,0⟩:=
 h.one (.trap hc (by unfold actV;rw[if_neg (by omega),if_pos h1]))
theorem eWy{p:RowsD}{k':Nat}{r:RowD}{s:StD}{R:ResD}{c:CodeD}(h:Ev p lost d r k V s R)(hc:r.code[k]? = AX c)(ha:actV p.env c k (argV p.env r c V) s = .go k'):∃ R2,Ev p lost d r k' V s R2/\R=⟨R2.out,R2.s,R2.e,1+0+R2.cnt,max 0 R2.wds⟩:=by
 cases h with
 | go a b hn=>rw[hc]at a;cases a;rw[ha]at b;cases b;exact⟨_,hn,by simp⟩
 | ret a b=>rw[hc]at a;cases a;rw[ha]at b;cases b
 | trap a b=>rw[hc]at a;cases a;rw[ha]at b;cases b
 | vals a b hn=>rw[hc]at a;cases a;rw[ha]at b;cases b
 | call a b hd hq hg h1 he h2=>rw[hc]at a;cases a;rw[ha]at b;cases b
 | callT a b hd hq hg h1 he=>rw[hc]at a;cases a;rw[ha]at b;cases b
 | deep a b hd=>rw[hc]at a;cases a;rw[ha]at b;cases b
theorem dWy{e:EnvD}{c:CodeD}{s:StD}(h:c.op=273):actV e c k a s = .go (c.to.getD 0 0).toNat:=by
 unfold actV;rw[if_neg (by omega),if_neg (by omega),if_pos h]
theorem dZq{e:EnvD}{c:CodeD}{s:StD}(h:c.op=274):actV e c k a s = .go (if a.getD 0 0=0 then k+1 else(c.to.getD 0 0).toNat):=by
 unfold actV;rw[if_neg (by omega),if_neg (by omega),if_neg (by omega),if_pos h]
theorem bVb{e:EnvD}{c:CodeD}{s:StD}(h:c.op=275):actV e c k a s = .go (c.to.getD (min (a.getD 0 0) (c.to.length - 1)) 0).toNat:=by
 unfold actV;rw[if_neg (by omega),if_neg (by omega),if_neg (by omega),if_neg (by omega),if_pos h]
theorem eXj{e:EnvD}{r:RowD}{c:CodeD}(V:List Nat)(a:CheckP e r)(b:c∈r.code)(d:c.op=276):(argV e r c V).length=r.sig.out.length:=by
 obtain⟨i,o,hf,h1,_⟩:=mJ (a.code c b);have f:=hf;rw[d]at hf;have hf:(if c.n=0 then some (r.sig.out,([]:List Int))else none)=some (i,o):=hf
 split at hf
 ·injection hf with hf;injection hf with h2 _;unfold argV inK;rw[f];show(lowL i (rJ V c.args)).length=_;rw[xY _ _ (by unfold rJ;rw[Bc];exact h1.symm),h2];unfold rJ;rw[Bc];exact h1
 ·cases hf
theorem Ev.fXb{p:RowsD}{r:RowD}{s:StD}{R:ResD}(h:Ev p lost d r k V s R)(b:CheckP p.env r)(a:R.e=0):R.out.length=r.sig.out.length:=by
 induction h with
 | ret hc ha=>
  obtain⟨f,rfl⟩:=aVs ha;exact eXj _ b (Ak hc) f
 | trap hc ha=>exact absurd a (aXz ha)
 | go hc ha hn c=>exact c b a
 | vals hc ha hn c=>exact c b a
 | call hc ha hd hq hg h1 he h2 ih1 ih2=>exact ih2 b a
 | callT hc ha hd hq hg h1 he ih1=>exact absurd a he
 | deep hc ha hd=>exact absurd a (show ¬(37:Int)=0 by decide)
theorem Did.len{p:RowsD}{r:RowD}{c:CodeD}{s s2:StD}{e2:Int}{dc wd:Nat}(hp:ProgP p)(e:codeOk p.env r c=true)(f:e2=0)(h:Did p lost d c k a s s2 e2 dc wd l):c.outs.length<=l.length:=by
 cases h with
 | vals b=>exact bYp b e
 | trap b=>exact absurd f (aXz b)
 | @call n q g R b hd hq hg h1=>
  have t:=(hp.row _ _ hq).1;rw[h1.fXb t f];obtain⟨j,rfl,u⟩:=rX b;obtain⟨q',g',m,v,w⟩:=cZs hp j e u;rw[hq]at m;cases m;obtain⟨i,o,hf,_,x,_⟩:=mJ e;rw[j]at hf;have hf:(p.env.sigs[c.n]?).map (fun g=>(g.inn,g.out))=AX (i,o):=hf;rw[v]at hf;cases hf;rw[x,w];exact Az _
 | deep b hd=>exact absurd f (by decide)
theorem Ev.wds{p:RowsD}{lost d k:Nat}{r:RowD}{V:List Nat}{s:StD}{R:ResD}(hp:ProgP p)(h:Ev p lost d r k V s R):R.wds<=4096*(16 - d):=by
 induction h with
 | ret hc ha=>exact AQ _
 | trap hc ha=>exact AQ _
 | go hc ha hn a=>exact a
 | vals hc ha hn a=>exact a
 | call hc ha hd hq hg h1 he h2 ih1 ih2=>
  have:=(hp.row _ _ hq).1.p2;dsimp only;omega
 | callT hc ha hd hq hg h1 he ih1=>
  have:=(hp.row _ _ hq).1.p2;dsimp only;omega
 | deep hc ha hd=>exact AQ _
theorem Did.wd{p:RowsD}{lost d k:Nat}{c:CodeD}{a:List Nat}{s s2:StD}{e2:Int}{dc wd:Nat}{l:List Nat}(hp:ProgP p)(h:Did p lost d c k a s s2 e2 dc wd l):wd<=4096*(16 - d):=by
 cases h with
 | vals b=>exact AQ _
 | trap b=>exact AQ _
 | call b hd hq hg h1=>
  have:=(hp.row _ _ hq).1.p2;have:=h1.wds hp;omega
 | deep b hd=>exact AQ _
theorem cZq{e:EnvD}{c:CodeD}:(zIf e c lost V).length=V.length:=by
 unfold zIf zeroV
 split
 ·rw[Bx,AW,Aw];omega
 ·rfl
theorem eKl{e:EnvD}{c:CodeD}(h:All64 V):All64 (zIf e c lost V):=by
 unfold zIf
 split
 ·exact bQk _ h
 ·exact h
theorem aYx{e:EnvD}{c:CodeD}(h:(wW e c=false/\i=0)\/(wW e c=true/\i=min lost V.length)):aJl i V=zIf e c lost V:=by
 unfold zIf;rcases h with⟨h1,rfl⟩ | ⟨h1,h2⟩
 ·rw[if_neg (by rw[h1];decide)];rfl
 ·rw[if_pos h1];exact dZo h2
def RunR(C:MaC)(x:MaS)(s2:StD)(e2:Int)(dc wd:Nat)(l:List Nat)(w:Cz)(a:Ending)(w':Cz):Prop:=
 ∃ (v:Ck) (x':MaS),a = .returned v/\MRef C x' w'/\MK C x x' w w'/\x'.s=s2/\x'.e=e2/\x'.cnt=x.cnt+dc/\x'.wmax=max x.wmax (x.wcur+wd)/\x'.wcur=x.wcur/\x'.d=x.d/\(∃ A n c,v = .slice A n c) /\
  (e2=0->w'.ownsRow w.heap.size 50 1 v l.length (u64V l)/\All64 l)
structure MRunB (x:MaS) (n:Nat):Prop where
 cnt:x.cnt+n<=1000000000000
 log:x.s.log.length+9*n<=1000000000
 wle:x.wcur<=x.wmax
 wmx:x.wmax<=1000000
 wcr:x.wcur<=4096*x.d
 dle:x.d<=16
structure RowI (C:MaC) (x0:MaS) (r:RowD) (R:ResD) (wB:Cz) (vb rb:Nat) (p q t s:Ck) (k:Nat) (x1:MaS) (V:List Nat) (R':ResD) (wr:Cz):Prop where
 m:MRef C x1 wr
 mq:MK C x0 x1 wB wr
 ev:Ev C.p C.lost x0.d r k V x1.s R'
 tc:x1.cnt+R'.cnt=x0.cnt+R.cnt
 ts:R'.s=R.s
 te:R'.e=R.e
 tou:R'.out=R.out
 tw:max x1.wmax (x1.wcur+R'.wds)=max x0.wmax (x0.wcur+R.wds)
 e0:x1.e=0
 d:x1.d=x0.d
 wc:x1.wcur=x0.wcur
 b:MRunB x1 R'.cnt
 vk:Blk wr vb 50 (u64V V).toArray
 vl:V.length=r.places.toNat
 v64:All64 V
 vo:¬MOwn C x1 vb
 vlo:C.w0.heap.size<=vb
 rk:Blk wr rb 43 #[p,q,.int .i64 r.places,t,s]
 ro:¬MOwn C x1 rb
 ok:StOk C.p.env x1.s
 k:k<r.code.length
theorem RowI.pos{C:MaC}{x0:MaS}{r:RowD}{R:ResD}{q:Ck}{x1:MaS}{R':ResD}(h:RowI C x0 r R wB vb rb p q t s k x1 V R' wr):1<=R'.cnt:=by
 cases h.ev <;> simp <;> omega
theorem bJt{C:MaC}{x0 x1 x2:MaS}{r:RowD}{R R':ResD}{q v:Ck}(I:RowI C x0 r R wB vb rb p q t s k x1 V R' wr)(M:MRef C x2 w')(K:MK C x0 x2 wB w')(hs:R'.s=x2.s)(he:R'.e=x2.e)(hc:x2.cnt=x1.cnt+R'.cnt)(a:x2.wmax=max x1.wmax (x1.wcur+R'.wds))(b:x2.wcur=x1.wcur)(hd:x2.d=x1.d)
  (f:∃ A n c,v = .slice A n c) (g:R'.e=0->w'.ownsRow wB.heap.size 50 1 v R'.out.length (u64V R'.out)/\All64 R'.out):RunR C x0 R.s R.e R.cnt R.wds R.out wB (.returned v) w':=by
 refine⟨v,x2,rfl,M,K,hs.symm.trans I.ts,he.symm.trans I.te,?_,?_,b.trans I.wc,hd.trans I.d,f,fun h=>?_⟩
 ·have:=I.tc;omega
 ·rw[a];exact I.tw
 ·have:=g (I.te.trans h)
  rwa[I.tou]at this
theorem bYy{C:MaC}{x0 x1 x2:MaS}{r:RowD}{R R' R2:ResD}{k2 dc wd:Nat}{q:Ck}(I:RowI C x0 r R wB vb rb p q t s k x1 V R' wr)(M:MRef C x2 w')(K:MK C x0 x2 wB w')(ev:Ev C.p C.lost x0.d r k2 a x2.s R2)(f:R'=⟨R2.out,R2.s,R2.e,1+dc+R2.cnt,max wd R2.wds⟩)
  (hc:x2.cnt=x1.cnt+1+dc) (g:x2.wmax=max x1.wmax (x1.wcur+wd)) (c:x2.wcur=x1.wcur) (hd:x2.d=x1.d) (he:x2.e=0) (hl:x2.s.log.length<=x1.s.log.length+9*(1+dc)) (h:x2.wmax<=1000000) (i:Blk w' vb 50 (u64V a).toArray) (j:a.length=r.places.toNat) (l:All64 a) (m:¬MOwn C x2 vb) (n:Blk w' rb 43 #[p,q,.int .i64 r.places,t,s]) (o:¬MOwn C x2 rb) (u:StOk C.p.env x2.s) (v:k2<r.code.length) :
  RowI C x0 r R wB vb rb p q t s k2 x2 a R2 w':=by
 have t:=I.tc;have tb:=I.b;rw[f]at t tb;have t:x1.cnt+(1+dc+R2.cnt)=x0.cnt+R.cnt:=t;have tb:MRunB x1 (1+dc+R2.cnt):=tb;have tw:=I.tw;rw[f]at tw;have tw:max x1.wmax (x1.wcur+max wd R2.wds)=max x0.wmax (x0.wcur+R.wds):=tw;have ts:=I.ts;have te:=I.te;have tou:=I.tou;rw[f]at ts te tou;refine⟨M,K,ev,by omega,ts,te,tou,?_,he,hd.trans I.d,c.trans I.wc,⟨?_,?_,?_,h,?_,?_⟩,i,j,l,m,I.vlo,n,o,u,v⟩
 ·rw[g,c];omega
 ·have:=tb.cnt;omega
 ·have:=tb.log;omega
 ·have:=tb.wle;rw[g,c];omega
 ·have:=tb.wcr;rw[c,hd];exact this
 ·have:=tb.dle;rw[hd];exact this
def dYu(C:MaC)(x:MaS)(w:Cz)(l:List Nat)(outs:List Int)(k:Nat)(v:Ck)(wr:Cz):Prop:=∃ x1:MaS,MRef C x1 wr/\MK C x x1 w wr/\x1={ x with lv:=x1.lv,iv:=x1.iv,s:={ x.s with log:=l,input:=x.s.input.drop k } }/\wr.ownsRow w.heap.size 50 1 v k (u64V (lowL (outs.take k) (x.s.input.take k)))/\(∀ g,v.ownBlock=some g->¬MOwn C x1 g)
def bYs(C:MaC)(x:MaS)(n:Nat)(outs:List Int)(a:List Nat)(w:Cz)(b:Ending)(w':Cz):Prop:=
 ∃ (v:Ck) (x':MaS),b = .returned (.tuple #[v,.int .i64 (hostV n outs a x.s).2.1])/\MRef C x' w'/\MK C x x' w w'/\x'={ x with lv:=x'.lv,iv:=x'.iv,s:=(hostV n outs a x.s).2.2 } /\
  ((hostV n outs a x.s).2.1=0->w'.ownsRow w.heap.size 50 1 v (hostV n outs a x.s).1.length (u64V (hostV n outs a x.s).1))/\(∃ A m c,v = .slice A m c)
theorem cZo{o c:Nat}(h:UR w (.slice (some ⟨b,o,none⟩) n c) l)(hn:1<=n):UR w (.slice (some ⟨b,o+1,none⟩) (n - 1) (c - 1)) (l.drop 1):=by
 obtain⟨e,hs,hc,h0,hz,a⟩:=h.len;subst e;refine⟨some ⟨b,o+1,none⟩,c - 1,by rw[Aw],?_,by rw[Aw];omega,(fun e=>by cases e),by rw[Aw];omega,aVv a 1⟩;rw[Aw];have:=hs.drop (i:=1) hn;unfold u64V at this ⊢
 rwa[<-List.map_drop]at this
theorem bYt{o:Nat}(h:UR w (.slice (some ⟨b,o,none⟩) n 1) l)(hn:1<=n):UR w (.slice (some ⟨b,o,none⟩) 0 0) (l.drop 1):=by
 obtain⟨e,hs,hc,h0,hz,aa⟩:=h.len;have h1:n=1:=(by omega);have a:l.drop 1 = []:=AV (by omega);rw[a];exact⟨_,0,rfl,Src.nil _ _,Az _,(fun e=>by cases e),⟨by simp,by omega⟩,rZ⟩
theorem aYu{C:MaC}{x x1:MaS}{w':Cz}{l:List Nat}{outs:List Int}{k y b:Nat}{t:Int}{v c a:Ck}(p:MRef C x1 wr)(q:MK C x x1 wB wr)
  (r:x1={ x with lv:=x1.lv,iv:=x1.iv,s:={ x.s with log:=l,input:=x.s.input.drop k } }) (f:wr.ownsRow wB.heap.size 50 1 v k (u64V (lowL (outs.take k) (x.s.input.take k)))) (u:∀ g,v.ownBlock=some g->¬MOwn C x1 g)
  (w:outs[k]? = some t) (i:(x.s.input.drop k)[0]? = some y) (z:wV t y=b) (A:UR wr a ((x.s.input.drop k).drop 1)) (d:∀ k,a.ownBlock=some k->x1.iv.ownBlock=some k) (B:C.w0.heap.size<=wB.heap.size)
  (D:w'.ownsRow wB.heap.size 50 1 c (k+1) (u64V (lowL (outs.take k) (x.s.input.take k)) ++ [.int .u64 (b:Int)]))
  (j:((wr.setCell ⟨C.mb,10,none⟩ a).alloc (.cells #[.int .u64 (b:Int)] 50)).grownBy w' v.ownBlock)
  (E:c.ownBlock=v.ownBlock\/c.ownBlock=some ((wr.setCell ⟨C.mb,10,none⟩ a).alloc (.cells #[.int .u64 (b:Int)] 50)).heap.size):dYu C x wB l outs (k+1) c w':=by
 have F:=p.fQy a _ A d;have G:=q.fQy (C:=C) (x:=x1) a ((x.s.input.drop k).drop 1) d;have m:=(Ac _ (wr.setCell ⟨C.mb,10,none⟩ a)).alloc (Az _) (.cells #[.int .u64 (b:Int)] 50);have n:=F.below m
 have own2:∀ g,MOwn C { x1 with iv:=a,s:={ x1.s with input:=(x.s.input.drop k).drop 1 } } g->MOwn C x1 g:=fun g hg=>by
  rcases hg with h | h | h | h | h
  ·exact .inl h
  ·exact .inr (.inl h)
  ·exact .inr (.inr (.inl h))
  ·exact .inr (.inr (.inr (.inl (d g h))))
  ·exact .inr (.inr (.inr (.inr h)))
 have o:∀ g,v.ownBlock=some g->¬MOwn C { x1 with iv:=a,s:={ x1.s with input:=(x.s.input.drop k).drop 1 } } g:=fun g hg H=>u g hg (own2 g H);have I:=n.grown j (fun g hg=>⟨o g hg,BJ B (f.lt g hg).1⟩);refine⟨_,I,(G.below m).grown j (fun g hg=>(f.lt g hg).1),?_,?_,fun g hg=>?_⟩
 ·rw[List.drop_drop];rw[r]
 ·have J:x.s.input[k]? = some y:=(by rw[List.getElem?_drop]at i;simpa using i);rw[bVh w J,z,aVz];exact D
 ·rcases E with e | e
  ·exact o g (by rw[<-e];exact hg)
  ·rw[hg]at e;injection e with e;exact n.fresh (BQ e.symm)
theorem eKf{C:MaC}{x x1:MaS}{n k:Nat}{a:List Nat}{outs:List Int}(c:Below w.heap.size w wB)(d:MRef C x1 wr)(f:MK C x x1 wB wr)
  (b:x1={ x with lv:=x1.lv,iv:=x1.iv,s:={ x.s with log:=x.s.log++n :: a,input:=x.s.input.drop k } }) (h1:x.s.input.length=k) (h2:k<outs.length):bYs C x n outs a w (.returned (.tuple #[.slice none 0 0,.int .i64 39])) wr:=by
 have e:hostV n outs a x.s=([],39,{ x.s with log:=x.s.log++n :: a,input:=[] }):=by
  unfold hostV;rw[if_neg (by omega)]
 have hd:x.s.input.drop k = []:=AV (by omega);rw[hd]at b;refine⟨.slice none 0 0,x1,?_,d,(MK.fQh c).trans f,?_,fun h=>?_,none,0,0,rfl⟩
 ·rw[e]
 ·rw[e];exact b
 ·rw[e]at h;exact absurd h (show ¬(39:Int)=0 by decide)
theorem eWx{C:MaC}{x x1:MaS}{n k:Nat}{a:List Nat}{outs:List Int}{v:Ck}(d:Below w.heap.size w wB)(f:MRef C x1 wr)(g:MK C x x1 wB wr)
  (i:x1={ x with lv:=x1.lv,iv:=x1.iv,s:={ x.s with log:=x.s.log++n :: a,input:=x.s.input.drop k } }) (b:wr.ownsRow wB.heap.size 50 1 v k (u64V (lowL (outs.take k) (x.s.input.take k)))) (h1:k<=x.s.input.length) (h2:outs.length=k):bYs C x n outs a w (.returned (.tuple #[v,.int .i64 0])) wr:=by
 have e:hostV n outs a x.s=(lowL outs (x.s.input.take k),0,{ x.s with log:=x.s.log++n :: a,input:=x.s.input.drop k }):=by
  unfold hostV;rw[if_pos (by omega),h2]
 refine⟨v,x1,?_,f,(MK.fQh d).trans g,?_,fun h=>?_,(by obtain⟨A,c,e,_⟩:=fW b;exact⟨A,k,c,e⟩)⟩
 ·rw[e]
 ·rw[e];exact i
 ·rw[e];have j:(lowL outs (x.s.input.take k)).length=k:=(by rw[xY _ _ (by rw[Ad];omega),Ad];omega);rw[Bk (l:=outs) (by omega)]at b;show wr.ownsRow w.heap.size 50 1 v (lowL outs (x.s.input.take k)).length _;rw[j];exact jX b d.size
theorem dWi(C:MaC)(x:MaS)(n:Nat)(g:SigD)(vg va:Ck)(a:List Nat)(w:Cz)(h:MRef C x w)(hg:SigV C.w0 vg g)(ha:UR w va a)(hf:∀ k,va.ownBlock=some k->¬MOwn C x k)(hn:n<=1000)(a6:a.length<=8)(a7:g.out.length<=8)(aG:x.s.log.length<=1000000000)(bs:x.s.input.length<=100000):
  Calls fZ 65 #[.pointer (some ⟨C.mb,6,none⟩),.int .i64 n,vg,va] w (bYs C x n g.out a w):=by
 obtain⟨p,q,rfl,hp,hq⟩:=hg;obtain⟨Aa,ca,rfl⟩:=ha.shape;obtain⟨E,j,rfl⟩:=hq.shape;obtain⟨O,hO⟩:=fX g.out.length;rw[hO]at hq a7 ⊢;have HQ:=fQ hq.ir;have aH:=fQ hO;clear hO;obtain⟨lA,lc,Q,a8⟩:=fW h.log;obtain⟨L,hL⟩:=fX x.s.log.length;obtain⟨m,hm⟩:=fX a.length;rw[hL]at Q a8 aG;rw[hm]at ha a6 hf ⊢;have HL:=fQ hL;have ba:=fQ hm;have W:=(Ac w.heap.size w).alloc (Az _) (.cells #[p,.slice E O j] 40);have aj:=W.alloc (by simp) (.cells #[.int .u64 (n:Int)] 50);have aR:=fQ W;have bb:=fQ (h.below W);have K:=fQ (h.below aj);have bc:=fQ (Blk.new w 40 #[p,.slice E O j]);have bd:(w.alloc (.cells #[p,.slice E O j] 40)).cell? ⟨C.mb,11,none⟩=some (.slice lA L lc):=(by rw[bb.out.cell 11];simp[mCells,Q]);have aS:=fQ (show((w.alloc (.cells #[p,.slice E O j] 40)).alloc (.cells #[.int .u64 (n:Int)] 50)).ownsRow C.w0.heap.size 50 1 (.slice lA L lc) L (u64V x.s.log) by have:=K.out.log;rw[Q,HL.out]at this;exact this);have aT:=fQ (ha.below aj (Az _));have HF:=fQ hf;have M:=fQ Q;have be:=fQ (h.fresh (Az w.heap.size));have y1:=h.blk.lt;have bf:=h.bel.size;have aI:=fQ ha.len.2.2.2.2.2;have aJ:=fQ h.l64;have bt:(n:Int)<=1000:=(by omega);clear ha h hf W aj Q hL hm hp hq;go_in;go_wp2_with (at_builtin;refine jY _ rfl (.tmp 17) (.tmp 20) 30 rfl C.w0.heap.size 50 (.int .u64 0) 1 8 underlying30 zV rfl (by omega) (.slice lA L lc) L (u64V x.s.log) rfl aS.out (some ⟨w.heap.size+1,0,none⟩) 1 1 [.int .u64 (n:Int)] rfl (Blk.fQc (cs:=#[.int .u64 (n:Int)]) (Blk.newAt _ _ _ (by simp)) rfl) (fun u D=>by rw[List.mem_singleton.1 D];rfl) (by unfold maxLen;omega) (by omega) (by simp;omega) ?_);rintro v1 w2 d c f _;obtain⟨A1,c1,rfl,bg⟩:=fW d;have aU:=fQ d;have aK:=fQ c;have aL:=fQ (show(Value.slice A1 (L+1) c1).ownBlock=(Value.slice lA L lc).ownBlock\/(Value.slice A1 (L+1) c1).ownBlock=some ((w.alloc (.cells #[p,.slice E O j] 40)).alloc (.cells #[.int .u64 (n:Int)] 50)).heap.size by simpa using f);have aM:w.heap.size+1+1<=w2.heap.size:=(by simpa using c.size)
 have aV:=fQ (show Src w2 Aa (m*1) (u64V a) by
  rw[Cj]
  exact(aT.out.heap c.size (fun k l bj=>c.block k bj (fun e=>HF.out k l (.inr (.inr (.inl (by rw[M.out];exact e.symm))))))).len.2.1)
 clear d c f;go_wp2_with (at_builtin;refine jY _ rfl (.tmp 21) (.tmp 22) 30 rfl C.w0.heap.size 50 (.int .u64 0) 1 8 underlying30 zV rfl (by omega) (.slice A1 (L+1) c1) (L+1) (u64V x.s.log ++ [.int .u64 (n:Int)]) rfl aU.out Aa m ca (u64V a) rfl aV.out (aWa _) (by unfold maxLen;omega) (by omega) (by omega) ?_);rintro X w3 R k2 k3 _;have Y:=dYd aK.out k2 aL.out
 have ak:∀ k,X.ownBlock=some k->x.lv.ownBlock=some k\/((w.alloc (.cells #[p,.slice E O j] 40)).alloc (.cells #[.int .u64 (n:Int)] 50)).heap.size<=k:=fun k l=>by
  rcases k3 with e | e
  ·rw[l]at e;rcases aL.out with e2 | e2
   ·exact .inl (by rw[M.out,<-e2,<-e])
   ·rw[<-e]at e2;injection e2 with e2;exact .inr (BQ e2.symm)
  ·rw[l]at e;injection e with e;exact .inr (by rw[e];exact aK.out.size)
 have ah:(x.s.log++n :: a).length=L+1+m:=by simp[HL.out,ba.out];omega
 have af:w3.ownsRow C.w0.heap.size 50 1 X (x.s.log++n :: a).length (u64V (x.s.log++n :: a)):=by
  rw[ah];have:u64V (x.s.log++n :: a)=u64V x.s.log ++ [.int .u64 (n:Int)]++u64V a:=(by simp[u64V]);rw[this]
  simpa using R
 have ai:All64 (x.s.log++n :: a):=fun y S=>by
  rcases List.mem_append.1 S with h1 | h1
  ·exact aJ.out y h1
  ·rcases List.mem_cons.1 h1 with rfl | h1
   ·omega
   ·exact aI.out y h1
 have ab:Blk w3 C.mb 89 (mCells C x):=K.out.blk.grown Y (fun e=>(own_ne K.out.log K.out.blk (by decide)) (by rw[M.out];exact e));have aN:w3.cell? ⟨C.mb,11,none⟩=some (.slice lA L lc):=(by rw[ab.cell 11];simp[mCells,M.out]);have f11:=frz ab 11;have y3:=ab.lt;have HX:=fQ (K.out.fQz X (x.s.log++n :: a) (by rw[M.out];exact Y) af ai ak);have aO:=fQ (((MK.fQh (C:=C) (x:=x) ((Ac _ _).alloc (Az _) (.cells #[.int .u64 (n:Int)] 50)))).fQz (w0:=w.alloc (.cells #[p,.slice E O j] 40)) X (x.s.log++n :: a) (by rw[M.out];exact Y) ak);obtain⟨A2,c2,rfl,_⟩:=fW af;obtain⟨l2,aW⟩:=fX ((x.s.log++n :: a).length);rw[aW]at HX aO ⊢;clear R k2 k3 Y ak ah af ai ab aW bd;go_wp2_with fail;go_loopw [10,11] (fun v i wr=>∃ k:Nat,k<=O/\k<=x.s.input.length/\i = .int .i64 k/\Hid (dYu C x (w.alloc (.cells #[p,.slice E O j] 40)) (x.s.log++n :: a) g.out k v wr)) (fun _ i _=>O - (intOf i).toNat)
 case atStart=>exact⟨0,by omega,by omega,rfl,fQ ⟨_,HX.out,aO.out,rfl,World.ownsRow_nil _ _ _ _,fun g hg=>by cases hg⟩⟩
 case round=>
  clear HX aO aS K aU aK aL aV aT aN f11 y3 aM;obtain⟨k,l,bk,rfl,IV⟩:=hrel;obtain⟨x1,F,J2,J3,J4,J5⟩:=IV.out;have K1:=J2.blk bc.out be.out;have k0:=K1.cell 0;have R:=K1.cell 1;simp at k0 R;have yk:=K1.lt;have ym:=F.blk.lt;obtain⟨Av,cv,rfl,bu⟩:=fW J4;have aX:=congrArg MaS.s J3;have aw:x1.s.input=x.s.input.drop k:=(by rw[aX]);have T:UR wr x1.iv (x.s.input.drop k):=(by rw[<-aw];exact F.inp);obtain⟨iA,G,U⟩:=T.shape;obtain⟨Z,hZ⟩:=fX ((x.s.input.drop k).length);have aY:x.s.input.length=k+Z:=(by rw[Aw]at hZ;omega);rw[hZ]at U;have bw:wr.cell? ⟨C.mb,10,none⟩=some (.slice iA Z G):=(by rw[F.cell 10];simp[mCells,U]);have f10:=frz F.blk 10;rw[U]at T;have r:=fQ F;have B:=fQ J2;have N:=fQ J3;have z:=fQ J4;have aD:=fQ J5;have V:=fQ T;have aE:=fQ U;have P:=fQ aY;have bx:=fQ (HQ.out.below F.bel (Az _));have bl:=T.len.2.2.1;clear F J2 J3 J4 J5 aX aw T U hZ K1 IV aY;by_cases aZ:k<O
  ·have t1:decide ((k:Int)<O)=true:=(by simp;omega);have t2:(k:Int)<O:=(by omega);obtain⟨t,ht⟩:∃ t,g.out[k]? = some t:=⟨_,Aj (by rw[aH.out];exact aZ)⟩;obtain⟨b,o,e1,aP,a1⟩:=HQ.out.cell ht;subst e1;have hc:wr.cell? ⟨b,o+k,none⟩=some (.int .i64 t):=(r.out.bel.cell (p:=⟨b,o+k,none⟩) aP).trans a1;have hb:b<wr.heap.size:=Ag aP r.out.bel.size;have bm:b≠C.mb:=(by have:=r.out.mb;omega);have bz:∀ u,(wr.setCell ⟨C.mb,10,none⟩ u).cell? ⟨b,o+k,none⟩=some (.int .i64 t):=fun u=>(pY bm).trans hc;have bD:∀ u,(wr.setCell ⟨C.mb,10,none⟩ u).cell? ⟨w.heap.size,1,none⟩=some (.slice (some ⟨b,o,none⟩) O j):=fun u=>(pY (by omega)).trans R;clear aP a1;by_cases bn:Z=0
   ·subst bn;clear ht;go_wp2_with fail;refine bodyPost_ret (results_tmp2 (t:=8) (u:=9) rfl _ _ _) rfl ?_;exact eKf aR.out r.out B.out N.out (by have:=P.out;omega) (by rw[aH.out];exact aZ)
   ·obtain⟨y,S⟩:∃ y,(x.s.input.drop k)[0]? = some y:=⟨_,Aj (by rw[Aw];have:=P.out;omega)⟩;obtain⟨b',o',e2,bE,bo,aA⟩:=V.out.cell S;subst e2;rw[Bg]at bo;have t3:((Z:Int) == 0)=false:=(by simp;omega);have t4:(0:Int)<(Z:Int):=(by omega);have t5:(1:Int)<=(Z:Int):=(by omega);have HT:=fQ ht;have HY:=fQ S;clear ht S;have aF:1<=Z:=(by omega);by_cases bp:G=1
    ·have bq:G - 1=0:=(by omega);subst bp;have br:Z=1:=(by omega);subst br;by_cases A:t=127
     ·have t6:(t == 127)=true:=(by simp[A]);have H:=fQ (show wV t y=y % 4294967296 by unfold wV;rw[if_pos A]);have hand:=cKy aA;have I:=fQ (iJ (gY (k:=10) (u:=(.slice (some ⟨b',o',none⟩) 0 0)) z.out (own_ne z.out r.out.blk (by decide))) (.cells #[.int .u64 ((y % 4294967296:Nat):Int)] 50));go_wp2_with (at_builtin;refine jY _ rfl (.tmp 61) (.tmp 63) 30 rfl (w.alloc (.cells #[p,.slice (some ⟨b,o,none⟩) O j] 40)).heap.size 50 (.int .u64 0) 1 8 underlying30 zV rfl (by omega) (.slice Av k cv) k (u64V (lowL (g.out.take k) (x.s.input.take k))) rfl I.out (some ⟨wr.heap.size,0,none⟩) 1 1 [.int .u64 ((y % 4294967296:Nat):Int)] rfl (Blk.fQc (cs:=#[.int .u64 ((y % 4294967296:Nat):Int)]) (Blk.newAt _ _ _ (by simp)) rfl) (fun u D=>by rw[List.mem_singleton.1 D];rfl) (by unfold maxLen;omega) (by omega) (by have:=B.out.size;simp at this ⊢;omega) ?_);rintro v' w' d c f _;have J:=fQ (aYu r.out B.out N.out z.out aD.out HT.out HY.out H.out (bYt V.out aF) (by rw[aE.out];exact fun k l=>l) (by simp;omega) (by first | exact d | simpa using d) (by first | exact c | simpa using c) (by first | exact f | simpa using f));clear d c f;go_wp2;exact⟨⟨k+1,by omega,by have:=P.out;omega,by simp,J⟩,by simp[intOf];omega⟩
     ·have t6:(t == 127)=false:=(by simp[A]);have H:=fQ (show wV t y=y by unfold wV;rw[if_neg A]);clear A;have I:=fQ (iJ (gY (k:=10) (u:=(.slice (some ⟨b',o',none⟩) 0 0)) z.out (own_ne z.out r.out.blk (by decide))) (.cells #[.int .u64 ((y:Nat):Int)] 50));go_wp2_with (at_builtin;refine jY _ rfl (.tmp 61) (.tmp 63) 30 rfl (w.alloc (.cells #[p,.slice (some ⟨b,o,none⟩) O j] 40)).heap.size 50 (.int .u64 0) 1 8 underlying30 zV rfl (by omega) (.slice Av k cv) k (u64V (lowL (g.out.take k) (x.s.input.take k))) rfl I.out (some ⟨wr.heap.size,0,none⟩) 1 1 [.int .u64 ((y:Nat):Int)] rfl (Blk.fQc (cs:=#[.int .u64 ((y:Nat):Int)]) (Blk.newAt _ _ _ (by simp)) rfl) (fun u D=>by rw[List.mem_singleton.1 D];rfl) (by unfold maxLen;omega) (by omega) (by have:=B.out.size;simp at this ⊢;omega) ?_);rintro v' w' d c f _;have J:=fQ (aYu r.out B.out N.out z.out aD.out HT.out HY.out H.out (bYt V.out aF) (by rw[aE.out];exact fun k l=>l) (by simp;omega) (by first | exact d | simpa using d) (by first | exact c | simpa using c) (by first | exact f | simpa using f));clear d c f;go_wp2;exact⟨⟨k+1,by omega,by have:=P.out;omega,by simp,J⟩,by simp[intOf];omega⟩
    ·have bq:(G - 1 == 0)=false:=(by simp;omega);have bF:¬G - 1=0:=(by omega);by_cases A:t=127
     ·have t6:(t == 127)=true:=(by simp[A]);have H:=fQ (show wV t y=y % 4294967296 by unfold wV;rw[if_pos A]);have hand:=cKy aA;have I:=fQ (iJ (gY (k:=10) (u:=(.slice (some ⟨b',o'+1,none⟩) (Z - 1) (G - 1))) z.out (own_ne z.out r.out.blk (by decide))) (.cells #[.int .u64 ((y % 4294967296:Nat):Int)] 50));go_wp2_with (at_builtin;refine jY _ rfl (.tmp 61) (.tmp 63) 30 rfl (w.alloc (.cells #[p,.slice (some ⟨b,o,none⟩) O j] 40)).heap.size 50 (.int .u64 0) 1 8 underlying30 zV rfl (by omega) (.slice Av k cv) k (u64V (lowL (g.out.take k) (x.s.input.take k))) rfl I.out (some ⟨wr.heap.size,0,none⟩) 1 1 [.int .u64 ((y % 4294967296:Nat):Int)] rfl (Blk.fQc (cs:=#[.int .u64 ((y % 4294967296:Nat):Int)]) (Blk.newAt _ _ _ (by simp)) rfl) (fun u D=>by rw[List.mem_singleton.1 D];rfl) (by unfold maxLen;omega) (by omega) (by have:=B.out.size;simp at this ⊢;omega) ?_);rintro v' w' d c f _;have J:=fQ (aYu r.out B.out N.out z.out aD.out HT.out HY.out H.out (cZo V.out aF) (by rw[aE.out];exact fun k l=>l) (by simp;omega) (by first | exact d | simpa using d) (by first | exact c | simpa using c) (by first | exact f | simpa using f));clear d c f;go_wp2;exact⟨⟨k+1,by omega,by have:=P.out;omega,by simp,J⟩,by simp[intOf];omega⟩
     ·have t6:(t == 127)=false:=(by simp[A]);have H:=fQ (show wV t y=y by unfold wV;rw[if_neg A]);clear A;have I:=fQ (iJ (gY (k:=10) (u:=(.slice (some ⟨b',o'+1,none⟩) (Z - 1) (G - 1))) z.out (own_ne z.out r.out.blk (by decide))) (.cells #[.int .u64 ((y:Nat):Int)] 50));go_wp2_with (at_builtin;refine jY _ rfl (.tmp 61) (.tmp 63) 30 rfl (w.alloc (.cells #[p,.slice (some ⟨b,o,none⟩) O j] 40)).heap.size 50 (.int .u64 0) 1 8 underlying30 zV rfl (by omega) (.slice Av k cv) k (u64V (lowL (g.out.take k) (x.s.input.take k))) rfl I.out (some ⟨wr.heap.size,0,none⟩) 1 1 [.int .u64 ((y:Nat):Int)] rfl (Blk.fQc (cs:=#[.int .u64 ((y:Nat):Int)]) (Blk.newAt _ _ _ (by simp)) rfl) (fun u D=>by rw[List.mem_singleton.1 D];rfl) (by unfold maxLen;omega) (by omega) (by have:=B.out.size;simp at this ⊢;omega) ?_);rintro v' w' d c f _;have J:=fQ (aYu r.out B.out N.out z.out aD.out HT.out HY.out H.out (cZo V.out aF) (by rw[aE.out];exact fun k l=>l) (by simp;omega) (by first | exact d | simpa using d) (by first | exact c | simpa using c) (by first | exact f | simpa using f));clear d c f;go_wp2;exact⟨⟨k+1,by omega,by have:=P.out;omega,by simp,J⟩,by simp[intOf];omega⟩
  ·have t1:decide ((k:Int)<O)=false:=(by simp;omega);have aQ:O=k:=(by omega);subst aQ;go_wp2_with fail;refine bodyPost_ret (results_tmp2 (t:=8) (u:=9) rfl _ _ _) rfl ?_;exact eWx aR.out r.out B.out N.out z.out bk aH.out
theorem vQ(A:Option Addr)(n c addr a:Nat)(w:Cz)(hn:n<=140737488355328):
  Calls fZ 117 #[.slice A n c,.int .u64 addr,.int .u64 a] w fun e w'=>e = .returned (.bool (wJ n addr a))/\w=w':=by
 by_cases h1:addr<=1099511627776
 ·have d:decide ((addr:Int)<=1099511627776)=true:=(by simp;omega);by_cases h2:a<=1099511627776
  ·have f:decide ((a:Int)<=1099511627776)=true:=(by simp;omega);have b:=fQ (show wJ n addr a=decide (addr+a<=n) by simp[wJ,h1,h2]);go_in;go_wp2;go_ret;rw[b.out];refine⟨?_,rfl⟩;show Ending.returned (.bool (decide ((addr:Int)+(a:Int)<=(n:Int))))=_
   congr 2
   rw[Bool.eq_iff_iff];simp;omega
  ·have f:decide ((a:Int)<=1099511627776)=false:=(by simp;omega);have b:=fQ (show wJ n addr a=false by simp[wJ,h1,h2]);clear h1 h2;go_in;go_wp2;go_ret;rw[b.out];exact⟨rfl,rfl⟩
 ·have d:decide ((addr:Int)<=1099511627776)=false:=(by simp;omega);have b:=fQ (show wJ n addr a=false by simp[wJ,h1]);clear h1;go_in;go_wp2;go_ret;rw[b.out];exact⟨rfl,rfl⟩
theorem eWz{y:Nat}(hy:y<256)(b:k<=7)(hq:q<256 ^ k):bits .or .u64 (q:Int) (IntKind.u64.wrap ((y:Int)*2 ^ (8*k)))=((q+y*256 ^ k:Nat):Int):=by
 have h1:256 ^ k<=256 ^ 7:=AJ (by omega) b;have h2:y*256 ^ k<=255*256 ^ k:=Nat.mul_le_mul_right _ (by omega);have a:(256:Nat) ^ k=2 ^ (8*k):=(by rw[Ba])
 have e:(y:Int)*2 ^ (8*k)=((y*256 ^ k:Nat):Int):=by
  rw[Int.natCast_mul,a,Int.natCast_pow];rfl
 rw[e,aZx (by omega),bQe (by omega) (by omega)];refine congrArg BY ?_;rw[a]at hq ⊢;rw[<-Nat.shiftLeft_eq,Cq,<-Nat.shiftLeft_add_eq_or_of_lt hq];omega
theorem bYx:∀ (l:List Nat) (b:Nat),leN (l ++ [b])=leN l+b*256 ^ l.length
 | [],b=>by simp[leN]
 | x :: l,b=>by
  simp only[List.cons_append,leN,bYx l b,BW,Ah];have:b*(256 ^ l.length*256)=256*(b*256 ^ l.length):=(by rw[<-Nat.mul_assoc,BZ]);omega
theorem eXk{a:Nat}(h:a<18446744073709551616):bits .and .u64 (a:Int) 1=((a % 2:Nat):Int):=by
 rw[show(1:Int)=((1:Nat):Int)from rfl,bits_and_u64_nat a 1 h (by omega)];exact congrArg BY (Nat.and_one_is_mod a)
theorem dZr{a:Nat}(h:a<18446744073709551616):bits .and .u64 (a:Int) 4294967295=((a % 4294967296:Nat):Int):=by
 rw[show(4294967295:Int)=((2 ^ 32 - 1:Nat):Int)from rfl,bits_and_u64_nat a (2 ^ 32 - 1) h (by decide)];exact congrArg BY (Nat.and_two_pow_sub_one_eq_mod a 32)
theorem eXl(hj:1<=j)(a:j<=8)(hq:q<256 ^ j):(bits .and .u64 ((q:Int) / 2 ^ (8*j - 1)) 1 == 1)=decide (2 ^ (8*j - 1)<=q):=by
 have e:(q:Int) / 2 ^ (8*j - 1)=((q / 2 ^ (8*j - 1):Nat):Int):=(by simp);have h2:256 ^ j=2*2 ^ (8*j - 1):=(by rw[show(256:Nat)=2 ^ 8 from rfl,<-Ba,<-Nat.pow_succ'];congr 1;omega);have h8:256 ^ j<=256 ^ 8:=AJ (by omega) a;have hp:0<2 ^ (8*j - 1):=Nat.two_pow_pos _;have hd:q / 2 ^ (8*j - 1)<2:=(by rw[Nat.div_lt_iff_lt_mul hp];omega);rw[e,eXk (by omega),Nat.mod_eq_of_lt hd,Bool.eq_iff_iff];have:=Nat.le_div_iff_mul_le hp (x:=1) (y:=q);simp;omega
theorem eKm(hj:j=1\/j=2\/j=4\/j=8)(hq:q<256 ^ j):sxV j q=((if 2 ^ (8*j - 1)<=q then q+18446744073709551616 - 256 ^ j else q:Nat):Int):=by
 rcases hj with rfl | rfl | rfl | rfl <;> simp only[sxV,Bz,wrap64] <;> split <;> simp at * <;> omega
theorem eKn{t:Nat}(a:x<2 ^ t)(ht:t<64):bits .or .u64 (x:Int) (IntKind.u64.wrap (2 ^ t))=((x+2 ^ t:Nat):Int):=by
 have h1:(2:Nat) ^ t<=2 ^ 63:=AJ (by omega) (by omega);rw[show((2:Int) ^ t)=((2 ^ t:Nat):Int)from by simp,aZx (by omega),bQe (by omega) (by omega)];refine congrArg BY ?_;have:=Nat.two_pow_add_eq_or_of_lt a 1;rw[Cj]at this;rw[Cq,<-this];omega
theorem aKu(j:Nat):256 ^ j=2 ^ (8*j):=by rw[show(256:Nat)=2 ^ 8 from rfl,<-Ba]
def eYa(q j:Nat)(a i:Ck):Prop:=∃ t:Nat,8*j<=t/\t<=64/\i = .int .i64 t/\a = .int .u64 ((q+2 ^ t - 256 ^ j:Nat):Int)
def eKo(part:List Nat)(a:Nat)(b i:Ck):Prop:=∃ k:Nat,k<=a/\i = .int .i64 k/\b = .int .u64 (leN (part.take k):Nat)
theorem dWz(b o n c addr off a:Nat)(op k:Int)(s:Bool)(m:List Nat)(w:Cz)(B:acc op=some (k,(a:Int),false,s))(hn:n<=140737488355328)
  (ha:addr<=4294967295) (ho:off<=4294967295) (K:m.length=n) (L:AllB m) (aB:addr+off+a<=n) (M:∀ j (h:j<m.length),w.cell? ⟨b,o+j,none⟩=some (.int .u8 ((m[j]:Nat):Int))) :
  Calls fZ 119 #[.slice (some ⟨b,o,none⟩) n c,.int .i64 op,.int .u64 addr,.int .u64 off] w fun e w'=>
   e = .returned (.tuple #[.int .u64 (aQo k a s (leN ((m.drop (addr+off)).take a))),.int .i64 0])/\Below w.heap.size w w':=by
 obtain⟨S,N,_,_⟩:=nW B;have T:1<=a:=(by omega);have O:a<=8:=(by omega);have U:=fQ (show fJ op = .tuple #[.int .i64 k,.int .i64 a,.bool false,.bool true] by simp[fJ,B]);have V:=fQ B;have W:=fQ M;have g:=fQ K;have D:=fQ L;have X:=fQ N;have Y:wJ n (addr+off) a=true:=(by simp[wJ];omega);clear B M K L N S;have g1:decide (4294967295<(addr:Int))=false:=(by simp;omega);have g2:decide (4294967295<(off:Int))=false:=(by simp;omega);go_in;go_wp2_with fail;refine(gZ _ _).mono ?_;rintro e w1 ⟨rfl,rfl⟩;rw[U.out];go_wp2_with fail;refine(vQ _ n c (addr+off) a _ hn).mono ?_;rintro e w1 ⟨rfl,rfl⟩;rw[Y];go_wp2_with fail;go_loop [14,15] (fun E i=>eKo ((m.drop (addr+off)).take a) a E i) (fun _ i=>a+1 - (intOf i).toNat)
 case atStart=>exact⟨0,by omega,rfl,rfl⟩
 case round=>
  obtain⟨j,hj,rfl,rfl⟩:=hrel;by_cases F:j<a
  ·have Z:=W.out (addr+off+j) (by rw[g.out];omega);have P:=D.out.get (k:=addr+off+j) (by rw[g.out];omega);have ah:decide ((j:Int)<(a:Int))=true:=(by simpa using F);obtain⟨y,G⟩:=fX (m[addr+off+j]'(by rw[g.out];omega));rw[G]at Z P;have HY:=fQ G;obtain⟨q,hq⟩:=fX (leN (((m.drop (addr+off)).take a).take j));rw[hq];have l:=fQ hq;clear G hq;go_wp2;refine⟨⟨j+1,by omega,by simp,?_⟩,by simp[intOf];omega⟩;have ay:j<((m.drop (addr+off)).take a).length:=(by simp[g.out];omega);have hlen:(((m.drop (addr+off)).take a).take j).length=j:=(by simp[g.out];omega)
   have az:q<256 ^ j:=by
    have:=bZk (((m.drop (addr+off)).take a).take j) (fun x f=>D.out x (Ab (AZ (AZ f))));rw[hlen]at this;rw[<-l.out];exact this
   rw[eWz P (by omega) az,Ai ay,bYx,hlen,l.out];simp[HY.out]
  ·obtain rfl:j=a:=(by omega);rw[List.take_take,Nat.min_self];have hq:=bZk ((m.drop (addr+off)).take j) (fun x f=>D.out x (Ab (AZ f)));rw[show((m.drop (addr+off)).take j).length=j from by simp[g.out];omega]at hq
   revert hq
   generalize l:leN ((m.drop (addr+off)).take j)=q;intro hq;replace l:=fQ l;have H:j=1\/j=2\/j=4\/j=8:=(by have:=X.out;omega);have I:=eXl T O hq;have C:=fQ (eKm H hq);have aC:=fQ H;clear H;go_wp2_with fail;refine(cJm V.out _).mono ?_;rintro e w1 ⟨rfl,rfl⟩
   have fin:∀ (v:Int) (p:Array Ck),p.getD 8 undef = .int .u64 v->p.getD 9 undef = .int .i64 0->v=aQo k j s q ->
     bodyPost fZ Tryz.f119 (fun e w'=>e = .returned (.tuple #[.int .u64 (aQo k j s (leN ((m.drop (addr+off)).take j))),.int .i64 0])/\Below w.heap.size w w') Exit.ret { tmps:=p,defers:=[] } w:=by
    intro v p e8 e9 hv;refine bodyPost_ret (results_tmp2 (t:=8) (u:=9) rfl _ _ _) rfl ⟨?_,Ac _ _⟩;rw[l.out,<-hv];show Ending.returned (.tuple #[p.getD 8 undef,p.getD 9 undef])=_;rw[e8,e9]
   have aj:q<18446744073709551616:=Ag hq (AJ (n:=256) (by omega) O);have Q:=fQ (dZr aj)
   cases s with
   | true=>
    by_cases r:2 ^ (8*j - 1)<=q
    ·rw[decide_eq_true r]at I;have A:=fQ r;have J:=fQ hq;clear r hq;go_wp2;go_loop [14,16] (fun E i=>eYa q j E i) (fun _ i=>65 - (intOf i).toNat)
     case atStart=>exact⟨8*j,Az _,by omega,by simp,by rw[aKu];simp⟩
     case round=>
      obtain⟨t,aA,aD,rfl,rfl⟩:=hrel;by_cases F:t<64
      ·have ah:decide ((t:Int)<64)=true:=(by simp;omega);generalize d:q+2 ^ t - 256 ^ j=x;replace d:=fQ d;go_wp2;have hp:2 ^ (8*j)<=2 ^ t:=AJ (by omega) aA;have hq:=J.out;rw[aKu]at hq;refine⟨⟨t+1,by omega,by omega,by simp,?_⟩,by simp[intOf];omega⟩;have f:x<2 ^ t:=(by rw[<-d.out,aKu];omega);rw[eKn f F,<-d.out,aKu,Ah];refine congrArg (fun z:Nat=>Value.int .u64 (z:Int)) ?_;omega
      ·obtain rfl:t=64:=(by omega);generalize d:q+2 ^ 64 - 256 ^ j=x;replace d:=fQ d
       have f:x<18446744073709551616:=by
        have:=J.out;have:=d.out;omega
       have R:=fQ (show x=q+18446744073709551616 - 256 ^ j from d.out.symm);go_wp2
       ·refine fin _ _ rfl rfl ?_;rw[dZr f,aQo,if_pos rfl,C.out,if_pos A.out,aWx,if_pos (eq_of_beq ‹(k == 127)=true›),R.out];rfl
       ·refine fin _ _ rfl rfl ?_;rw[aQo,if_pos rfl,C.out,if_pos A.out,aWx,if_neg (ne_of_beq_false ‹(k == 127)=false›),R.out]
    ·rw[decide_eq_false r]at I;have A:=fQ r;have J:=fQ hq;clear r hq;go_wp2
     ·refine fin _ _ rfl rfl ?_;rw[Q.out,aQo,if_pos rfl,C.out,if_neg A.out,aWx,if_pos (eq_of_beq ‹(k == 127)=true›)];rfl
     ·refine fin _ _ rfl rfl ?_;rw[aQo,if_pos rfl,C.out,if_neg A.out,aWx,if_neg (ne_of_beq_false ‹(k == 127)=false›)]
   | false=>
    clear I;go_wp2
    ·refine fin _ _ rfl rfl ?_;rw[Q.out,aQo,if_neg (by decide),aWx,if_pos (eq_of_beq ‹(k == 127)=true›)];rfl
    ·refine fin _ _ rfl rfl ?_;rw[aQo,if_neg (by decide),aWx,if_neg (ne_of_beq_false ‹(k == 127)=false›)]
theorem bQl(A:Option Addr)(n c addr off:Nat)(op:Int)(m:List Nat)(w:Cz)(hs:Src w A n (bys m))(t:AllB m)(hn:n<=140737488355328):
  Calls fZ 119 #[.slice A n c,.int .i64 op,.int .u64 addr,.int .u64 off] w fun e w'=>e = .returned (.tuple #[.int .u64 (qZ m op addr off).1,.int .i64 (qZ m op addr off).2])/\Below w.heap.size w w':=by
 have d:m.length=n:=by have:=hs.1;rwa[aYl]at this
 cases a:acc op with
 | none=>
  have f:=fQ (show qZ m op addr off=(0,1) by simp[qZ,a]);have g:=fQ (show fJ op = .tuple #[.int .i64 0,.int .i64 0,.bool false,.bool false] by simp[fJ,a]);clear a hs d;go_in;go_wp2_with fail;refine(gZ _ _).mono ?_;rintro e w1 ⟨rfl,rfl⟩;rw[g.out];go_wp2;go_ret2;rw[f.out];exact⟨rfl,Ac _ _⟩
 | some r=>
  obtain⟨k,wd,st,u⟩:=r;obtain⟨hk,af,_,_⟩:=nW a;obtain⟨h,rfl⟩:=Int.eq_ofNat_of_zero_le (show 0<=wd by omega);have g:=fQ (show fJ op = .tuple #[.int .i64 k,.int .i64 h,.bool st,.bool true] by simp[fJ,a])
  cases st with
  | true=>
   have f:=fQ (show qZ m op addr off=(0,1) by simp[qZ,a]);clear a hs d;go_in;go_wp2_with fail;refine(gZ _ _).mono ?_;rintro e w1 ⟨rfl,rfl⟩;rw[g.out];go_wp2;go_ret2;rw[f.out];exact⟨rfl,Ac _ _⟩
  | false=>
   by_cases i:4294967295<addr\/4294967295<off
   ·have f:=fQ (show qZ m op addr off=(0,1) by simp[qZ,a,vK,i]);clear a hs d;by_cases h1:4294967295<addr
    ·have l:decide (4294967295<(addr:Int))=true:=(by simp;omega);clear i;go_in;go_wp2_with fail;refine(gZ _ _).mono ?_;rintro e w1 ⟨rfl,rfl⟩;rw[g.out];go_wp2;go_ret2;rw[f.out];exact⟨rfl,Ac _ _⟩
    ·have l:decide (4294967295<(addr:Int))=false:=(by simp;omega);have v:decide (4294967295<(off:Int))=true:=(by simp;omega);clear i;go_in;go_wp2_with fail;refine(gZ _ _).mono ?_;rintro e w1 ⟨rfl,rfl⟩;rw[g.out];go_wp2;go_ret2;rw[f.out];exact⟨rfl,Ac _ _⟩
   ·by_cases hi:wJ n (addr+off) h=true
    ·have hp:(vK m.length h addr off).2=0:=(by simp[vK,i,d,hi]);obtain⟨ag,p,ha,q⟩:=bKt hp;rw[d,Int.toNat_natCast]at p;obtain⟨b,o,rfl,ah,hc⟩:=hs.2 (by omega);refine(dWz b o n c addr off h op k u m w a hn ha q d t p (fun j hj=>hc j _ (by simp[bys,hj]))).mono ?_;rintro e w' ⟨rfl,x⟩;refine⟨?_,x⟩;simp[qZ,a,hp]
    ·have s:wJ n (addr+off) h=false:=(by simpa using hi);have f:=fQ (show qZ m op addr off=(0,35) by simp[qZ,a,vK,i,d,s]);clear a hs d hi;have l:decide (4294967295<(addr:Int))=false:=(by simp;omega);have v:decide (4294967295<(off:Int))=false:=(by simp;omega);have ha:addr<=4294967295:=(by omega);have q:off<=4294967295:=(by omega);clear i;go_in;go_wp2_with fail;refine(gZ _ _).mono ?_;rintro e w1 ⟨rfl,rfl⟩;rw[g.out];go_wp2_with fail;refine(vQ _ n c (addr+off) h _ hn).mono ?_;rintro e w1 ⟨rfl,rfl⟩;rw[s];go_wp2;go_ret2;rw[f.out];exact⟨rfl,Ac _ _⟩
end Go.Proofs.YtabibkpfgmolkaaGreat

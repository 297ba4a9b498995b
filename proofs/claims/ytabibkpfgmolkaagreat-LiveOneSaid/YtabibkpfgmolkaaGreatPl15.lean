/- Lemmas for the claim, part 15. Conditions: none. -/
import Derived.Test.YtabibkpfgmolkaaGreatPl11
import Derived.Test.YtabibkpfgmolkaaGreatPl14
import Derived.Deep.CutBlock
set_option maxRecDepth 100000
set_option maxHeartbeats 16000000
set_option linter.unusedVariables false
set_option linter.unusedSimpArgs false
open Go.Lib renaming hid→fQ
open Go.Proofs.Tryz renaming prog→fZ
open Go.Proofs.Tryz
open Go.RowKit
open List renaming getElem?_eq_getElem→Aj,getD_eq_getElem?_getD→Aq,mem_of_getElem?→Ax,length_map→Ay,length_replicate→AJ,getElem?_map→AQ,replicate→AX,mem_cons_of_mem→AV,getElem?_eq_none→Ab,mem_cons_self→Ac,pairwise_map→Af,take_of_length_le→Ai,length_append→Bj,length_drop→Bq,length_set→Bx,Nodup→Bz,take_zero→Bk
open Nat renaming lt_of_lt_of_le→Az,le_refl→Ak,lt_succ_self→AW,add_zero→Bv
open Go.RowKit.Below renaming cell→Aw,refl→AK,size→Ae
open Int renaming toNat_of_nonneg→AZ,toNat_natCast→Ag
open Array renaming getElem?_eq_getElem→AY
open Go.IntWalk renaming i64_in→Ad
open Bool renaming and_eq_true→Ah
open Go renaming World→Bw,Value→By
namespace Go.Proofs.YtabibkpfgmolkaaGreat
variable {k lost y base vb:Nat}{a b p:Int}{V l:List Nat}{w wr:Bw}
end Go.Proofs.YtabibkpfgmolkaaGreat
namespace Go.Proofs.YtabibkpfgmolkaaGreat
variable {k lost y base vb:Nat}{a b p:Int}{V l:List Nat}{w wr:Bw}
open List renaming setIfInBounds_toArray->jA,set_cons_zero->jB,set_cons_succ->jC
theorem aJp:∀ (os:List Int) (a V:List Nat),(putV os a V).length=V.length
 | [],_,V=>by cases ‹List Nat› <;> rfl
 | o :: os,[],V=>rfl
 | o :: os,n :: a,V=>by rw[putV,aJp os a,Bx]
theorem aQk:∀ (os:List Int) (a V:List Nat) (i:Nat),(∀ o∈os,0<=o)->(i:Int) ∉ os->(putV os a V).getD i 0=V.getD i 0
 | [],a,V,i,_,_=>by cases a <;> rfl
 | o :: os,[],V,i,_,_=>rfl
 | o :: os,n :: a,V,i,c,h=>by
  rw[putV,aQk os a _ i (fun x b=>c x (AV _ b)) (fun b=>h (AV _ b))];have h1:=c o (Ac ..);have h2:o.toNat≠i:=fun e=>h (by rw[<-e,AZ h1];exact Ac ..);rw[Aq,Aq,List.getElem?_set_ne h2]
theorem aXb:∀ (os:List Int) (c V:List Nat) (j:Nat) (o:Int) (n:Nat),(∀ o∈os,0<=o/\o<(V.length:Int))->os.Nodup->os[j]? = some o->c[j]? = some n->(putV os c V).getD o.toNat 0=n
 | [],c,V,j,o,n,_,_,h,_=>by simp at h
 | a :: os,[],V,j,o,n,_,_,_,h=>by simp at h
 | a :: os,b :: c,V,0,o,n,d,hn,h1,h2=>by
  simp at h1 h2;subst h1;subst h2;have ha:=d a (Ac ..);rw[putV,aQk os c _ _ (fun x e=>(d x (AV _ e)).1) (by rw[AZ ha.1];exact(List.nodup_cons.1 hn).1)];rw[Aq,List.getElem?_set_self (by omega)];rfl
 | a :: os,b :: c,V,j+1,o,n,d,hn,h1,h2=>by
  rw[putV];exact aXb os c _ j o n (fun x e=>by rw[Bx];exact d x (AV _ e)) (List.nodup_cons.1 hn).2 (by simpa using h1) (by simpa using h2)
theorem cVo(lost:Nat)(V:List Nat):(zeroV lost V).length=V.length:=by
 unfold zeroV;rw[Bj,AJ,Bq];omega
theorem dXd{i:Nat}(h:lost<=i):(zeroV lost V).getD i 0=V.getD i 0:=by
 unfold zeroV;rw[Aq,Aq];by_cases a:lost<=V.length
 ·rw[List.getElem?_append_right (by rw[AJ];omega),AJ,Nat.min_eq_left a,List.getElem?_drop,show lost+(i - lost)=i by omega]
 ·rw[Ab (by rw[Bj,AJ,Bq];omega),Ab (by omega)]
theorem cQo(V:List Nat):zeroV 0 V=V:=by
 unfold zeroV;simp
structure SimR (r r':RowD) (h:Int->Int) (lost:Nat):Prop where
 sig:r'.sig=r.sig
 par:r'.params=r.params.map h
 code:r'.code=r.code.map fun c=>{ c with args:=c.args.map h,outs:=c.outs.map h }
 rng:∀ p:Int,0<=p->p<r.places->0<=h p/\h p<r'.places
 cl:∀ p q:Int,0<=p->p<r.places->0<=q->q<r.places->Clashes r p q->h p≠h q
 ac:∀ p:Int,0<=p->p<r.places->AcrossP r p->(lost:Int)<=h p
structure SimV (r r':RowD) (h:Int->Int) (k:Nat) (V V':List Nat):Prop where
 l:V.length=r.places.toNat
 l':V'.length=r'.places.toNat
 v:∀ p,Live r k p->V'.getD (h p).toNat 0=V.getD p.toNat 0
structure ProgSim (p p':RowsD) (lost:Nat):Prop where
 env:p'.env=p.env
 row:∀ (i:Nat) q,p.fns[i]? = some q->CheckP p.env q/\∃ q' h,p'.fns[i]? = some q'/\SimR q q' h lost
theorem SimR.at{r r':RowD}{h:Int->Int}{c:CodeD}(hs:SimR r r' h lost)(hc:r.code[k]? = some c):r'.code[k]? = some { c with args:=c.args.map h,outs:=c.outs.map h }:=by
 rw[hs.code,AQ,hc];rfl
theorem SimV.arg{e:EnvD}{r r':RowD}{h:Int->Int}{lost k:Nat}{V V':List Nat}{c:CodeD}(hs:SimR r r' h lost)(a:SimV r r' h k V V')(hc:r.code[k]? = some c):argV e r' { c with args:=c.args.map h,outs:=c.outs.map h } V'=argV e r c V:=by
 have hg:qX V' (c.args.map h)=qX V c.args:=by
  unfold qX;rw[List.map_map];exact List.map_congr_left fun p hp=>a.v p (.arg hc hp)
 unfold argV;show lowL (inK e r'.sig { c with args:=c.args.map h,outs:=c.outs.map h }) (qX V' (c.args.map h))=lowL (inK e r.sig c) (qX V c.args);rw[hg,hs.sig];rfl
theorem bWc{r:RowD}{c:CodeD}(hc:r.code[k]? = some c)(hb:LiveB r k p)(ho:p ∉ c.outs):Live r k p:=by
 obtain⟨c',a,j,b,d⟩:=hb;rw[hc]at a;injection a with a;subst a;exact .step hc b d ho
theorem SimV.put{e:EnvD}{r r':RowD}{h:Int->Int}{j:Nat}{V':List Nat}{c:CodeD}(t:CheckP e r)(hs:SimR r r' h lost)(g:SimV r r' h k V V')(hc:r.code[k]? = some c)(F:(j:Int)∈nextOf c k)(hl:c.outs.length<=l.length)
  (f:List Nat) (z:f.length=V'.length) (G:∀ p,LiveB r k p->p ∉ c.outs->f.getD (h p).toNat 0=V'.getD (h p).toNat 0)
  (H:c.op=272->∀ a,c.args[0]? = some a->∀ n,l[0]? = some n->n=V.getD a.toNat 0):SimV r r' h j (putV c.outs l V) (putV (c.outs.map h) l f):=by
 obtain⟨_,_,_,_,aw,_,_,_,_,d,A⟩:=lQ (t.code c (Ax hc));refine⟨by rw[aJp];exact g.l,by rw[aJp,z];exact g.l',fun p hp=>?_⟩;have m:=hp.range t;have u:LiveB r k p:=⟨c,hc,j,F,hp⟩;have I:=hs.rng p m.1 m.2
 have w:∀ o∈c.outs.map h,0<=o/\o<(f.length:Int):=fun o ho=>by
  obtain⟨x,B,rfl⟩:=List.mem_map.1 ho;have:=hs.rng x (d x B).1 (d x B).2;rw[z,g.l'];omega
 have C:(c.outs.map h).Nodup:=by
  rw[Bz,Af];exact(List.Pairwise.and_mem.1 A).imp (fun {a b} q=>hs.cl a b (d a q.1).1 (d a q.1).2 (d b q.2.1).1 (d b q.2.1).2 ⟨q.2.2,.inl (.inl ⟨k,c,hc,q.1,.inr q.2.1⟩)⟩)
 by_cases s:p∈c.outs
 ·obtain⟨i,hi⟩:=List.mem_iff_getElem?.1 s;have J:=(List.getElem?_eq_some_iff.1 hi).1;obtain⟨n,hn⟩:∃ n,l[i]? = some n:=⟨_,Aj (by omega)⟩;rw[aXb c.outs l V i p n (fun o ho=>by have:=d o ho;rw[g.l];omega) A hi hn];exact aXb (c.outs.map h) l f i (h p) n w C (by rw[AQ,hi];rfl) hn
 ·have D:=bWc hc u s;rw[aQk c.outs l V _ (fun o ho=>(d o ho).1) (by rw[AZ m.1];exact s),<-g.v p D];by_cases E:h p∈c.outs.map h
  ·obtain⟨o,ho,heq⟩:=List.mem_map.1 E;have K:o≠p:=fun e=>s (e ▸ ho)
   have L:c.op=272/\∃ a,c.args[0]? = some a/\p=a:=by
    refine Classical.byContradiction fun hn=>?_;refine hs.cl o p (d o ho).1 (d o ho).2 m.1 m.2 ⟨K,.inl (.inl ⟨k,c,hc,ho,.inl ⟨u,fun y a ha e=>hn ⟨y,a,ha,e⟩⟩⟩)⟩ heq
   obtain⟨y,a,ha,rfl⟩:=L;obtain⟨i,hi⟩:=List.mem_iff_getElem?.1 ho;have J:=(List.getElem?_eq_some_iff.1 hi).1
   have ax:c.outs.length<=1:=by
    obtain⟨i',o',hf,_,h2,_⟩:=lQ (t.code c (Ax hc));rw[h2];exact aYj hf (by omega)
   have M:i=0:=(by omega);subst M;obtain⟨n,hn⟩:∃ n,l[0]? = some n:=⟨_,Aj (by omega)⟩;have:=aXb (c.outs.map h) l f 0 (h o) n w C (by rw[AQ,hi];rfl) hn;rw[heq]at this;rw[this,H y p ha n hn,g.v p D]
  ·rw[aQk (c.outs.map h) l f _ (fun o ho=>(w o ho).1) (by rw[AZ I.1];exact E)];exact G p u s
theorem bZf(r:RowD)(a:List Nat):(initV r a).length=r.places.toNat:=by
 unfold initV;rw[aJp,AJ]
theorem bKj(n i:Nat):(AX n 0).getD i 0=0:=by
 rw[Aq];by_cases h:i<n
 ·rw[List.getElem?_replicate];simp[h]
 ·rw[Ab (by simpa using h)];rfl
theorem SimV.init{e:EnvD}{r r':RowD}{h:Int->Int}(f:CheckP e r)(hs:SimR r r' h lost)(a:List Nat)(ha:r.params.length<=a.length):SimV r r' h 0 (initV r a) (initV r' a):=by
 have c:∀ x∈r.params,0<=x/\x<r.places:=fun x g=>uK f.pin g;refine⟨bZf r a,bZf r' a,fun p hp=>?_⟩;have d:=hp.range f;have l:=hs.rng p d.1 d.2;unfold initV;rw[hs.par]
 have k:∀ o∈r.params.map h,0<=o/\o<((AX r'.places.toNat 0).length:Int):=fun o ho=>by
  obtain⟨x,g,rfl⟩:=List.mem_map.1 ho;have:=hs.rng x (c x g).1 (c x g).2;rw[AJ];omega
 have m:(r.params.map h).Nodup:=by
  rw[Bz,Af];exact(List.Pairwise.and_mem.1 f.pun).imp (fun {a b} q=>hs.cl a b (c a q.1).1 (c a q.1).2 (c b q.2.1).1 (c b q.2.1).2 ⟨q.2.2,.inl (.inr ⟨q.1,.inl q.2.1⟩)⟩)
 by_cases j:p∈r.params
 ·obtain⟨i,hi⟩:=List.mem_iff_getElem?.1 j;have ai:=(List.getElem?_eq_some_iff.1 hi).1;obtain⟨n,hn⟩:∃ n,a[i]? = some n:=⟨_,Aj (by omega)⟩;rw[aXb r.params a _ i p n (fun o ho=>by have:=c o ho;rw[AJ];omega) f.pun hi hn];exact aXb (r.params.map h) a _ i (h p) n k m (by rw[AQ,hi];rfl) hn
 ·rw[aQk r.params a _ _ (fun o ho=>(c o ho).1) (by rw[AZ d.1];exact j),bKj];rw[aQk (r.params.map h) a _ _ (fun o ho=>(k o ho).1) ?_,bKj];rw[AZ l.1];intro s;obtain⟨o,ho,heq⟩:=List.mem_map.1 s;exact hs.cl o p (c o ho).1 (c o ho).2 d.1 d.2 ⟨fun e=>j (e ▸ ho),.inl (.inr ⟨ho,.inr hp⟩)⟩ heq
theorem sim{p p':RowsD}{d:Nat}{r:RowD}{s:StD}{R:ResD}(hp:ProgSim p p' lost)(E:ProgP p)(he:Ev p 0 d r k V s R):∀ (r':RowD) (h:Int->Int) (V':List Nat),SimR r r' h lost->CheckP p.env r->SimV r r' h k V V' ->
  ∃ R',Ev p' lost d r' k V' s R'/\R'.out=R.out/\R'.s=R.s/\R'.e=R.e/\R'.cnt=R.cnt:=by
 have t:=hp.env
 have act:∀ {r r':RowD} {h:Int->Int} {k:Nat} {V V':List Nat} {c:CodeD} {s:StD} {A:ActD},SimR r r' h lost->SimV r r' h k V V'->r.code[k]? = some c->actV p.env c k (argV p.env r c V) s=A->actV p'.env { c with args:=c.args.map h,outs:=c.outs.map h } k (argV p'.env r' { c with args:=c.args.map h,outs:=c.outs.map h } V') s=A:=fun hs b hc ha=>by
  rw[t,SimV.arg hs b hc,<-ha];rfl
 induction he with
 | ret hc ha=>exact fun r' h V' hs f b=>⟨_,.ret (hs.at hc) (act hs b hc ha),rfl,rfl,rfl,rfl⟩
 | trap hc ha=>exact fun r' h V' hs f b=>⟨_,.trap (hs.at hc) (act hs b hc ha),rfl,rfl,rfl,rfl⟩
 | deep hc ha hd=>exact fun r' h V' hs f b=>⟨_,.deep (hs.at hc) (act hs b hc ha) hd,rfl,rfl,rfl,rfl⟩
 | @go d r k k' V s c R hc ha hn K=>
  intro r' h V' hs f b;obtain⟨w,ho⟩:=bQr ha (f.code c (Ax hc));have u:=b.put (l:=[]) (j:=k') f hs hc w (by rw[ho];exact Ak _) V' rfl (fun _ _ _=>rfl) (fun _ a _ n hn=>by simp at hn);rw[ho]at u;obtain⟨R',h1,h2,L,M,N⟩:=K r' h V' hs f u;exact⟨_,.go (hs.at hc) (act hs b hc ha) h1,h2,L,M,by show 1+R'.cnt=1+R.cnt;rw[N]⟩
 | @vals d r k V s s' c l R hc ha hn K=>
  intro r' h V' hs f b;have v:=f.code c (Ax hc);obtain⟨q1,q2,q3,q4,q5,aC⟩:=rK ha;have w:((k+1:Nat):Int)∈nextOf c k:=(by rw[uQ q1 q2 q3 q4 q5];simp)
  have u:=b.put f hs hc w (bKa ha v) V' rfl (fun _ _ _=>rfl) (fun O a F n hn=>by
   rcases aC with⟨aH,_⟩ | ⟨_,rfl,_⟩
   ·omega
   ·rw[cKm O]at hn;injection hn with hn;rw[<-hn];obtain⟨i,o,hf,h1,_⟩:=lQ v;have y:=hf;rw[O]at hf;have hf:(if c.n=0 then some (([0]:List Int),([0]:List Int))else none)=some (i,o):=hf
    split at hf
    ·injection hf with hf;injection hf with h2 _;have aD:inK p.env r.sig c = [0]:=(by unfold inK;rw[y,<-h2];rfl)
     match aE:c.args,F with
     | x :: xs,F=>
      simp at F;subst F;unfold argV qX;rw[aD,aE];rfl
    ·cases hf)
  obtain⟨R',h1,h2,L,M,N⟩:=K r' h _ hs f u;exact⟨_,.vals (hs.at hc) (act hs b hc ha) h1,h2,L,M,by show 1+R'.cnt=1+R.cnt;rw[N]⟩
 | @call d r q k n V s c g R1 R2 hc ha hd hq hg h1 G h2 ih1 ih2=>
  intro r' h V' hs f b;have v:=f.code c (Ax hc);obtain⟨H,rfl,himp⟩:=pY ha;obtain⟨m,q',P,Q,z⟩:=hp.row _ q hq;have w:((k+1:Nat):Int)∈nextOf c k:=(by rw[uQ (by omega) (by omega) (by omega) (by omega) (by omega)];simp);obtain⟨i,o,hf,B,X,_⟩:=lQ v;have y:=hf;rw[H]at hf;have hf:(p.env.sigs[c.n]?).map (fun g=>(g.inn,g.out))=some (i,o):=hf;rw[hg]at hf;injection hf with hf;injection hf with S Y
  have I:g=q.sig:=by
   have:=(E.row _ q hq).2;have he:=mW E.env;rw[show p.env.imports.toNat+(c.n - p.env.imports.toNat)=c.n by omega,hg]at this;injection this
  have C:(argV p.env r c V).length=g.inn.length:=by
   unfold argV inK;rw[y];show(lowL i (qX V c.args)).length=_;rw[uW _ _ (by unfold qX;rw[Ay];exact B.symm),S];unfold qX;rw[Ay];exact B
  obtain⟨D,T,e2,U,J,W⟩:=ih1 q' P (initV q' (lowL g.inn (argV p.env r c V))) z m (SimV.init m z _ (by rw[uW _ _ C.symm,C,m.par,I];exact Ak _));have aF:R1.out.length=q.sig.out.length:=h1.eZg m G
  have u:=b.put (l:=R1.out) (j:=k+1) f hs hc w (by rw[aF,X,<-Y,I];exact Ak _) (zeroV lost V') (cVo _ _) (fun p Z aG=>by
   have aB:=Z.range f;have:=hs.ac p aB.1 aB.2 ⟨k,c,hc,H,Z,aG⟩
   exact dXd (by omega)) (fun O=>by omega)
  rw[<-cQo V]at u;obtain⟨S2,f1,f2,f3,f4,f5⟩:=ih2 r' h _ hs f u;refine⟨_,.call (q:=q') (g:=g) (R1:=D) (R2:=S2) (hs.at hc) (act hs b hc ha) hd (by rw[t];exact Q) (by rw[t];exact hg) (by rw[t,SimV.arg hs b hc];exact T) (by rw[J];exact G) (by rw[e2,U];exact f1),f2,f3,f4,?_⟩;show 1+D.cnt+S2.cnt=1+R1.cnt+R2.cnt;rw[W,f5]
 | @callT d r q k n V s c g R1 hc ha hd hq hg h1 G ih1=>
  intro r' h V' hs f b;have v:=f.code c (Ax hc);obtain⟨H,rfl,himp⟩:=pY ha;obtain⟨m,q',P,Q,z⟩:=hp.row _ q hq;obtain⟨i,o,hf,B,X,_⟩:=lQ v;have y:=hf;rw[H]at hf;have hf:(p.env.sigs[c.n]?).map (fun g=>(g.inn,g.out))=some (i,o):=hf;rw[hg]at hf;injection hf with hf;injection hf with S Y
  have I:g=q.sig:=by
   have:=(E.row _ q hq).2;have he:=mW E.env;rw[show p.env.imports.toNat+(c.n - p.env.imports.toNat)=c.n by omega,hg]at this;injection this
  have C:(argV p.env r c V).length=g.inn.length:=by
   unfold argV inK;rw[y];show(lowL i (qX V c.args)).length=_;rw[uW _ _ (by unfold qX;rw[Ay];exact B.symm),S];unfold qX;rw[Ay];exact B
  obtain⟨D,T,e2,U,J,W⟩:=ih1 q' P (initV q' (lowL g.inn (argV p.env r c V))) z m (SimV.init m z _ (by rw[uW _ _ C.symm,C,m.par,I];exact Ak _));refine⟨_,.callT (q:=q') (g:=g) (R1:=D) (hs.at hc) (act hs b hc ha) hd (by rw[t];exact Q) (by rw[t];exact hg) (by rw[t,SimV.arg hs b hc];exact T) (by rw[J];exact G),rfl,U,J,?_⟩;show 1+D.cnt=1+R1.cnt;rw[W]
def mgH(a b p:Int):Int:=if p=a then b else p
def mgC(a b:Int)(c:CodeD):CodeD:={ c with args:=c.args.map (mgH a b),outs:=c.outs.map (mgH a b) }
def mgR(r:RowD)(a b:Int):RowD:={ r with params:=r.params.map (mgH a b),code:=r.code.map (mgC a b) }
structure MgP (r:RowD) (a b:Int):Prop where
 a0:0<=a
 a1:a<r.places
 b0:0<=b
 b1:b<r.places
 nc:¬Clashes r a b
theorem MgP.rng{r:RowD}(h:MgP r a b)(c:0<=p)(h1:p<r.places):0<=mgH a b p/\mgH a b p<r.places:=by
 unfold mgH
 split
 ·exact⟨h.b0,h.b1⟩
 ·exact⟨c,h1⟩
theorem MgP.ne{r:RowD}{q:Int}(h:MgP r a b)(hc:Clashes r p q):mgH a b p≠mgH a b q:=by
 unfold mgH
 split
 ·rename_i hp;subst hp
  split
  ·rename_i hq;exact absurd hq.symm hc.1
  ·intro e;subst e;exact h.nc hc
 ·split
  ·rename_i hq;subst hq;intro e;subst e;exact h.nc hc.symm
  ·exact hc.1
theorem dVb{r:RowD}(h:MgP r a b):SimR r (mgR r a b) (mgH a b) 0:=
 ⟨rfl,rfl,rfl,fun p c h1=>h.rng c h1,fun p q _ _ _ _ hc=>h.ne hc,fun p c h1 _=>(h.rng c h1).1⟩
theorem aKk{r:RowD}(h:MgP r a b){l:List Int}(c:∀ x∈l,0<=x/\x<r.places):within r.places (l.map (mgH a b))=true:=by
 unfold within;rw[List.all_eq_true];intro x d;obtain⟨p,hp,rfl⟩:=List.mem_map.1 d;have:=c p hp;have:=h.rng this.1 this.2
 simpa using this
theorem bJz{r:RowD}(h:MgP r a b){l:List Int}(hn:l.Nodup)(hc:∀ x∈l,∀ y∈l,x≠y->Clashes r x y):(l.map (mgH a b)).Nodup:=by
 rw[Bz,Af];exact(List.Pairwise.and_mem.1 hn).imp (fun {x y} q=>h.ne (hc x q.1 y q.2.1 q.2.2))
theorem dQd{e:EnvD}{r:RowD}(hc:CheckP e r)(h:MgP r a b):CheckP e (mgR r a b) where
 env:=hc.env
 sig:=hc.sig
 n1:=by simpa[mgR]using hc.n1
 n2:=by simpa[mgR]using hc.n2
 p1:=hc.p1
 p2:=hc.p2
 par:=by
  show(r.params.map (mgH a b)).length=_;rw[Ay];exact hc.par
 pin:=aKk h (fun x j=>uK hc.pin j)
 pun:=bJz h hc.pun (fun x j y l m=>⟨m,.inl (.inr ⟨j,.inl l⟩)⟩)
 code:=by
  intro c d;obtain⟨f,p,rfl⟩:=List.mem_map.1 (show c∈r.code.map (mgC a b)from d);obtain⟨i,hi⟩:=List.mem_iff_getElem?.1 p;have g:=hc.code f p;obtain⟨_,_,_,_,_,_,_,_,q,s,t⟩:=lQ g;unfold codeOk at g ⊢
  show(match iZ e r.sig f.op f.n with
   | none=>false
   | some (i,o)=>decide ((f.args.map (mgH a b)).length=i.length/\(f.outs.map (mgH a b)).length=o.length/\qK f.op<=f.to.length/\(f.to.length:Int)<=nX f.op) && (within r.places (f.args.map (mgH a b)) && (within r.places (f.outs.map (mgH a b)) && (decide (f.outs.map (mgH a b)).Nodup && within (r.code.map (mgC a b)).length f.to))))=true
  cases hf:iZ e r.sig f.op f.n with
  | none=>rw[hf]at g;cases g
  | some u=>
   obtain⟨i1,o1⟩:=u;rw[hf]at g;simp only[Ah,decide_eq_true_eq]at g ⊢;obtain⟨v,k2,k3,k4,w⟩:=g;refine⟨by rw[Ay,Ay];exact v,aKk h q,aKk h s,bJz h t (fun x j y l m=>⟨m,.inl (.inl ⟨i,f,hi,j,.inr l⟩)⟩),by rw[Ay];exact w⟩
 first:=by
  intro c d;have d:(r.code.map (mgC a b))[0]? = some c:=d;rw[AQ]at d
  cases h0:r.code[0]? with
  | none=>rw[h0]at d;cases d
  | some f=>
   rw[h0]at d;injection d with d;subst d;exact hc.first f h0
 last:=by
  intro c d;have d:(r.code.map (mgC a b))[(r.code.map (mgC a b)).length - 1]? = some c:=d;rw[Ay,AQ]at d
  cases h0:r.code[r.code.length - 1]? with
  | none=>rw[h0]at d;cases d
  | some f=>
   rw[h0]at d;injection d with d;subst d;exact hc.last f h0
 rank:=by
  obtain⟨rk,z⟩:=hc.rank;refine⟨rk,fun i c k d A g=>?_⟩;have d:(r.code.map (mgC a b))[i]? = some c:=d;rw[AQ]at d
  cases h0:r.code[i]? with
  | none=>rw[h0]at d;cases d
  | some f=>
   rw[h0]at d;injection d with d;subst d;exact z i f k h0 A g
def MgRow(r r':RowD):Prop:=r'=r\/∃ a b,MgP r a b/\r'=mgR r a b
theorem MgRow.check{e:EnvD}{r r':RowD}(h:MgRow r r')(hc:CheckP e r):CheckP e r'/\r'.sig=r.sig:=by
 rcases h with rfl | ⟨a,b,c,rfl⟩
 ·exact⟨hc,rfl⟩
 ·exact⟨dQd hc c,rfl⟩
theorem MgRow.sim{r r':RowD}(h:MgRow r r'):∃ h,SimR r r' h 0:=by
 rcases h with rfl | ⟨a,b,d,rfl⟩
 ·exact⟨id,rfl,by simp,by simp,fun p c h1=>⟨c,h1⟩,fun p q _ _ _ _ hc=>hc.1,fun p c _ _=>c⟩
 ·exact⟨_,dVb d⟩
theorem dZj{p g:RowsD}(hp:ProgP p)(he:g.env=p.env)(c:g.fns.length=p.fns.length)(b:∀ (i:Nat) r r',p.fns[i]? = some r->g.fns[i]? = some r'->MgRow r r'):ProgP g/\ProgSim p g 0:=by
 constructor
 ·refine⟨by rw[he];exact hp.env,by rw[he,c];exact hp.len,fun i r' hi=>?_⟩;have h1:=(List.getElem?_eq_some_iff.1 hi).1;obtain⟨r,a⟩:∃ r,p.fns[i]? = some r:=⟨_,Aj (by omega)⟩;have h2:=(b i r r' a hi).check (hp.row i r a).1;rw[he,h2.2];exact⟨h2.1,(hp.row i r a).2⟩
 ·refine⟨he,fun i r hi=>⟨(hp.row i r hi).1,?_⟩⟩;have h1:=(List.getElem?_eq_some_iff.1 hi).1;obtain⟨r',a⟩:∃ r',g.fns[i]? = some r':=⟨_,Aj (by omega)⟩;obtain⟨h,hs⟩:=(b i r r' hi a).sim;exact⟨r',h,a,hs⟩
theorem aYg:(fZ.info? 3).map (fun i=>(i.zero,i.size,i.bytes))=some (some (.int .i64 0),1,8):=by kernel_rfl
theorem dZk{l:List Int}{x:Int}(h:l[k]? = some x):(l.map (mgH a b)).take (k+1)=(l.map (mgH a b)).take k ++ [mgH a b x]:=by
 have h2:(l.map (mgH a b))[k]? = some (mgH a b x):=(by rw[AQ,h];rfl);obtain⟨h1,c⟩:=List.getElem?_eq_some_iff.1 h2;rw[List.take_succ_eq_append_getElem h1,c]
def cKl(l:List Int)(a b:Int)(w:Bw)(c:Ending)(w':Bw):Prop:=∃ v,c = .returned v/\w'.ownsRow w.heap.size 3 1 v l.length (i64s (l.map (mgH a b)))/\Below w.heap.size w w'
theorem aJh(v:By)(l:List Int)(a b:Int)(w:Bw)(p:IR w v l)(hz:l.length<=100000):Calls fZ 10 #[v,.int .i64 a,.int .i64 b] w (cKl l a b w):=by
 obtain⟨A2,c2,rfl⟩:=p.shape;have E:=fQ p;obtain⟨n,hn⟩:=fX l.length;unfold cKl;rw[hn]at E hz ⊢;have F:=fQ hn;clear p hn;go_in;go_wp2_with fail;go_loopw [7,12] (fun v i wr=>∃ k:Nat,k<=n/\i = .int .i64 k/\Hid (wr.ownsRow w.heap.size 3 1 v k (i64s ((l.map (mgH a b)).take k)))/\Hid (Below w.heap.size w wr)) (fun _ i _=>n - (intOf i).toNat)
 case atStart=>exact⟨0,by omega,rfl,fQ (World.ownsRow_nil _ _ _ _),fQ (AK _ _)⟩
 case round=>
  obtain⟨k,hk,rfl,iO,d⟩:=hrel;obtain⟨q,r,H,_⟩:=gZ iO.out;subst H;by_cases I:k<n
  ·have J:decide ((k:Int)<n)=true:=(by simp;omega);have t2:(k:Int)<n:=(by omega);obtain⟨x,m⟩:∃ x,l[k]? = some x:=⟨_,Aj (by rw[F.out];exact I)⟩;obtain⟨b2,o2,rfl,al,an⟩:=(E.out.below d.out (Ak _)).cell m;have G:=fQ (dZk (a:=a) (b:=b) m);have hsz:=d.out.size;have fin:∀ y:Int,mgH a b x=y->∃ c:True,Hid ((wr.alloc (.cells #[.int .i64 y] 3)).ownsRow w.heap.size 3 1 (.slice q k r) k (i64s ((l.map (mgH a b)).take k)))/\Hid (Below w.heap.size w (wr.alloc (.cells #[.int .i64 y] 3))):=fun y hy=>⟨trivial,fQ (jY iO.out _),fQ (d.out.alloc d.out.size _)⟩;by_cases o:x=a
   ·subst o;have K:(x == x)=true:=(by simp);have e:=fQ (show mgH x b x=b by unfold mgH;rw[if_pos rfl]);obtain⟨_,f,s⟩:=fin _ e.out;clear m fin;go_wp2_with (at_builtin;refine kV _ rfl (.tmp 20) (.tmp 22) 23 rfl w.heap.size 3 (.int .i64 0) 1 8 underlying23 aYg rfl (by omega) (.slice q k r) k (i64s ((l.map (mgH x b)).take k)) rfl f.out (some ⟨wr.heap.size,0,none⟩) 1 1 [.int .i64 b] rfl (Blk.eXm (cs:=#[.int .i64 b]) (Blk.newAt _ _ _ rfl) rfl) (fun u t=>by rw[List.mem_singleton.1 t];rfl) (by unfold maxLen;omega) (by omega) (by simp;omega) ?_);rintro z w' c g A _
    have h:w'.ownsRow w.heap.size 3 1 z (k+1) (i64s ((l.map (mgH x b)).take (k+1))):=by
     rw[G.out,e.out,aWf];exact c
    have B:=fQ h;have C:=fQ (jV s.out g (by simp;omega) (fun j D=>(f.out.lt j D).1));clear c h g A;go_wp2;exact⟨⟨k+1,by omega,by simp,B,C⟩,by simp[intOf];omega⟩
   ·have K:(x == a)=false:=(by simp[o]);have e:=fQ (show mgH a b x=x by unfold mgH;rw[if_neg o]);obtain⟨_,f,s⟩:=fin _ e.out;clear m o fin;go_wp2_with (at_builtin;refine kV _ rfl (.tmp 20) (.tmp 22) 23 rfl w.heap.size 3 (.int .i64 0) 1 8 underlying23 aYg rfl (by omega) (.slice q k r) k (i64s ((l.map (mgH a b)).take k)) rfl f.out (some ⟨wr.heap.size,0,none⟩) 1 1 [.int .i64 x] rfl (Blk.eXm (cs:=#[.int .i64 x]) (Blk.newAt _ _ _ rfl) rfl) (fun u t=>by rw[List.mem_singleton.1 t];rfl) (by unfold maxLen;omega) (by omega) (by simp;omega) ?_);rintro z w' c g A _
    have h:w'.ownsRow w.heap.size 3 1 z (k+1) (i64s ((l.map (mgH a b)).take (k+1))):=by
     rw[G.out,e.out,aWf];exact c
    have B:=fQ h;have C:=fQ (jV s.out g (by simp;omega) (fun j D=>(f.out.lt j D).1));clear c h g A;go_wp2;exact⟨⟨k+1,by omega,by simp,B,C⟩,by simp[intOf];omega⟩
  ·have J:decide ((k:Int)<n)=false:=(by simp;omega);have L:n=k:=(by omega);subst L;have M:=fQ (show(l.map (mgH a b)).take n=l.map (mgH a b)from Ai (by rw[Ay,F.out];exact Ak _));go_wp2;go_ret;exact⟨_,rfl,by have:=iO.out;rw[M.out]at this;exact this,d.out⟩
theorem bZc:(fZ.info? 50).map (fun i=>(i.zero,i.size,i.bytes))=some (some (.int .u64 0),1,8):=by kernel_rfl
theorem aJo{s:SigD}(h:sigOk s=true):s.inn.length<=8/\s.out.length<=8:=by
 unfold sigOk kK at h;simp only[Ah,decide_eq_true_eq]at h;exact⟨h.1.1,h.2.1⟩
theorem aYt{n c:Nat}{A:Option Addr}(h:w.ownsRow base 50 1 (.slice A n c) n (u64V l))(d:n<=17592186043904)(f:All64 l):UR w (.slice A n c) l:=by
 have e:l.length=n:=(by have:=h.1;simpa[u64V]using this);subst e;refine⟨A,c,rfl,Src.eXq h,?_⟩;rcases h.2 with⟨h1,h2⟩ | ⟨g,cap,cur,h1,_,_,i,j,_⟩
 ·injection h1 with a e2 b;subst a;subst b;exact⟨by omega,fun _=>rfl,⟨d,by omega⟩,f⟩
 ·injection h1 with a e2 b;subst b;exact⟨i,(fun e=>by rw[e]at a;cases a),⟨d,by unfold maxLen at j;omega⟩,f⟩
def bQv(C:MaC)(r:RowD)(d:Nat):Prop:=∀ (x1:MaS) (w1:Bw) (c:CodeD) (k:Nat) (f cb h b:By) (a:List Nat) (s2:StD) (e2:Int) (dc wd:Nat) (l:List Nat),x1.d=d->x1.e=0->c∈r.code->c.op≠273->c.op≠274->c.op≠275->c.op≠276->c.op≠277->MRef C x1 w1->StOk C.p.env x1.s->MRunB x1 dc->UR w1 b a->(∀ g,b.ownBlock=some g->¬MOwn C x1 g)->a.length=(inK C.p.env r.sig c).length->lowL (inK C.p.env r.sig c) a=a ->
 Did C.p C.lost d c k a x1.s s2 e2 dc wd l->Calls fZ 95 #[.pointer (some ⟨C.mb,0,none⟩),.agg #[.int .i64 c.op,.int .u64 (c.n:Int),f,cb,h],b] w1 (RunR C x1 s2 e2 dc wd l w1)
theorem bZd:∀ (ts:List Int) (l:List Nat),lowL ts (lowL ts l)=lowL ts l
 | [],l=>by cases l <;> rfl
 | t :: ts,[]=>rfl
 | t :: ts,n :: l=>by
  show tZ t (tZ t n) :: lowL ts (lowL ts l)=_;rw[bZd ts l]
  congr 1
  unfold tZ
  split <;> simp
theorem eXd{g:Nat}(h:Blk w g 50 (u64V V).toArray)(a:V[k]? = some y):w.cell? ⟨g,k,none⟩=some (.int .u64 (y:Int)):=by
 rw[h.cell k];simp[u64V,a]
theorem dZs(h:V[k]? = some y):V.getD k 0=y:=by rw[Aq,h];rfl
def RL1(C:MaC)(x:MaS)(r:RowD)(args:List Nat)(w:Bw)(vb rb:Nat)(p q t s:By)(P:Nat)(a:By)(k:Nat)(wr:Bw):Prop:=
 MRef C x wr/\MK C x x w wr/\Blk wr vb 50 (u64V (putV (r.params.take k) (args.take k) (AX P 0))).toArray/\Blk wr rb 43 #[p,q,.int .i64 (P:Int),t,s]/\UR wr a args
theorem RL1.below{C:MaC}{x:MaS}{r:RowD}{args:List Nat}{w:Bw}{vb rb:Nat}{p q t s:By}{P:Nat}{a:By}{k:Nat}{wr w':Bw}(h:RL1 C x r args w vb rb p q t s P a k wr)(hb:Below wr.heap.size wr w'):RL1 C x r args w vb rb p q t s P a k w':=
 ⟨h.1.below hb,h.2.1.below hb,h.2.2.1.below hb h.2.2.1.lt,h.2.2.2.1.below hb h.2.2.2.1.lt,h.2.2.2.2.below hb (Ak _)⟩
theorem bZe(V:List Nat)(k n:Nat):(u64V V).toArray.setIfInBounds k (.int .u64 (n:Int))=(u64V (V.set k n)).toArray:=by
 rw[<-bKl];simp
theorem RL1.put{C:MaC}{x:MaS}{r:RowD}{args:List Nat}{rb:Nat}{p q t s:By}{P:Nat}{a:By}{z:Nat}{o:Int}(h:RL1 C x r args w vb rb p q t s P a k wr)(ho:r.params[k]? = some o)(hz:o=(z:Int))(b:args[k]? = some y)
  (c:¬MOwn C x vb) (d:w.heap.size<=vb) (af:C.w0.heap.size<=w.heap.size) (f:rb≠vb) (g:a.ownBlock≠some vb):RL1 C x r args w vb rb p q t s P a (k+1) (wr.setCell ⟨vb,z,none⟩ (.int .u64 (y:Int))):=by
 obtain⟨h1,h2,i,j,l⟩:=h;refine⟨h1.eXv _ c (by omega),h2.eXv _ d,?_,j.setCell _ f,l.heap (by simp[World.setCell]) (fun k m _=>Below.heap_setCell _ _ _ _ (fun e=>g (by rw[m];show some k=some vb;rw[show k=vb from e])))⟩;have:=gQ i z (.int .u64 (y:Int));rw[bZe]at this;rw[aKq _ _ _ k o y ho b,hz,Ag];exact this
def mCnt(mb:Nat)(w:Bw):Nat:=match w.cell? ⟨mb,13,none⟩with
 | some (.int _ n)=>n.toNat
 | _=>0
theorem MRef.mCnt{C:MaC}{x:MaS}{w:Bw}(h:MRef C x w):mCnt C.mb w=x.cnt:=by
 unfold _root_.Go.Proofs.YtabibkpfgmolkaaGreat.mCnt;rw[show w.cell? ⟨C.mb,13,none⟩=some (.int .i64 x.cnt) by rw[h.cell 13];rfl];simp
theorem cVm{C:MaC}{x:MaS}{r:RowD}{args:List Nat}{m P:Nat}{p q t s c:By}{R:ResD}(h:RL1 C x r args w vb w.heap.size p q t s P c m wr)(hm:args.length=m)(ae:args.length=r.params.length)(a:r.places=P)(hc:CheckP C.p.env r)(ev:Ev C.p C.lost x.d r 0 (initV r args) x.s R)(hb:MRunB x R.cnt)(he:x.e=0)(f:StOk C.p.env x.s)(g:All64 args)
  (hf:¬MOwn C x w.heap.size) (i:¬MOwn C x vb) (hv:w.heap.size<=vb) (h0:C.w0.heap.size<=w.heap.size):RowI C x r R w vb w.heap.size p q t s 0 x (initV r args) R wr:=by
 obtain⟨h1,h2,b,j,h5⟩:=h
 have k:putV (r.params.take m) (args.take m) (AX P 0)=initV r args:=by
  rw[bKg _ _ _ m (by omega)];unfold initV;rw[a];rfl
 rw[k]at b;exact⟨h1,h2,ev,rfl,rfl,rfl,rfl,rfl,he,rfl,rfl,hb,b,by unfold initV;rw[aQs,AJ],xV r g,i,by omega,by rw[a];exact j,hf,f,by have:=hc.n1;omega⟩
def RL4(C:MaC)(x0 x4:MaS)(w w4:Bw)(vb rb g base:Nat)(V l:List Nat)(a cc:Array By)(v:By)(e2:Int)(wr:Bw):Prop:=
 MRef C x4 wr/\MK C x0 x4 w wr/\Blk wr vb 50 (u64V V).toArray/\Blk wr rb 43 a/\Blk wr g 52 cc/\(e2=0->wr.ownsRow base 50 1 v l.length (u64V l))/\Below C.w0.heap.size C.w0 wr
theorem RL4.put{C:MaC}{x0 x4:MaS}{a:Bw}{rb g z:Nat}{b cc:Array By}{v:By}{e2:Int}(h:RL4 C x0 x4 w a vb rb g base V l b cc v e2 wr)(f:¬MOwn C x4 vb)(i:w.heap.size<=vb)(c:C.w0.heap.size<=vb)(j:rb≠vb)(hg:g≠vb)(hb:vb<base):RL4 C x0 x4 w a vb rb g base (V.set z y) l b cc v e2 (wr.setCell ⟨vb,z,none⟩ (.int .u64 (y:Int))):=by
 obtain⟨h1,h2,k,m,n,d,o⟩:=h;refine⟨h1.eXv _ f c,h2.eXv _ i,?_,m.setCell _ j,n.setCell _ hg,fun e=>iQ (d e) (fun e'=>by have:=((d e).lt vb e').1;omega),o.setCell (p:=⟨vb,z,none⟩) c _⟩;have:=gQ k z (.int .u64 (y:Int))
 rwa[bZe]at this
theorem RL4.below{C:MaC}{x0 x4:MaS}{w a:Bw}{vb rb g base:Nat}{V l:List Nat}{b cc:Array By}{v:By}{e2:Int}{wr w':Bw}(h:RL4 C x0 x4 w a vb rb g base V l b cc v e2 wr)(hb:Below wr.heap.size wr w'):RL4 C x0 x4 w a vb rb g base V l b cc v e2 w':=
 ⟨h.1.below hb,h.2.1.below hb,h.2.2.1.below hb h.2.2.1.lt,h.2.2.2.1.below hb h.2.2.2.1.lt,h.2.2.2.2.1.below hb h.2.2.2.2.1.lt,fun e=>oY (h.2.2.2.2.2.1 e) hb (Ak _),h.2.2.2.2.2.2.trans (hb.mono h.2.2.2.2.2.2.size)⟩
theorem cQn(os:List Int)(a V:List Nat):putV (os.take 0) (a.take 0) V=V:=by
 rw[Bk,Bk];rfl
theorem dZt{n c m:Nat}{A:Option Addr}{e:TypeId}{a:List By}(h:w.ownsRow base e 1 (.slice A n c) m a):n=m:=by
 rcases h.2 with⟨h1,h2⟩ | ⟨g,cap,cur,h1,_⟩
 ·injection h1 with _ e2 _;have:=h.1;rw[h2]at this;simp at this;omega
 ·injection h1 with _ e2 _
def RL3(w:Bw)(V:List Nat)(l:List Int)(j:Nat)(v:By)(wr:Bw):Prop:=wr.ownsRow w.heap.size 50 1 v j (u64V (qX V (l.take j)))/\Below w.heap.size w wr
theorem dZu(C:MaC)(x:MaS)(r:RowD)(vr va:By)(args:List Nat)(w:Bw)(R:ResD)(hp:ProgP C.p)(hc:CheckP C.p.env r)(hr:RowV C.w0 vr r)(hE:EnvV C.w0 (.agg #[C.a,.int .i64 C.p.env.imports,C.b,C.d,.bool C.p.env.mem]) C.p.env)
  (h:MRef C x w) (ev:Ev C.p C.lost x.d r 0 (initV r args) x.s R) (hb:MRunB x R.cnt) (he:x.e=0) (aQ:StOk C.p.env x.s) (ha:UR w va args) (bL:∀ k,va.ownBlock=some k->¬MOwn C x k) (cL:args.length=r.params.length) (bM:∀ (i:Nat) q,C.p.fns[i]? = Option.some q->∀ c∈q.code,c.n<18446744073709551616) (bN:∀ c∈r.code,c.n<18446744073709551616) (bO:bQv C r x.d) :
  Calls fZ 66 #[.pointer (some ⟨C.mb,0,none⟩),vr,va] w (RunR C x R.s R.e R.cnt R.wds R.out w):=by
 obtain⟨G,H,vt,vs,rfl,h4,h5,Y,h7⟩:=hr;obtain⟨P,hP⟩:∃ P:Nat,r.places=P:=⟨r.places.toNat,by have:=hc.p1;omega⟩;have eS:P<=4096:=(by have:=hc.p2;omega);obtain⟨Aa,ca,rfl⟩:=ha.shape;obtain⟨m,hm⟩:=fX args.length;rw[hm]at ha bL ⊢;have aG:=fQ hP;rw[hP];have eT:m<=8:=(by have h1:=aJo hc.sig;have:=hc.par;omega);obtain⟨sA,X,cM,_⟩:=h7.len;obtain⟨Q,bP⟩:∃ n,r.code.length=n:=⟨_,rfl⟩;rw[bP]at cM;subst cM;have dC:=fQ bP;clear bP;obtain⟨J,tc,cN⟩:=Y.shape;have dD:r.params.length=m:=(by omega);rw[dD]at cN;subst cN;have bo:=(AK w.heap.size w).alloc (Ak _) (.cells #[G,H,.int .i64 (P:Int),.slice J m tc,.slice sA Q X] 43);have bQ:=fQ bo;have KR:=fQ (Blk.new w 43 #[G,H,.int .i64 (P:Int),.slice J m tc,.slice sA Q X]);have bT:=fQ (h.below bo);have bU:=fQ (ha.below bo (Ak _));have dE:=fQ (h.fresh (Ak w.heap.size));have bV:=fQ (show ¬MOwn C x (w.heap.size+1)from h.fresh (Nat.le_succ w.heap.size));have eU:=fQ bL;have HM:=fQ hm;have cO:=fQ cL;have HP:=fQ hP;have HC:=fQ hc;have dF:=fQ ev;have dG:=fQ hb;have dH:=fQ he;have dI:=fQ aQ;have dJ:=fQ (show SigV C.w0 (.agg #[G,H]) r.sig from⟨G,H,rfl,h4,h5⟩);have dK:=fQ Y.ir;have dL:=fQ ha.len.2.2.2.2.2;have dM:=fQ h7;have y0:=h.bel.size;obtain⟨r0,r1,r2,r3,r4⟩:=gJ KR.out;have yr:=KR.out.lt;have cP:=aQo (P:=fZ) 30 50 (.int .u64 0) 8 underlying30 bZc rfl P (by omega) (by omega);rw[show(AX P (Value.int .u64 0)).toArray=(u64V (AX P 0)).toArray by simp[u64V]]at cP
 have dN:=fQ (show ∀ k,(Value.slice Aa m ca).ownBlock=some k->k<w.heap.size\/m=0 from fun k hk=>by
  rcases Nat.eq_zero_or_pos m with h0 | h0
  ·exact .inr h0
  ·obtain⟨b,o,e,dO⟩:=ha.len.2.1.addr h0;subst e;injection hk with hk;subst hk
   exact .inl dO)
 clear h ha bL hm cL hP hc ev hb he aQ h4 h5 Y h7 bo;go_in;go_wp2_with fail;obtain⟨wA,bp⟩:=fX (w.alloc (.cells #[G,H,.int .i64 (P:Int),.slice J m tc,.slice sA Q X] 43));have hA:wA.heap.size=w.heap.size+1:=(by rw[<-bp];simp);obtain⟨vb,cQ⟩:∃ g,w.heap.size+1=g:=⟨_,rfl⟩;rw[cQ]at hA bV;have ar:=(AK wA.heap.size wA).alloc (Ak _) (.cells (u64V (AX P 0)).toArray 50)
 have bW:=fQ (show RL1 C x r args w vb w.heap.size G H (.slice J m tc) (.slice sA Q X) P (.slice Aa m ca) 0 (wA.alloc (.cells (u64V (AX P 0)).toArray 50))from by
  rw[bp]at bQ KR bT bU
  exact⟨bT.out.below ar,(MK.eXn bQ.out).below ar,Blk.newAt _ _ _ hA,KR.out.below ar KR.out.lt,bU.out.below ar (Ak _)⟩)
 clear bQ KR bT bU r0 r1 r2 r3 r4 yr ar cP;rw[bp];obtain⟨wB,cR⟩:=fX (wA.alloc (.cells (u64V (AX P 0)).toArray 50));rw[cR]at bW ⊢
 (try simp only[cQ])
 clear cR bp hA;go_loopw [8] (fun i wr=>∃ k:Nat,k<=m/\i = .int .i64 k/\Hid (RL1 C x r args w vb w.heap.size G H (.slice J m tc) (.slice sA Q X) P (.slice Aa m ca) k wr)) (fun i _=>m - (intOf i).toNat)
 case atStart=>exact⟨0,by omega,rfl,bW⟩
 case round=>
  clear bW;obtain⟨k,hk,rfl,IL⟩:=hrel;obtain⟨I1,I2,I3,I4,I5⟩:=IL.out;obtain⟨r0,r1,r2,r3,r4⟩:=gJ I4;have yr:=I4.lt;have yv:=I3.lt;by_cases eV:k<m
  ·as_aux_lemma=>
   have t1:decide ((k:Int)<m)=true:=(by simp;omega);have t2:(k:Int)<m:=(by omega);obtain⟨o,ho⟩:∃ o,r.params[k]? = some o:=⟨_,Aj (by have:=cO.out;have:=HM.out;omega)⟩;obtain⟨y,hy⟩:∃ y,args[k]? = some y:=⟨_,Aj (by have:=HM.out;omega)⟩;have aR:=uK HC.out.pin (Ax ho);obtain⟨z,rfl⟩:∃ z:Nat,o=z:=⟨o.toNat,by omega⟩;have cS:z<P:=(by have:=aG.out;omega);have t3:(z:Int)<P:=(by omega);obtain⟨pb,po,e1,aS,aX⟩:=dK.out.cell ho;subst e1;have bX:wr.cell? ⟨pb,po+k,none⟩=some (.int .i64 z):=(I1.bel.cell (p:=⟨pb,po+k,none⟩) aS).trans aX;have dP:pb<wr.heap.size:=Az aS I1.bel.size;obtain⟨ab,ao,e4,hab,cT,_⟩:=I5.cell hy;subst e4;obtain⟨u,hu⟩:∃ u,wr.cell? ⟨vb,z,none⟩=some u:=(by rw[I3.cell z];exact⟨_,AY (by simp[u64V,aQs];omega)⟩);have fv:=frz I3 z;have Z:=fQ (IL.out.put ho rfl hy bV.out (by omega) y0 (by omega) (fun e=>by rcases dN.out vb e with h1 | h1 <;> omega));clear I1 I2 I3 I4 I5 IL ho hy aX aR;go_wp2_with fail;go_region
   all_goals
    go_wp2;exact⟨⟨k+1,by omega,by simp,fQ (Z.out.below (gY _))⟩,by simp[intOf];omega⟩
  ·as_aux_lemma=>
   have t1:decide ((k:Int)<m)=false:=(by simp;omega);obtain rfl:m=k:=(by omega);have cU:=fQ (cVm IL.out HM.out cO.out aG.out HC.out dF.out dG.out dH.out dI.out dL.out dE.out bV.out (by omega) y0);clear I1 I2 I3 I4 I5 IL r0 r1 r2 r3 r4 yr yv t1;go_wp2_with fail;go_loopw [9] (fun i wr=>∃ (k:Nat) (x1:MaS) (V:List Nat) (R':ResD),i = .int .i64 k/\Hid (RowI C x r R w vb w.heap.size G H (.slice J m tc) (.slice sA Q X) k x1 V R' wr)) (fun _ wr=>(x.cnt+R.cnt) - mCnt C.mb wr)
   case atStart=>exact⟨0,_,_,_,rfl,cU⟩
   case round=>
    clear cU;obtain⟨k,x1,V,R',rfl,IR⟩:=hrel;have I:=IR.out;obtain⟨c,bq⟩:∃ c,r.code[k]? = some c:=⟨_,Aj I.k⟩;have cV:=Ax bq;have t2:(k:Int)<Q:=(by have:=I.k;have:=dC.out;omega);obtain⟨cb,co,pa,pb,pt,e1,aH,g0,g1,g2,g3,g4,s0,i1,i2,i3⟩:=dM.out.code bq;subst e1;obtain⟨pA,pc,rfl⟩:=i1.shape;obtain⟨qA,qc,rfl⟩:=i2.shape;obtain⟨eA,ec,rfl⟩:=i3.shape;have b1:=I.m.bel;replace g0:=(b1.cell (p:=⟨cb,_,none⟩) aH).trans g0;replace g1:=(b1.cell (p:=⟨cb,_,none⟩) aH).trans g1;replace g2:=(b1.cell (p:=⟨cb,_,none⟩) aH).trans g2;replace g3:=(b1.cell (p:=⟨cb,_,none⟩) aH).trans g3;replace g4:=(b1.cell (p:=⟨cb,_,none⟩) aH).trans g4;have dQ:=Az aH b1.size;obtain⟨N,hN⟩:=fX x1.cnt;have eW:N<=1000000000000:=(by have:=I.b.cnt;omega);have dR:IntKind.i64.wrap ((N:Int)+1)=((N+1:Nat):Int):=(by rw[Ad _ (by omega)];rfl);have dS:wr.cell? ⟨C.mb,13,none⟩=some (.int .i64 N):=(by rw[I.m.cell 13];simp[mCells,hN]);have f13:=frz I.m.blk 13;have dT:=I.m.blk.lt;obtain⟨r0,r1,r2,r3,r4⟩:=gJ I.rk;have yr:=I.rk.lt;have yv:=I.vk.lt;have bY:=fQ cV;have aT:=fQ bq;have aC:=fQ hN;have dU:=fQ s0;have J1:=fQ i1;have J2:=fQ i2;have J3:=fQ i3;have dV:wr.heap.size≠C.mb:=(by omega);clear I b1 aH bq cV hN i1 i2 i3 s0;go_wp2_with fail;obtain⟨nA,br⟩:∃ n,c.args.length=n:=⟨_,rfl⟩;obtain⟨D,bs⟩:∃ n,c.outs.length=n:=⟨_,rfl⟩;obtain⟨L,aY⟩:∃ n,c.to.length=n:=⟨_,rfl⟩;obtain⟨wn,aU⟩:=fX ((wr.setCell ⟨C.mb,13,none⟩ (.int .i64 ((N:Int)+1))).alloc (.cells #[.int .i64 c.op,.int .u64 (c.n:Int),.slice pA c.args.length pc,.slice qA c.outs.length qc,.slice eA c.to.length ec] 52));have hsz:wn.heap.size=wr.heap.size+1:=(by rw[<-aU];simp[World.setCell]);have aZ:Below (wr.setCell ⟨C.mb,13,none⟩ (.int .i64 ((N:Int)+1))).heap.size (wr.setCell ⟨C.mb,13,none⟩ (.int .i64 ((N:Int)+1))) wn:=(by rw[<-aU];exact(AK _ _).alloc (Ak _) _);have aV:=fQ (show MRef C { x1 with cnt:=N+1 } wn from(IR.out.m.eXl 13 (.int .i64 ((N:Int)+1)) (y:={ x1 with cnt:=N+1 }) (by simp[mCells]) rfl rfl rfl rfl rfl rfl rfl).below aZ);have cW:=fQ (show MK C x { x1 with cnt:=N+1 } w wn from(IR.out.mq.eXl 13 _ (y:={ x1 with cnt:=N+1 }) rfl rfl rfl).below aZ);have aI:=fQ (show Blk wn vb 50 (u64V V).toArray from(IR.out.vk.setCell _ (fun e=>IR.out.vo (.inl e))).below aZ (by rw[rW];exact IR.out.vk.lt));have bZ:=fQ (show Blk wn w.heap.size 43 #[G,H,.int .i64 r.places,.slice J m tc,.slice (some ⟨cb,co,none⟩) Q X]from(IR.out.rk.setCell _ (fun e=>IR.out.ro (.inl e))).below aZ (by rw[rW];exact IR.out.rk.lt));have a6:=fQ (show Blk wn wr.heap.size 52 #[.int .i64 c.op,.int .u64 (c.n:Int),.slice pA c.args.length pc,.slice qA c.outs.length qc,.slice eA c.to.length ec]from by rw[<-aU];exact Blk.newAt _ _ _ (by rw[rW]));rw[br,bs,aY]at aU a6;have cX:=fQ (show ¬MOwn C { x1 with cnt:=N+1 } wr.heap.size from IR.out.m.fresh (Ak _));obtain⟨g,hg⟩:=fX wr.heap.size;have eX:vb<g:=(by rw[<-hg];exact IR.out.vk.lt);rw[hg]at hsz a6 cX;rw[br,bs,aY,aU]
    (try simp only[hg])
    have dW:=fQ (show mCnt C.mb wr=N from by rw[IR.out.m.mCnt];exact aC.out);have b5:N+R'.cnt=x.cnt+R.cnt/\1<=R'.cnt:=⟨by rw[<-aC.out];exact IR.out.tc,IR.out.pos⟩;have aW:=fQ (fun(w':Bw) (x2:MaS) (M:MRef C x2 w') (h:N<x2.cnt)=>show(x.cnt+R.cnt) - mCnt C.mb w'<(x.cnt+R.cnt) - mCnt C.mb wr from by rw[M.mCnt,dW.out];omega);clear b5;have aD:=fQ br;have a7:=fQ bs;have aw:=fQ aY;have eY:=fQ hsz;clear g0 g1 g2 g3 g4 dQ dS f13 dT r0 r1 r2 r3 r4 yr yv aU aZ dR br bs aY dV hsz;have aQ:=HC.out.code c bY.out;obtain⟨fi,fo,aE,cY,cZ,c0,dX,c2,c5,aR,c6⟩:=lQ aQ;have aJ:=fQ aE;have dY:=fQ c5;have a8:=fQ cY;have bt:=fQ c2;have b6:=fQ c0;have dZ:=fQ aR;have eZ:=fQ c6;have b7:=fQ cZ;have ba:=fQ aQ
    have e3:nA<=8:=by
     have h1:=(aQq HC.out.env HC.out.sig aJ.out).1;have h2:=a8.out;have S:=aD.out;omega
    have e6:D<=8:=by
     have h1:=(aQq HC.out.env HC.out.sig aJ.out).2;have h2:=b7.out;have S:=a7.out;omega
    clear aE cY cZ c0 dX c2 c5 aR c6 aQ;go_loopw [11,12] (fun v i wq=>∃ j:Nat,j<=nA/\i = .int .i64 j/\Hid (RL3 wn V c.args j v wq)) (fun _ i _=>nA - (intOf i).toNat)
    case atStart=>exact⟨0,by omega,rfl,fQ ⟨World.ownsRow_nil _ _ _ _,AK _ _⟩⟩
    case round=>
     obtain⟨j,hj,rfl,IA⟩:=hrel;obtain⟨iO,IB⟩:=IA.out;obtain⟨Av,cv,rfl,e7⟩:=gZ iO;have KC:=a6.out.below IB a6.out.lt;obtain⟨k0,k1,k2,k3,k4⟩:=gJ KC;have yc:=KC.lt;by_cases ed:j<nA
     ·as_aux_lemma=>
      have t1:decide ((j:Int)<nA)=true:=(by simp;omega);have t3:(j:Int)<nA:=(by omega);obtain⟨p,bu⟩:∃ p,c.args[j]? = some p:=⟨_,Aj (by have:=aD.out;omega)⟩;have ee:=dY.out p (Ax bu);have e8:=IR.out.vl;obtain⟨z,rfl⟩:∃ z:Nat,p=z:=⟨p.toNat,by omega⟩;have cS:z<P:=(by have:=aG.out;omega);have t4:(z:Int)<P:=(by omega);obtain⟨y,hy⟩:∃ y,V[z]? = some y:=⟨_,Aj (by have:=aG.out;omega)⟩;obtain⟨pb,po,e1,aS,aX⟩:=J1.out.ir.cell bu;subst e1;have b8:=aV.out.bel.trans (IB.mono aV.out.bel.size);have bX:wr.cell? ⟨pb,po+j,none⟩=some (.int .i64 z):=(b8.cell (p:=⟨pb,po+j,none⟩) aS).trans aX;have dP:pb<wr.heap.size:=Az aS b8.size;have e9:=eXd (aI.out.below IB aI.out.lt) hy;have yv:=(aI.out.below IB aI.out.lt).lt;have ef:=fQ (cVi (V:=V) bu);have eg:=fQ (show V.getD (z:Int).toNat 0=y from by rw[Ag];exact dZs hy);have c7:=fQ (jY iO (.cells #[.int .u64 (y:Int)] 50));have eh:=fQ (IB.alloc IB.size (.cells #[.int .u64 (y:Int)] 50));have fa:=IB.size;clear iO IB IA KC bu ee hy aS aX b8;go_wp2_with (at_builtin;refine kV _ rfl (.tmp 59) (.tmp 68) 30 rfl wn.heap.size 50 (.int .u64 0) 1 8 underlying30 bZc rfl (by omega) (.slice Av j cv) j (u64V (qX V (c.args.take j))) rfl c7.out (some ⟨wr.heap.size,0,none⟩) 1 1 [.int .u64 (y:Int)] rfl (Blk.eXm (cs:=#[.int .u64 (y:Int)]) (Blk.newAt _ _ _ rfl) rfl) (fun u hu=>by rw[List.mem_singleton.1 hu];rfl) (by unfold maxLen;omega) (by omega) (by simp;omega) ?_);rintro v' w' g1 g2 g3 _;have HX:=fQ (show RL3 wn V c.args (j+1) v' w' from⟨by rw[ef.out,eg.out,aJq];first | exact g1 | simpa[u64V]using g1,jV eh.out g2 (by simp;omega) (fun j hj=>(c7.out.lt j hj).1)⟩);clear g1 g2 g3;go_wp2;exact⟨⟨j+1,by omega,by simp,HX⟩,by simp[intOf];omega⟩
     ·as_aux_lemma=>
      have t1:decide ((j:Int)<nA)=false:=(by simp;omega);obtain rfl:nA=j:=(by omega);have BW:=fQ (aV.out.bel.trans (IB.mono aV.out.bel.size));have aF:=fQ (aV.out.below IB);have c8:=fQ (cW.out.below IB);have b9:=fQ (aI.out.below IB aI.out.lt);have bb:=fQ (bZ.out.below IB bZ.out.lt);have cd:=fQ KC;have c9:=fQ (show wr.ownsRow wn.heap.size 50 1 (.slice Av nA cv) nA (u64V (qX V c.args))from by have:=iO;rwa[Ai (by rw[aD.out];exact Ak _)]at this)
      have CF:=fQ (fun(w':Bw) (hb:Below C.w0.heap.size C.w0 w')=>bXo C.p.env r.sig c (.agg #[C.a,.int .i64 C.p.env.imports,C.b,C.d,.bool C.p.env.mem]) (.agg #[G,H]) (.agg #[.int .i64 c.op,.int .u64 (c.n:Int),.slice pA nA pc,.slice qA D qc,.slice eA L ec]) w' (hE.below hb (Ak _)) (dJ.out.below hb (Ak _))
       (by rw[<-aD.out,<-a7.out,<-aw.out];exact⟨_,_,_,rfl,dU.out,J1.out.below hb (Ak _),J2.out.below hb (Ak _),J3.out.below hb (Ak _)⟩) (by have:=HC.out.env;unfold envOk at this;simp only[Ah,decide_eq_true_eq]at this;exact this.1.2.2.2))
      obtain⟨r0,r1,r2,r3,r4⟩:=gJ bb.out;have yr:=bb.out.lt;have ym:=aF.out.blk.lt;have m0:wr.cell? ⟨C.mb,0,none⟩=some C.a:=(by rw[aF.out.cell 0];rfl);have m1:wr.cell? ⟨C.mb,1,none⟩=some (.int .i64 C.p.env.imports):=(by rw[aF.out.cell 1];rfl);have m2:wr.cell? ⟨C.mb,2,none⟩=some C.b:=(by rw[aF.out.cell 2];rfl);have m3:wr.cell? ⟨C.mb,3,none⟩=some C.d:=(by rw[aF.out.cell 3];rfl);have m4:wr.cell? ⟨C.mb,4,none⟩=some (.bool C.p.env.mem):=(by rw[aF.out.cell 4];rfl);have da:=IB.size;clear iO IB IA KC aV cW aI bZ a6 t1;go_wp2_with fail;refine lX (fun w'=>w'.cell? ⟨C.mb,0,none⟩=some (C.a)/\w'.cell? ⟨C.mb,1,none⟩=some (.int .i64 C.p.env.imports)/\w'.cell? ⟨C.mb,2,none⟩=some (C.b)/\w'.cell? ⟨C.mb,3,none⟩=some (C.d)/\w'.cell? ⟨C.mb,4,none⟩=some (.bool C.p.env.mem)/\w'.cell? ⟨w.heap.size,0,none⟩=some (G)/\w'.cell? ⟨w.heap.size,1,none⟩=some (H)/\w'.cell? ⟨g,0,none⟩=some (.int .i64 c.op)/\w'.cell? ⟨g,1,none⟩=some (.int .u64 (c.n:Int))/\w'.cell? ⟨g,2,none⟩=some (.slice pA nA pc)/\w'.cell? ⟨g,3,none⟩=some (.slice qA D qc)/\w'.cell? ⟨g,4,none⟩=some (.slice eA L ec)/\C.mb<w'.heap.size/\w.heap.size<w'.heap.size/\g<w'.heap.size) (fun _=>True) 1000 (by kernel_rfl) ⟨(Aw (gY wr) (p:=⟨C.mb,0,none⟩) ym).trans m0,(Aw (gY wr) (p:=⟨C.mb,1,none⟩) ym).trans m1,(Aw (gY wr) (p:=⟨C.mb,2,none⟩) ym).trans m2,(Aw (gY wr) (p:=⟨C.mb,3,none⟩) ym).trans m3,(Aw (gY wr) (p:=⟨C.mb,4,none⟩) ym).trans m4,(Aw (gY wr) (p:=⟨w.heap.size,0,none⟩) yr).trans r0,(Aw (gY wr) (p:=⟨w.heap.size,1,none⟩) yr).trans r1,(Aw (gY wr) (p:=⟨g,0,none⟩) yc).trans k0,(Aw (gY wr) (p:=⟨g,1,none⟩) yc).trans k1,(Aw (gY wr) (p:=⟨g,2,none⟩) yc).trans k2,(Aw (gY wr) (p:=⟨g,3,none⟩) yc).trans k3,(Aw (gY wr) (p:=⟨g,4,none⟩) yc).trans k4,Az ym (Ae (gY wr)),Az yr (Ae (gY wr)),Az yc (Ae (gY wr))⟩ trivial (fun f=>?_);refine wtk 0 f (fun f=>?_);refine wtk 1 f (fun f=>?_);refine wtk 2 f (fun f=>?_);refine wtk 3 f (fun f=>?_);refine wtk 4 f (fun f=>?_);refine wtk 5 f (fun f=>?_);refine wtk 6 f (fun f=>?_);refine wtk 7 f (fun f=>?_);refine jK (i:=8) (by kernel_rfl) rfl (fun K hK=>?_);go_simp;refine(CF.out _ (BW.out.trans ((gY wr).mono BW.out.size))).mono ?_;rintro en w2 ⟨vi,vo,fb,fc,fe,rfl,db,ei,ej,dd,de⟩;have F:=fQ ((gY wr).trans de);have df:=fQ db;have dg:=fQ (dd _ aJ.out);clear db ei ej dd de;refine hK.out _ _ ⟨⟨(Aw F.out (p:=⟨C.mb,0,none⟩) ym).trans m0,(Aw F.out (p:=⟨C.mb,1,none⟩) ym).trans m1,(Aw F.out (p:=⟨C.mb,2,none⟩) ym).trans m2,(Aw F.out (p:=⟨C.mb,3,none⟩) ym).trans m3,(Aw F.out (p:=⟨C.mb,4,none⟩) ym).trans m4,(Aw F.out (p:=⟨w.heap.size,0,none⟩) yr).trans r0,(Aw F.out (p:=⟨w.heap.size,1,none⟩) yr).trans r1,(Aw F.out (p:=⟨g,0,none⟩) yc).trans k0,(Aw F.out (p:=⟨g,1,none⟩) yc).trans k1,(Aw F.out (p:=⟨g,2,none⟩) yc).trans k2,(Aw F.out (p:=⟨g,3,none⟩) yc).trans k3,(Aw F.out (p:=⟨g,4,none⟩) yc).trans k4,Az ym (Ae F.out),Az yr (Ae F.out),Az yc (Ae F.out)⟩,fun _=>trivial⟩ (fun f=>?_)
      clear hK K
      try simp only[Act.put,List.setIfInBounds_toArray,List.set_cons_zero,List.set_cons_succ]
      refine wtk 9 f (fun f=>?_);refine wtk 10 f (fun f=>?_);refine wtk 11 f (fun f=>?_);refine wtk 12 f (fun f=>?_);refine wtk 13 f (fun f=>?_);refine wtk 14 f (fun f=>?_);refine wtk 15 f (fun f=>?_);refine kQ (by kernel_rfl) ?_ _;clear f m0 m1 m2 m3 m4 r0 r1 r2 r3 r4 k0 k1 k2 k3 k4 yc yr ym CF;obtain⟨cf,ek⟩:=dg.out;injection ek with ch cj;subst ch;subst cj;have bw:=fQ (aF.out.below F.out);have ck:=fQ (c8.out.below F.out);have cm:=fQ (b9.out.below F.out b9.out.lt);have cp:=fQ (bb.out.below F.out bb.out.lt);have cq:=fQ (cd.out.below F.out cd.out.lt);have dh:=fQ (aYt (oY c9.out F.out (Ak _)) (by omega) (aYq IR.out.v64 c.args));have di:fi.length=(qX V c.args).length:=(by unfold qX;rw[Ay];have:=a8.out;omega);have aK:(qX V c.args).length=nA:=(by unfold qX;rw[Ay];exact aD.out);have dj:=fQ aK;have el:wn.heap.size<=w2.heap.size:=Nat.le_trans da F.out.size;have ep:w.heap.size<=w2.heap.size:=ck.out.size;clear aF c8 b9 bb cd F c9 dg cf BW da;go_wp2_with fail;refine(bWt vi (.slice Av nA cv) fi (qX V c.args) _ df.out dh.out di (by rw[dj.out];omega)).mono ?_;rintro en E ⟨v3,rfl,bc,aL⟩;rw[aK]at bc;have cr:inK C.p.env r.sig c=fi:=(by unfold inK;rw[aJ.out];rfl);have aM:=fQ (show E.ownsRow w2.heap.size 50 1 v3 nA (u64V (argV C.p.env r c V)) by unfold argV;rw[cr];exact bc);have bx:=fQ (show(argV C.p.env r c V).length=nA by have:=bc.1;unfold argV;rw[cr];simpa[u64V]using this);have O:=fQ (bw.out.below aL);have bz:=fQ (ck.out.below aL);have bD:=fQ (cm.out.below aL cm.out.lt);have ct:=fQ (cp.out.below aL cp.out.lt);have cw:=fQ (cq.out.below aL cq.out.lt);have ff:=aL.size;have er:=fQ (bw.out.fresh (Ak _));have et:=fQ (show ∀ gg,v3.ownBlock=some gg->¬MOwn C { x1 with cnt:=N+1 } gg from fun gg eu=>bw.out.fresh (bc.lt gg eu).1);clear di aK cr bc aL bw ck cm cp cq dh df dj;obtain⟨k0,k1,k2,k3,k4⟩:=gJ cw.out;have yc:=cw.out.lt;have ym:=O.out.blk.lt;have fg:k<=4096:=(by have:=IR.out.k;have:=HC.out.n2;omega);have w9:IntKind.i64.wrap ((k:Int)+1)=((k+1:Nat):Int):=(by rw[Ad _ (by omega)];rfl);obtain⟨A3,c3,rfl,fh⟩:=gZ aM.out;by_cases ah:c.op=276
      ·as_aux_lemma=>
       have cx:(c.op == 276)=true:=(by simp[ah]);have ew:=fQ ah;clear ah;have au:=fQ (dVi IR.out.ev aT.out ew.out);go_wp2;go_ret;refine bQw IR.out O.out bz.out (by rw[au.out]) (by rw[au.out];exact IR.out.e0.symm) (by rw[au.out];show N+1=x1.cnt+1;rw[aC.out]) (by rw[au.out];have:=IR.out.b.wle;show x1.wmax=max x1.wmax (x1.wcur+0);omega) rfl rfl ⟨_,_,_,rfl⟩ (fun _=>?_);rw[au.out];refine⟨?_,sW _ _ _ IR.out.v64⟩;show E.ownsRow w.heap.size 50 1 (.slice A3 nA c3) (argV C.p.env r c V).length _;rw[bx.out];exact lZ aM.out ep
      have cx:(c.op == 276)=false:=(by simp[ah]);have dk:E.cell? ⟨C.mb,17,none⟩=some (.int .i64 0):=(by rw[O.out.cell 17];simp[mCells,IR.out.e0]);have f17:=frz O.out.blk 17;by_cases an:c.op=277
      ·as_aux_lemma=>
       have cy:(c.op == 277)=true:=(by simp[an]);have au:=fQ (dVj IR.out.ev aT.out an);have ey:=fQ (O.out.eXl 17 (.int .i64 32) (y:={ x1 with cnt:=N+1,e:=32 }) (by simp[mCells]) rfl rfl rfl rfl rfl rfl rfl);have ez:=fQ (bz.out.eXl 17 (.int .i64 32) (y:={ x1 with cnt:=N+1,e:=32 }) rfl rfl rfl);clear ah an;go_wp2;go_ret;exact bQw IR.out ey.out ez.out (by rw[au.out]) (by rw[au.out]) (by rw[au.out];show N+1=x1.cnt+1;rw[aC.out]) (by rw[au.out];have:=IR.out.b.wle;show x1.wmax=max x1.wmax (x1.wcur+0);omega) rfl rfl ⟨_,_,_,rfl⟩ (fun h=>by rw[au.out]at h;exact absurd h (show ¬(32:Int)=0 by decide))
      have cy:(c.op == 277)=false:=by simp[an]
      have Z:=fQ (fun(k2:Nat) (ha:actV C.p.env c k (argV C.p.env r c V) x1.s = .go k2) (eC:k2<r.code.length)=>show ∃ R2,RowI C x r R w vb w.heap.size G H (.slice J m tc) (.slice (some ⟨cb,co,none⟩) Q X) k2 { x1 with cnt:=N+1 } V R2 E by
       obtain⟨R2,e2,hR⟩:=dYz IR.out.ev aT.out ha
       exact⟨R2,bKi (dc:=0) (wd:=0) IR.out O.out bz.out e2 hR (by show N+1=x1.cnt+1+0;rw[aC.out]) (by have:=IR.out.b.wle;show x1.wmax=max x1.wmax (x1.wcur+0);omega) rfl rfl IR.out.e0 (by show x1.s.log.length<=_;omega) IR.out.b.wmx bD.out IR.out.vl IR.out.v64 IR.out.vo ct.out IR.out.ro IR.out.ok eC⟩)
      by_cases ak:c.op=273
      ·as_aux_lemma=>
       have cz:(c.op == 273)=true:=(by simp[ak]);have bE:1<=c.to.length:=(by have:=b6.out;rw[ak]at this;have:(1:Int)<=c.to.length:=this;omega);obtain⟨t,U⟩:∃ t,c.to[0]? = some t:=⟨_,Aj bE⟩;have aN:=bt.out t (Ax U);obtain⟨z,rfl⟩:∃ z:Nat,t=z:=⟨t.toNat,by omega⟩;obtain⟨B,tq,e5,W,al⟩:=J3.out.ir.cell U;subst e5;rw[Bv]at al;have ax:E.cell? ⟨B,tq,none⟩=some (.int .i64 z):=(O.out.bel.cell (p:=⟨B,tq,none⟩) W).trans al;have bF:B<E.heap.size:=Az W O.out.bel.size;have tT:(0:Int)<(L:Int):=(by have:=aw.out;omega);obtain⟨R2,hI⟩:=Z.out z (by rw[dQz ak,Aq,U];simp) (by omega);have HI:=fQ hI;clear hI U aN al W Z;go_wp2;exact⟨⟨_,_,_,_,rfl,HI⟩,aW.out _ _ O.out (AW N)⟩
      have cz:(c.op == 273)=false:=(by simp[ak]);by_cases ad:c.op=274
      ·as_aux_lemma=>
       have cA:(c.op == 274)=true:=by simp[ad]
       have eD:nA=1:=by
        have hf:=aJ.out;rw[ad]at hf;have hf:(if c.n=0 then some (([127]:List Int),([]:List Int))else none)=some (fi,fo):=hf
        split at hf
        ·cases hf;have h1:=a8.out;have h2:=aD.out;rw[<-h2,h1];rfl
        ·cases hf
       obtain⟨a0,ay⟩:∃ a0,(argV C.p.env r c V)[0]? = some a0:=⟨_,Aj (by have:=bx.out;omega)⟩;obtain⟨ag,ac,ea,eE,_,_⟩:=nQ aM.out (by omega);injection ea with ea _ eF;subst ea;have cT:E.cell? ⟨ag,0,none⟩=some (.int .u64 (a0:Int)):=(by rw[aM.out.cellAt 0 (by omega)];simp[u64V,ay]);have J:(0:Int)<(nA:Int):=(by omega);have az:(argV C.p.env r c V).getD 0 0=a0:=(by rw[Aq,ay];rfl);by_cases hz:a0=0
       ·have t0:((a0:Int) != 0)=false:=(by simp[hz]);obtain⟨R2,hI⟩:=Z.out (k+1) (by rw[cVj ad,az,if_pos hz]) (wY HC.out aT.out (by unfold nextOf;rw[if_neg (by omega),if_neg (by omega),if_pos ad];simp));have HI:=fQ hI;clear hI ay Z hz az;go_wp2;exact⟨⟨_,_,_,_,rfl,HI⟩,aW.out _ _ O.out (AW N)⟩
       ·have t0:((a0:Int) != 0)=true:=(by simp;omega);have bE:1<=c.to.length:=(by have:=b6.out;rw[ad]at this;have:(1:Int)<=c.to.length:=this;omega);obtain⟨t,U⟩:∃ t,c.to[0]? = some t:=⟨_,Aj bE⟩;have aN:=bt.out t (Ax U);obtain⟨z,rfl⟩:∃ z:Nat,t=z:=⟨t.toNat,by omega⟩;obtain⟨B,tq,e5,W,al⟩:=J3.out.ir.cell U;subst e5;rw[Bv]at al;have ax:E.cell? ⟨B,tq,none⟩=some (.int .i64 z):=(O.out.bel.cell (p:=⟨B,tq,none⟩) W).trans al;have bF:B<E.heap.size:=Az W O.out.bel.size;have tT:(0:Int)<(L:Int):=(by have:=aw.out;omega);obtain⟨R2,hI⟩:=Z.out z (by rw[cVj ad,az,if_neg hz,Aq,U];simp) (by omega);have HI:=fQ hI;clear hI U aN al W Z ay hz az;go_wp2;exact⟨⟨_,_,_,_,rfl,HI⟩,aW.out _ _ O.out (AW N)⟩
      have cA:(c.op == 274)=false:=(by simp[ad]);by_cases ae:c.op=275
      ·as_aux_lemma=>
       have cB:(c.op == 275)=true:=by simp[ae]
       have eD:nA=1:=by
        have hf:=aJ.out;rw[ae]at hf;have hf:(if c.n=0 then some (([127]:List Int),([]:List Int))else none)=some (fi,fo):=hf
        split at hf
        ·cases hf;have h1:=a8.out;have h2:=aD.out;rw[<-h2,h1];rfl
        ·cases hf
       obtain⟨a0,ay⟩:∃ a0,(argV C.p.env r c V)[0]? = some a0:=⟨_,Aj (by have:=bx.out;omega)⟩;obtain⟨ag,ac,ea,eE,_,_⟩:=nQ aM.out (by omega);injection ea with ea _ eF;subst ea;have cT:E.cell? ⟨ag,0,none⟩=some (.int .u64 (a0:Int)):=(by rw[aM.out.cellAt 0 (by omega)];simp[u64V,ay]);have J:(0:Int)<(nA:Int):=(by omega);have az:(argV C.p.env r c V).getD 0 0=a0:=(by rw[Aq,ay];rfl);have bE:1<=c.to.length:=(by have:=b6.out;rw[ae]at this;have:(1:Int)<=c.to.length:=this;omega);have aY:L<=17592186043904:=(by have:=(J3.out.eXi).2.2.1;have:=aw.out;omega);obtain⟨T,hT⟩:=fX (L - 1);have wT:IntKind.i64.wrap ((L:Int) - 1)=(T:Int):=(by rw[Ad _ (by omega)];have:=aw.out;omega);have wU:IntKind.u64.wrap (T:Int)=(T:Int):=(by rw[IntKind.wrap_u64];omega)
       have bd:∀ q,min a0 (c.to.length - 1)=q->q<c.to.length:=fun q e=>by omega
       by_cases hz:a0<T
       ·have t0:decide ((a0:Int)<(T:Int))=true:=(by simp;omega);have wI:IntKind.i64.wrap (a0:Int)=(a0:Int):=Ad _ (by omega);obtain⟨t,U⟩:∃ t,c.to[a0]? = some t:=⟨_,Aj (by have:=aw.out;omega)⟩;have aN:=bt.out t (Ax U);obtain⟨z,rfl⟩:∃ z:Nat,t=z:=⟨t.toNat,by omega⟩;obtain⟨B,tq,e5,W,al⟩:=J3.out.ir.cell U;subst e5;have ax:E.cell? ⟨B,tq+a0,none⟩=some (.int .i64 z):=(O.out.bel.cell (p:=⟨B,tq+a0,none⟩) W).trans al;have bF:B<E.heap.size:=Az W O.out.bel.size;have tT:(a0:Int)<(L:Int):=(by omega);obtain⟨R2,hI⟩:=Z.out z (by rw[bZb ae,az,show min a0 (c.to.length - 1)=a0 by have:=aw.out;omega,Aq,U];simp) (by omega);have HI:=fQ hI;clear hI U aN al W Z ay az bd hT;go_wp2;exact⟨⟨_,_,_,_,rfl,HI⟩,aW.out _ _ O.out (AW N)⟩
       ·have t0:decide ((a0:Int)<(T:Int))=false:=(by simp;omega);obtain⟨t,U⟩:∃ t,c.to[T]? = some t:=⟨_,Aj (by have:=aw.out;omega)⟩;have aN:=bt.out t (Ax U);obtain⟨z,rfl⟩:∃ z:Nat,t=z:=⟨t.toNat,by omega⟩;obtain⟨B,tq,e5,W,al⟩:=J3.out.ir.cell U;subst e5;have ax:E.cell? ⟨B,tq+T,none⟩=some (.int .i64 z):=(O.out.bel.cell (p:=⟨B,tq+T,none⟩) W).trans al;have bF:B<E.heap.size:=Az W O.out.bel.size;have tT:(T:Int)<(L:Int):=(by have:=aw.out;omega);obtain⟨R2,hI⟩:=Z.out z (by rw[bZb ae,az,show min a0 (c.to.length - 1)=T by have:=aw.out;omega,Aq,U];simp) (by omega);have HI:=fQ hI;clear hI U aN al W Z ay az bd hT;go_wp2;exact⟨⟨_,_,_,_,rfl,HI⟩,aW.out _ _ O.out (AW N)⟩
      have cB:(c.op == 275)=false:=(by simp[ae]);clear Z f17;obtain⟨s2,e2,dc,wd,l,aO,cC,cD⟩:=Ev.step IR.out.ev aT.out ak ad ae ah;have be:=ak;have bf:=ad;have bg:=ae;have bh:=ah;have bj:=an;have cE:=fQ (bN c bY.out);have dm:w.heap.size<=vb:=(by omega);have aA:=fQ aO;have eG:=fQ cC;have eH:=fQ cD
      have dn:MRunB { x1 with cnt:=N+1 } dc:=by
       have B:=IR.out.b
       have hle:1+dc<=R'.cnt:=by
        by_cases dp:e2=0
        ·obtain⟨R2,_,hR,_⟩:=cC dp;rw[hR];show 1+dc<=1+dc+R2.cnt;omega
        ·rw[cD dp];exact Ak _
       exact⟨by show N+1+dc<=_;have:=B.cnt;have:=aC.out;omega,by show x1.s.log.length+9*dc<=_;have:=B.log;omega,B.wle,B.wmx,B.wcr,B.dle⟩
      have dq:UR E (.slice A3 nA c3) (argV C.p.env r c V):=aYt aM.out (by omega) (sW _ _ _ IR.out.v64);have bk:(argV C.p.env r c V).length=(inK C.p.env r.sig c).length:=(by rw[bx.out];unfold inK;rw[aJ.out];show nA=fi.length;have:=a8.out;have:=aD.out;omega);have CO:=fQ (bO { x1 with cnt:=N+1 } E c k (.slice pA nA pc) (.slice qA D qc) (.slice eA L ec) (.slice A3 nA c3) (argV C.p.env r c V) s2 e2 dc wd l IR.out.d IR.out.e0 bY.out ak ad ae ah an O.out IR.out.ok dn dq et.out bk (bZd _ _) aO);clear aO cC cD dn dq bk ak ad ae ah an dk;go_wp2_with fail;refine CO.out.mono ?_;rintro en w4 ⟨v4,x4,rfl,M4,K4,dr,ds,dt,du,dv,dw,⟨A4,n4,c4,rfl⟩,dx⟩;have dy:vb<E.heap.size:=bD.out.lt;have cF:=fQ (show RL4 C x x4 w w4 vb w.heap.size g E.heap.size V l (#[G,H,.int .i64 r.places,.slice J m tc,.slice (some ⟨cb,co,none⟩) Q X]) (#[.int .i64 c.op,.int .u64 (c.n:Int),.slice pA nA pc,.slice qA D qc,.slice eA L ec]) (.slice A4 n4 c4) e2 w4 from⟨M4,bz.out.trans K4,K4.blk bD.out IR.out.vo,K4.blk ct.out IR.out.ro,K4.blk cw.out cX.out,fun e=>(dx e).1,M4.bel⟩);have aP:=fQ (K4.keep vb bD.out.lt IR.out.vo).2;have cG:=fQ (K4.keep w.heap.size ct.out.lt IR.out.ro).2;have bG:=fQ dr;have cH:=fQ ds;have dz:Hid (x4.cnt=N+1+dc/\x4.wmax=max x1.wmax (x1.wcur+wd)/\x4.wcur=x1.wcur/\x4.d=x1.d):=⟨dt,du,dv,dw⟩;clear M4 K4 dr ds dt du dv dw dx k0 k1 k2 k3 k4 yc ym CO;obtain⟨M,hM⟩:∃ M:Nat,C.p.env.imports=M:=⟨C.p.env.imports.toNat,by have:=(mW HC.out.env).2.1;omega⟩;have eI:M<=64:=(by have:=mW HC.out.env;omega);have wM:IntKind.u64.wrap (M:Int)=(M:Int):=(by rw[IntKind.wrap_u64];omega);have bl:=fQ (show tJ C.p.env c=decide (c.op=16/\M<=c.n) by unfold tJ;rw[hM];congr 1;apply propext;constructor <;> (intro h;omega));have eJ:=fQ hM;clear hM;go_upto_block 7 with fail;go_cut [18] (fun fj wx=>Hid (RL4 C x x4 w w4 vb w.heap.size g E.heap.size (zIf C.p.env c C.lost V) l (#[G,H,.int .i64 r.places,.slice J m tc,.slice (some ⟨cb,co,none⟩) Q X]) (#[.int .i64 c.op,.int .u64 (c.n:Int),.slice pA nA pc,.slice qA D qc,.slice eA L ec]) (.slice A4 n4 c4) e2 wx))
      case first=>
       go_wp2_with fail;go_loopw [18] (fun i wr=>∃ j:Nat,j<=P/\j<=C.lost/\(j=0\/tJ C.p.env c=true)/\i = .int .i64 j/\Hid (RL4 C x x4 w w4 vb w.heap.size g E.heap.size (aXp j V) l (#[G,H,.int .i64 r.places,.slice J m tc,.slice (some ⟨cb,co,none⟩) Q X]) (#[.int .i64 c.op,.int .u64 (c.n:Int),.slice pA nA pc,.slice qA D qc,.slice eA L ec]) (.slice A4 n4 c4) e2 wr)) (fun i _=>P - (intOf i).toNat)
       case atStart=>exact⟨0,by omega,by omega,.inl rfl,rfl,by rw[cVf];exact cF⟩
       case round=>
        clear cF;obtain⟨j,hj,eK,bH,rfl,IJ⟩:=hrel;obtain⟨h1,h2,S,h4,h5,Y,h7⟩:=IJ.out;obtain⟨k0,k1,k2,k3,k4⟩:=gJ h5;obtain⟨r0,r1,r2,r3,r4⟩:=gJ h4;have yr:=h4.lt;have yc:=h5.lt;have ym:=h1.blk.lt;have yv:=S.lt;have m12:wr.cell? ⟨C.mb,12,none⟩=some (.int .i64 C.lost):=(by rw[h1.cell 12];rfl);have m1:wr.cell? ⟨C.mb,1,none⟩=some (.int .i64 M):=(by rw[h1.cell 1,<-eJ.out];rfl);have fv:=frz S j;have dA:V.length=P:=(by rw[IR.out.vl,aG.out];rfl);by_cases b1:j<C.lost
        ·by_cases b2:j<P
         ·have fk:(j:Int)<P:=Int.ofNat_lt.2 b2;by_cases b3:c.op=16
          ·have eL:(c.op == 16)=true:=(by simp[b3]);by_cases b4:M<=c.n
           ·as_aux_lemma=>
            have bm:tJ C.p.env c=true:=(by rw[bl.out];simp[b3,b4]);obtain⟨u,hu⟩:∃ u,wr.cell? ⟨vb,j,none⟩=some u:=(by rw[S.cell j];exact⟨_,AY (by simp[u64V,dQw (show j<=V.length by omega)];omega)⟩)
            have Z:=fQ (fun q:Nat=>show RL4 C x x4 w w4 vb w.heap.size g E.heap.size (aXp (j+1) V) l (#[G,H,.int .i64 r.places,.slice J m tc,.slice (some ⟨cb,co,none⟩) Q X]) (#[.int .i64 c.op,.int .u64 (c.n:Int),.slice pA nA pc,.slice qA D qc,.slice eA L ec]) (.slice A4 n4 c4) e2 ((wr.drewN q).setCell ⟨vb,j,none⟩ (.int .u64 0)) by
             rw[<-cVg (show j<V.length by omega)]
             exact(IJ.out.below (fK (AK _ _) q)).put (y:=0) aP.out dm IR.out.vlo (by omega) (by omega) dy)
            clear h1 h2 S h4 h5 Y h7 IJ b3;go_wp2_with fail;go_quiet (fail);go_wp2;exact⟨⟨j+1,by omega,by omega,.inr bm,by simp,Z.out nq⟩,by simp[intOf];omega⟩
           ·as_aux_lemma=>
            have av:=fQ (show RL4 C x x4 w w4 vb w.heap.size g E.heap.size (zIf C.p.env c C.lost V) l (#[G,H,.int .i64 r.places,.slice J m tc,.slice (some ⟨cb,co,none⟩) Q X]) (#[.int .i64 c.op,.int .u64 (c.n:Int),.slice pA nA pc,.slice qA D qc,.slice eA L ec]) (.slice A4 n4 c4) e2 wr by rw[<-aVo (i:=j) (.inl ⟨by rw[bl.out];simp[b4],by rcases bH with h | h;exact h;rw[bl.out]at h;simp[b4]at h⟩)];exact IJ.out);clear h1 h2 S h4 h5 Y h7 IJ;go_wp2_with fail;go_quiet (fail);have IZ:=fQ (av.out.below (fK (AK _ _) nq));clear av;generalize wr.drewN nq=wz at IZ ⊢;go_wp2_with fail;go_meet;exact IZ
          ·have eL:(c.op == 16)=false:=by simp[b3]
           as_aux_lemma=>
           have av:=fQ (show RL4 C x x4 w w4 vb w.heap.size g E.heap.size (zIf C.p.env c C.lost V) l (#[G,H,.int .i64 r.places,.slice J m tc,.slice (some ⟨cb,co,none⟩) Q X]) (#[.int .i64 c.op,.int .u64 (c.n:Int),.slice pA nA pc,.slice qA D qc,.slice eA L ec]) (.slice A4 n4 c4) e2 wr by rw[<-aVo (i:=j) (.inl ⟨by rw[bl.out];simp[b3],by rcases bH with h | h;exact h;rw[bl.out]at h;simp[b3]at h⟩)];exact IJ.out);clear h1 h2 S h4 h5 Y h7 IJ;go_wp2_with fail;go_quiet (fail);have IZ:=fQ (av.out.below (fK (AK _ _) nq));clear av;generalize wr.drewN nq=wz at IZ ⊢;go_wp2_with fail;go_meet;exact IZ
         ·as_aux_lemma=>
          have av:=fQ (show RL4 C x x4 w w4 vb w.heap.size g E.heap.size (zIf C.p.env c C.lost V) l (#[G,H,.int .i64 r.places,.slice J m tc,.slice (some ⟨cb,co,none⟩) Q X]) (#[.int .i64 c.op,.int .u64 (c.n:Int),.slice pA nA pc,.slice qA D qc,.slice eA L ec]) (.slice A4 n4 c4) e2 wr by rw[<-aVo (i:=j) (by cases bm:tJ C.p.env c;exact .inl ⟨rfl,by rcases bH with h | h;exact h;rw[bm]at h;cases h⟩;exact .inr ⟨rfl,by rw[dA];omega⟩)];exact IJ.out);clear h1 h2 S h4 h5 Y h7 IJ;go_wp2_with fail;go_quiet (fail);have IZ:=fQ (av.out.below (fK (AK _ _) nq));clear av;generalize wr.drewN nq=wz at IZ ⊢;go_wp2_with fail;go_meet;exact IZ
        ·as_aux_lemma=>
         have av:=fQ (show RL4 C x x4 w w4 vb w.heap.size g E.heap.size (zIf C.p.env c C.lost V) l (#[G,H,.int .i64 r.places,.slice J m tc,.slice (some ⟨cb,co,none⟩) Q X]) (#[.int .i64 c.op,.int .u64 (c.n:Int),.slice pA nA pc,.slice qA D qc,.slice eA L ec]) (.slice A4 n4 c4) e2 wr by rw[<-aVo (i:=j) (by cases bm:tJ C.p.env c;exact .inl ⟨rfl,by rcases bH with h | h;exact h;rw[bm]at h;cases h⟩;exact .inr ⟨rfl,by rw[dA];omega⟩)];exact IJ.out);clear h1 h2 S h4 h5 Y h7 IJ;go_wp2_with fail;go_quiet (fail);have IZ:=fQ (av.out.below (fK (AK _ _) nq));clear av;generalize wr.drewN nq=wz at IZ ⊢;go_wp2_with fail;go_meet;exact IZ
      case rest=>
       have IZ:=hcut;clear hcut cF;generalize wc=wz at IZ ⊢;go_wp2_with fail;go_loopw [19] (fun i wr=>∃ j:Nat,j<=D/\(e2=0\/j=0)/\i = .int .i64 j/\Hid (RL4 C x x4 w w4 vb w.heap.size g E.heap.size (putV (c.outs.take j) (l.take j) (zIf C.p.env c C.lost V)) l (#[G,H,.int .i64 r.places,.slice J m tc,.slice (some ⟨cb,co,none⟩) Q X]) (#[.int .i64 c.op,.int .u64 (c.n:Int),.slice pA nA pc,.slice qA D qc,.slice eA L ec]) (.slice A4 n4 c4) e2 wr)) (fun i _=>D - (intOf i).toNat)
       case atStart=>exact⟨0,by omega,.inr rfl,rfl,fQ (by rw[cQn];exact IZ.out)⟩
       case round=>
        clear IZ;obtain⟨j,hj,fl,rfl,IJ⟩:=hrel;obtain⟨h1,h2,S,h4,h5,Y,h7⟩:=IJ.out;obtain⟨k0,k1,k2,k3,k4⟩:=gJ h5;have yc:=h5.lt;have ym:=h1.blk.lt;have yv:=S.lt;have dk:wr.cell? ⟨C.mb,17,none⟩=some (.int .i64 e2):=(by rw[h1.cell 17];simp[mCells,cH.out]);by_cases aq:e2=0
        ·have u0:(e2 == 0)=true:=(by simp[aq]);have u1:(e2 != 0)=false:=(by simp[aq]);by_cases ed:j<D
         ·as_aux_lemma=>
          have v1:decide ((j:Int)<D)=true:=(by simp;omega);have v2:(j:Int)<D:=(by omega);obtain⟨o,ho⟩:∃ o,c.outs[j]? = some o:=⟨_,Aj (by have:=a7.out;omega)⟩;have aR:=dZ.out o (Ax ho);obtain⟨z,rfl⟩:∃ z:Nat,o=z:=⟨o.toNat,by omega⟩;have eM:=aA.out.len hp ba.out aq;obtain⟨y,hy⟩:∃ y,l[j]? = some y:=⟨_,Aj (by have:=a7.out;omega)⟩;have eN:=dZt (Y aq);have eK:j<l.length:=(List.getElem?_eq_some_iff.1 hy).1;obtain⟨og,oc,eo,fm,_,_⟩:=nQ (Y aq) (by omega);injection eo with eo _ eO;subst eo;subst eO;rw[eN]at Y;have fp:wr.cell? ⟨og,j,none⟩=some (.int .u64 (y:Int)):=(by rw[(Y aq).cellAt j (by omega)];simp[u64V,hy]);have v3:(j:Int)<n4:=(by omega);have cS:z<P:=(by have:=aG.out;omega);have v4:(z:Int)<P:=(by omega);obtain⟨B,tq,e5,W,al⟩:=J2.out.ir.cell ho;subst e5;have ax:wr.cell? ⟨B,tq+j,none⟩=some (.int .i64 z):=(h7.cell (p:=⟨B,tq+j,none⟩) W).trans al;have bF:B<wr.heap.size:=Az W h7.size;obtain⟨u,hu⟩:∃ u,wr.cell? ⟨vb,z,none⟩=some u:=(by rw[S.cell z];exact⟨_,AY (by simp[u64V,aQs,bWq,IR.out.vl];have:=aG.out;omega)⟩);have fv:=frz S z
          have Z:=fQ (show RL4 C x x4 w w4 vb w.heap.size g E.heap.size (putV (c.outs.take (j+1)) (l.take (j+1)) (zIf C.p.env c C.lost V)) l (#[G,H,.int .i64 r.places,.slice J m tc,.slice (some ⟨cb,co,none⟩) Q X]) (#[.int .i64 c.op,.int .u64 (c.n:Int),.slice pA nA pc,.slice (some ⟨B,tq,none⟩) D qc,.slice eA L ec]) (.slice (some ⟨og,0,none⟩) n4 c4) e2 (wr.setCell ⟨vb,z,none⟩ (.int .u64 (y:Int))) by
           rw[aKq _ _ _ j z y ho hy,Ag]
           exact IJ.out.put aP.out dm IR.out.vlo (by omega) (by omega) dy)
          clear h1 h2 S h4 h5 Y h7 IJ ho hy aR eM al W;go_wp2_with fail;go_region
          all_goals
           go_wp2;exact⟨⟨j+1,by omega,.inl aq,by simp,fQ (Z.out.below (gY _))⟩,by simp[intOf];omega⟩
         ·as_aux_lemma=>
          have v1:decide ((j:Int)<D)=false:=(by simp;omega);obtain rfl:D=j:=(by omega);have e1:putV (c.outs.take D) (l.take D) (zIf C.p.env c C.lost V)=putV c.outs l (zIf C.p.env c C.lost V):=bKg _ _ _ _ (by have:=a7.out;omega);rw[e1]at S;obtain⟨R2,dB,aB,_⟩:=eG.out aq;have cI:=aA.out.ok bM IR.out.ok (sW _ _ _ IR.out.v64) cE.out;obtain⟨bI,bJ,cJ,cK⟩:=dz.out;have bn:=wY HC.out aT.out (show((k+1:Nat):Int)∈nextOf c k by rw[uQ be bf bg bh bj];simp);have B:=IR.out.b;have HI:=fQ (bKi (k2:=k+1) (dc:=dc) (wd:=wd) IR.out h1 h2 (by rw[bG.out];exact dB) aB (by rw[bI,aC.out]) bJ cJ cK (by rw[cH.out];exact aq) (by rw[bG.out];exact aA.out.log hp (bQu HC.out ba.out V)) (by rw[bJ];have h8:=aA.out.wd hp;have h9:=B.wmx;have eP:=B.wcr;have eQ:=B.dle;have eR:=IR.out.d;rw[eR]at eP eQ;omega) S (by rw[aQs,bWq];exact IR.out.vl) (aQd _ _ _ cI.2 (dVk IR.out.v64)) aP.out h4 cG.out (by rw[bG.out];exact cI.1) bn);have HM:=fQ h1;clear h1 h2 S h4 h5 Y h7 IJ dB aB cI bn B e1;go_wp2;exact⟨⟨_,_,_,_,rfl,HI⟩,aW.out _ _ HM.out (by rw[bI];omega)⟩
        ·as_aux_lemma=>
         have u0:(e2 == 0)=false:=(by simpa using aq);have u1:(e2 != 0)=true:=(by simpa using aq);obtain rfl:j=0:=(by omega);obtain⟨bI,bJ,cJ,cK⟩:=dz.out;have aB:=eH.out aq;have HO:=fQ (fun(v:By) (hv:∃ A n c,v = .slice A n c)=>bQw (v:=v) IR.out h1 h2 (by rw[aB];exact bG.out.symm) (by rw[aB];exact cH.out.symm) (by rw[aB,bI];show N+1+dc=x1.cnt+(1+dc);rw[aC.out];omega) (by rw[aB];exact bJ) cJ cK hv (fun h=>absurd (by rw[aB]at h;exact h) aq));clear h1 h2 S h4 h5 Y h7 IJ aB;by_cases fq:0<D
         ·have v1:decide (((0:Nat):Int)<D)=true:=(by simp;omega);have v2:(0:Int)<D:=(by omega);go_wp2;go_ret;exact HO.out _ ⟨_,_,_,rfl⟩
         ·have v1:decide (((0:Nat):Int)<D)=false:=(by simp;omega);obtain rfl:D=0:=(by omega);go_wp2;go_ret;exact HO.out _ ⟨_,_,_,rfl⟩
end Go.Proofs.YtabibkpfgmolkaaGreat

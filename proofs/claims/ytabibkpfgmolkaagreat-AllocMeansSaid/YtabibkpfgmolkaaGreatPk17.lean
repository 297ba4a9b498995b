/- Lemmas for the claim, part 17. Conditions: none. -/
import Derived.Test.YtabibkpfgmolkaaGreatPk16
set_option maxRecDepth 100000
set_option maxHeartbeats 16000000
set_option linter.unusedVariables false
set_option linter.unusedSimpArgs false
open Go.Lib renaming hid→fQ
open Go.Proofs.Tryz renaming prog→fZ
open Go.Proofs.Tryz
open Go.RowKit
open Nat renaming le_refl→Aj
open List renaming getD_eq_getElem?_getD→Aq,length_replicate→Az,getElem?_eq_getElem→Ak,mem_of_getElem?→Av,getElem?_map→Aw,mem_cons_of_mem→AJ,getElem?_eq_none→AQ,length_map→AX,mem_cons_self→AZ,length_append→AK,pairwise_map→AV,length_drop→AW,length_set→AY,replicate→Ab,Nodup→Ac
open Int renaming toNat_of_nonneg→Ax
open Go.RowKit.Below renaming refl→Ay
open Go renaming Value→Ad
namespace Go.Proofs.YtabibkpfgmolkaaGreat
variable {lost k Z:Nat}{w w':World}{e:TypeId}{v:Ad}{l V:List Nat}
theorem aYy{cs:Array Ad}(h:UR w v l)(k:Blk w Z e cs)(hc:∀ (i:Nat) (x:Int),cs[i]? ≠ some (.int .u64 x))(d:OnlyBlk w w' Z):UR w' v l:=by
 obtain⟨A,c,rfl,hs,r⟩:=h;refine⟨A,c,rfl,⟨hs.1,fun hn=>?_⟩,r⟩;obtain⟨b,o,e',g,hcell⟩:=hs.2 hn
 have m:b≠Z:=by
  intro n;subst n;obtain⟨x,p⟩:∃ x,l[0]? = some x:=⟨_,Ak hn⟩;have f:=hcell 0 (.int .u64 (x:Int)) (by simp[u64V,p]);rw[k.cell]at f;exact hc _ _ f
 exact⟨b,o,e',by rw[d.size];exact g,fun j u q=>(World.cell?_of_block (a:=⟨b,o+j,none⟩) (d.other b m)).trans (hcell j u q)⟩
theorem eXp{cs:Array Ad}(h:BR w v l)(k:Blk w Z e cs)(hc:∀ (i:Nat) (x:Int),cs[i]? ≠ some (.int .u8 x))(d:OnlyBlk w w' Z):BR w' v l:=by
 obtain⟨A,c,rfl,hs,r⟩:=h;refine⟨A,c,rfl,⟨hs.1,fun hn=>?_⟩,r⟩;obtain⟨b,o,e',g,hcell⟩:=hs.2 hn
 have m:b≠Z:=by
  intro n;subst n;obtain⟨x,p⟩:∃ x,l[0]? = some x:=⟨_,Ak hn⟩;have f:=hcell 0 (.int .u8 (x:Int)) (by simp[bys,p]);rw[k.cell]at f;exact hc _ _ f
 exact⟨b,o,e',by rw[d.size];exact g,fun j u q=>(World.cell?_of_block (a:=⟨b,o+j,none⟩) (d.other b m)).trans (hcell j u q)⟩
theorem aYb{a b:Int}{k:IntKind}(c:k ≠ .i64)(i:Nat)(x:Int):(#[.slice none 0 0,.int .i64 a,.slice none 0 0,.int .i64 b,.slice none 0 0,.slice none 0 0]:Array Ad)[i]? ≠ some (.int k x):=by
 intro h
 match i,h with
 | 0,h=>simp at h
 | 1,h=>simp at h;exact c h.1.symm
 | 2,h=>simp at h
 | 3,h=>simp at h;exact c h.1.symm
 | 4,h=>simp at h
 | 5,h=>simp at h
 | i+6,h=>simp at h
theorem dYb{s:RawS}{a b:Int}(h:StV w v s)(k:Blk w Z e #[.slice none 0 0,.int .i64 a,.slice none 0 0,.int .i64 b,.slice none 0 0,.slice none 0 0])(c:OnlyBlk w w' Z):StV w' v s:=by
 obtain⟨x,g,i,l,rfl,h1,h2,d,f⟩:=h;exact⟨x,g,i,l,rfl,eXp h1 k (aYb (by decide)) c,aYy h2 k (aYb (by decide)) c,aYy d k (aYb (by decide)) c,aYy f k (aYb (by decide)) c⟩
theorem dZu(p:RowsD)(a:Ad)(s:RawS)(vs:Ad)(n:Int)(b:Ad)(args:List Nat)(w:World)(c:RowsV w a p)(hs:StV w vs s)(ha:UR w b args)(hn : -9223372036854775808<=n/\n<=9223372036854775807):
  Calls fZ 16 #[a,vs,.int .i64 n,b,.int .i64 0] w (aJn p s n args 0 w):=cQc p a s vs n b args 0 w c hs ha hn (by omega)
theorem dZv(p:RowsD)(a:Ad)(s:RawS)(vs:Ad)(n:Int)(b:Ad)(args:List Nat)(w:World)(c:RowsV w a p)(hs:StV w vs s)(ha:UR w b args)(hn : -9223372036854775808<=n/\n<=9223372036854775807):
  Calls fZ 16 #[a,vs,.int .i64 n,b,.int .i64 8] w (aJn p s n args 8 w):=cQc p a s vs n b args 8 w c hs ha hn (by omega)
theorem bVv(g:Array Ad)(W:World)(h:Nat)(a b c d e f o x:Ad)(h1:g.getD 8 undef=o)(h2:g.getD 9 undef = .pointer (some ⟨h,0,none⟩))(i:g.getD 10 undef=x)(k:Blk W h 33 #[a,b,c,d,e,f]):
  (results Tryz.f11 g).run fZ W = .ok (.tuple #[o,.agg #[a,b,c,d,e,f],x]) W:=by
 obtain⟨j,l,m,n,p,q⟩:=lX k;simp only[Array.getD_eq_getD_getElem?]at h1 h2 i;simp[results,results11,go_sem,h1,h2,i,j,l,m,n,p,q]
theorem cZr(p:RowsD)(f:Ad)(s:RawS)(vs:Ad)(n:Int)(g:Ad)(args:List Nat)(w:World)(h:RowsV w f p)(hs:StV w vs s)(ha:UR w g args)(hn : -9223372036854775808<=n/\n<=9223372036854775807):
  Calls fZ 11 #[f,vs,.int .i64 n,g] w (aJn p s n args 0 w):=by
 have B:=fQ h;have C:=fQ hs;have i:=fQ ha;have D:=fQ hn;obtain⟨p0,p2,p3,p5,rfl,_⟩:=h;obtain⟨s0,s2,s4,s5,rfl,_⟩:=hs;obtain⟨Aa,ca,rfl⟩:=ha.shape;obtain⟨m,j⟩:=fX args.length;rw[j]at i ⊢
 have B0:=fQ (show WiB w p0 (.int .i64 p.env.imports) p2 p3 (.bool p.env.mem) p5 s0 (.int .i64 s.most) s2 (.int .i64 s.fuel) s4 s5 (((w.alloc (.cells #[p0,.int .i64 p.env.imports,p2,p3,.bool p.env.mem,p5] 29)).alloc (.cells #[s0,.int .i64 s.most,s2,.int .i64 s.fuel,s4,s5] 33)).alloc (.cells #[.slice none 0 0,.int .i64 0,.slice none 0 0,.int .i64 0,.slice none 0 0,.slice none 0 0] 33))from
  ⟨Blk.alloc (Blk.alloc (Blk.new _ _ _) _) _,Blk.alloc (Blk.newAt _ _ _ (by simp)) _,Blk.newAt _ _ _ (by simp),(((Ay _ _).alloc (Aj _) _).alloc (by simp) _).alloc (by simp;omega) _⟩)
 clear ha j hn;go_in;go_wp2_with fail;refine(dZu p _ s _ n _ args _ (B.out.below B0.out.b (Aj _)) (C.out.below B0.out.b (Aj _)) (i.out.below B0.out.b (Aj _)) D.out).mono ?_;rintro en w1 ⟨out,s',e,v,vs,k,rfl,c,l,o⟩;have a:=fQ (B0.out.below o);have E:=fQ k;have F:=fQ c;have G:=fQ l;obtain⟨V1,x1,rfl⟩:=c.shape;obtain⟨ma,mg,mi,ml,rfl,q,r,t,u⟩:=l;obtain⟨x,y1,rfl⟩:=q.shape;obtain⟨y,y2,rfl⟩:=r.shape;obtain⟨z,y3,rfl⟩:=t.shape;obtain⟨A,y4,rfl⟩:=u.shape;obtain⟨z0,z1,z2,z3,z4,z5⟩:=lX a.out.kz;have f0:=frz a.out.kz 0;have f1:=frz a.out.kz 1;have f2:=frz a.out.kz 2;have f3:=frz a.out.kz 3;have f4:=frz a.out.kz 4;have f5:=frz a.out.kz 5;have yz:=a.out.kz.lt;have d:=fQ (aZc w1 (w.heap.size+1+1) (.slice x s'.mem.length y1) (.int .i64 s'.most) (.slice y s'.globals.length y2) (.int .i64 s'.fuel) (.slice z s'.input.length y3) (.slice A s'.log.length y4));have H:=fQ (xW a.out.kz (.slice x s'.mem.length y1) (.int .i64 s'.most) (.slice y s'.globals.length y2) (.int .i64 s'.fuel) (.slice z s'.input.length y3) (.slice A s'.log.length y4));clear k c o q r t u B0;go_wp2_with fail;refine bodyPost_ret (bVv _ _ (w.heap.size+1+1) _ _ _ _ _ _ _ _ rfl rfl rfl H.out) rfl ?_;exact⟨out,s',e,_,_,E.out,rfl,aYy F.out a.out.kz (aYb (by decide)) d.out,dYb G.out a.out.kz d.out,d.out.below a.out.b (by omega)⟩
theorem aVy:∀ (os:List Int) (a V:List Nat),(putV os a V).length=V.length
 | [],_,V=>by cases ‹List Nat› <;> rfl
 | o :: os,[],V=>rfl
 | o :: os,n :: a,V=>by rw[putV,aVy os a,AY]
theorem aXs:∀ (os:List Int) (a V:List Nat) (i:Nat),(∀ o∈os,0<=o)->(i:Int) ∉ os->(putV os a V).getD i 0=V.getD i 0
 | [],a,V,i,_,_=>by cases a <;> rfl
 | o :: os,[],V,i,_,_=>rfl
 | o :: os,n :: a,V,i,c,h=>by
  rw[putV,aXs os a _ i (fun x b=>c x (AJ _ b)) (fun b=>h (AJ _ b))];have h1:=c o (AZ ..);have h2:o.toNat≠i:=fun e=>h (by rw[<-e,Ax h1];exact AZ ..);rw[Aq,Aq,List.getElem?_set_ne h2]
theorem aZq:∀ (os:List Int) (c V:List Nat) (j:Nat) (o:Int) (n:Nat),(∀ o∈os,0<=o/\o<(V.length:Int))->os.Nodup->os[j]? = some o->c[j]? = some n->(putV os c V).getD o.toNat 0=n
 | [],c,V,j,o,n,_,_,h,_=>by simp at h
 | a :: os,[],V,j,o,n,_,_,_,h=>by simp at h
 | a :: os,b :: c,V,0,o,n,d,hn,h1,h2=>by
  simp at h1 h2;subst h1;subst h2;have ha:=d a (AZ ..);rw[putV,aXs os c _ _ (fun x e=>(d x (AJ _ e)).1) (by rw[Ax ha.1];exact(List.nodup_cons.1 hn).1)];rw[Aq,List.getElem?_set_self (by omega)];rfl
 | a :: os,b :: c,V,j+1,o,n,d,hn,h1,h2=>by
  rw[putV];exact aZq os c _ j o n (fun x e=>by rw[AY];exact d x (AJ _ e)) (List.nodup_cons.1 hn).2 (by simpa using h1) (by simpa using h2)
theorem dZw(lost:Nat)(V:List Nat):(zeroV lost V).length=V.length:=by
 unfold zeroV;rw[AK,Az,AW];omega
theorem dYc{i:Nat}(h:lost<=i):(zeroV lost V).getD i 0=V.getD i 0:=by
 unfold zeroV;rw[Aq,Aq];by_cases a:lost<=V.length
 ·rw[List.getElem?_append_right (by rw[Az];omega),Az,Nat.min_eq_left a,List.getElem?_drop,show lost+(i - lost)=i by omega]
 ·rw[AQ (by rw[AK,Az,AW];omega),AQ (by omega)]
theorem cKx(V:List Nat):zeroV 0 V=V:=by
 unfold zeroV;simp
structure SimR (r r':RowD) (h:Int->Int) (lost:Nat):Prop where
 sig:r'.sig=r.sig
 par:r'.params=r.params.map h
 code:r'.code=r.code.map fun c=>{ c with args:=c.args.map h,outs:=c.outs.map h }
 rng:∀ p:Int,0<=p->p<r.places->0<=h p/\h p<r'.places
 cl:∀ p q:Int,0<=p->p<r.places->0<=q->q<r.places->Clashes r p q->h p≠h q
 ac:∀ p:Int,0<=p->p<r.places->AcrossP r p->(lost:Int)<=h p
structure SimV (r r':RowD) (h:Int->Int) (k:Nat) (V V':List Nat):Prop where
 l:V.length=r.places.toNat
 l':V'.length=r'.places.toNat
 v:∀ p,Live r k p->V'.getD (h p).toNat 0=V.getD p.toNat 0
structure ProgSim (p p':RowsD) (lost:Nat):Prop where
 env:p'.env=p.env
 row:∀ (i:Nat) q,p.fns[i]? = some q->CheckP p.env q/\∃ q' h,p'.fns[i]? = some q'/\SimR q q' h lost
theorem SimR.at{r r':RowD}{h:Int->Int}{c:CodeD}(hs:SimR r r' h lost)(hc:r.code[k]? = some c):r'.code[k]? = some { c with args:=c.args.map h,outs:=c.outs.map h }:=by
 rw[hs.code,Aw,hc];rfl
theorem SimV.arg{e:EnvD}{r r':RowD}{h:Int->Int}{lost k:Nat}{V V':List Nat}{c:CodeD}(hs:SimR r r' h lost)(a:SimV r r' h k V V')(hc:r.code[k]? = some c):argV e r' { c with args:=c.args.map h,outs:=c.outs.map h } V'=argV e r c V:=by
 have hg:rJ V' (c.args.map h)=rJ V c.args:=by
  unfold rJ;rw[List.map_map];exact List.map_congr_left fun p hp=>a.v p (.arg hc hp)
 unfold argV;show lowL (inK e r'.sig { c with args:=c.args.map h,outs:=c.outs.map h }) (rJ V' (c.args.map h))=lowL (inK e r.sig c) (rJ V c.args);rw[hg,hs.sig];rfl
theorem cXw{r:RowD}{c:CodeD}{p:Int}(hc:r.code[k]? = some c)(b:LiveB r k p)(d:p ∉ c.outs):Live r k p:=by
 obtain⟨c',a,j,hj,e⟩:=b;rw[hc]at a;injection a with a;subst a;exact .step hc hj e d
theorem SimV.put{e:EnvD}{r r':RowD}{h:Int->Int}{j:Nat}{V':List Nat}{c:CodeD}(u:CheckP e r)(hs:SimR r r' h lost)(m:SimV r r' h k V V')(hc:r.code[k]? = some c)(hj:(j:Int)∈nextOf c k)(hl:c.outs.length<=l.length)
  (g:List Nat) (A:g.length=V'.length) (G:∀ p,LiveB r k p->p ∉ c.outs->g.getD (h p).toNat 0=V'.getD (h p).toNat 0)
  (H:c.op=272->∀ a,c.args[0]? = some a->∀ n,l[0]? = some n->n=V.getD a.toNat 0):SimV r r' h j (putV c.outs l V) (putV (c.outs.map h) l g):=by
 obtain⟨_,_,_,_,aw,_,_,_,_,f,B⟩:=mJ (u.code c (Av hc));refine⟨by rw[aVy];exact m.l,by rw[aVy,A];exact m.l',fun p hp=>?_⟩;have s:=hp.range u;have w:LiveB r k p:=⟨c,hc,j,hj,hp⟩;have I:=hs.rng p s.1 s.2
 have y:∀ o∈c.outs.map h,0<=o/\o<(g.length:Int):=fun o d=>by
  obtain⟨x,C,rfl⟩:=List.mem_map.1 d;have:=hs.rng x (f x C).1 (f x C).2;rw[A,m.l'];omega
 have D:(c.outs.map h).Nodup:=by
  rw[Ac,AV];exact(List.Pairwise.and_mem.1 B).imp (fun {a b} q=>hs.cl a b (f a q.1).1 (f a q.1).2 (f b q.2.1).1 (f b q.2.1).2 ⟨q.2.2,.inl (.inl ⟨k,c,hc,q.1,.inr q.2.1⟩)⟩)
 by_cases t:p∈c.outs
 ·obtain⟨i,hi⟩:=List.mem_iff_getElem?.1 t;have J:=(List.getElem?_eq_some_iff.1 hi).1;obtain⟨n,hn⟩:∃ n,l[i]? = some n:=⟨_,Ak (by omega)⟩;rw[aZq c.outs l V i p n (fun o d=>by have:=f o d;rw[m.l];omega) B hi hn];exact aZq (c.outs.map h) l g i (h p) n y D (by rw[Aw,hi];rfl) hn
 ·have E:=cXw hc w t;rw[aXs c.outs l V _ (fun o d=>(f o d).1) (by rw[Ax s.1];exact t),<-m.v p E];by_cases F:h p∈c.outs.map h
  ·obtain⟨o,d,heq⟩:=List.mem_map.1 F;have K:o≠p:=fun e=>t (e ▸ d)
   have L:c.op=272/\∃ a,c.args[0]? = some a/\p=a:=by
    refine Classical.byContradiction fun hn=>?_;refine hs.cl o p (f o d).1 (f o d).2 s.1 s.2 ⟨K,.inl (.inl ⟨k,c,hc,d,.inl ⟨w,fun z a ha e=>hn ⟨z,a,ha,e⟩⟩⟩)⟩ heq
   obtain⟨z,a,ha,rfl⟩:=L;obtain⟨i,hi⟩:=List.mem_iff_getElem?.1 d;have J:=(List.getElem?_eq_some_iff.1 hi).1
   have ax:c.outs.length<=1:=by
    obtain⟨i',o',hf,_,h2,_⟩:=mJ (u.code c (Av hc));rw[h2];exact bZf hf (by omega)
   have M:i=0:=(by omega);subst M;obtain⟨n,hn⟩:∃ n,l[0]? = some n:=⟨_,Ak (by omega)⟩;have:=aZq (c.outs.map h) l g 0 (h o) n y D (by rw[Aw,hi];rfl) hn;rw[heq]at this;rw[this,H z p ha n hn,m.v p E]
  ·rw[aXs (c.outs.map h) l g _ (fun o d=>(y o d).1) (by rw[Ax I.1];exact F)];exact G p w t
theorem bVf(r:RowD)(a:List Nat):(initV r a).length=r.places.toNat:=by
 unfold initV;rw[aVy,Az]
theorem bYz(n i:Nat):(Ab n 0).getD i 0=0:=by
 rw[Aq];by_cases h:i<n
 ·rw[List.getElem?_replicate];simp[h]
 ·rw[AQ (by simpa using h)];rfl
theorem SimV.init{e:EnvD}{r r':RowD}{h:Int->Int}(g:CheckP e r)(hs:SimR r r' h lost)(a:List Nat)(ha:r.params.length<=a.length):SimV r r' h 0 (initV r a) (initV r' a):=by
 have d:∀ x∈r.params,0<=x/\x<r.places:=fun x j=>pQ g.pin j;refine⟨bVf r a,bVf r' a,fun p hp=>?_⟩;have f:=hp.range g;have m:=hs.rng p f.1 f.2;unfold initV;rw[hs.par]
 have l:∀ o∈r.params.map h,0<=o/\o<((Ab r'.places.toNat 0).length:Int):=fun o c=>by
  obtain⟨x,j,rfl⟩:=List.mem_map.1 c;have:=hs.rng x (d x j).1 (d x j).2;rw[Az];omega
 have s:(r.params.map h).Nodup:=by
  rw[Ac,AV];exact(List.Pairwise.and_mem.1 g.pun).imp (fun {a b} q=>hs.cl a b (d a q.1).1 (d a q.1).2 (d b q.2.1).1 (d b q.2.1).2 ⟨q.2.2,.inl (.inr ⟨q.1,.inl q.2.1⟩)⟩)
 by_cases k:p∈r.params
 ·obtain⟨i,hi⟩:=List.mem_iff_getElem?.1 k;have ai:=(List.getElem?_eq_some_iff.1 hi).1;obtain⟨n,hn⟩:∃ n,a[i]? = some n:=⟨_,Ak (by omega)⟩;rw[aZq r.params a _ i p n (fun o c=>by have:=d o c;rw[Az];omega) g.pun hi hn];exact aZq (r.params.map h) a _ i (h p) n l s (by rw[Aw,hi];rfl) hn
 ·rw[aXs r.params a _ _ (fun o c=>(d o c).1) (by rw[Ax f.1];exact k),bYz];rw[aXs (r.params.map h) a _ _ (fun o c=>(l o c).1) ?_,bYz];rw[Ax m.1];intro t;obtain⟨o,c,heq⟩:=List.mem_map.1 t;exact hs.cl o p (d o c).1 (d o c).2 f.1 f.2 ⟨fun e=>k (e ▸ c),.inl (.inr ⟨c,.inr hp⟩)⟩ heq
theorem sim{p p':RowsD}{d:Nat}{r:RowD}{s:StD}{R:ResD}(hp:ProgSim p p' lost)(E:ProgP p)(he:Ev p 0 d r k V s R):∀ (r':RowD) (h:Int->Int) (V':List Nat),SimR r r' h lost->CheckP p.env r->SimV r r' h k V V' ->
  ∃ R',Ev p' lost d r' k V' s R'/\R'.out=R.out/\R'.s=R.s/\R'.e=R.e/\R'.cnt=R.cnt:=by
 have t:=hp.env
 have act:∀ {r r':RowD} {h:Int->Int} {k:Nat} {V V':List Nat} {c:CodeD} {s:StD} {A:ActD},SimR r r' h lost->SimV r r' h k V V'->r.code[k]? = some c->actV p.env c k (argV p.env r c V) s=A->actV p'.env { c with args:=c.args.map h,outs:=c.outs.map h } k (argV p'.env r' { c with args:=c.args.map h,outs:=c.outs.map h } V') s=A:=fun hs b hc ha=>by
  rw[t,SimV.arg hs b hc,<-ha];rfl
 induction he with
 | ret hc ha=>exact fun r' h V' hs f b=>⟨_,.ret (hs.at hc) (act hs b hc ha),rfl,rfl,rfl,rfl⟩
 | trap hc ha=>exact fun r' h V' hs f b=>⟨_,.trap (hs.at hc) (act hs b hc ha),rfl,rfl,rfl,rfl⟩
 | deep hc ha hd=>exact fun r' h V' hs f b=>⟨_,.deep (hs.at hc) (act hs b hc ha) hd,rfl,rfl,rfl,rfl⟩
 | @go d r k k' V s c R hc ha hn K=>
  intro r' h V' hs f b;obtain⟨w,X⟩:=bJo ha (f.code c (Av hc));have u:=b.put (l:=[]) (j:=k') f hs hc w (by rw[X];exact Aj _) V' rfl (fun _ _ _=>rfl) (fun _ a _ n hn=>by simp at hn);rw[X]at u;obtain⟨R',h1,h2,L,M,N⟩:=K r' h V' hs f u;exact⟨_,.go (hs.at hc) (act hs b hc ha) h1,h2,L,M,by show 1+R'.cnt=1+R.cnt;rw[N]⟩
 | @vals d r k V s s' c l R hc ha hn K=>
  intro r' h V' hs f b;have v:=f.code c (Av hc);obtain⟨q1,q2,q3,q4,q5,aC⟩:=uZ ha;have w:((k+1:Nat):Int)∈nextOf c k:=(by rw[xZ q1 q2 q3 q4 q5];simp)
  have u:=b.put f hs hc w (bYp ha v) V' rfl (fun _ _ _=>rfl) (fun O a F n hn=>by
   rcases aC with⟨aH,_⟩ | ⟨_,rfl,_⟩
   ·omega
   ·rw[dXt O]at hn;injection hn with hn;rw[<-hn];obtain⟨i,o,hf,h1,_⟩:=mJ v;have y:=hf;rw[O]at hf;have hf:(if c.n=0 then some (([0]:List Int),([0]:List Int))else none)=some (i,o):=hf
    split at hf
    ·injection hf with hf;injection hf with h2 _;have aD:inK p.env r.sig c = [0]:=(by unfold inK;rw[y,<-h2];rfl)
     match aE:c.args,F with
     | x :: xs,F=>
      simp at F;subst F;unfold argV rJ;rw[aD,aE];rfl
    ·cases hf)
  obtain⟨R',h1,h2,L,M,N⟩:=K r' h _ hs f u;exact⟨_,.vals (hs.at hc) (act hs b hc ha) h1,h2,L,M,by show 1+R'.cnt=1+R.cnt;rw[N]⟩
 | @call d r q k n V s c g R1 R2 hc ha hd hq hg h1 G h2 ih1 ih2=>
  intro r' h V' hs f b;have v:=f.code c (Av hc);obtain⟨H,rfl,himp⟩:=rX ha;obtain⟨m,q',P,Q,z⟩:=hp.row _ q hq;have w:((k+1:Nat):Int)∈nextOf c k:=(by rw[xZ (by omega) (by omega) (by omega) (by omega) (by omega)];simp);obtain⟨i,o,hf,B,Y,_⟩:=mJ v;have y:=hf;rw[H]at hf;have hf:(p.env.sigs[c.n]?).map (fun g=>(g.inn,g.out))=some (i,o):=hf;rw[hg]at hf;injection hf with hf;injection hf with S Z
  have I:g=q.sig:=by
   have:=(E.row _ q hq).2;have he:=lV E.env;rw[show p.env.imports.toNat+(c.n - p.env.imports.toNat)=c.n by omega,hg]at this;injection this
  have C:(argV p.env r c V).length=g.inn.length:=by
   unfold argV inK;rw[y];show(lowL i (rJ V c.args)).length=_;rw[xY _ _ (by unfold rJ;rw[AX];exact B.symm),S];unfold rJ;rw[AX];exact B
  obtain⟨D,T,e2,U,J,W⟩:=ih1 q' P (initV q' (lowL g.inn (argV p.env r c V))) z m (SimV.init m z _ (by rw[xY _ _ C.symm,C,m.par,I];exact Aj _));have aF:R1.out.length=q.sig.out.length:=h1.fXb m G
  have u:=b.put (l:=R1.out) (j:=k+1) f hs hc w (by rw[aF,Y,<-Z,I];exact Aj _) (zeroV lost V') (dZw _ _) (fun p aA aG=>by
   have aB:=aA.range f;have:=hs.ac p aB.1 aB.2 ⟨k,c,hc,H,aA,aG⟩
   exact dYc (by omega)) (fun O=>by omega)
  rw[<-cKx V]at u;obtain⟨S2,f1,f2,f3,f4,f5⟩:=ih2 r' h _ hs f u;refine⟨_,.call (q:=q') (g:=g) (R1:=D) (R2:=S2) (hs.at hc) (act hs b hc ha) hd (by rw[t];exact Q) (by rw[t];exact hg) (by rw[t,SimV.arg hs b hc];exact T) (by rw[J];exact G) (by rw[e2,U];exact f1),f2,f3,f4,?_⟩;show 1+D.cnt+S2.cnt=1+R1.cnt+R2.cnt;rw[W,f5]
 | @callT d r q k n V s c g R1 hc ha hd hq hg h1 G ih1=>
  intro r' h V' hs f b;have v:=f.code c (Av hc);obtain⟨H,rfl,himp⟩:=rX ha;obtain⟨m,q',P,Q,z⟩:=hp.row _ q hq;obtain⟨i,o,hf,B,Y,_⟩:=mJ v;have y:=hf;rw[H]at hf;have hf:(p.env.sigs[c.n]?).map (fun g=>(g.inn,g.out))=some (i,o):=hf;rw[hg]at hf;injection hf with hf;injection hf with S Z
  have I:g=q.sig:=by
   have:=(E.row _ q hq).2;have he:=lV E.env;rw[show p.env.imports.toNat+(c.n - p.env.imports.toNat)=c.n by omega,hg]at this;injection this
  have C:(argV p.env r c V).length=g.inn.length:=by
   unfold argV inK;rw[y];show(lowL i (rJ V c.args)).length=_;rw[xY _ _ (by unfold rJ;rw[AX];exact B.symm),S];unfold rJ;rw[AX];exact B
  obtain⟨D,T,e2,U,J,W⟩:=ih1 q' P (initV q' (lowL g.inn (argV p.env r c V))) z m (SimV.init m z _ (by rw[xY _ _ C.symm,C,m.par,I];exact Aj _));refine⟨_,.callT (q:=q') (g:=g) (R1:=D) (hs.at hc) (act hs b hc ha) hd (by rw[t];exact Q) (by rw[t];exact hg) (by rw[t,SimV.arg hs b hc];exact T) (by rw[J];exact G),rfl,U,J,?_⟩;show 1+D.cnt=1+R1.cnt;rw[W]
theorem dWj{e:EnvD}{r:RowD}{hs:List Int}(hc:CheckP e r)(hg:aKl (r,hs))(lost:Nat)(hl:lost<=8):SimR r (xJ r hs) (rW hs) lost:=by
 obtain⟨P,c,ab,f⟩:=hg;have c:r.places=P:=c;have b:=f.toRightP
 have at':∀ p:Int,0<=p->p<r.places->hs[p.toNat]? = some (rW hs p):=fun p a h1=>by
  have:p.toNat<hs.length:=(by rw[b.len];omega);unfold rW;rw[Aq,Ak this];rfl
 refine⟨rfl,rfl,rfl,fun p a h1=>b.lt a (by omega),fun p q a h1 d g hcl=>?_,fun p a h1 h=>?_⟩
 ·refine b.cl p.toNat q.toNat _ _ (at' p a h1) (at' q d g) ?_;rw[Ax a,Ax d];exact hcl
 ·have:=b.ac p.toNat _ (at' p a h1) (by rw[Ax a];exact h);omega
theorem bKs{p:RowsD}{X:List (RowD×List Int)}(hp:ProgP p)(b:X.map Prod.fst=p.fns)(hg:∀ x∈X,aKl x)(lost:Nat)(c:lost<=8):ProgSim p ⟨p.env,X.map fun x=>xJ x.1 x.2⟩ lost:=by
 refine⟨rfl,fun i q hq=>⟨(hp.row i q hq).1,?_⟩⟩;rw[<-b,Aw]at hq
 cases a:X[i]? with
 | none=>rw[a]at hq;cases hq
 | some x=>
  rw[a]at hq;injection hq with hq;subst hq;refine⟨xJ x.1 x.2,rW x.2,by show(X.map _)[i]? = _;rw[Aw,a];rfl,?_⟩;have hq:p.fns[i]? = some x.1:=(by rw[<-b,Aw,a];rfl);exact dWj (hp.row i _ hq).1 (hg x (Av a)) lost c
theorem dWk{a b:StD}(h:RawS.of a=RawS.of b):a=b:=by
 obtain⟨a1,a2,a3,c,a5,a6⟩:=a;obtain⟨b1,b2,b3,d,b5,b6⟩:=b;unfold RawS.of at h;injection h with h1 h2 h3 e h5 h6;have e:(c:Int)=d:=e;obtain rfl:c=d:=(by omega)
 simp_all
theorem dWl{p g:RowsD}{n:Nat}{s:SigD}{a:List Nat}{sd s1 s2:StD}{d e2:Int}{e f w1 m:Nat}{i j:List Nat}(hp:ProgP p)(hs:ProgSim p g lost)(hg:p.env.sigs[n]? = some s)(ha:s.inn.length=a.length)
  (h1:CDid p 0 0 n s a sd s1 d e w1 i) (h2:CDid g lost 0 n s a sd s2 e2 f m j):s1=s2/\d=e2/\i=j/\e=f:=by
 have he:=hs.env
 cases h1 with
 | host hi=>
  cases h2 with
  | host _=>exact⟨rfl,rfl,rfl,rfl⟩
  | deep b=>rw[he]at b;exact absurd hi b
  | call b=>rw[he]at b;exact absurd hi b
 | deep hi hd=>omega
 | @call q R hi hd hq h1=>
  cases h2 with
  | host b=>rw[he]at b;exact absurd b hi
  | deep _ o=>omega
  | @call q' R' b o k h2=>
   obtain⟨c,q2,h,r,l⟩:=hs.row _ q hq;rw[he,r]at k;cases k
   have t:s=q.sig:=by
    have:=(hp.row _ q hq).2;have ai:=lV hp.env;rw[show p.env.imports.toNat+(n - p.env.imports.toNat)=n by omega,hg]at this;injection this
   obtain⟨R2,u,k2,v,w,x⟩:=sim hs hp h1 q' h (initV q' (lowL s.inn a)) l c (SimV.init c l _ (by rw[xY _ _ ha,<-ha,c.par,t];exact Aj _));have:=u.one h2;subst this;exact⟨v.symm,w.symm,k2.symm,x.symm⟩
theorem bYu{p g:RowsD}{s s1 s2:RawS}{n c e2:Int}{args o1 o2:List Nat}(hp:ProgP p)(hg:ProgP g)(hs:ProgSim p g lost)(h1:WithD p s n args 0 o1 s1 c)(h2:WithD g s n args lost o2 s2 e2):o1=o2/\s1=s2/\c=e2:=by
 have he:=hs.env;have ea:ArgP g n args↔ArgP p n args:=(by unfold ArgP;rw[he])
 cases h1 with
 | form h=>
  have d:¬FitP p.env s:=fun hf=>h ⟨hp,hf⟩
  cases h2 with
  | form _=>exact⟨rfl,rfl,rfl⟩
  | arg _ hf=>rw[he]at hf;exact absurd hf d
  | run _ hf=>rw[he]at hf;exact absurd hf d
 | arg _ hf ha=>
  cases h2 with
  | form h=>rw[he]at h;exact absurd ⟨hg,hf⟩ h
  | arg=>exact⟨rfl,rfl,rfl⟩
  | run _ _ a=>exact absurd (ea.1 a) ha
 | run _ hf ha f b hd=>
  cases h2 with
  | form h=>rw[he]at h;exact absurd ⟨hg,hf⟩ h
  | arg _ _ a=>exact absurd (ea.2 ha) a
  | run _ _ _ i e j=>
   have:=dWk (f.trans i.symm);subst this;rw[he,b]at e;cases e;obtain⟨rfl,rfl,rfl,_⟩:=dWl hp hs b (ha.2.2 _ b).1 hd j;exact⟨rfl,rfl,rfl⟩
theorem cKp{g:Nat}{a b c d f h i j:Ad}(k:Blk w g e #[a,b,c,d,f,h,i,j]):
  w.cell? ⟨g,0,none⟩=some a/\w.cell? ⟨g,1,none⟩=some b/\w.cell? ⟨g,2,none⟩=some c/\w.cell? ⟨g,3,none⟩=some d/\w.cell? ⟨g,4,none⟩=some f/\w.cell? ⟨g,5,none⟩=some h/\w.cell? ⟨g,6,none⟩=some i/\w.cell? ⟨g,7,none⟩=some j:=
 ⟨by simpa using k.cell 0,by simpa using k.cell 1,by simpa using k.cell 2,by simpa using k.cell 3,by simpa using k.cell 4,by simpa using k.cell 5,by simpa using k.cell 6,by simpa using k.cell 7⟩
theorem AllocMeans_walk(p:RowsD)(q:AskD)(vp vq:Ad)(w:World)(hv:RowsV w vp p)(hq:eKh w vq q):Calls fZ 4 #[vp,vq] w (eQz w):=by
 have bU:=hv;obtain⟨p0,p2,p3,p5,rfl,_⟩:=hv;obtain⟨qa,qm,qi,qg,qj,qh,ql,rfl,bl,bm,bn,bV,rfl,rfl⟩:=hq;obtain⟨n,hn⟩:=fX q.n;rw[hn]at bl bm ⊢;have HV:=fQ bU;have HA:=fQ bn;have HS:=fQ bV;have bo:=fQ (And.intro bl bm);have c:=fQ (aKv w (.cells #[p0,.int .i64 p.env.imports,p2,p3,.bool p.env.mem,p5] 29) (.cells #[.int .i64 n,qa,qm,.int .i64 q.s.most,qg,.int .i64 q.s.fuel,qh,ql] 58));have KP:=fQ (Blk.alloc (Blk.new w 29 #[p0,.int .i64 p.env.imports,p2,p3,.bool p.env.mem,p5]) (.cells #[.int .i64 n,qa,qm,.int .i64 q.s.most,qg,.int .i64 q.s.fuel,qh,ql] 58));have KA:=fQ (Blk.newAt (w.alloc (.cells #[p0,.int .i64 p.env.imports,p2,p3,.bool p.env.mem,p5] 29)) (N:=w.heap.size+1) 58 #[.int .i64 n,qa,qm,.int .i64 q.s.most,qg,.int .i64 q.s.fuel,qh,ql] (by simp));obtain⟨cQ,cR,rfl⟩:=bn.shape;clear bU bn bV hn bl bm;go_in;go_wp2_with fail;refine(cVv p _ _ (HV.out.below c.out (Aj _))).mono ?_;rintro d w1 h1;rcases h1 with⟨_,rfl,e⟩ | ⟨_,_,rfl,e⟩ | ⟨hp,_,X,v,rfl,Q,R,bp,e⟩
 ·as_aux_lemma=>
  have m:=fQ (c.out.trans (e.mono c.out.size));clear e;unfold bVx;go_wp2_with fail;refine(aKe _).mono ?_;rintro d w2 ⟨rfl,a⟩;have f:=fQ (m.out.trans ((((Ay w1.heap.size w1).alloc (Aj _) _).trans (a.mono (by simp))).mono m.out.size));clear a;go_wp2;go_ret;exact⟨rfl,f.out⟩
 ·as_aux_lemma=>
  have m:=fQ (c.out.trans (e.mono c.out.size));clear e;unfold bVx;go_wp2_with fail;refine(aKe _).mono ?_;rintro d w2 ⟨rfl,a⟩;have f:=fQ (m.out.trans ((((Ay w1.heap.size w1).alloc (Aj _) _).trans (a.mono (by simp))).mono m.out.size));clear a;go_wp2;go_ret;exact⟨rfl,f.out⟩
 have bW:=fQ hp;obtain⟨g,hg⟩:∃ g:RowsD,(⟨p.env,X.map fun x=>xJ x.1 x.2⟩:RowsD)=g:=⟨_,rfl⟩;have bX:=fQ (show ProgP g from hg ▸ cWc hp Q R);have cn:=fQ (show ProgSim p g 0 from hg ▸ bKs hp Q R 0 (by omega));have cq:=fQ (show ProgSim p g 8 from hg ▸ bKs hp Q R 8 (by omega));rw[hg]at bp;clear hg;have bY:=fQ (fun(w':World) (cr:Below w1.heap.size w1 w')=>bp.below cr (Aj _));obtain⟨cS,cT,cU,cV,rfl,k1,k2,k3,k4⟩:=bp;obtain⟨ga,bZ,rfl,_⟩:=k1.len;obtain⟨gb,b0,rfl⟩:=k2.shape;obtain⟨gd,b1,rfl⟩:=bQm k3;obtain⟨gf,b2,rfl,_⟩:=k4.len;have m:=fQ (c.out.trans (e.mono c.out.size));have al2:=(Ay w1.heap.size w1).alloc (Aj _) (.cells #[.slice ga g.env.sigs.length bZ,.int .i64 g.env.imports,.slice gb g.env.globals.length b0,.slice gd g.env.muts.length b1,.bool g.env.mem,.slice gf g.fns.length b2] 29);have a:=e.trans (al2.mono e.size);have f:=fQ (c.out.trans (a.mono c.out.size));have bq:=fQ al2;have t:=fQ (KP.out.below a KP.out.lt);have u:=fQ (KA.out.below a KA.out.lt);have aP:=fQ (Blk.new w1 29 #[.slice ga g.env.sigs.length bZ,.int .i64 g.env.imports,.slice gb g.env.globals.length b0,.slice gd g.env.muts.length b1,.bool g.env.mem,.slice gf g.fns.length b2]);clear hp Q R e k1 k2 k3 k4 al2 a KP KA c m;obtain⟨ct,cv,cw,cx,cy,cz⟩:=lX t.out;have cA:=t.out.lt;obtain⟨y,z,A,B,C,D,E,F⟩:=cKp u.out;have G:=u.out.lt;go_wp2_with fail;refine(cZr p _ q.s _ n _ q.args _ (HV.out.below f.out (Aj _)) (HS.out.below f.out (Aj _)) (HA.out.below f.out (Aj _)) bo.out).mono ?_;rintro d c1 ⟨o1,s1,e1,v1,u1,b3,rfl,br,b4,bs⟩;have bt:=fQ b3;have a7:=fQ b4;have a8:=fQ br;obtain⟨V1,cW,rfl⟩:=br.shape;obtain⟨ma,mg,mi,ml,rfl,h,i,j,k⟩:=b4;obtain⟨M1,x1,rfl⟩:=h.shape;obtain⟨G1,y1,rfl⟩:=i.shape;obtain⟨I1,z1,rfl⟩:=j.shape;obtain⟨L1,t1,rfl⟩:=k.shape;have S:=(Ay c1.heap.size c1).alloc (Aj _) (.cells #[.slice M1 s1.mem.length x1,.int .i64 s1.most,.slice G1 s1.globals.length y1,.int .i64 s1.fuel,.slice I1 s1.input.length z1,.slice L1 s1.log.length t1] 33);have o:=bs.trans (S.mono bs.size);have H:=fQ (f.out.trans ((o).mono f.out.size));have aD:=fQ (t.out.below (o) t.out.lt);have I:=fQ (u.out.below (o) u.out.lt);have J:=fQ (aP.out.below (o) aP.out.lt);have T:=fQ (bq.out.trans (o.mono bq.out.size));have aq:=fQ (a7.out.below S (Aj _));have ar:=fQ (a8.out.below S (Aj _));have aE:=fQ (Blk.new c1 33 #[.slice M1 s1.mem.length x1,.int .i64 s1.most,.slice G1 s1.globals.length y1,.int .i64 s1.fuel,.slice I1 s1.input.length z1,.slice L1 s1.log.length t1]);clear b3 br bs h i j k S o a7 a8 ct cv cw cx cy cz cA y z A B C D E F G t u aP f bq;obtain⟨bu,bw,bx,bz,bD,bE⟩:=lX J.out;have bF:=J.out.lt;obtain⟨y,z,A,B,C,D,E,F⟩:=cKp I.out;have G:=I.out.lt;go_wp2_with fail;refine(cZr _ _ q.s _ n _ q.args _ (bY.out _ T.out) (HS.out.below H.out (Aj _)) (HA.out.below H.out (Aj _)) bo.out).mono ?_;rintro d c2 ⟨o2,s2,e2,v2,u2,b5,rfl,bG,b6,bH⟩;have b7:=fQ b5;have bb:=fQ b6;have bc:=fQ bG;obtain⟨V2,cX,rfl⟩:=bG.shape;obtain⟨ma,mg,mi,ml,rfl,h,i,j,k⟩:=b6
 obtain⟨M2,x2,rfl⟩:=h.shape;obtain⟨G2,y2,rfl⟩:=i.shape;obtain⟨I2,z2,rfl⟩:=j.shape;obtain⟨L2,t2,rfl⟩:=k.shape;have al2:=(Ay c2.heap.size c2).alloc (Aj _) (.cells #[.slice M2 s2.mem.length x2,.int .i64 s2.most,.slice G2 s2.globals.length y2,.int .i64 s2.fuel,.slice I2 s2.input.length z2,.slice L2 s2.log.length t2] 33);have a:=bH.trans (al2.mono bH.size);have K:=fQ (H.out.trans ((a).mono H.out.size));have aF:=fQ (aD.out.below (a) aD.out.lt);have L:=fQ (I.out.below (a) I.out.lt);have M:=fQ (J.out.below (a) J.out.lt);have aG:=fQ (aE.out.below (a) aE.out.lt);have U:=fQ (T.out.trans (a.mono T.out.size));have au:=fQ (aq.out.below a (Aj _));have av:=fQ (ar.out.below a (Aj _));have aw:=fQ (bb.out.below al2 (Aj _));have ax:=fQ (bc.out.below al2 (Aj _));have aH:=fQ (Blk.new c2 33 #[.slice M2 s2.mem.length x2,.int .i64 s2.most,.slice G2 s2.globals.length y2,.int .i64 s2.fuel,.slice I2 s2.input.length z2,.slice L2 s2.log.length t2]);clear b5 bG bH h i j k al2 a bb bc bu bw bx bz bD bE bF y z A B C D E F G aD I J aE H T aq ar;obtain⟨bu,bw,bx,bz,bD,bE⟩:=lX M.out;have bF:=M.out.lt;obtain⟨y,z,A,B,C,D,E,F⟩:=cKp L.out;have G:=L.out.lt;go_wp2_with fail;refine(dZv _ _ q.s _ n _ q.args _ (bY.out _ U.out) (HS.out.below K.out (Aj _)) (HA.out.below K.out (Aj _)) bo.out).mono ?_;rintro d V ⟨o3,s3,e3,v3,u3,b8,rfl,bI,b9,bJ⟩;have ca:=fQ b8;have be:=fQ b9;have bf:=fQ bI;obtain⟨V3,cY,rfl⟩:=bI.shape;obtain⟨ma,mg,mi,ml,rfl,h,i,j,k⟩:=b9;obtain⟨M3,x3,rfl⟩:=h.shape;obtain⟨G3,y3,rfl⟩:=i.shape;obtain⟨I3,z3,rfl⟩:=j.shape;obtain⟨L3,t3,rfl⟩:=k.shape;have al3:=(Ay V.heap.size V).alloc (Aj _) (.cells #[.slice M3 s3.mem.length x3,.int .i64 s3.most,.slice G3 s3.globals.length y3,.int .i64 s3.fuel,.slice I3 s3.input.length z3,.slice L3 s3.log.length t3] 33);have b:=bJ.trans (al3.mono bJ.size);have Y:=fQ (K.out.trans ((b).mono K.out.size));have cd:=fQ (aF.out.below (b) aF.out.lt);have cf:=fQ (L.out.below (b) L.out.lt);have ch:=fQ (M.out.below (b) M.out.lt);have r:=fQ (aG.out.below (b) aG.out.lt);have Z:=fQ (aH.out.below (b) aH.out.lt);have cB:=fQ (U.out.trans (b.mono U.out.size));have aa:=fQ (au.out.below b (Aj _));have ab:=fQ (av.out.below b (Aj _));have af:=fQ (aw.out.below b (Aj _));have ag:=fQ (ax.out.below b (Aj _));have ah:=fQ (be.out.below al3 (Aj _));have ai:=fQ (bf.out.below al3 (Aj _));have az:=fQ (Blk.new V 33 #[.slice M3 s3.mem.length x3,.int .i64 s3.most,.slice G3 s3.globals.length y3,.int .i64 s3.fuel,.slice I3 s3.input.length z3,.slice L3 s3.log.length t3]);clear b8 bI bJ h i j k al3 b be bf bu bw bx bz bD bE bF y z A B C D E F G aF L M aG aH K U au av aw ax;obtain⟨W,hW⟩:=fX (V.alloc (.cells #[.slice M3 s3.mem.length x3,.int .i64 s3.most,.slice G3 s3.globals.length y3,.int .i64 s3.fuel,.slice I3 s3.input.length z3,.slice L3 s3.log.length t3] 33));rw[hW]at Y r aa ab Z af ag az ah ai;have E2:=bYu bW.out bX.out cn.out bt.out b7.out;have E3:=bYu bW.out bX.out cq.out bt.out ca.out
 clear bt b7 ca;go_upto_region 7 with fail
 (try rw[hW])
 clear hW;obtain⟨rfl,rfl,rfl⟩:=E2;obtain⟨rfl,rfl,rfl⟩:=E3;obtain⟨bL,bM,bN,bO,bP,bQ⟩:=lX r.out;have bT:=r.out.lt;obtain⟨cC,cD,cE,cF,cG,cH⟩:=lX Z.out;have cI:=Z.out.lt;have q1:(e1 == e1)=true:=(by simp);have O:=fQ (fun n:Nat=>fK (Ay W.heap.size W) n);go_wp2_with fail;refine(aZb _ _ _ _ _ ab.out ag.out).mono ?_;rintro d w4 ⟨rfl,n1,rfl⟩;rw[decide_eq_true (rfl:o1=o1)];go_wp2_with fail;refine(bVg _ _ s1 _ (aa.out.below (O.out n1) (Aj _)) (af.out.below (O.out n1) (Aj _))).mono ?_;rintro d wA ⟨rfl,cj⟩;have l:=(O.out n1).trans (cj.mono (O.out n1).size);have BA:=fQ (Y.out.trans (l.mono Y.out.size));have aQ:=fQ (r.out.below l r.out.lt);have aI:=fQ (aa.out.below l (Aj _));have aJ:=fQ (ab.out.below l (Aj _));have aR:=fQ (az.out.below l az.out.lt);have aK:=fQ (ah.out.below l (Aj _));have aL:=fQ (ai.out.below l (Aj _));clear cj l O Y bL bM bN bO bP bQ bT cC cD cE cF cG cH cI r aa ab Z af ag az ah ai;have P:=fQ (fun n:Nat=>fK (Ay wA.heap.size wA) n);obtain⟨bL,bM,bN,bO,bP,bQ⟩:=lX aQ.out;have bT:=aQ.out.lt;obtain⟨cJ,cK,cL,cM,cN,cO⟩:=lX aR.out;have cP:=aR.out.lt;go_wp2_with fail;refine(aZb _ _ _ _ _ aJ.out aL.out).mono ?_;rintro d w5 ⟨rfl,n2,rfl⟩;rw[decide_eq_true (rfl:o1=o1)];go_wp2_with fail;refine(bVg _ _ s1 _ (aI.out.below (P.out n2) (Aj _)) (aK.out.below (P.out n2) (Aj _))).mono ?_;rintro d wB ⟨rfl,ck⟩;have BB:=fQ (BA.out.trans (((P.out n2).trans (ck.mono (P.out n2).size)).mono BA.out.size));clear ck P BA bL bM bN bO bP bQ bT cJ cK cL cM cN cO cP aQ aI aJ aR aK aL;go_wp2_with fail;refine(aKe _).mono ?_;rintro d wC ⟨rfl,cm⟩;have BC:=fQ (BB.out.trans (cm.mono BB.out.size));clear cm;go_wp2;go_ret;exact⟨rfl,BC.out⟩
end Go.Proofs.YtabibkpfgmolkaaGreat

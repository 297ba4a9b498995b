/- Lemmas for the claim, part 19. Conditions: none. -/
import Derived.Test.YtabibkpfgmolkaaGreatDoorPt18
set_option maxRecDepth 100000
set_option maxHeartbeats 16000000
set_option linter.unusedVariables false
set_option linter.unusedSimpArgs false
open Go.Lib renaming hid→fQ
open Go.Proofs.Tryz renaming prog→fZ
open Go.Proofs.Tryz
open Go.RowKit
open Nat renaming le_refl→Aj,le_trans→Ac,zero_le→Ad
open List renaming getD_eq_getElem?_getD→Aq,mem_of_getElem?→Az,getElem?_map→Ak,length_replicate→Av,getElem?_eq_getElem→Aw,length_map→Ay,mem_cons_of_mem→AQ,getElem?_eq_none→AX,mem_cons_self→AZ,length_append→AK,pairwise_map→AV,length_drop→AW,length_set→AY,replicate→Ab,Nodup→Ae
open Int renaming toNat_of_nonneg→Ax
open Go.RowKit.Below renaming refl→AJ
open Go renaming Value→Af
open Go.Value renaming int->fF,slice->fG,bool->fH
open Go.IntKind renaming i64->fI
open Go.Obj renaming cells->fM
open Option renaming none->fN,some->fO
namespace Go.Proofs.YtabibkpfgmolkaaGreatDoor
variable {lost k Z:Nat}{w w':World}{v:Af}{l V:List Nat}{e:TypeId}
theorem bXh{cs:Array Af}(h:UR w v l)(k:gO w Z e cs)(hc:∀ (i:Nat) (x:Int),cs[i]? ≠ fO (fF .u64 x))(d:iU w w' Z):UR w' v l:=by
 obtain⟨A,c,rfl,hs,r⟩:=h;refine⟨A,c,rfl,⟨hs.1,fun hn=>?_⟩,r⟩;obtain⟨b,o,e',g,hcell⟩:=hs.2 hn
 have m:b≠Z:=by
  intro n;subst n;obtain⟨x,p⟩:∃ x,l[0]? = fO x:=⟨_,Aw hn⟩;have f:=hcell 0 (fF .u64 (x:Int)) (by simp[hH,p]);rw[k.cell]at f;exact hc _ _ f
 exact⟨b,o,e',by rw[d.size];exact g,fun j u q=>(World.cell?_of_block (a:=⟨b,o+j,fN⟩) (d.other b m)).trans (hcell j u q)⟩
theorem eWj{cs:Array Af}(h:BR w v l)(k:gO w Z e cs)(hc:∀ (i:Nat) (x:Int),cs[i]? ≠ fO (fF .u8 x))(d:iU w w' Z):BR w' v l:=by
 obtain⟨A,c,rfl,hs,r⟩:=h;refine⟨A,c,rfl,⟨hs.1,fun hn=>?_⟩,r⟩;obtain⟨b,o,e',g,hcell⟩:=hs.2 hn
 have m:b≠Z:=by
  intro n;subst n;obtain⟨x,p⟩:∃ x,l[0]? = fO x:=⟨_,Aw hn⟩;have f:=hcell 0 (fF .u8 (x:Int)) (by simp[jv,p]);rw[k.cell]at f;exact hc _ _ f
 exact⟨b,o,e',by rw[d.size];exact g,fun j u q=>(World.cell?_of_block (a:=⟨b,o+j,fN⟩) (d.other b m)).trans (hcell j u q)⟩
theorem uy{a b:Int}{k:IntKind}(c:k ≠ fI)(i:Nat)(x:Int):(#[fG fN 0 0,fF fI a,fG fN 0 0,fF fI b,fG fN 0 0,fG fN 0 0]:Array Af)[i]? ≠ fO (fF k x):=by
 intro h
 match i,h with
 | 0,h=>simp at h
 | 1,h=>simp at h;exact c h.1.symm
 | 2,h=>simp at h
 | 3,h=>simp at h;exact c h.1.symm
 | 4,h=>simp at h
 | 5,h=>simp at h
 | i+6,h=>simp at h
theorem eJd{s:gT}{a b:Int}(h:kf w v s)(k:gO w Z e #[fG fN 0 0,fF fI a,fG fN 0 0,fF fI b,fG fN 0 0,fG fN 0 0])(c:iU w w' Z):kf w' v s:=by
 obtain⟨x,g,i,l,rfl,h1,h2,d,f⟩:=h;exact⟨x,g,i,l,rfl,eWj h1 k (uy fy) c,bXh h2 k (uy fy) c,bXh d k (uy fy) c,bXh f k (uy fy) c⟩
theorem dVf(p:hU)(a:Af)(s:gT)(vs:Af)(n:Int)(va:Af)(args:List Nat)(w:World)(hv:jf w a p)(hs:kf w vs s)(ha:UR w va args)(hn : -9223372036854775808<=n/\n<=9223372036854775807):
  Calls fZ 43 #[a,vs,fF fI n,va,fF fI 0] w (aWw p s n args 0 w):=eJh p a s vs n va args 0 w hv hs ha hn fu
theorem bYe(g:Array Af)(W:World)(h:Nat)(a b c d e f o x:Af)(h1:g.getD 8 undef=o)(h2:g.getD 9 undef = .pointer (fO ⟨h,0,fN⟩))(i:g.getD 10 undef=x)(k:gO W h 33 #[a,b,c,d,e,f]):
  (results Tryz.f21 g).run fZ W = .ok (.tuple #[o,.agg #[a,b,c,d,e,f],x]) W:=by
 obtain⟨j,l,m,n,p,q⟩:=iY k;simp only[Array.getD_eq_getD_getElem?]at h1 h2 i;simp[results,results21,go_sem,h1,h2,i,j,l,m,n,p,q]
theorem eWk(p:hU)(g:Af)(s:gT)(vs:Af)(n:Int)(va:Af)(args:List Nat)(w:World)(hv:jf w g p)(hs:kf w vs s)(ha:UR w va args)(hn : -9223372036854775808<=n/\n<=9223372036854775807):
  Calls fZ 21 #[g,vs,fF fI n,va] w (aWw p s n args 0 w):=by
 have A:=fQ hv;have B:=fQ hs;have h:=fQ ha;have C:=fQ hn;obtain⟨p0,p2,p3,p5,rfl,_⟩:=hv;obtain⟨s0,s2,s4,s5,rfl,_⟩:=hs;obtain⟨Aa,ca,rfl⟩:=ha.I;obtain⟨m,i⟩:=fX args.length;rw[i]at h ⊢
 have c:=fQ (show qd w p0 (fF fI p.J.G) p2 p3 (fH p.J.L) p5 s0 (fF fI s.Y) s2 (fF fI s.U) s4 s5 (((w.alloc (fM #[p0,fF fI p.J.G,p2,p3,fH p.J.L,p5] 29)).alloc (fM #[s0,fF fI s.Y,s2,fF fI s.U,s4,s5] 33)).alloc (fM #[fG fN 0 0,fF fI 0,fG fN 0 0,fF fI 0,fG fN 0 0,fG fN 0 0] 33))from
  ⟨gO.alloc (gO.alloc (gO.a4 _ _ _) _) _,gO.alloc (gO.X _ _ _ fz) _,gO.X _ _ _ fz,(((AJ _ _).alloc (Aj _) _).alloc fz _).alloc fw _⟩)
 clear ha i hn;go_in;go_wp2_with fail;refine(dVf p _ s _ n _ args _ (A.C c.b (Aj _)) (B.C c.b (Aj _)) (h.C c.b (Aj _)) C.out).mono ?_;rintro en w1 ⟨out,s',e,v,vs,j,rfl,d,k,l⟩;have a:=fQ (c.C l);have D:=fQ j;have E:=fQ d;have F:=fQ k;obtain⟨V1,x1,rfl⟩:=d.I;obtain⟨ma,mg,mi,ml,rfl,o,q,r,t⟩:=k;obtain⟨u,y1,rfl⟩:=o.I;obtain⟨x,y2,rfl⟩:=q.I;obtain⟨y,y3,rfl⟩:=r.I;obtain⟨z,y4,rfl⟩:=t.I;obtain⟨z0,z1,z2,z3,z4,z5⟩:=iY a.kz;have f0:=ik a.kz 0;have f1:=ik a.kz 1;have f2:=ik a.kz 2;have f3:=ik a.kz 3;have f4:=ik a.kz 4;have f5:=ik a.kz 5;have f:=fQ (tR w1 (w.heap.size+1+1) (fG u s'.L.length y1) (fF fI s'.Y) (fG x s'.E.length y2) (fF fI s'.U) (fG y s'.input.length y3) (fG z s'.a0.length y4));have G:=fQ (tQ a.kz (fG u s'.L.length y1) (fF fI s'.Y) (fG x s'.E.length y2) (fF fI s'.U) (fG y s'.input.length y3) (fG z s'.a0.length y4));clear j d l o q r t c;go_wp2_with fail;refine bodyPost_ret (bYe _ _ (w.heap.size+1+1) _ _ _ _ _ _ _ _ rfl rfl rfl G.out) rfl ?_;exact⟨out,s',e,_,_,D.out,rfl,bXh E.out a.kz (uy fy) f.out,eJd F.out a.kz f.out,f.C a.b fu⟩
theorem aWv:∀ (os:List Int) (a V:List Nat),(iS os a V).length=V.length
 | [],_,V=>by cases ‹List Nat› <;> rfl
 | o :: os,[],V=>rfl
 | o :: os,n :: a,V=>by rw[iS,aWv os a,AY]
theorem rL:∀ (os:List Int) (a V:List Nat) (i:Nat),(∀ o∈os,0<=o)->(i:Int) ∉ os->(iS os a V).getD i 0=V.getD i 0
 | [],a,V,i,_,_=>by cases a <;> rfl
 | o :: os,[],V,i,_,_=>rfl
 | o :: os,n :: a,V,i,c,h=>by
  rw[iS,rL os a _ i (fun x b=>c x (AQ _ b)) (fun b=>h (AQ _ b))];have h1:=c o (AZ ..);have h2:o.toNat≠i:=fun e=>h (by rw[<-e,Ax h1];exact AZ ..);rw[Aq,Aq,List.getElem?_set_ne h2]
theorem rM:∀ (os:List Int) (c V:List Nat) (j:Nat) (o:Int) (n:Nat),(∀ o∈os,0<=o/\o<(V.length:Int))->os.Nodup->os[j]? = fO o->c[j]? = fO n->(iS os c V).getD o.toNat 0=n
 | [],c,V,j,o,n,_,_,h,_=>by simp at h
 | a :: os,[],V,j,o,n,_,_,_,h=>by simp at h
 | a :: os,b :: c,V,0,o,n,d,hn,h1,h2=>by
  simp at h1 h2;subst h1;subst h2;have ha:=d a (AZ ..);rw[iS,rL os c _ _ (fun x e=>(d x (AQ _ e)).1) (by rw[Ax ha.1];exact(List.nodup_cons.1 hn).1)];rw[Aq,List.getElem?_set_self fu];rfl
 | a :: os,b :: c,V,j+1,o,n,d,hn,h1,h2=>by
  rw[iS];exact rM os c _ j o n (fun x e=>by rw[AY];exact d x (AQ _ e)) (List.nodup_cons.1 hn).2 (by simpa using h1) (by simpa using h2)
theorem dVg(lost:Nat)(V:List Nat):(zeroV lost V).length=V.length:=by
 unfold zeroV;rw[AK,Av,AW];omega
theorem eJe{i:Nat}(h:lost<=i):(zeroV lost V).getD i 0=V.getD i 0:=by
 unfold zeroV;rw[Aq,Aq];by_cases a:lost<=V.length
 ·rw[List.getElem?_append_right (by rw[Av];omega),Av,Nat.min_eq_left a,List.getElem?_drop,show lost+(i - lost)=i by omega]
 ·rw[AX (by rw[AK,Av,AW];omega),AX fu]
theorem cYb(V:List Nat):zeroV 0 V=V:=by
 unfold zeroV;simp
structure lD (r r':gR) (h:Int->Int) (lost:Nat):Prop where
 a2:r'.a2=r.a2
 par:r'.params=r.params.map h
 K:r'.K=r.K.map fun c=>{ c with args:=c.args.map h,O:=c.O.map h }
 rng:∀ p:Int,0<=p->p<r.M->0<=h p/\h p<r'.M
 cl:∀ p q:Int,0<=p->p<r.M->0<=q->q<r.M->jc r p q->h p≠h q
 ac:∀ p:Int,0<=p->p<r.M->jm r p->(lost:Int)<=h p
structure kD (r r':gR) (h:Int->Int) (k:Nat) (V V':List Nat):Prop where
 l:V.length=r.M.toNat
 l':V'.length=r'.M.toNat
 v:∀ p,Live r k p->V'.getD (h p).toNat 0=V.getD p.toNat 0
structure kN (p p':hU) (lost:Nat):Prop where
 J:p'.J=p.J
 row:∀ (i:Nat) q,p.b0[i]? = fO q->iq p.J q/\∃ q' h,p'.b0[i]? = fO q'/\lD q q' h lost
theorem lD.at{r r':gR}{h:Int->Int}{c:gP}(hs:lD r r' h lost)(hc:r.K[k]? = fO c):r'.K[k]? = fO { c with args:=c.args.map h,O:=c.O.map h }:=by
 rw[hs.K,Ak,hc];rfl
theorem kD.arg{e:ia}{r r':gR}{h:Int->Int}{lost k:Nat}{V V':List Nat}{c:gP}(hs:lD r r' h lost)(hv:kD r r' h k V V')(hc:r.K[k]? = fO c):iw e r' { c with args:=c.args.map h,O:=c.O.map h } V'=iw e r c V:=by
 have hg:jd V' (c.args.map h)=jd V c.args:=by
  unfold jd;rw[List.map_map];exact List.map_congr_left fun p hp=>hv.v p (.arg hc hp)
 unfold iw;show ie (jL e r'.a2 { c with args:=c.args.map h,O:=c.O.map h }) (jd V' (c.args.map h))=ie (jL e r.a2 c) (jd V c.args);rw[hg,hs.a2];rfl
theorem cJm{r:gR}{c:gP}{p:Int}(hc:r.K[k]? = fO c)(b:jI r k p)(d:p ∉ c.O):Live r k p:=by
 obtain⟨c',a,j,hj,e⟩:=b;rw[hc]at a;injection a with a;subst a;exact .step hc hj e d
theorem kD.put{e:ia}{r r':gR}{h:Int->Int}{j:Nat}{V':List Nat}{c:gP}(t:iq e r)(hs:lD r r' h lost)(hv:kD r r' h k V V')(hc:r.K[k]? = fO c)(hj:(j:Int)∈ib c k)(hl:c.O.length<=l.length)
  (g:List Nat) (z:g.length=V'.length) (F:∀ p,jI r k p->p ∉ c.O->g.getD (h p).toNat 0=V'.getD (h p).toNat 0)
  (G:c.op=272->∀ a,c.args[0]? = fO a->∀ n,l[0]? = fO n->n=V.getD a.toNat 0):kD r r' h j (iS c.O l V) (iS (c.O.map h) l g):=by
 obtain⟨_,_,_,_,ay,_,_,_,_,f,A⟩:=hY (t.K c (Az hc));refine⟨by rw[aWv];exact hv.l,by rw[aWv,z];exact hv.l',fun p hp=>?_⟩;have m:=hp.range t;have u:jI r k p:=⟨c,hc,j,hj,hp⟩;have H:=hs.rng p m.1 m.2
 have w:∀ o∈c.O.map h,0<=o/\o<(g.length:Int):=fun o d=>by
  obtain⟨x,B,rfl⟩:=List.mem_map.1 d;have:=hs.rng x (f x B).1 (f x B).2;rw[z,hv.l'];omega
 have C:(c.O.map h).Nodup:=by
  rw[Ae,AV];exact(List.Pairwise.and_mem.1 A).imp (fun {a b} q=>hs.cl a b (f a q.1).1 (f a q.1).2 (f b q.2.1).1 (f b q.2.1).2 ⟨q.2.2,.inl (.inl ⟨k,c,hc,q.1,.inr q.2.1⟩)⟩)
 by_cases s:p∈c.O
 ·obtain⟨i,hi⟩:=List.mem_iff_getElem?.1 s;have I:=(gw hi).1;obtain⟨n,hn⟩:∃ n,l[i]? = fO n:=⟨_,Aw fu⟩;rw[rM c.O l V i p n (fun o d=>by have:=f o d;rw[hv.l];omega) A hi hn];exact rM (c.O.map h) l g i (h p) n w C (by rw[Ak,hi];rfl) hn
 ·have D:=cJm hc u s;rw[rL c.O l V _ (fun o d=>(f o d).1) (by rw[Ax m.1];exact s),<-hv.v p D];by_cases E:h p∈c.O.map h
  ·obtain⟨o,d,heq⟩:=List.mem_map.1 E;have J:o≠p:=fun e=>s (e ▸ d)
   have K:c.op=272/\∃ a,c.args[0]? = fO a/\p=a:=by
    refine Classical.byContradiction fun hn=>?_;refine hs.cl o p (f o d).1 (f o d).2 m.1 m.2 ⟨J,.inl (.inl ⟨k,c,hc,d,.inl ⟨u,fun y a ha e=>hn ⟨y,a,ha,e⟩⟩⟩)⟩ heq
   obtain⟨y,a,ha,rfl⟩:=K;obtain⟨i,hi⟩:=List.mem_iff_getElem?.1 d;have I:=(gw hi).1
   have az:c.O.length<=1:=by
    obtain⟨i',o',hf,_,h2,_⟩:=hY (t.K c (Az hc));rw[h2];exact bJq hf fu
   have L:i=0:=fu;subst L;obtain⟨n,hn⟩:∃ n,l[0]? = fO n:=⟨_,Aw fu⟩;have:=rM (c.O.map h) l g 0 (h o) n w C (by rw[Ak,hi];rfl) hn;rw[heq]at this;rw[this,G y p ha n hn,hv.v p D]
  ·rw[rL (c.O.map h) l g _ (fun o d=>(w o d).1) (by rw[Ax H.1];exact E)];exact F p u s
theorem bWi(r:gR)(a:List Nat):(jb r a).length=r.M.toNat:=by
 unfold jb;rw[aWv,Av]
theorem cXj(n i:Nat):(Ab n 0).getD i 0=0:=by
 rw[Aq];by_cases h:i<n
 ·rw[List.getElem?_replicate];simp[h]
 ·rw[AX (by simpa using h)];rfl
theorem kD.init{e:ia}{r r':gR}{h:Int->Int}(g:iq e r)(hs:lD r r' h lost)(a:List Nat)(ha:r.params.length<=a.length):kD r r' h 0 (jb r a) (jb r' a):=by
 have d:∀ x∈r.params,0<=x/\x<r.M:=fun x j=>vK g.pin j;refine⟨bWi r a,bWi r' a,fun p hp=>?_⟩;have f:=hp.range g;have m:=hs.rng p f.1 f.2;unfold jb;rw[hs.par]
 have l:∀ o∈r.params.map h,0<=o/\o<((Ab r'.M.toNat 0).length:Int):=fun o c=>by
  obtain⟨x,j,rfl⟩:=List.mem_map.1 c;have:=hs.rng x (d x j).1 (d x j).2;rw[Av];omega
 have s:(r.params.map h).Nodup:=by
  rw[Ae,AV];exact(List.Pairwise.and_mem.1 g.pw).imp (fun {a b} q=>hs.cl a b (d a q.1).1 (d a q.1).2 (d b q.2.1).1 (d b q.2.1).2 ⟨q.2.2,.inl (.inr ⟨q.1,.inl q.2.1⟩)⟩)
 by_cases k:p∈r.params
 ·obtain⟨i,hi⟩:=List.mem_iff_getElem?.1 k;have aj:=(gw hi).1;obtain⟨n,hn⟩:∃ n,a[i]? = fO n:=⟨_,Aw fu⟩;rw[rM r.params a _ i p n (fun o c=>by have:=d o c;rw[Av];omega) g.pw hi hn];exact rM (r.params.map h) a _ i (h p) n l s (by rw[Ak,hi];rfl) hn
 ·rw[rL r.params a _ _ (fun o c=>(d o c).1) (by rw[Ax f.1];exact k),cXj];rw[rL (r.params.map h) a _ _ (fun o c=>(l o c).1) ?_,cXj];rw[Ax m.1];intro t;obtain⟨o,c,heq⟩:=List.mem_map.1 t;exact hs.cl o p (d o c).1 (d o c).2 f.1 f.2 ⟨fun e=>k (e ▸ c),.inl (.inr ⟨c,.inr hp⟩)⟩ heq
theorem sim{p p':hU}{d:Nat}{r:gR}{s:iM}{R:jD}(hp:kN p p' lost)(D:iD p)(he:Ev p 0 d r k V s R):∀ (r':gR) (h:Int->Int) (V':List Nat),lD r r' h lost->iq p.J r->kD r r' h k V V' ->
  ∃ R',Ev p' lost d r' k V' s R'/\R'.out=R.out/\R'.s=R.s/\R'.e=R.e/\R'.a7=R.a7:=by
 have m:=hp.J
 have act:∀ {r r':gR} {h:Int->Int} {k:Nat} {V V':List Nat} {c:gP} {s:iM} {A:mn},lD r r' h lost->kD r r' h k V V'->r.K[k]? = fO c->iF p.J c k (iw p.J r c V) s=A->iF p'.J { c with args:=c.args.map h,O:=c.O.map h } k (iw p'.J r' { c with args:=c.args.map h,O:=c.O.map h } V') s=A:=fun hs hv hc ha=>by
  rw[m,kD.arg hs hv hc,<-ha];rfl
 induction he with
 | ret hc ha=>exact fun r' h V' hs b hv=>⟨_,.ret (hs.at hc) (act hs hv hc ha),rfl,rfl,rfl,rfl⟩
 | trap hc ha=>exact fun r' h V' hs b hv=>⟨_,.trap (hs.at hc) (act hs hv hc ha),rfl,rfl,rfl,rfl⟩
 | deep hc ha hd=>exact fun r' h V' hs b hv=>⟨_,.deep (hs.at hc) (act hs hv hc ha) hd,rfl,rfl,rfl,rfl⟩
 | @go d r k k' V s c R hc ha hn J=>
  intro r' h V' hs b hv;obtain⟨v,W⟩:=bXc ha (b.K c (Az hc));have t:=hv.put (l:=[]) (j:=k') b hs hc v (by rw[W];exact Aj _) V' rfl (fun _ _ _=>rfl) (fun _ a _ n hn=>by simp at hn);rw[W]at t;obtain⟨R',h1,h2,K,L,M⟩:=J r' h V' hs b t;exact⟨_,.go (hs.at hc) (act hs hv hc ha) h1,h2,K,L,by show 1+R'.a7=1+R.a7;rw[M]⟩
 | @vals d r k V s s' c l R hc ha hn J=>
  intro r' h V' hs b hv;have u:=b.K c (Az hc);obtain⟨q1,q2,q3,q4,q5,aE⟩:=uZ ha;have v:((k+1:Nat):Int)∈ib c k:=(by rw[yX q1 q2 q3 q4 q5];simp)
  have t:=hv.put b hs hc v (cQy ha u) V' rfl (fun _ _ _=>rfl) (fun N a E n hn=>by
   rcases aE with⟨aJ,_⟩|⟨_,rfl,_⟩
   ·omega
   ·rw[dKh N]at hn;injection hn with hn;rw[<-hn];obtain⟨i,o,hf,h1,_⟩:=hY u;have w:=hf;rw[N]at hf;have hf:(if c.n=0 then fO (([0]:List Int),([0]:List Int))else fN)=fO (i,o):=hf
    split at hf
    ·injection hf with hf;injection hf with h2 _;have aF:jL p.J r.a2 c = [0]:=(by unfold jL;rw[w,<-h2];rfl)
     match aG:c.args,E with
     | x :: xs,E=>
      simp at E;subst E;unfold iw jd;rw[aF,aG];rfl
    ·cases hf)
  obtain⟨R',h1,h2,K,L,M⟩:=J r' h _ hs b t;exact⟨_,.vals (hs.at hc) (act hs hv hc ha) h1,h2,K,L,by show 1+R'.a7=1+R.a7;rw[M]⟩
 | @call d r q k n V s c g R1 R2 hc ha hd hq hg h1 F h2 ih1 ih2=>
  intro r' h V' hs b hv;have u:=b.K c (Az hc);obtain⟨G,rfl,himp⟩:=rZ ha;obtain⟨f,q',O,P,y⟩:=hp.row _ q hq;have v:((k+1:Nat):Int)∈ib c k:=(by rw[yX fu fu fu fu fu];simp);obtain⟨i,o,hf,z,X,_⟩:=hY u;have w:=hf;rw[G]at hf;have hf:(p.J.R[c.n]?).map (fun g=>(g.a1,g.out))=fO (i,o):=hf;rw[hg]at hf;injection hf with hf;injection hf with Q Y
  have H:g=q.a2:=by
   have:=(D.row _ q hq).2;have he:=kY D.J;rw[show p.J.G.toNat+(c.n - p.J.G.toNat)=c.n by omega,hg]at this;injection this
  have B:(iw p.J r c V).length=g.a1.length:=by
   unfold iw jL;rw[w];show(ie i (jd V c.args)).length=_;rw[pY _ _ (by unfold jd;rw[Ay];exact z.symm),Q];unfold jd;rw[Ay];exact z
  obtain⟨C,S,e2,T,I,U⟩:=ih1 q' O (jb q' (ie g.a1 (iw p.J r c V))) y f (kD.init f y _ (by rw[pY _ _ B.symm,B,f.par,H];exact Aj _));have aH:R1.out.length=q.a2.out.length:=h1.fYg f F
  have t:=hv.put (l:=R1.out) (j:=k+1) b hs hc v (by rw[aH,X,<-Y,H];exact Aj _) (zeroV lost V') (dVg _ _) (fun p Z aI=>by
   have aD:=Z.range b;have:=hs.ac p aD.1 aD.2 ⟨k,c,hc,G,Z,aI⟩
   exact eJe fu) (fun N=>fu)
  rw[<-cYb V]at t;obtain⟨S2,f1,f2,f3,f4,f5⟩:=ih2 r' h _ hs b t;refine⟨_,.call (q:=q') (g:=g) (R1:=C) (R2:=S2) (hs.at hc) (act hs hv hc ha) hd (by rw[m];exact P) (by rw[m];exact hg) (by rw[m,kD.arg hs hv hc];exact S) (by rw[I];exact F) (by rw[e2,T];exact f1),f2,f3,f4,?_⟩;show 1+C.a7+S2.a7=1+R1.a7+R2.a7;rw[U,f5]
 | @jO d r q k n V s c g R1 hc ha hd hq hg h1 F ih1=>
  intro r' h V' hs b hv;have u:=b.K c (Az hc);obtain⟨G,rfl,himp⟩:=rZ ha;obtain⟨f,q',O,P,y⟩:=hp.row _ q hq;obtain⟨i,o,hf,z,X,_⟩:=hY u;have w:=hf;rw[G]at hf;have hf:(p.J.R[c.n]?).map (fun g=>(g.a1,g.out))=fO (i,o):=hf;rw[hg]at hf;injection hf with hf;injection hf with Q Y
  have H:g=q.a2:=by
   have:=(D.row _ q hq).2;have he:=kY D.J;rw[show p.J.G.toNat+(c.n - p.J.G.toNat)=c.n by omega,hg]at this;injection this
  have B:(iw p.J r c V).length=g.a1.length:=by
   unfold iw jL;rw[w];show(ie i (jd V c.args)).length=_;rw[pY _ _ (by unfold jd;rw[Ay];exact z.symm),Q];unfold jd;rw[Ay];exact z
  obtain⟨C,S,e2,T,I,U⟩:=ih1 q' O (jb q' (ie g.a1 (iw p.J r c V))) y f (kD.init f y _ (by rw[pY _ _ B.symm,B,f.par,H];exact Aj _));refine⟨_,.jO (q:=q') (g:=g) (R1:=C) (hs.at hc) (act hs hv hc ha) hd (by rw[m];exact P) (by rw[m];exact hg) (by rw[m,kD.arg hs hv hc];exact S) (by rw[I];exact F),rfl,T,I,?_⟩;show 1+C.a7=1+R1.a7;rw[U]
theorem eZj{a b:iM}(h:gT.of a=gT.of b):a=b:=by
 obtain⟨a1,a2,a3,c,a5,a6⟩:=a;obtain⟨b1,b2,b3,d,b5,b6⟩:=b;unfold gT.of at h;injection h with h1 h2 h3 e h5 h6;have e:(c:Int)=d:=e;obtain rfl:c=d:=fu
 simp_all
theorem eZk{p g:hU}{n:Nat}{s:iu}{a:List Nat}{sd s1 s2:iM}{d e2:Int}{e f w1 w2:Nat}{i j:List Nat}(hp:iD p)(hs:kN p g lost)(hg:p.J.R[n]? = fO s)(ha:s.a1.length=a.length)
  (h1:j6 p 0 0 n s a sd s1 d e w1 i) (h2:j6 g lost 0 n s a sd s2 e2 f w2 j):s1=s2/\d=e2/\i=j/\e=f:=by
 have he:=hs.J
 cases h1 with
 | host hi=>
  cases h2 with
  | host _=>exact⟨rfl,rfl,rfl,rfl⟩
  | deep b=>rw[he]at b;exact gH hi b
  | call b=>rw[he]at b;exact gH hi b
 | deep hi hd=>omega
 | @call q R hi hd hq h1=>
  cases h2 with
  | host b=>rw[he]at b;exact gH b hi
  | deep _ m=>omega
  | @call q' R' b m k h2=>
   obtain⟨c,q2,h,o,l⟩:=hs.row _ q hq;rw[he,o]at k;cases k
   have r:s=q.a2:=by
    have:=(hp.row _ q hq).2;have aj:=kY hp.J;rw[show p.J.G.toNat+(n - p.J.G.toNat)=n by omega,hg]at this;injection this
   obtain⟨R2,t,k2,u,v,w⟩:=sim hs hp h1 q' h (jb q' (ie s.a1 a)) l c (kD.init c l _ (by rw[pY _ _ ha,<-ha,c.par,r];exact Aj _));have:=t.one h2;subst this;exact⟨u.symm,v.symm,k2.symm,w.symm⟩
theorem eZl{p g:hU}{s s1 s2:gT}{n c e2:Int}{args o1 o2:List Nat}(hp:iD p)(hg:iD g)(hs:kN p g lost)(h1:kL p s n args 0 o1 s1 c)(h2:kL g s n args lost o2 s2 e2):o1=o2/\s1=s2/\c=e2:=by
 have he:=hs.J;have d:lx g n args↔lx p n args:=(by unfold lx;rw[he])
 cases h1 with
 | form h=>
  have e:¬kh p.J s:=fun hf=>h ⟨hp,hf⟩
  cases h2 with
  | form _=>exact⟨rfl,rfl,rfl⟩
  | arg _ hf=>rw[he]at hf;exact gH hf e
  | run _ hf=>rw[he]at hf;exact gH hf e
 | arg _ hf ha=>
  cases h2 with
  | form h=>rw[he]at h;exact gH ⟨hg,hf⟩ h
  | arg=>exact⟨rfl,rfl,rfl⟩
  | run _ _ a=>exact gH (d.1 a) ha
 | run _ hf ha i b hd=>
  cases h2 with
  | form h=>rw[he]at h;exact gH ⟨hg,hf⟩ h
  | arg _ _ a=>exact gH (d.2 ha) a
  | run _ _ _ j f k=>
   have:=eZj (i.trans j.symm);subst this;rw[he,b]at f;cases f;obtain⟨rfl,rfl,rfl,_⟩:=eZk hp hs b (ha.2.2 _ b).1 hd k;exact⟨rfl,rfl,rfl⟩
theorem dKf{e:ia}{r:gR}{hs:List Int}(hc:iq e r)(hg:rI (r,hs))(lost:Nat)(hl:lost<=8):lD r (zQ r hs) (tV hs) lost:=by
 obtain⟨P,c,ae,b⟩:=hg;have c:r.M=P:=c;have b:jr r P hs:=b
 have at':∀ p:Int,0<=p->p<r.M->hs[p.toNat]? = fO (tV hs p):=fun p a h1=>by
  have:p.toNat<hs.length:=(by rw[b.len];omega);unfold tV;rw[Aq,Aw this];rfl
 refine⟨rfl,rfl,rfl,fun p a h1=>b.lt a fu,fun p q a h1 d f g=>?_,fun p a h1 h=>?_⟩
 ·refine b.cl p.toNat q.toNat _ _ (at' p a h1) (at' q d f) ?_;rw[Ax a,Ax d];exact g
 ·have:=b.ac p.toNat _ (at' p a h1) (by rw[Ax a];exact h);omega
theorem cWt{p:hU}{X:List (gR×List Int)}(hp:iD p)(b:X.map Prod.fst=p.b0)(hg:∀ x∈X,rI x)(lost:Nat)(c:lost<=8):kN p ⟨p.J,X.map fun x=>zQ x.1 x.2⟩ lost:=by
 refine⟨rfl,fun i q hq=>⟨(hp.row i q hq).1,?_⟩⟩;rw[<-b,Ak]at hq
 cases a:X[i]? with
 | none=>rw[a]at hq;cases hq
 | some x=>
  rw[a]at hq;injection hq with hq;subst hq;refine⟨zQ x.1 x.2,tV x.2,by show(X.map _)[i]? = _;rw[Ak,a];rfl,?_⟩;have hq:p.b0[i]? = fO x.1:=(by rw[<-b,Ak,a];rfl);exact dKf (hp.row i _ hq).1 (hg x (Az a)) lost c
theorem cWu{p:hU}{X:List (gR×List Int)}(hp:iD p)(b:X.map Prod.fst=p.b0)(hg:∀ x∈X,rI x):iD ⟨p.J,X.map fun x=>zQ x.1 x.2⟩ where
 J:=hp.J
 len:=by
  have:=gG List.length b;rw[Ay]at this;have h:=hp.len;show((X.map fun x=>zQ x.1 x.2).length:Int)+p.J.G=p.J.R.length;rw[Ay];omega
 row:=by
  intro i r hi;have hi:(X.map fun x=>zQ x.1 x.2)[i]? = fO r:=hi;rw[Ak]at hi
  cases a:X[i]? with
  | none=>rw[a]at hi;cases hi
  | some x=>
   rw[a]at hi;injection hi with hi;subst hi;have hf:p.b0[i]? = fO x.1:=(by rw[<-b,Ak,a];rfl);obtain⟨P,h1,h2,c⟩:=hg x (Az a);have:=hp.row i _ hf;exact⟨cKr this.1 h1 h2 c,this.2⟩
theorem eZc(p:hU)(s:gT)(n:Int)(l:List Nat){w0:World}{f i va0:Af}(hp:jf w0 f p)(hs:kf w0 i s)(ha:UR w0 va0 l):∃ O S E,kL p s n l 8 O S E/\nu S/\ij O/\O.length<=1000000/\∀ w a vs va,jf w a p->kf w vs s->UR w va l->Tabs w->Calls fZ 19 #[a,vs,fF fI n,va] w (pe O S E w):=by
 by_cases h1:iD p/\kh p.J s
 ·by_cases h2:lx p n l
  ·obtain⟨k,g,s2,e2,dc,wd,o,rfl,hg⟩:=ko.of h1.1 h1.2 h2;have d:=hg.fYv hp hs ha;exact⟨_,_,_,.run h1.1 h1.2 h2 hg.hs hg.hg hg.hd,d.1,d.2.1,d.2.2,fun w a vs va q1 b c e=>dKa hg a vs va w q1 b c e⟩
  ·exact⟨_,_,_,.arg h1.1 h1.2 h2,cQs hs,(fun _ h=>by cases h),Ad _,fun w a vs va q1 b c e=>eXv a vs va p s n l w q1 b c h1.1 h1.2 h2⟩
 ·exact⟨_,_,_,.form h1,cQs hs,(fun _ h=>by cases h),Ad _,fun w a vs va q1 b c e=>dKb a vs va p s n l w q1 b c h1⟩
theorem MachTold_walk(p:hU)(q:s8)(vp vq:Af)(w:World)(hv:jf w vp p)(hq:fXk w vq q)(hT:Tabs w):Calls fZ 6 #[vp,vq] w (fVp w):=by
 have bf:=hv;obtain⟨p0,p2,p3,p5,rfl,_⟩:=hv;obtain⟨qa,qm,qi,qg,qj,qh,ql,rfl,aU,aV,aW,aX,rfl,rfl⟩:=hq;obtain⟨U,V,W,Y,Z,aM,QL,aN,rfl,rfl,rfl,rfl⟩:=eXp aX;obtain⟨aO,aP,rfl⟩:=aW.I;obtain⟨n,hn⟩:=fX q.n;rw[hn]at aU aV ⊢;have HV:=fQ bf;have HA:=fQ aW;have HS:=fQ aX;have HT:=fQ hT;have C:=fQ (show 2<=w.heap.size from hT.2.2);have bE:=fQ (And.intro aU aV);have b:=fQ (pE w (fM #[p0,fF fI p.J.G,p2,p3,fH p.J.L,p5] 29) (fM #[fF fI n,fG aO q.args.length aP,fG U q.s.L.length V,fF fI q.s.Y,fG W q.s.E.length Y,fF fI q.s.U,fG Z q.s.input.length aM,fG QL q.s.a0.length aN] 35));have i:=fQ (gO.alloc (gO.a4 w 29 #[p0,fF fI p.J.G,p2,p3,fH p.J.L,p5]) (fM #[fF fI n,fG aO q.args.length aP,fG U q.s.L.length V,fF fI q.s.Y,fG W q.s.E.length Y,fF fI q.s.U,fG Z q.s.input.length aM,fG QL q.s.a0.length aN] 35));have j:=fQ (gO.X (w.alloc (fM #[p0,fF fI p.J.G,p2,p3,fH p.J.L,p5] 29)) (N:=w.heap.size+1) 35 #[fF fI n,fG aO q.args.length aP,fG U q.s.L.length V,fF fI q.s.Y,fG W q.s.E.length Y,fF fI q.s.U,fG Z q.s.input.length aM,fG QL q.s.a0.length aN] fz);clear bf aW aX hn aU aV hT;go_in;go_upto_region 1 with fail;obtain⟨w0,bg⟩:=fX ((w.alloc (fM #[p0,fF fI p.J.G,p2,p3,fH p.J.L,p5] 29)).alloc (fM #[fF fI n,fG aO q.args.length aP,fG U q.s.L.length V,fF fI q.s.Y,fG W q.s.E.length Y,fF fI q.s.U,fG Z q.s.input.length aM,fG QL q.s.a0.length aN] 35));rw[bg]at b i j ⊢;clear bg;obtain⟨F,G,H,I,J,K⟩:=iY i.out;have L:=i.lt;obtain⟨k,l,m,o,r,t,u,y⟩:=cWo j.out;have z:=j.lt;go_wp2_with fail;refine(eVy p _ _ (HV.C b.out (Aj _))).mono ?_;rintro A w1 h1;rcases h1 with⟨_,rfl,a⟩|⟨_,_,rfl,a⟩|⟨hp,_,X,v,rfl,hX,aY,aQ,a⟩
 ·as_aux_lemma=>
  have f:=fQ (b.trans (a.mono b.out.size));clear a i j b F G H I J K L k l m o r t u y z;unfold bYh;go_wp2_with fail;refine(aVd _ ((HT.C f.out C.out).C ((AJ w1.heap.size w1).alloc (Aj _) _) (Ac C.out f.out.size))).mono ?_;rintro A w2 ⟨rfl,d⟩;have c:=fQ (f.trans ((((AJ w1.heap.size w1).alloc (Aj _) _).trans (d.mono fz)).mono f.out.size));clear d;go_wp2;go_ret;exact⟨rfl,c.out⟩
 ·as_aux_lemma=>
  have f:=fQ (b.trans (a.mono b.out.size));clear a i j b F G H I J K L k l m o r t u y z;unfold bYh;go_wp2_with fail;refine(aVd _ ((HT.C f.out C.out).C ((AJ w1.heap.size w1).alloc (Aj _) _) (Ac C.out f.out.size))).mono ?_;rintro A w2 ⟨rfl,d⟩;have c:=fQ (f.trans ((((AJ w1.heap.size w1).alloc (Aj _) _).trans (d.mono fz)).mono f.out.size));clear d;go_wp2;go_ret;exact⟨rfl,c.out⟩
 have bF:=fQ hp;obtain⟨g,hg⟩:∃ g:hU,(⟨p.J,X.map fun x=>zQ x.1 x.2⟩:hU)=g:=⟨_,rfl⟩;have bG:=fQ (show iD g from hg ▸ cWu hp hX aY);have bH:=fQ (show kN p g 8 from hg ▸ cWt hp hX aY 8 fu);rw[hg]at aQ;clear hg;have bj:=fQ (fun(w':World) (bI:Below w1.heap.size w1 w')=>aQ.C bI (Aj _));obtain⟨O,S,E,bk,bm,aH,bn,aI⟩:=eZc g q.s n q.args aQ (HS.C (b.trans (a.mono b.out.size)) (Aj _)) (HA.C (b.trans (a.mono b.out.size)) (Aj _));have bo:=fQ bk;have aZ:=fQ (And.intro bm (And.intro aH bn));have bJ:=fQ aI;obtain⟨bV,bW,bX,bY,rfl,k1,k2,k3,k4⟩:=aQ;obtain⟨ga,a6,rfl,_⟩:=k1.len;obtain⟨gb,a7,rfl⟩:=k2.I;obtain⟨gd,a8,rfl⟩:=bXt k3;obtain⟨gf,ba,rfl,_⟩:=k4.len;have j8:=(AJ w1.heap.size w1).alloc (Aj _) (fM #[fG ga g.J.R.length a6,fF fI g.J.G,fG gb g.J.E.length a7,fG gd g.J.a3.length a8,fH g.J.L,fG gf g.b0.length ba] 29);have d:=a.trans (j8.mono a.size);have c:=fQ (b.trans (d.mono b.out.size));have bb:=fQ j8;have aR:=fQ (i.C d i.lt);have D:=fQ (j.C d j.lt);have M:=fQ (gO.a4 w1 29 #[fG ga g.J.R.length a6,fF fI g.J.G,fG gb g.J.E.length a7,fG gd g.J.a3.length a8,fH g.J.L,fG gf g.b0.length ba]);clear hp hX aY a k1 k2 k3 k4 j8 d i j b bk bm aH bn aI F G H I J K L k l m o r t u y z;go_upto_region 4 with fail;obtain⟨w2,bp⟩:=fX (w1.alloc (fM #[fG ga g.J.R.length a6,fF fI g.J.G,fG gb g.J.E.length a7,fG gd g.J.a3.length a8,fH g.J.L,fG gf g.b0.length ba] 29));rw[bp]at c bb aR D M ⊢;obtain⟨gx,bq⟩:=fX w1.heap.size;have br:Below w1.heap.size w1 w2:=bb.out;rw[bq]at M ⊢;have bL:=fQ (bj.out w2 br);clear bp bq br bj bb;obtain⟨bM,bN,bO,bP,bQ,bT⟩:=iY M.out;have bU:=M.lt;obtain⟨k,l,m,o,r,t,u,y⟩:=cWo D.out;have z:=D.lt;go_wp2_with fail;refine(bJ.out _ _ _ _ bL.out (HS.C c.out (Aj _)) (HA.C c.out (Aj _)) (HT.C c.out C.out)).mono ?_;rintro A c1 ⟨v1,a1,g1,i1,l1,rfl,o1,o2,o3,o4,o5,a,_,_,_⟩;have bs:=fQ (fXe aZ.1 o2 o3 o4 o5);have HU:=fQ (ph o1 (by have:=aZ.2.2;omega) aZ.2.1);obtain⟨XV,xv,rfl,_⟩:=fJ o1;obtain⟨XM,Xm,rfl,_⟩:=fJ o2;obtain⟨XG,Xg,rfl,_⟩:=fJ o3;obtain⟨XI,Xi,rfl,_⟩:=fJ o4;obtain⟨XL,Xl,rfl,_⟩:=fJ o5;have h:=(AJ c1.heap.size c1).alloc (Aj _) (fM #[fG XM S.L.length Xm,fF fI S.Y,fG XG S.E.length Xg,fF fI S.U,fG XI S.input.length Xi,fG XL S.a0.length Xl] 33);have e:=a.trans (h.mono a.size);have B:=fQ (c.trans (e.mono c.out.size));have aS:=fQ (aR.C e aR.lt);have aT:=fQ (D.C e D.lt);have ar:=fQ (bs.C h (Aj _));have bc:=fQ (HU.C h (Aj _));have P:=fQ (gO.a4 c1 33 #[fG XM S.L.length Xm,fF fI S.Y,fG XG S.E.length Xg,fF fI S.U,fG XI S.input.length Xi,fG XL S.a0.length Xl]);clear o1 o2 o3 o4 o5 a h e bs HU aR D M c bM bN bO bP bQ bT bU k l m o r t u y z
 go_upto_region 5 with fail;obtain⟨w3,bt⟩:=fX (c1.alloc (fM #[fG XM S.L.length Xm,fF fI S.Y,fG XG S.E.length Xg,fF fI S.U,fG XI S.input.length Xi,fG XL S.a0.length Xl] 33));rw[bt]at B aS aT ar bc P ⊢;obtain⟨xb,bu⟩:=fX c1.heap.size;rw[bu]at P ⊢;clear bt bu;obtain⟨F,G,H,I,J,K⟩:=iY aS.out;have L:=aS.lt;obtain⟨k,l,m,o,r,t,u,y⟩:=cWo aT.out;have z:=aT.lt;go_wp2_with fail;refine(eWk p _ q.s _ n _ q.args _ (HV.C B.out (Aj _)) (HS.C B.out (Aj _)) (HA.C B.out (Aj _)) bE.out).mono ?_;rintro A Q ⟨o2,s2,e2,v2,u2,bw,rfl,bd,bz,a⟩;obtain⟨rfl,rfl,rfl⟩:=eZl bF.out bG.out bH.out bw bo.out;clear bw bo;have bA:=fQ bz;have bB:=fQ bd;obtain⟨YV,yv,rfl⟩:=bd.I;obtain⟨ma,mg,mi,ml,rfl,j1,j2,j3,j4⟩:=bz;obtain⟨YM,Ym,rfl⟩:=j1.I;obtain⟨YG,Yg,rfl⟩:=j2.I;obtain⟨YI,Yi,rfl⟩:=j3.I;obtain⟨YL,Yl,rfl⟩:=j4.I;have h:=(AJ Q.heap.size Q).alloc (Aj _) (fM #[fG YM s2.L.length Ym,fF fI s2.Y,fG YG s2.E.length Yg,fF fI s2.U,fG YI s2.input.length Yi,fG YL s2.a0.length Yl] 33);have e:=a.trans (h.mono a.size);have B4:=fQ (B.trans (e.mono B.out.size));have au:=fQ (ar.C e (Aj _));have be:=fQ (bc.C e (Aj _));have R4:=fQ (P.C e P.lt);have aw:=fQ (bA.C h (Aj _));have ax:=fQ (bB.C h (Aj _));have R:=fQ (gO.a4 Q 33 #[fG YM s2.L.length Ym,fF fI s2.Y,fG YG s2.E.length Yg,fF fI s2.U,fG YI s2.input.length Yi,fG YL s2.a0.length Yl]);clear bd a j1 j2 j3 j4 h e bA bB B aS aT ar bc P F G H I J K L k l m o r t u y z;go_upto_region 6 with fail;obtain⟨w4,bC⟩:=fX (Q.alloc (fM #[fG YM s2.L.length Ym,fF fI s2.Y,fG YG s2.E.length Yg,fF fI s2.U,fG YI s2.input.length Yi,fG YL s2.a0.length Yl] 33));rw[bC]at B4 au be R4 aw ax R ⊢;obtain⟨yb,bD⟩:=fX Q.heap.size;rw[bD]at R ⊢;clear bC bD;obtain⟨r0,r1,r2,r3,r4,r5⟩:=iY R4.out;have yr:=R4.lt;obtain⟨t0,t1,t2,t3,t4,t5⟩:=iY R.out;have yt:=R.lt;have T:=fQ (fun n:Nat=>fK (AJ w4.heap.size w4) n);go_wp2_with fail;refine(sn _ _ _ _ _ be.out ax.out).mono ?_;rintro A w5 ⟨rfl,n1,rfl⟩;rw[gD (rfl:o2=o2)];go_wp2_with fail;refine(dVi _ _ s2 _ (au.C (T.out n1) (Aj _)) (aw.C (T.out n1) (Aj _))).mono ?_;rintro A w6 ⟨rfl,a⟩;have B6:=fQ (B4.trans (((T.out n1).trans (a.mono (T.out n1).size)).mono B4.out.size));clear a T B4 au be R4 aw ax R r0 r1 r2 r3 r4 r5 yr t0 t1 t2 t3 t4 t5 yt;go_wp2_with fail;refine(aVd _ (HT.C B6.out C.out)).mono ?_;rintro A w7 ⟨rfl,a⟩;have B7:=fQ (B6.trans (a.mono B6.out.size));clear a;go_wp2;go_ret;exact⟨rfl,B7.out⟩
end Go.Proofs.YtabibkpfgmolkaaGreatDoor

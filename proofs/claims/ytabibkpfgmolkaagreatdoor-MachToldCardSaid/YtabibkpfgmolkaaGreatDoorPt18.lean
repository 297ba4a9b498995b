/- Lemmas for the claim, part 18. Conditions: none. -/
import Derived.Test.YtabibkpfgmolkaaGreatDoorPt17
set_option maxRecDepth 100000
set_option maxHeartbeats 16000000
set_option linter.unusedVariables false
set_option linter.unusedSimpArgs false
open Go.Lib renaming hid→fQ
open Go.Proofs.Tryz renaming prog→fZ
open Go.Proofs.Tryz
open Go.RowKit
open List renaming setIfInBounds_toArray→Aj,set_cons_zero→Aq,set_cons_succ→Ax,getElem?_eq_getElem→Av,mem_of_getElem?→Aw,replicate→AJ,getElem?_append_right→AQ,getElem?_append_left→AX,length_map→AK,getElem?_eq_none→AV,length→Ab,range→Ac
open Nat renaming le_refl→Az,zero_le→AZ,lt_of_lt_of_le→AW,lt_or_ge→AY
open Go.Act renaming put→Ak
open Go.RowKit.Below renaming refl→Ay
open Go renaming World→Ad,Value→Ae
open Go.RowKit renaming Below→Ag
open Go.Value renaming int->fF,slice->fG,bool->fH,tuple->fI,agg->fM
open Go.IntKind renaming i64->fN
open Go.Obj renaming cells->fO
open Go.Ending renaming returned->fP
open Or renaming inl->fR,inr->fS
open Option renaming none->fT,some->fU
open Bool renaming true->gh,false->gj
namespace Go.Proofs.YtabibkpfgmolkaaGreatDoor
variable {w w0 w':Ad}{base a k dc g i j:Nat}{l o:List Nat}{v:Ae}{e2 y:Int}{D cl:List Int}
theorem cKe{p:hU}{n:Int}:lx p n l↔fXf p n l:=by
 constructor
 ·rintro⟨h1,h2,b⟩;obtain⟨k,rfl⟩:=Int.eq_ofNat_of_zero_le h1;have a:p.J.R[k]? = fU (p.J.R[k]' fu):=Av fu;exact⟨k,_,rfl,a,b _ a⟩
 ·rintro⟨k,g,rfl,hg,hv⟩;refine⟨fu,by have:=(gw hg).1;omega,fun c d=>?_⟩;have h1:p.J.R[k]? = fU c:=d;rw[hg]at h1;cases h1;exact hv
theorem eXu{sd:iM}{s:gT}(h:gT.of sd=s):sd=my s:=by
 subst h;cases sd;simp[my,gT.of]
structure ko (p:hU) (s:gT) (k:Nat) (l:List Nat) (sd:iM) (g:iu) (s2:iM) (e2:Int) (dc wd:Nat) (o:List Nat):Prop where
 hp:iD p
 hf:kh p.J s
 hs:gT.of sd=s
 hg:p.J.R[k]? = fU g
 hv:lj g.a1 l
 hd:j6 p 8 0 k g l sd s2 e2 dc wd o
theorem ko.of{p:hU}{s:gT}{n:Int}(hp:iD p)(hf:kh p.J s)(ha:lx p n l):∃ (k:Nat) (g:iu) (s2:iM) (e2:Int) (dc wd:Nat) (o:List Nat),n=(k:Int)/\ko p s k l (my s) g s2 e2 dc wd o:=by
 obtain⟨k,g,hn,hg,hv⟩:=cKe.1 ha;obtain⟨s2,e2,dc,wd,o,hd⟩:=bWj hp 8 k l (my s) hg;exact⟨k,g,s2,e2,dc,wd,o,hn,hp,hf,dVk hf.2,hg,hv,hd⟩
theorem ko.bounds{p:hU}{s:gT}{sd:iM}{g:iu}{s2:iM}{wd:Nat}(h:ko p s k l sd g s2 e2 dc wd o):qQ p k dc<=4196353:=by
 have h1:=tN h.hp.J h.hg;have h2:=h.hv.1;have h3:=(bXs h.hp h.hd fu).1
 have h4:sd.U<=1024:=by
  have:=h.hf.2.f1;rw[<-h.hs]at this;have h5:(sd.U:Int)<=1024:=this;omega
 unfold qQ
 split <;> omega
theorem ko.hyps{p:hU}{s:gT}{sd:iM}{g:iu}{s2:iM}{wd:Nat}(h:ko p s k l sd g s2 e2 dc wd o){e vs va:Ae}(hp:jf w e p)(hs:kf w vs s)(ha:UR w va l):
  (∀ i,i<=qQ p k dc->ld p (jH p i (kW p k l sd)))/\(∀ i,i<qQ p k dc->(jH p i (kW p k l sd)).over=gj)/\(jH p (qQ p k dc) (kW p k l sd)).over=gh/\(∀ i,i<=qQ p k dc->(jH p i (kW p k l sd)).b1=i)/\(∀ i,(jH p i (kW p k l sd)).first≠fT->(kW p k l sd).first≠fT):=by
 obtain⟨a,b,d,f,rfl,r1,r2,r3,j⟩:=hp;have c:=nH hs;have h1:=dVl h.hf.2 c.1 c.2.1 c.2.2.1 c.2.2.2;rw[<-eXu h.hs]at h1;obtain⟨_,_,_,_,_,_,_,m⟩:=ha;refine eXo h.hp (cXl j) h1 h.hg h.hv.1.symm m ?_ h.hd;have:=h.hf.2.ll;rw[<-h.hs]at this;exact this
theorem ko.fYn{p:hU}{s:gT}{sd:iM}{g:iu}{s2:iM}{wd:Nat}(h:ko p s k l sd g s2 e2 dc wd o):jH p (qQ p k dc) (kW p k l sd)=⟨[],s2,if e2=0 then o else[],e2,qQ p k dc,gh,(kW p k l sd).first⟩:=(bVw h.hg h.hd).1
theorem dKa{p:hU}{s:gT}{sd:iM}{g:iu}{s2:iM}{wd:Nat}(h:ko p s k l sd g s2 e2 dc wd o)(a vs va:Ae)(w:Ad)(hp:jf w a p)(hs:kf w vs s)(ha:UR w va l)(c:Tabs w):
  Calls fZ 19 #[a,vs,fF fN (k:Int),va] w (pe (if e2=0 then o else[]) (gT.of s2) e2 w):=by
 obtain⟨h1,h2,d,e,f⟩:=h.hyps hp hs ha;have hf:=h.hf;have b:=hs;rw[<-h.hs]at hf b;have:=fXi a vs va p sd l k g w hp b ha hf h.hp h.hg h.hv c (qQ p k dc) h1 h2 d e (by have:=h.bounds;omega) f;rw[h.fYn]at this;exact this
theorem dKb(a vs va:Ae)(p:hU)(s:gT)(n:Int)(l:List Nat)(w:Ad)(hp:jf w a p)(hs:kf w vs s)(ha:UR w va l)(c:¬(iD p/\kh p.J s)):Calls fZ 19 #[a,vs,fF fN n,va] w (pe [] s 6 w):=
 dKc a vs va p s n 6 w hp hs fy (fun w' b=>eXq a vs va p s n l w' (hp.C b (Az _)) (hs.C b (Az _)) (ha.C b (Az _)) (fun h=>c ⟨h.2,h.1⟩))
theorem eXv(a vs va:Ae)(p:hU)(s:gT)(n:Int)(l:List Nat)(w:Ad)(hp:jf w a p)(hs:kf w vs s)(ha:UR w va l)(c:iD p)(hf:kh p.J s)(d:¬lx p n l):Calls fZ 19 #[a,vs,fF fN n,va] w (pe [] s 1 w):=
 dKc a vs va p s n 1 w hp hs fy (fun w' b=>eVu a vs va p s n l w' (hp.C b (Az _)) (hs.C b (Az _)) (ha.C b (Az _)) hf c (fun h=>d (cKe.2 h)))
theorem cWo{e:TypeId}{a b c d f h i j:Ae}(k:gO w g e #[a,b,c,d,f,h,i,j]):
  w.cell? ⟨g,0,fT⟩=fU a/\w.cell? ⟨g,1,fT⟩=fU b/\w.cell? ⟨g,2,fT⟩=fU c/\w.cell? ⟨g,3,fT⟩=fU d/\w.cell? ⟨g,4,fT⟩=fU f/\w.cell? ⟨g,5,fT⟩=fU h/\w.cell? ⟨g,6,fT⟩=fU i/\w.cell? ⟨g,7,fT⟩=fU j:=
 ⟨by simpa using k.cell 0,by simpa using k.cell 1,by simpa using k.cell 2,by simpa using k.cell 3,by simpa using k.cell 4,by simpa using k.cell 5,by simpa using k.cell 6,by simpa using k.cell 7⟩
def fVp(w:Ad)(a:Ending)(w':Ad):Prop:=a = fP (fH gh)/\Ag w.heap.size w w'
theorem eXp{a g i l:Ae}{s:gT}{x:Int}(h:kf w (fM #[a,fF fN x,g,fF fN y,i,l]) s):∃ A m B n C k D j,a = fG A s.L.length m/\g = fG B s.E.length n/\i = fG C s.input.length k/\l = fG D s.a0.length j:=by
 obtain⟨a1,g1,i1,l1,e,h1,h2,b,c⟩:=h;injection e with e;injection e with e;simp only[List.cons.injEq,and_true]at e;obtain⟨rfl,_,rfl,_,rfl,rfl⟩:=e;obtain⟨A,m,rfl⟩:=h1.I;obtain⟨B,n,rfl⟩:=h2.I;obtain⟨C,k,rfl⟩:=b.I;obtain⟨D,j,rfl⟩:=c.I;exact⟨A,m,B,n,C,k,D,j,rfl,rfl,rfl,rfl⟩
structure nu (s:gT):Prop where
 b:jw s.L
 g:ij s.E
 i:ij s.input
 l:ij s.a0
 bl:s.L.length<=140737488355328
 gl:s.E.length<=17592186043904
 il:s.input.length<=17592186043904
 ll:s.a0.length<=17592186043904
theorem cQs{s:gT}(h:kf w v s):nu s:=by
 obtain⟨a,g,i,l,_,⟨_,_,_,_,_,_,b,h1⟩,⟨_,_,_,_,_,_,c,h2⟩,⟨_,_,_,_,_,_,d,e⟩,⟨_,_,_,_,_,_,f,j⟩⟩:=h;exact⟨h1,h2,e,j,b.1,c.1,d.1,f.1⟩
theorem dJy{e:ia}{s:iM}(h:jh e s)(he:iH e=gh)(hl:s.a0.length<=1000000000):nu (gT.of s):=by
 have h1:=h.pC;have h2:=sF he;have h3:=h.kR;have h4:=h.ilen;exact⟨h.k8,h.kF,h.i64,h.lU,by show s.L.length<=_;omega,by show s.E.length<=_;omega,by show s.input.length<=_;omega,by show s.a0.length<=_;omega⟩
theorem fVq{e:TypeId}(h:w.ownsRow base e 1 v l.length (jv l))(a:jw l)(hl:l.length<=140737488355328):BR w v l:=by
 rcases h.2 with⟨h1,h2⟩|⟨g,cap,cur,h1,_,_,b,c,_⟩
 ·have hn:l = []:=List.eq_nil_of_length_eq_zero h2;subst hn;subst h1;exact⟨fT,0,rfl,Src.nil _ _,Az _,fun _=>rfl,⟨fz,fu⟩,a⟩
 ·subst h1;exact⟨_,cap,rfl,Src.mf h,b,(fun e=>by cases e),⟨fu,by unfold maxLen at c;omega⟩,a⟩
theorem fXe{s:gT}{a g i l:Ae}(h:nu s)(o2:w.ownsRow base 5 1 a s.L.length (jv s.L))(o3:w.ownsRow base 52 1 g s.E.length (hH s.E))(o4:w.ownsRow base 52 1 i s.input.length (hH s.input))(o5:w.ownsRow base 52 1 l s.a0.length (hH s.a0)):kf w (fM #[a,fF fN s.Y,g,fF fN s.U,i,l]) s:=
 ⟨_,_,_,_,rfl,fVq o2 h.b h.bl,ph o3 h.gl h.g,ph o4 h.il h.i,ph o5 h.ll h.l⟩
theorem ko.fYv{p:hU}{s:gT}{sd:iM}{g:iu}{s2:iM}{wd:Nat}(h:ko p s k l sd g s2 e2 dc wd o){a vs va:Ae}(hp:jf w a p)(hs:kf w vs s)(ha:UR w va l):nu (gT.of s2)/\ij (if e2=0 then o else[])/\(if e2=0 then o else[]).length<=1000000:=by
 have h1:=(h.hyps hp hs ha).1 _ (Az _);rw[h.fYn]at h1;have h2:=h1.a0;have h3:=h.bounds;have b:=h1.nj;exact⟨dJy h1.st h.hp.J (by have c:s2.a0.length<=4096+9*qQ p k dc:=h2;omega),h1.mr,by have c:(if e2=0 then o else[]).length<=200000:=b;omega⟩
theorem ask21_open{H:Type}{enc:TypeId×Ae->H}{r:Reach}{m:Nat}{d:DataW H}{q:List MemPlace}(hv:Value.okWide fZ w r m 35 v)(h:DataW.Trod enc fZ w 0 (fun _=>gh) gh 35 v d q)(hs:pn fZ 35 d):∃ p,fXk w v p:=by
 obtain⟨cs,rfl⟩:=dZg (t:=35) (fs:=_) underlying35 hv;obtain⟨fuel,hf⟩:=h;obtain⟨n,e0,o⟩:=lW underlying35 hf hs 0 0 1 3 rfl qI rfl rfl ci;obtain⟨l,v1,b,u⟩:=lW underlying35 hf hs 1 1 1 30 rfl bXe rfl rfl bYj;obtain⟨s,e2⟩:=lW underlying35 hf hs 2 2 6 33 rfl eZw rfl rfl cst;obtain⟨_,_,_,_,x,_,_⟩:=DataW.trod_struct underlying35 hf;have f:(Value.agg cs).cells.toList.length=8:=x.trans fx;have hc:(Value.agg cs).cells.toList=cs.toList:=rfl;rw[hc]at e0 b e2 f
 match j:cs.toList,f with
 | [x0,x1,x2,x3,x4,x5,c,e],_=>
  rw[j]at e0 b e2;obtain⟨a,g,i,lg,hq,h1,h2,y,z⟩:=e2;simp at hq e0 b;obtain⟨rfl,rfl,rfl,rfl,rfl,rfl⟩:=hq;subst e0;subst b;have k:=bZv o;refine⟨⟨n,l,s⟩,x1,x2,s.Y,x4,s.U,c,e,?_,k.1,k.2,u,⟨x2,x4,c,e,rfl,h1,h2,y,z⟩,rfl,rfl⟩
  have:cs=#[fF fN n,x1,x2,fF fN s.Y,x4,fF fN s.U,c,e]:=by
   apply Array.ext';rw[j]
  rw[this]
def nv(r:gR)(P i:Nat)(D:List Int):Prop:=nD P i D/\kI r P (Ac i) (fun q:Nat=>(D[q]?).getD (-1))
theorem nv.start{r:gR}{P:Nat}{D:List Int}(h:nD P 0 D):nv r P 0 D:=by
 refine⟨h,?_⟩
 have e:(fun q:Nat=>(D[q]?).getD (-1))=fun _=>(-1:Int):=by
  funext q
  cases hq:D[q]? with
  | none=>rfl
  | some x=>exact(h.2 q x hq).2 (AZ _)
 rw[e];exact kI.start r P
theorem nv.put{e:ia}{r:gR}{P i first a:Nat}{D:List Int}{cl:List Int}(h:nv r P i D)(hc:iq e r)(b:r.M=P)(c:P<=2032)(hi:i<P)(d:jj cl (jc r i))(f:(first=8/\jm r i)\/(first=0/\¬jm r i))(hg:mT first (cl.map fun x=>(D[x.toNat]?).getD (-1))=a)(ha:a<=16+i):nv r P (i+1) (D.set i (a:Int)):=by
 refine⟨h.1.put ha hi,?_⟩;have h1:=h.2.step hc b c hi fz d f;rw[hg]at h1;rw[List.range_succ]
 have e:(fun q:Nat=>((D.set i (a:Int))[q]?).getD (-1))=fun q:Nat=>if q=i then(a:Int)else(D[q]?).getD (-1):=by
  funext q
  by_cases hq:q=i
  ·subst hq;rw[gz rfl,List.getElem?_set_self (by have:=h.1.1;omega)];rfl
  ·rw[gy hq,List.getElem?_set_ne (fun e=>hq e.symm)]
 rw[e];exact h1
theorem nv.done{r:gR}{P:Nat}{D:List Int}(h:nv r P P D):jr r P D:=by
 have h1:=h.2.done (fun p hp=>List.mem_range.2 hp) (fun p hp=>List.mem_range.1 hp)
 have e:(Ac P).map (fun q:Nat=>(D[q]?).getD (-1))=D:=by
  apply List.ext_getElem?;intro q;have hl:=h.1.1;by_cases hq:q<P
  ·simp[hq,Av (show q<D.length by omega)]
  ·rw[AV fw,AV fu]
 rw[e]at h1;exact h1
def pj(r:gR)(b:List Int)(i j a:Nat):Prop:=(a=8/\∃ t,t<j/\b[t]? = fU (i:Int))\/(a=0/\∀ t,t<j->b[t]? ≠ fU (i:Int))
theorem pj.put{r:gR}{b:List Int}(h:pj r b i j a)(d:b[j]? = fU y)(hn:y≠(i:Int)):pj r b i (j+1) a:=by
 rcases h with⟨h1,t,h2,f⟩|⟨h1,h2⟩
 ·exact fR ⟨h1,t,fu,f⟩
 ·refine fS ⟨h1,fun t ht he=>?_⟩;rcases AY t j with c|c
  ·exact h2 t c he
  ·have e:t=j:=fu;subst e;rw[d]at he;injection he with he;exact hn he
theorem pj.done{r:gR}{b:List Int}(h:pj r b i b.length a)(hs:jj b (jm r)):(a=8/\jm r i)\/(a=0/\¬jm r i):=by
 rcases h with⟨h1,t,h2,d⟩|⟨h1,h2⟩
 ·exact fR ⟨h1,(hs.2 _).1 (Aw d)⟩
 ·refine fS ⟨h1,fun e=>?_⟩;obtain⟨t,c⟩:=List.mem_iff_getElem?.1 ((hs.2 _).2 e);exact h2 t (gw c).1 c
def cWp(D cl:List Int):List Int:=cl.map fun x=>(D[x.toNat]?).getD (-1)
def rH(D cl:List Int)(fi a:Nat)(b:Bool):Prop:=fi<=a/\(∀ n,fi<=n->n<a->n=15\/(n:Int)∈cWp D cl)/\(b=gj->a≠15/\(a:Int) ∉ cWp D cl)
theorem rH.fYw{fi:Nat}(h:rH D cl fi a gj)(ha:a<2048):mT fi (cWp D cl)=a:=
 dYm ha ⟨h.1,(h.2.2 rfl).1,(h.2.2 rfl).2⟩ (fun m c b=>by
  rcases h.2.1 m b.1 c with e|e
  ·exact b.2.1 e
  ·exact b.2.2 e)
def mA(D cl:List Int)(a j:Nat)(b:Bool):Prop:=b=gh↔(a=15\/∃ t y,t<j/\cl[t]? = fU y/\(D[y.toNat]?).getD (-1)=(a:Int))
theorem mA.done{b:Bool}(h:mA D cl a cl.length b):b=gh↔(a=15\/(a:Int)∈cWp D cl):=by
 unfold mA at h;rw[h];constructor
 ·rintro(h|⟨t,y,_,h2,d⟩)
  ·exact fR h
  ·exact fS (List.mem_map.2 ⟨y,Aw h2,d⟩)
 ·rintro(h|h)
  ·exact fR h
  ·obtain⟨y,e,he⟩:=List.mem_map.1 h;obtain⟨t,c⟩:=List.mem_iff_getElem?.1 e;exact fS ⟨t,y,(gw c).1,c,he⟩
theorem mA.step{bx:Bool}(h:mA D cl a j gj)(b:cl[j]? = fU y)(f:bx=gh↔(D[y.toNat]?).getD (-1)=(a:Int)):mA D cl a (j+1) bx:=by
 unfold mA at h ⊢;rw[f];constructor
 ·intro he;exact fS ⟨j,y,fu,b,he⟩
 ·rintro(h1|⟨t,g,h1,h2,c⟩)
  ·exact gH (h.2 (fR h1)) fy
  ·rcases AY t j with d|d
   ·exact gH (h.2 (fS ⟨t,g,d,h2,c⟩)) fy
   ·have e:t=j:=fu;subst e;rw[b]at h2;injection h2 with h2;rw[h2];exact c
theorem mA.stay(h:mA D cl a j gh):mA D cl a (j+1) gh:=by
 unfold mA at h ⊢;refine⟨fun _=>?_,fun _=>rfl⟩;rcases h.1 rfl with h1|⟨t,y,h1,h2,b⟩
 ·exact fR h1
 ·exact fS ⟨t,y,fu,h2,b⟩
def eVw(e:ia)(r:gR)(w:Ad)(a:Ending)(w':Ad):Prop:=
 (¬iq e r/\a = fP (fI #[fG fT 0 0,fF fN 6])/\Ag w.heap.size w w') \/
 (iq e r/\2032<r.M/\a = fP (fI #[fG fT 0 0,fF fN 15])/\Ag w.heap.size w w') \/
 (iq e r/\∃ (P:Nat) (hs:List Int) (g:Nat),r.M=P/\P<=2032/\jr r P hs/\a = fP (fI #[fG (fU ⟨g,0,fT⟩) P P,fF fN 0])/\w.heap.size<=g/\gO w' g 3 (ix hs).toArray/\Ag w.heap.size w w')
theorem eXw(e:ia)(r:gR)(ve vr:Ae)(w:Ad)(he:iG w ve e)(hr:jn w vr r):Calls fZ 41 #[ve,vr] w (eVw e r w):=by
 have HE:=fQ he;have HR:=fQ hr;obtain⟨va,vb,vd,rfl,h1,h2,d⟩:=he;obtain⟨vp,vq,ad,vs,rfl,h4,h5,h6,h7⟩:=hr;clear h1 h2 d h4 h5 h6 h7;have R:=fQ (j8 w (fO #[va,fF fN e.G,vb,vd,fH e.L] 26) (fO #[vp,vq,fF fN r.M,ad,vs] 89));have aI:=fQ (gO.alloc (gO.a4 w 26 #[va,fF fN e.G,vb,vd,fH e.L]) (fO #[vp,vq,fF fN r.M,ad,vs] 89));have aJ:=fQ (gO.X (w.alloc (fO #[va,fF fN e.G,vb,vd,fH e.L] 26)) (N:=w.heap.size+1) 89 #[vp,vq,fF fN r.M,ad,vs] fz);go_in;go_wp2_with fail;refine(cYu e r _ _ _ (HE.C R.out (Az _)) (HR.C R.out (Az _))).mono ?_;rintro en w1 ⟨x,rfl,hf,l⟩;have B:=fQ (R.trans (l.mono R.out.size));have S:=fQ (aI.C l aI.lt);have T:=fQ (aJ.C l aJ.lt);obtain⟨G,H,v,I,J⟩:=gZ T.out;obtain⟨s0,s1,s2,s3,s4⟩:=gZ S.out;have y1:=T.lt;have y2:=S.lt;clear l;rcases hf with⟨hn,rfl⟩|⟨hc,ao,rfl⟩|⟨hc,hle,rfl⟩
 ·have bp:=fQ hn;clear hn;go_wp2_with fail;go_ret2;exact fR ⟨bp.out,rfl,B.out⟩
 ·have q:=fQ hc;have bq:=fQ ao;clear hc ao;go_wp2_with fail;go_ret2;exact fS (fR ⟨q.out,bq.out,rfl,B.out⟩)
 obtain⟨P,hP⟩:∃ P:Nat,r.M=P:=⟨r.M.toNat,by have:=hc.p1;omega⟩;have aZ:P<=2032:=fu;have q:=fQ hc;have U:=fQ hP;clear hc hle hP;go_wp2_with fail;refine(cVj e r _ _ _ (HE.C B.out (Az _)) (HR.C B.out (Az _))).mono ?_;rintro en w2 (⟨aK,_,_⟩|⟨_,vC,rfl,hT,aA⟩)
 ·exact gH q.out aK
 rw[show r.M.toNat=P from by rw[U.out];rfl]at hT;obtain⟨AC,cC,rfl⟩:=hT.I;have HT:=fQ hT;have V:=fQ (B.trans (aA.mono B.out.size));have aL:=fQ (S.C aA S.lt);have W:=fQ (T.C aA T.lt);clear G H v I J s0 s1 s2 s3 s4 y1 y2 hT aA;obtain⟨G,H,v,I,J⟩:=gZ W.out;obtain⟨s0,s1,s2,s3,s4⟩:=gZ aL.out;have y1:=W.lt;have y2:=aL.lt;go_wp2_with fail;refine(cZk e r _ _ _ (HE.C V.out (Az _)) (HR.C V.out (Az _))).mono ?_;rintro en f (⟨aK,_,_⟩|⟨_,v3,X,rfl,aM,br,au,aB⟩)
 ·exact gH q.out aK
 obtain⟨Aa,ca,rfl,_⟩:=fJ aM;have a1:=fQ (IR.own aM);obtain⟨K,aN⟩:∃ m,X.length=m:=⟨_,rfl⟩;have a6:=fQ aN;have aO:=fQ au;rw[aN]at a1 br ⊢;have aP:=fQ (V.trans (aB.mono V.out.size));have a7:=fQ (HT.C aB);have a8:=fQ (W.C aB W.lt);clear G H v I J s0 s1 s2 s3 s4 y1 y2 aM au aN aB HT aL S aI W T aJ V B R;obtain⟨G,H,v,I,J⟩:=gZ a8.out;have y1:=a8.lt;rw[U.out]at v;have mk:=nL (P:=fZ) 23 3 (fF fN 0) 8 underlying23 qB rfl P fu fu;have hZ:(AJ P (Value.int fN 0)).toArray=(ix (AJ P 0)).toArray:=(by simp[ix]);rw[hZ]at mk;clear hZ;obtain⟨g,hg⟩:=fX f.heap.size;obtain⟨sR,bs⟩:∃ s,w.heap.size+1=s:=⟨_,rfl⟩;rw[bs]at G H v I J y1 ⊢;have ba:=fQ (show ∀ w',Ag g f w'->_/\_ from fun w' bb=>⟨(bb.cell (p:=⟨sR,2,fT⟩) (by rw[<-hg];exact y1)).trans v,(by have:=bb.size;omega:sR<w'.heap.size)⟩);go_wp2_with fail;have aQ:=fQ (show ni (pd P 0) g f (f.alloc (fO (ix (AJ P 0)).toArray 3))from⟨_,⟨fz,fun j hj=>fu⟩,gO.X _ _ _ hg,(Ay g f).alloc (Nat.le_of_eq hg.symm) _⟩);have C:=fQ hg;obtain⟨wO,bc⟩:=fX (f.alloc (fO (ix (AJ P 0)).toArray 3))
 (try simp only[hg])
 rw[bc]at aQ ⊢;clear bc mk hg G H v I J y1;go_loopw [12] (fun i wr=>∃ k:Nat,k<=P/\i = fF fN k/\Hid (ni (pd P k) g f wr)) (fun i _=>P - (intOf i).toNat)
 case atStart=>exact⟨0,fu,rfl,aQ⟩
 case round=>
  clear aQ;obtain⟨k,hk,rfl,c⟩:=hrel;obtain⟨D,h1,h2,d⟩:=c.out;obtain⟨e2,y1⟩:=ba.out _ d;by_cases bd:k<P
  ·have t2:(k:Int)<P:=fu;obtain⟨u,c1⟩:=bYq h2 (show k<D.length by rw[h1.1];exact bd);have c2:=ik h2 k;have aR:=fQ (c.out.put (i:=k) (x:=-1) (fun D hD=>pd.put hD bd));clear h1 h2 d c;go_wp2_with fail;exact⟨⟨k+1,fu,fz,aR⟩,fB⟩
  ·as_aux_lemma=>
   have Y:decide ((k:Int)<P)=gj:=fw;have aS:k=P:=fu;subst aS;have be:=fQ (show ni (nv r k 0) g f wr from⟨D,nv.start h1.done,h2,d⟩);clear h1 h2 d c;go_wp2_with fail;clear e2 y1 Y;go_loopw [13] (fun i wr=>∃ i':Nat,i'<=k/\i = fF fN i'/\Hid (ni (nv r k i') g f wr)) (fun i _=>k - (intOf i).toNat)
   case atStart=>exact⟨0,fu,rfl,be⟩
   case round=>
    clear be;obtain⟨i,hi,rfl,c⟩:=hrel;obtain⟨e2,y1⟩:=ba.out _ c.out.choose_spec.2.2;by_cases aC:i<k
    ·as_aux_lemma=>
     have Y:decide ((i:Int)<k)=gh:=fw;have t2:(i:Int)<k:=fu;obtain⟨D,hD,aD,bf⟩:=c.out;have aE:=fQ hD;have ID:=fQ (show ni (fun o=>o=D) g f wr from⟨D,rfl,aD,bf⟩);clear hD aD bf c;go_wp2_with fail;clear e2 y1 Y;go_loopw [14,15] (fun av j wr=>∃ (E a:Nat),E<=K/\j = fF fN E/\av = fF fN a/\Hid (pj r X i E a)/\Hid (ni (fun o=>o=D) g f wr)) (fun _ j _=>K - (intOf j).toNat)
     case atStart=>exact⟨0,0,fu,rfl,rfl,fQ (fS ⟨rfl,fun t h=>fu⟩),ID⟩
     case round=>
      clear ID;obtain⟨j,fi,hj,rfl,rfl,HA,c⟩:=hrel;by_cases aT:j<K
      ·have t5:(j:Int)<K:=fu;obtain⟨y,A⟩:∃ y,X[j]? = fU y:=⟨_,Av (by rw[a6.out];exact aT)⟩;obtain⟨cb,co,rfl,bt,Z⟩:=a1.cell A;have aF:=fQ A;obtain⟨o,h1,h2,d⟩:=c.out;replace Z:=(d.cell (p:=⟨cb,_,fT⟩) (show cb<g by have:=C.out;omega)).trans Z;clear A h1 h2 d;by_cases L:y=(i:Int)
       ·have t6:(y == (i:Int))=gh:=(by simp[L]);have HF:=fQ (show pj r X i (j+1) 8 from fR ⟨rfl,j,fu,by rw[aF.out,L]⟩);clear L;go_wp2_with fail;exact⟨⟨j+1,8,fu,fz,rfl,HF,c⟩,fB⟩
       ·have t6:(y == (i:Int))=gj:=(by simp[L]);have HF:=fQ (HA.out.put aF.out L);clear L;go_wp2_with fail;exact⟨⟨j+1,fi,fu,fz,rfl,HF,c⟩,fB⟩
      ·as_aux_lemma=>
       have t4:decide ((j:Int)<K)=gj:=fw;have bg:=fQ (pj.done (by have e:j=X.length:=by { have:=a6.out;omega };rw[<-e];exact HA.out) aO.out);have aU:fi<=8:=(by rcases bg.out with h|h <;> omega);obtain⟨cl,M⟩:=a7.out.get aC;obtain⟨b1,o1,B1,k1,aG,l,F,O⟩:=a7.first aC M;have aV:=fQ M;have bu:=fQ (And.intro aG (And.intro l (And.intro F O)));have bj:=fQ (show rH D cl fi fi gh from⟨Az _,fun n h1 h2=>fu,fun h=>by cases h⟩);clear M aG l F O HA;go_wp2_with fail;clear t4;go_loopw [14,16] (fun av tv wr=>∃ (a':Nat) (b:Bool),a'<=16+i/\av = fF fN a'/\tv = fH b/\Hid (rH D cl fi a' b)/\Hid (ni (fun o=>o=D) g f wr)) (fun av tv _=>(17+i - (intOf av).toNat)*2+dYp tv)
       case atStart=>exact⟨fi,gh,fu,rfl,rfl,bj,c⟩
       case round=>
        clear c bj aU;obtain⟨a,b,bw,rfl,rfl,ax,c⟩:=hrel;cases b
        ·as_aux_lemma=>
         obtain⟨o,rfl,h2,d⟩:=c.out;obtain⟨u,c1⟩:=bYq h2 (show i<o.length by rw[aE.1.1];exact aC);have c2:=ik h2 i;have aR:=fQ (show ni (nv r k (i+1)) g f _ from c.out.put (i:=i) (x:=(a:Int)) (fun D2 aD=>by rw[aD];exact aE.put q.out U.out aZ aC aV.out bg.out (ax.out.fYw fu) bw));clear h2 d c;go_wp2_with fail;exact⟨⟨i+1,fu,fz,aR⟩,fB⟩
        ·as_aux_lemma=>
         obtain⟨aG,l,F,O⟩:=bu.out;subst aG;have M:=aV.out;have bz:=M.small q.out (fun x hx=>hx.range q.out);obtain⟨m,hm⟩:=fX cl.length;rw[hm]at F O bz;have bk:=fQ hm;have bA:=fQ O;have bB:=fQ F;have bm:=fQ (show b1<g by rw[<-C.out];exact l);clear M O hm F l;obtain⟨b0,aW⟩:∃ b0:Bool,((a:Int) == 15)=b0:=⟨_,rfl⟩
         have Q:=fQ (show mA D cl a 0 b0 from by
          unfold mA;rw[<-aW];simp
          omega)
         go_wp2_with fail
         (try rw[aW])
         clear aW;go_loopw [16,17] (fun tv j wr=>∃ (E:Nat) (b:Bool),E<=m/\j = fF fN E/\tv = fH b/\Hid (mA D cl a E b)/\Hid (ni (fun o=>o=D) g f wr)) (fun _ j _=>m - (intOf j).toNat)
         case atStart=>exact⟨0,b0,fu,rfl,rfl,Q,c⟩
         case round=>
          clear c Q;obtain⟨j,b,hj,rfl,rfl,Q,c⟩:=hrel;obtain⟨o,h1,h2,d⟩:=c.out;rw[h1]at h2;clear h1;have F:=(d.cell (p:=⟨b1,_,fT⟩) bm.out).trans bB.out;by_cases aT:j<m
          ·have t5:(j:Int)<m:=fu;cases b
           ·obtain⟨y,A⟩:∃ y,cl[j]? = fU y:=⟨_,Av (by rw[bk.out];exact aT)⟩;have aF:=fQ A;have Z:=(aV.2 y).1 (Aw A);have bn:=jc.range q.out Z;rw[U.out]at bn;obtain⟨zy,rfl⟩:∃ z:Nat,y=z:=⟨y.toNat,fu⟩;have bC:zy<k:=fu;have bJ:(zy:Int)<k:=fu;obtain⟨cb,co,rfl,bt,ay⟩:=bA.cell A;replace ay:=(d.cell (p:=⟨cb,_,fT⟩) (show cb<g by have:=C.out;omega)).trans ay;obtain⟨x,hx⟩:∃ x,D[zy]? = fU x:=⟨_,Av (by rw[aE.1.1];exact bC)⟩;have bL:=cJr h2 hx;have bE:=fQ hx;clear A Z bn h2 d hx;obtain⟨bx,bo⟩:∃ bx:Bool,(x == (a:Int))=bx:=⟨_,rfl⟩;have bF:=fQ (Q.step (bx:=bx) aF.out (by rw[show((zy:Int).toNat)=zy by omega,bE.out,<-bo];simp));go_wp2_with fail
            (try rw[bo])
            exact⟨⟨j+1,bx,fu,fz,rfl,bF,c⟩,fB⟩
           ·clear h2 d;go_wp2_with fail;exact⟨⟨j+1,gh,fu,fz,rfl,fQ Q.stay,c⟩,fB⟩
          ·clear h2 d;have az:j=cl.length:=(by have:=bk.out;omega);have aH:=fQ (mA.done (by rw[<-az];exact Q.out));clear az;cases b
           ·have aX:=fQ (show rH D cl fi a gj from⟨ax.out.1,ax.out.2.1,fun _=>⟨fun e=>gH (aH.2 (fR e)) fy,fun e=>gH (aH.2 (fS e)) fy⟩⟩);go_wp2_with fail;exact⟨⟨a,gj,fu,rfl,rfl,aX,c⟩,by simp[intOf,dYp]⟩
           ·have bN:a<=15+i:=by
             rcases aH.1 rfl with e|e
             ·omega
             ·obtain⟨y,_,he⟩:=List.mem_map.1 e
              cases hq:D[y.toNat]? with
              | none=>rw[hq]at he;simp at he
              | some x=>rw[hq]at he;have:=aE.1.le hq;simp at he;omega
            have aX:=fQ (show rH D cl fi (a+1) gh from⟨by have:=ax.out.1;omega,fun n h1 h2=>by
             rcases AY n a with h|h
             ·exact ax.out.2.1 n h1 h
             ·have e:n=a:=fu;subst e
              exact aH.1 rfl,fun h=>by cases h⟩)
            go_wp2_with fail;exact⟨⟨a+1,gh,fu,fz,rfl,aX,c⟩,by simp[intOf,dYp];omega⟩
    ·as_aux_lemma=>
     have Y:decide ((i:Int)<k)=gj:=fw;have aY:i=k:=fu;subst aY;obtain⟨D,h1,h2,d⟩:=c.out;have bG:=fQ h1;have bH:=fQ h2;have bI:=fQ d;clear h1 h2 d c;go_wp2_with fail;go_ret2;exact fS (fS ⟨q.out,i,D,g,U.out,aZ,bG.done,rfl,(by have:=aP.out.size;have:=C.out;omega),bH.out,aP.trans (bI.mono (by have:=aP.out.size;have:=C.out;omega))⟩)
theorem iN.far{C:List gP}{r:Option Nat}(h:iN w0 w base v C)(hg:w.grownBy w' r)(a:∀ g t cs,gO w g t cs->t≠89->r≠fU g):iN w0 w' base v C:=by
 obtain⟨vs,h1,h2,b⟩:=h;exact⟨vs,cJq h1 fy hg a,h2,fun i cs c q1 d=>(b i cs c q1 d).grown hg (fun g cs e=>a g _ cs e fy)⟩
theorem iN.fYx{t:TypeId}{C:List gP}{ks:Array Ae}(h:iN w0 w base v C)(a:gO w g t ks)(h1:86≠t)(h2:3≠t)(u:Ae):iN w0 (w.setCell ⟨g,i,fT⟩ u) base v C:=by
 obtain⟨vs,o1,o2,o3⟩:=h;exact⟨vs,iW o1 (iZ o1 a h1),o2,fun j cs c q1 b=>(o3 j cs c q1 b).other a h2 u⟩
def kM(w0 w:Ad)(base:Nat)(cs:List Ae)(r:gR)(hs:List Int):Prop:=∃ a b p d x par vs,cs = [a,b,fF fN (rX hs),p,d]/\jn w0 (fM #[a,b,fF fN x,par,vs]) r/\w.ownsRow base 3 1 p r.params.length (ix (mV hs r.params))/\iN w0 w base d (r.K.map (vJ hs))
theorem kM.far{w0 w w':Ad}{base:Nat}{cs:List Ae}{x:gR}{hs:List Int}{r:Option Nat}(h:kM w0 w base cs x hs)(hg:w.grownBy w' r)(c:∀ g t cs,gO w g t cs->t≠89->r≠fU g):kM w0 w' base cs x hs:=by
 obtain⟨a,b,p,d,y,par,vs,e,h1,f,i⟩:=h;exact⟨a,b,p,d,y,par,vs,e,h1,cJq f fy hg c,i.far hg c⟩
theorem kM.other{cs:List Ae}{x:gR}{hs:List Int}{ks:Array Ae}(h:kM w0 w base cs x hs)(c:gO w g 29 ks)(u:Ae):kM w0 (w.setCell ⟨g,i,fT⟩ u) base cs x hs:=by
 obtain⟨a,b,p,d,y,par,vs,e,h1,f,j⟩:=h;exact⟨a,b,p,d,y,par,vs,e,h1,iW f (iZ f c fy),j.fYx c fy fy u⟩
def rI(x:gR×List Int):Prop:=∃ P:Nat,x.1.M=P/\P<=2032/\jr x.1 P x.2
def kx(w0 w:Ad)(base:Nat)(f:Ae)(X:List (gR×List Int)):Prop:=∃ vs:List (List Ae),w.ownsRow base 89 5 f X.length vs.flatten/\vs.length=X.length/\∀ (i:Nat) cs x,vs[i]? = fU cs->X[i]? = fU x->kM w0 w base cs x.1 x.2
theorem kx.nil(w0 w:Ad)(base:Nat):kx w0 w base (fG fT 0 0) []:=⟨[],World.ownsRow_nil _ _ _ _,rfl,fun i cs c h=>by simp at h⟩
theorem kx.other{w0 w:Ad}{base g i:Nat}{v:Ae}{X:List (gR×List Int)}{ks:Array Ae}(h:kx w0 w base v X)(a:gO w g 29 ks)(u:Ae):kx w0 (w.setCell ⟨g,i,fT⟩ u) base v X:=by
 obtain⟨vs,h1,h2,b⟩:=h;exact⟨vs,iW h1 (iZ h1 a fy),h2,fun j cs c q1 d=>(b j cs c q1 d).other a u⟩
theorem kx.fYy{X:List (gR×List Int)}{x0 x1 x2 x3 x4 x5:Ae}(h:kx w0 w base v X)(i:gO w g 29 #[x0,x1,x2,x3,x4,x5])(a b c d e f:Ae):kx w0 ((((((w.setCell ⟨g,0,fT⟩ a).setCell ⟨g,1,fT⟩ b).setCell ⟨g,2,fT⟩ c).setCell ⟨g,3,fT⟩ d).setCell ⟨g,4,fT⟩ e).setCell ⟨g,5,fT⟩ f) base v X:=
 (((((h.other i a).other (fY i 0 a) b).other (fY (fY i 0 a) 1 b) c).other (fY (fY (fY i 0 a) 1 b) 2 c) d).other (fY (fY (fY (fY i 0 a) 1 b) 2 c) 3 d) e).other (fY (fY (fY (fY (fY i 0 a) 1 b) 2 c) 3 d) 4 e) f
theorem kx.push{w':Ad}{v':Ae}{X:List (gR×List Int)}{cs:List Ae}{x:gR×List Int}{vs:List (List Ae)}(h1:w.ownsRow base 89 5 v X.length vs.flatten)(h2:vs.length=X.length)(f:∀ (i:Nat) cs x,vs[i]? = fU cs->X[i]? = fU x->kM w0 w base cs x.1 x.2)
  (hc:kM w0 w base cs x.1 x.2) (h:w'.ownsRow base 89 5 v' (X.length+1) (vs.flatten++cs)) (hg:w.grownBy w' v.ownBlock):kx w0 w' base v' (X ++ [x]):=by
 have c:∀ g t cs,gO w g t cs->t≠89->v.ownBlock≠fU g:=fun g t cs j k=>iZ h1 j (fun e=>k e.symm);refine⟨vs ++ [cs],by rw[List.length_append,List.flatten_append];simpa using h,by simp[h2],fun i u y a b=>?_⟩;by_cases hi:i<vs.length
 ·rw[AX hi]at a;rw[AX fu]at b;exact(f i u y a b).far hg c
 ·rw[AQ fu]at a;rw[AQ fu]at b
  have d:i - vs.length=0:=by
   have:=(gw a).1;simp at this;omega
  rw[d]at a;rw[<-h2,d]at b;simp at a b;subst a;subst b;exact hc.far hg c
theorem kx.structs{e:ia}{X:List (gR×List Int)}(h:kx w0 w base v X)(s:Ag w0.heap.size w0 w)(n:w0.heap.size<=base)(hl:X.length<=100000)(t:∀ x∈X,iq e x.1):Structs 5 kr w v (X.map fun x=>zQ x.1 x.2):=by
 obtain⟨vs,h1,h2,o⟩:=h;obtain⟨A,c,rfl,hc⟩:=fJ h1
 have q:c<=9223372036854775807/\(A=fT->c=0):=by
  rcases h1.2 with⟨e,_⟩|⟨g,cap,cur,e,_,_,_,u,_⟩
  ·injection e with l e2 m;subst l;subst m;exact⟨fu,fun _=>rfl⟩
  ·injection e with l e2 m;subst l;subst m;exact⟨by unfold maxLen at u;omega,fun e=>by cases e⟩
 have j:(X.map fun x=>zQ x.1 x.2).length=X.length:=fz;refine⟨A,c,vs,by rw[j],by rw[j];exact hc,q.2,by rw[j];exact⟨fu,q.1⟩,by rw[j];exact h2,fun r z=>?_,fun i r y q1 f=>?_,by rw[j];exact aVb h1⟩
 ·obtain⟨i,hi,rfl⟩:=List.getElem_of_mem z;obtain⟨a,b,p,d,x,par,B,e,_⟩:=o i _ _ (Av hi) (Av fu);rw[e];rfl
 ·rw[List.getElem?_map]at f
  cases k:X[i]? with
  | none=>rw[k]at f;cases f
  | some x=>
   rw[k]at f;injection f with f;subst f;obtain⟨a,b,p,d,y,par,B,rfl,o1,o3,o4⟩:=o i r x q1 k;obtain⟨_,_,_,_,e',C,k2,D,E⟩:=cYt (t x (Aw k)) o1 s (iQ o3 n) (o4.mono n);injection e' with e';injection e' with e';simp only[List.cons.injEq,and_true]at e';obtain⟨rfl,rfl,_,rfl,rfl⟩:=e';exact⟨a,b,p,d,rfl,C,k2,D,E⟩
def tS(w0 c:Ad)(e:Nat)(a b d:Ae)(g:Int)(mem:Bool)(X:List (gR×List Int))(wr:Ad):Prop:=∃ f,gO wr e 29 #[a,fF fN g,b,d,fH mem,f]/\kx w0 wr c.heap.size f X/\Ag e c wr
theorem tS.push{w0 c w w':Ad}{e:Nat}{a b d f f':Ae}{h:Int}{mem:Bool}{X:List (gR×List Int)}{x:gR×List Int}{cs:List Ae}{vs:List (List Ae)}(k:gO w e 29 #[a,fF fN h,b,d,fH mem,f])
  (h1:w.ownsRow c.heap.size 89 5 f X.length vs.flatten) (h2:vs.length=X.length) (m:∀ (i:Nat) cs x,vs[i]? = fU cs->X[i]? = fU x->kM w0 w c.heap.size cs x.1 x.2) (n:Ag e c w) (hg:e<=c.heap.size) (hs:c.heap.size<=w.heap.size)
  (hc:kM w0 w c.heap.size cs x.1 x.2) (o:w'.ownsRow c.heap.size 89 5 f' (X.length+1) (vs.flatten++cs)) (g:w.grownBy w' f.ownBlock):tS w0 c e a b d h mem (X ++ [x]) (w'.setCell ⟨e,5,fT⟩ f'):=by
 have l:=k.grown g (iZ h1 k fy);exact⟨f',dYq l f',(kx.push h1 h2 m hc o g).other l _,(oQ n g fu (fun j hj=>by have:=(h1.lt j hj).1;omega)).setCell (p:=⟨e,5,fT⟩) (Az _) _⟩
theorem bZm{X:List (gR×List Int)}{vs:List (List Ae)}(h:∀ (i:Nat) cs x,vs[i]? = fU cs->X[i]? = fU x->kM w0 w base cs x.1 x.2)(a:Ag w.heap.size w w'):∀ (i:Nat) cs x,vs[i]? = fU cs->X[i]? = fU x->kM w0 w' base cs x.1 x.2:=
 fun i cs c q1 b=>(h i cs c q1 b).far (r7 a) (fun _ _ _ _ _=>fz)
def eVx(p:hU)(w:Ad)(a:Ending)(w':Ad):Prop:=
 (¬iD p/\a = fP (fI #[bYh,fF fN 6])/\Ag w.heap.size w w') \/
 (iD p/\(∃ r∈p.b0,2032<r.M)/\a = fP (fI #[bYh,fF fN 15])/\Ag w.heap.size w w') \/
 (iD p/\(∀ r∈p.b0,r.M<=2032)/\∃ (X:List (gR×List Int)) (v:Ae),a = fP (fI #[v,fF fN 0])/\X.map Prod.fst=p.b0/\(∀ x∈X,rI x)/\jf w' v ⟨p.J,X.map fun x=>zQ x.1 x.2⟩/\Ag w.heap.size w w')
theorem eVy(p:hU)(v:Ae)(w:Ad)(hv:jf w v p):Calls fZ 20 #[v] w (eVx p w):=by
 have HV:=fQ hv;obtain⟨a,b,d,f,rfl,h1,h2,h3,h4⟩:=hv;have aD:=fQ (show iG w (fM #[a,fF fN p.J.G,b,d,fH p.J.L]) p.J from⟨a,b,d,rfl,h1,h2,h3⟩);obtain⟨W,Y,rfl,_⟩:=h1.len;obtain⟨Z,bc,rfl⟩:=h2.I;obtain⟨dA,dc,rfl,_⟩:=id h3;obtain⟨fA,fc,rfl,_,cc,_⟩:=h4.len;have bE:=fQ h4;obtain⟨n,hn⟩:=fX p.b0.length;obtain⟨im,bF⟩:∃ i,p.J.G=i:=⟨_,rfl⟩;obtain⟨mm,bG⟩:∃ i,p.J.L=i:=⟨_,rfl⟩;rw[hn]at HV bE cc ⊢;rw[bF]at HV aD ⊢;rw[bG]at HV aD ⊢;obtain⟨LS,bH⟩:∃ i,p.J.R.length=i:=⟨_,rfl⟩;obtain⟨LG,bI⟩:∃ i,p.J.E.length=i:=⟨_,rfl⟩;obtain⟨LM,bJ⟩:∃ i,p.J.a3.length=i:=⟨_,rfl⟩;rw[bH,bI,bJ]at HV aD ⊢;have HN:=fQ hn;clear h1 h2 h3 h4 hn bF bG bH bI bJ;have aO:=fQ (cZd w (fO #[fG W LS Y,fF fN im,fG Z LG bc,fG dA LM dc,fH mm,fG fA n fc] 29) (fO #[fG fT 0 0,fF fN 0,fG fT 0 0,fG fT 0 0,fH gj,fG fT 0 0] 29));have K0:=fQ (gO.alloc (gO.a4 w 29 #[fG W LS Y,fF fN im,fG Z LG bc,fG dA LM dc,fH mm,fG fA n fc]) (fO #[fG fT 0 0,fF fN 0,fG fT 0 0,fG fT 0 0,fH gj,fG fT 0 0] 29));have a6:=fQ (gO.X (w.alloc (fO #[fG W LS Y,fF fN im,fG Z LG bc,fG dA LM dc,fH mm,fG fA n fc] 29)) (N:=w.heap.size+1) 29 #[fG fT 0 0,fF fN 0,fG fT 0 0,fG fT 0 0,fH gj,fG fT 0 0] fz);obtain⟨S,a7⟩:∃ s,w.heap.size=s:=⟨_,rfl⟩;have a8:=fQ a7;go_in;go_wp2_with fail;refine(bKg p _ _ (HV.C aO.out (Az _))).mono ?_;rintro en w1 ⟨bb,rfl,bL,aP⟩;have aB:=fQ (aO.trans (aP.mono aO.out.size));have K1:=fQ (K0.C aP K0.lt);have T:=fQ (a6.C aP a6.lt);rw[a7]at K1 T;have o:=fQ bL;clear aP bL aO K0 a6 a7;obtain⟨z0,z1,z2,z3,z4,z5⟩:=pQ T.out;have f0:=ik T.out 0;have f1:=ik T.out 1;have f2:=ik T.out 2;have f3:=ik T.out 3;have f4:=ik T.out 4;have f5:=ik T.out 5;have yz:=gO.lt T.out;have HZ:=fQ (show S+1<w1.heap.size from yz);cases bb
 ·have aE:=fQ (bXy T.out (fG fT 0 0) (fF fN 0) (fG fT 0 0) (fG fT 0 0) (fH gj) (fG fT 0 0));have ay:=fQ (bYp aB.out (show w.heap.size<=S+1 by have:=a8.out;omega) (fG fT 0 0) (fF fN 0) (fG fT 0 0) (fG fT 0 0) (fH gj) (fG fT 0 0));go_wp2_with fail;refine bodyPost_ret (aJl _ _ (S+1) _ _ _ _ _ _ _ rfl rfl aE.out) rfl ?_;exact fR ⟨fun hp=>(by have:=o.2 hp;cases this),rfl,ay.out⟩
 have ar:=fQ (o.1 rfl)
 have aF:n<=64:=by
  have h1:=ar.len;have h2:=kY ar.J;have:=HN.out;omega
 obtain⟨e0,y,e2,z,B,C⟩:=pQ K1.out;have ye:=gO.lt K1.out;have ba:=fQ ye;obtain⟨q,aG⟩:∃ g,w1.heap.size=g:=⟨_,rfl⟩;have az:=fQ aG;have cd:S<q:=fu;clear z0 z1 z2 z3 z4 z5 f0 f1 f2 f3 f4 f5 yz o;go_wp2_with fail
 (try simp only[aG])
 obtain⟨M,aH⟩:=fX (w1.alloc (fO #[fG W LS Y,fF fN im,fG Z LG bc,fG dA LM dc,fH mm,fG fT 0 0] 29));have bM:=fQ (show tS w M q (fG W LS Y) (fG Z LG bc) (fG dA LM dc) im mm [] M from⟨_,aH ▸ gO.X w1 29 #[fG W LS Y,fF fN im,fG Z LG bc,fG dA LM dc,fH mm,fG fT 0 0] aG,kx.nil _ _ _,Ay _ _⟩);have U:Ag w1.heap.size w1 M:=aH ▸ (Ay _ _).alloc (Az _) _;have aQ:=fQ (aB.trans (U.mono aB.out.size));have bd:=fQ (K1.C U K1.lt);have cj:=fQ (T.C U T.lt);have u:=fQ (show M.heap.size=q+1 by rw[<-aH,<-aG];simp)
 (try rw[aH])
 obtain⟨ic,cm,cn,cp,cq⟩:=info_parts cYp;clear aH U e0 y e2 z B C ye cd aG;go_loopw [5] (fun i wr=>∃ k:Nat,k<=n/\i = fF fN k/\Hid (∃ X:List (gR×List Int),X.map Prod.fst=p.b0.take k/\(∀ x∈X,rI x)/\tS w M q (fG W LS Y) (fG Z LG bc) (fG dA LM dc) im mm X wr)) (fun i _=>n - (intOf i).toNat)
 case atStart=>exact⟨0,fu,rfl,fQ ⟨[],rfl,fun x h=>(by cases h),bM.out⟩⟩
 case round=>
  clear bM;obtain⟨k,hk,rfl,IU⟩:=hrel;obtain⟨X,be,bN,f,kb,⟨bO,of,aR,bf⟩,E⟩:=IU.out
  have aI:X.length=k:=by
   have h1:=gG Ab be;rw[AK,List.length_take]at h1;have h2:=HN.out;omega
  rw[aI]at of aR;obtain⟨xs,aS⟩:=fX bO.flatten;rw[aS]at of;have bP:=fQ aS;have bg:=fQ aI;have bQ:=fQ be;have bj:=fQ bN;have cr:=fQ aR;have ct:=fQ bf;have cv:=fQ (show kx w wr M.heap.size f X from⟨bO,by rw[aI,aS];exact of,by rw[aI];exact aR,bf⟩);clear aS aI be bN aR bf;have an:=fQ (aQ.trans (E.mono (show w.heap.size<=q by have:=aB.out.size;have:=az.out;omega)));have O:=cj.C E (show S+1<q by have:=HZ.out;have:=az.out;omega);have aT:=bd.C E (show S<q by have:=ba.out;have:=az.out;omega);have cw:=E.size;obtain⟨Af,cf,rfl,_⟩:=fJ of;obtain⟨e0,y,e2,z,B,C⟩:=pQ aT;have ye:=gO.lt aT;by_cases aU:k<n
  ·have t1:decide ((k:Int)<n)=gh:=fw;have t2:(k:Int)<n:=fu;obtain⟨r,hr⟩:∃ r,p.b0[k]? = fU r:=⟨_,Av (by rw[HN.out];exact aU)⟩;have bT:=fQ hr;obtain⟨fb,fo,x0,x1,x3,x4,rfl,aC,G,H,I,J,L,i1,i2,i3,i4⟩:=bE.row hr;obtain⟨A0,c0,rfl⟩:=i1.I;obtain⟨A1,c1,rfl⟩:=i2.I;obtain⟨A3,c3,rfl⟩:=i3.I;obtain⟨A4,c4,rfl,_⟩:=i4.len;have bk:=fQ (jn.of i1 i2 i3 i4);have cx:=fQ (show w.heap.size<=q by have:=aB.out.size;have:=az.out;omega)
   have Q:=fQ (show ∀ w',Ag q M w'->_/\_/\_/\_/\_/\_ from fun w' aV=>by
    have hc:=aQ.trans (aV.mono cx.out);have bm:S<q:=(by have:=ba.out;have:=az.out;omega)
    exact⟨(pQ (bd.C aV bm)).2.2.2.2.2,(hc.cell (p:=⟨fb,_,fT⟩) aC).trans G,(hc.cell (p:=⟨fb,_,fT⟩) aC).trans H,(hc.cell (p:=⟨fb,_,fT⟩) aC).trans I,(hc.cell (p:=⟨fb,_,fT⟩) aC).trans J,(hc.cell (p:=⟨fb,_,fT⟩) aC).trans L⟩)
   have R:=fQ (show ∀ w',Ag q M w'->_/\_/\_/\_/\_ from fun w' aV=>by
    have bm:S<q:=(by have:=ba.out;have:=az.out;omega);have:=pQ (bd.C aV bm)
    exact⟨this.1,this.2.1,this.2.2.1,this.2.2.2.1,this.2.2.2.2.1⟩)
   have bU:=fQ kb;have cy:=fQ of;have o:=fQ E;have bV:=fQ O;have aJ:=fQ (ar.row k r hr).1;clear hr i1 i2 i3 i4 aC aT kb of E G H I J L O;go_wp2_with fail;clear e0 y e2 z B C;go_cut [6,7] (fun hv xv wx=>(∃ (A:Option Addr) (nh ch:Nat) (x:Int),hv = fG A nh ch/\xv = fF fN x/\Hid (Ag wr.heap.size wr wx/\((2032<r.M/\x=15)\/(x=0/\∃ (P:Nat) (hs:List Int),r.M=P/\P<=2032/\jr r P hs/\IR wx (fG A nh ch) hs)))))
   case first=>
    as_aux_lemma=>
    refine jY (fun w'=>Ag wr.heap.size wr w') (fun _=>True) 7 fx (rC wr) trivial fun e=>?_;have V:=fQ (rC wr);refine fW (i:=0) (v:=?vh0) rfl fx fx fx (fun _ _ _ h=>h) rfl (Or.inl ⟨by rfl,?hyh0⟩) e fun e=>?_
    case hyh0=>intro m l;obtain⟨C,G,H,I,J,L⟩:=Q.out _ (o.trans (l.mono (by have:=u.out;omega)));obtain⟨e0,y,e2,z,B⟩:=R.out _ (o.trans (l.mono (by have:=u.out;omega)));go_simp;(try with_reducible rfl)
    try simp only[Ak,Aj,Aq,Ax]
    refine fW (i:=1) (v:=?vh1) rfl fx fx fx (fun _ _ _ h=>h) rfl (Or.inl ⟨by rfl,?hyh1⟩) e fun e=>?_
    case hyh1=>intro m l;obtain⟨C,G,H,I,J,L⟩:=Q.out _ (o.trans (l.mono (by have:=u.out;omega)));obtain⟨e0,y,e2,z,B⟩:=R.out _ (o.trans (l.mono (by have:=u.out;omega)));go_simp;(try with_reducible rfl)
    try simp only[Ak,Aj,Aq,Ax]
    refine fW (i:=2) (v:=?vh2) rfl fx fx fx (fun _ _ _ h=>h) rfl (Or.inl ⟨by rfl,?hyh2⟩) e fun e=>?_
    case hyh2=>intro m l;obtain⟨C,G,H,I,J,L⟩:=Q.out _ (o.trans (l.mono (by have:=u.out;omega)));obtain⟨e0,y,e2,z,B⟩:=R.out _ (o.trans (l.mono (by have:=u.out;omega)));go_simp;(try with_reducible rfl)
    try simp only[Ak,Aj,Aq,Ax]
    refine fW (i:=3) (v:=?vh3) rfl fx fx fx (fun _ _ _ h=>h) rfl (Or.inl ⟨by rfl,?hyh3⟩) e fun e=>?_
    case hyh3=>intro m l;obtain⟨C,G,H,I,J,L⟩:=Q.out _ (o.trans (l.mono (by have:=u.out;omega)));obtain⟨e0,y,e2,z,B⟩:=R.out _ (o.trans (l.mono (by have:=u.out;omega)));go_simp;(try with_reducible rfl)
    try simp only[Ak,Aj,Aq,Ax]
    refine fW (i:=4) (v:=?vh4) rfl fx fx fx (fun _ _ _ h=>h) rfl (Or.inl ⟨by rfl,?hyh4⟩) e fun e=>?_
    case hyh4=>intro m l;obtain⟨C,G,H,I,J,L⟩:=Q.out _ (o.trans (l.mono (by have:=u.out;omega)));obtain⟨e0,y,e2,z,B⟩:=R.out _ (o.trans (l.mono (by have:=u.out;omega)));go_simp;(try with_reducible rfl)
    try simp only[Ak,Aj,Aq,Ax]
    refine fW (i:=5) (v:=?vh5) rfl fx fx fx (fun _ _ _ h=>h) rfl (Or.inl ⟨by rfl,?hyh5⟩) e fun e=>?_
    case hyh5=>intro m l;obtain⟨C,G,H,I,J,L⟩:=Q.out _ (o.trans (l.mono (by have:=u.out;omega)));obtain⟨e0,y,e2,z,B⟩:=R.out _ (o.trans (l.mono (by have:=u.out;omega)));go_simp;(try with_reducible rfl)
    try simp only[Ak,Aj,Aq,Ax]
    refine fW (i:=6) (v:=?vh6) rfl fx fx fx (fun _ _ _ h=>h) rfl (Or.inl ⟨by rfl,?hyh6⟩) e fun e=>?_
    case hyh6=>intro m l;obtain⟨C,G,H,I,J,L⟩:=Q.out _ (o.trans (l.mono (by have:=u.out;omega)));obtain⟨e0,y,e2,z,B⟩:=R.out _ (o.trans (l.mono (by have:=u.out;omega)));go_simp;(try with_reducible rfl)
    try simp only[Ak,Aj,Aq,Ax]
    refine gX (i:=7) fx rfl fun K F=>?_;go_simp;refine(eXw p.J r _ _ _ (aD.C (an.trans (V.mono an.out.size)) (Az _)) (bk.C (an.trans (V.mono an.out.size)) (Az _))).mono ?_;rintro en w4 (⟨cz,_⟩|⟨_,ao,rfl,E⟩|⟨_,P,hs,g,hP,bn,au,rfl,hg,bW,E⟩)
    ·exact gH aJ.out cz
    ·as_aux_lemma=>
     have aw:=fQ (V.trans (E.mono V.out.size));clear E;refine F.out _ _ ⟨aw.out,fun _=>trivial⟩ fun e=>?_;clear F K
     try simp only[Ak,Aj,Aq,Ax]
     refine fW (i:=8) (v:=?vi08) rfl fx fx fx (fun _ _ _ h=>h) rfl (Or.inl ⟨by rfl,?tU⟩) e fun e=>?_
     case tU=>intro m l;go_simp;(try with_reducible rfl)
     try simp only[Ak,Aj,Aq,Ax]
     refine fW (i:=9) (v:=?vi09) rfl fx fx fx (fun _ _ _ h=>h) rfl (Or.inl ⟨by rfl,?ud⟩) e fun e=>?_
     case ud=>intro m l;go_simp;(try with_reducible rfl)
     try simp only[Ak,Aj,Aq,Ax]
     refine fW (i:=10) (v:=?vi010) rfl fx fx fx (fun _ _ _ h=>h) rfl (Or.inl ⟨by rfl,?qe⟩) e fun e=>?_
     case qe=>intro m l;go_simp;(try with_reducible rfl)
     try simp only[Ak,Aj,Aq,Ax]
     refine fW (i:=11) (v:=?vi011) rfl fx fx fx (fun _ _ _ h=>h) rfl (Or.inl ⟨by rfl,?qf⟩) e fun e=>?_
     case qf=>intro m l;go_simp;(try with_reducible rfl)
     try simp only[Ak,Aj,Aq,Ax]
     refine fW (i:=12) (v:=?vi012) rfl fx fx fx (fun _ _ _ h=>h) rfl (Or.inl ⟨by rfl,?qk⟩) e fun e=>?_
     case qk=>intro m l;go_simp;(try with_reducible rfl)
     try simp only[Ak,Aj,Aq,Ax]
     refine jX fx ?_ _;go_wp2_with fail;go_meet;exact⟨_,_,_,_,rfl,rfl,fQ ⟨aw.out,fR ⟨ao,rfl⟩⟩⟩
    ·as_aux_lemma=>
     have aw:=fQ (V.trans (E.mono V.out.size));have bo:=fQ (show IR w4 (fG (fU ⟨g,0,fT⟩) P P) hs from IR.of (gO.kE bW (by simp[au.len])) au.len);clear bW;clear E;refine F.out _ _ ⟨aw.out,fun _=>trivial⟩ fun e=>?_;clear F K
     try simp only[Ak,Aj,Aq,Ax]
     refine fW (i:=8) (v:=?vi18) rfl fx fx fx (fun _ _ _ h=>h) rfl (Or.inl ⟨by rfl,?ue⟩) e fun e=>?_
     case ue=>intro m l;go_simp;(try with_reducible rfl)
     try simp only[Ak,Aj,Aq,Ax]
     refine fW (i:=9) (v:=?vi19) rfl fx fx fx (fun _ _ _ h=>h) rfl (Or.inl ⟨by rfl,?uf⟩) e fun e=>?_
     case uf=>intro m l;go_simp;(try with_reducible rfl)
     try simp only[Ak,Aj,Aq,Ax]
     refine fW (i:=10) (v:=?vi110) rfl fx fx fx (fun _ _ _ h=>h) rfl (Or.inl ⟨by rfl,?qn⟩) e fun e=>?_
     case qn=>intro m l;go_simp;(try with_reducible rfl)
     try simp only[Ak,Aj,Aq,Ax]
     refine fW (i:=11) (v:=?vi111) rfl fx fx fx (fun _ _ _ h=>h) rfl (Or.inl ⟨by rfl,?qp⟩) e fun e=>?_
     case qp=>intro m l;go_simp;(try with_reducible rfl)
     try simp only[Ak,Aj,Aq,Ax]
     refine fW (i:=12) (v:=?vi112) rfl fx fx fx (fun _ _ _ h=>h) rfl (Or.inl ⟨by rfl,?qq⟩) e fun e=>?_
     case qq=>intro m l;go_simp;(try with_reducible rfl)
     try simp only[Ak,Aj,Aq,Ax]
     refine jX fx ?_ _;go_wp2_with fail;go_meet;exact⟨_,_,_,_,rfl,rfl,fQ ⟨aw.out,fS ⟨rfl,P,hs,hP,bn,au,bo.out⟩⟩⟩
   case rest=>
    as_aux_lemma=>
    obtain⟨w4,rfl⟩:∃ w4:Ad,w4=wc:=⟨_,rfl⟩;obtain⟨A,nh,ch,x,rfl,rfl,HU⟩:=hcut;obtain⟨al,D⟩:=HU.out;have aw:=fQ al;have cA:q<=wr.heap.size:=(by have:=u.out;omega);have aK:=fQ (o.trans (al.mono cA));rcases D with⟨ao,rfl⟩|⟨rfl,P,hs,hP,bn,au,bp⟩
    ·have cB:=fQ ao;have ae:=fQ (bV.C al bV.lt);have ax:=fQ (an.trans (al.mono an.out.size));clear al ao;go_upto_region 9 with fail;clear t1 t2 hk aU aF ye;obtain⟨z0,z1,z2,z3,z4,z5⟩:=pQ ae.out;have f0:=ik ae.out 0;have f1:=ik ae.out 1;have f2:=ik ae.out 2;have f3:=ik ae.out 3;have f4:=ik ae.out 4;have f5:=ik ae.out 5;have aE:=fQ (bXy ae.out (fG fT 0 0) (fF fN 0) (fG fT 0 0) (fG fT 0 0) (fH gj) (fG fT 0 0));have ay:=fQ (bYp ax.out (show w.heap.size<=S+1 by have:=a8.out;omega) (fG fT 0 0) (fF fN 0) (fG fT 0 0) (fG fT 0 0) (fH gj) (fG fT 0 0));go_wp2_with fail;refine bodyPost_ret (aJl _ _ (S+1) _ _ _ _ _ _ _ rfl rfl aE.out) rfl ?_;exact fS (fR ⟨ar.out,⟨r,Aw bT.out,cB.out⟩,rfl,ay.out⟩)
    ·have bX:=au.len
     have bY:∀ h∈hs,0<=h/\h<10000:=fun h hh=>by have:=au.ok h hh;omega
     have cC:=fQ (show rI (r,hs)from⟨P,hP,bn,au⟩);have bo:=fQ bp;have cD:=fQ bX;have cE:nh=hs.length:=bp.len;have bZ:=fQ (aWc aJ.out);have cF:=fQ (show ∀ x∈r.params,0<=x/\x<hs.length from fun x D=>by have h1:=vK aJ.pin D;omega)
     have cG:=fQ (show ∀ c∈r.K,(∀ x∈c.args,0<=x/\x<hs.length)/\(∀ x∈c.O,0<=x/\x<hs.length)/\c.args.length<=100/\c.O.length<=100/\c.to.length<=100 from fun c b6=>by
      have h1:=xJ (aJ.K c b6)
      exact⟨fun x D=>by have:=h1.1 x D;omega,fun x D=>by have:=h1.2.1 x D;omega,(aWc aJ.out).2.2.2.2 c b6⟩)
     have cH:=fQ bY;have aq:=fQ (bU.C al bU.lt);have bq:=fQ (iJ cy.out al (Az _));have cI:=(pQ aq.out).2.2.2.2.2;have b7:q<w4.heap.size:=aq.lt;have b8:=fQ b7;have aA:=fQ (show M.heap.size<=w4.heap.size by have:=al.size;omega);have br:=fQ (bZm ct.out al);clear al bp bX hP bY cE b7 au;go_wp2_with fail;clear t1 hk aU;refine jY (fun w'=>Ag q M w') (fun w'=>w'.cell? ⟨q,5,fT⟩=fU (fG Af k cf)) 10 fx (fK aK.out 1) cI fun e=>?_;have V:=fQ (rC w4);refine fW (i:=0) (v:=?vt0) rfl fx fx fx (fun _ _ _ h=>h) rfl (Or.inl ⟨by rfl,?hyt0⟩) e fun e=>?_
     case hyt0=>intro m l;go_simp;(try with_reducible rfl)
     try simp only[Ak,Aj,Aq,Ax]
     refine nY (i:=1) (v:=?vt1) rfl fx fx fx (fun _ _ _ h=>h) rfl fx fx (Or.inl ⟨by rfl,?hyt1⟩) e fun e=>?_
     case hyt1=>intro m l;go_simp;(try with_reducible rfl)
     try simp only[Ak,Aj,Aq,Ax]
     refine fW (i:=2) (v:=?vt2) rfl fx fx fx (fun _ _ _ h=>h) rfl (Or.inl ⟨by rfl,?hyt2⟩) e fun e=>?_
     case hyt2=>intro m l;obtain⟨C,G,H,I,J,L⟩:=Q.out _ (l);obtain⟨e0,y,e2,z,B⟩:=R.out _ (l);go_simp;(try with_reducible rfl)
     try simp only[Ak,Aj,Aq,Ax]
     refine fW (i:=3) (v:=?vt3) rfl fx fx fx (fun _ _ _ h=>h) rfl (Or.inl ⟨by rfl,?hyt3⟩) e fun e=>?_
     case hyt3=>intro m l;obtain⟨C,G,H,I,J,L⟩:=Q.out _ (l);obtain⟨e0,y,e2,z,B⟩:=R.out _ (l);go_simp;(try with_reducible rfl)
     try simp only[Ak,Aj,Aq,Ax]
     refine fW (i:=4) (v:=?vt4) rfl fx fx fx (fun _ _ _ h=>h) rfl (Or.inl ⟨by rfl,?hyt4⟩) e fun e=>?_
     case hyt4=>intro m l;obtain⟨C,G,H,I,J,L⟩:=Q.out _ (l);obtain⟨e0,y,e2,z,B⟩:=R.out _ (l);go_simp;(try with_reducible rfl)
     try simp only[Ak,Aj,Aq,Ax]
     refine fW (i:=5) (v:=?vt5) rfl fx fx fx (fun _ _ _ h=>h) rfl (Or.inl ⟨by rfl,?hyt5⟩) e fun e=>?_
     case hyt5=>intro m l;obtain⟨C,G,H,I,J,L⟩:=Q.out _ (l);obtain⟨e0,y,e2,z,B⟩:=R.out _ (l);go_simp;(try with_reducible rfl)
     try simp only[Ak,Aj,Aq,Ax]
     refine fW (i:=6) (v:=?vt6) rfl fx fx fx (fun _ _ _ h=>h) rfl (Or.inl ⟨by rfl,?hyt6⟩) e fun e=>?_
     case hyt6=>intro m l;obtain⟨C,G,H,I,J,L⟩:=Q.out _ (l);obtain⟨e0,y,e2,z,B⟩:=R.out _ (l);go_simp;(try with_reducible rfl)
     try simp only[Ak,Aj,Aq,Ax]
     refine fW (i:=7) (v:=?vt7) rfl fx fx fx (fun _ _ _ h=>h) rfl (Or.inl ⟨by rfl,?hyt7⟩) e fun e=>?_
     case hyt7=>intro m l;obtain⟨C,G,H,I,J,L⟩:=Q.out _ (l);obtain⟨e0,y,e2,z,B⟩:=R.out _ (l);go_simp;(try with_reducible rfl)
     try simp only[Ak,Aj,Aq,Ax]
     refine gX (i:=8) fx rfl fun K F=>?_;go_simp;refine(dYw w r hs P _ _ _ _ _ _ bk.out (an.trans ((aw.trans (V.mono aw.out.size)).mono an.out.size)) (bo.C V.out (Az _)) cD.out fu cH.out bZ.2.2.2.1 (by have:=bZ.out;omega) cF.out cG.out).mono ?_;rintro en w5 ⟨pT,dT,rfl,oT,cT,E⟩;have ax:=fQ (V.trans (E.mono V.out.size));obtain⟨AT,aL,rfl,_⟩:=fJ oT;obtain⟨cW,rT⟩:=cT.row;rw[AK]at rT;obtain⟨BT,aM,rfl,_⟩:=fJ rT;have cJ:=fQ (show kM w w5 M.heap.size [fG A0 r.a2.a1.length c0,fG A1 r.a2.out.length c1,fF fN (rX hs),fG AT r.params.length aL,fG BT r.K.length aM] r hs from⟨_,_,_,_,_,_,_,rfl,bk.out,iQ oT aA.out,cT.mono aA.out⟩);have bs:=fQ (bZm br.out ax.out);have b9:=fQ (aK.trans (ax.mono (by have:=b8.out;omega)));have bt:=fQ (aq.C ax.out aq.lt);have cK:=fQ (iJ bq.out ax.out (Az _));clear oT cT rT E;refine F.out _ _ ⟨b9.out,fun _=>(pQ bt.out).2.2.2.2.2⟩ fun e=>?_;clear F K
     try simp only[Ak,Aj,Aq,Ax]
     refine gX (i:=9) fx rfl fun K F=>?_;refine dYs rfl (.tmp 45) rfl (v0:=fG A0 r.a2.a1.length c0) (v1:=fG A1 r.a2.out.length c1) (v2:=fF fN (rX hs)) (v3:=fG AT r.params.length aL) (v4:=fG BT r.K.length aM) rfl ?_;have U:=(Ay w5.heap.size w5).alloc (Az _) (fO #[fG A0 r.a2.a1.length c0,fG A1 r.a2.out.length c1,fF fN (rX hs),fG AT r.params.length aL,fG BT r.K.length aM] 89);have bu:=fQ (b9.trans (U.mono (by have:=ax.out.size;have:=b8.out;omega)));have aW:=fQ (bt.C U bt.lt);have aX:=fQ (iJ cK.out U (Az _));have bw:=fQ (show M.heap.size<=w5.heap.size by have:=ax.out.size;have:=aA.out;omega);have bz:=fQ U.size;have bB:=fQ (cJ.far (r7 U) (fun _ _ _ _ _=>fz));have bC:=fQ (bZm bs.out U);clear U;refine F.out _ _ ⟨bu.out,fun _=>(pQ aW.out).2.2.2.2.2⟩ fun e=>?_;clear F K
     try simp only[Ak,Aj,Aq,Ax]
     refine gX (i:=10) fx rfl fun K F=>?_;refine step_append_lies _ (by rfl) (.tmp 38) (.tmp 46) 27 (by rfl) M.heap.size 89 ic _ 5 104 underlying27 cm cn cp cq (by rfl) fu (.slice Af k cf) k xs (by go_simp) aX.out ⟨w5.heap.size,0,fT⟩ 1 1 [fG A0 r.a2.a1.length c0,fG A1 r.a2.out.length c1,fF fN (rX hs),fG AT r.params.length aL,fG BT r.K.length aM] (by go_simp) (by rfl) (World.news_of_block (cs:=#[fG A0 r.a2.a1.length c0,fG A1 r.a2.out.length c1,fF fN (rX hs),fG AT r.params.length aL,fG BT r.K.length aM]) (t:=89) (fr:=(0,0)) (gO.X _ _ _ rfl)) (fQj _ _ _ _ _ rfl rfl rfl rfl rfl) fu (by unfold maxLen;omega) fu (by have:=bw.out;have:=bz.out;omega) _ rfl ?_;intro gg cap w9 aN aY cL cX;have aZ:=aW.grown aY (iZ aX.out aW.out fy);have d5:=(pQ aZ).2.2.2.2.2;have cY:=ik aZ 5;have ca:=fQ (oQ bu.out aY (by have:=bw.out;have:=bz.out;have:=u.out;omega) (fun j hj=>by have:=(aX.lt j hj).1;have:=u.out;omega));have cM:=fQ (tS.push (x:=(r,hs)) aW.out (by rw[bg.out,bP.out];exact aX.out) (by rw[bg.out];exact cr.out) bC.out bu.out (by have:=u.out;omega) (by have:=bw.out;have:=bz.out;omega) bB.out (by rw[bg.out,bP.out];exact aN) aY);clear aN aY cL aZ;refine F.out _ _ (SD.after ca.out fx) fun e=>?_;clear F K
     try simp only[Ak,Aj,Aq,Ax]
     refine fW (i:=11) (v:=?vu11) rfl fx fx fx (fun _ _ _ h=>h) rfl (Or.inl ⟨by rfl,?ug⟩) e fun e=>?_
     case ug=>intro m l;go_simp;(try with_reducible rfl)
     try simp only[Ak,Aj,Aq,Ax]
     refine gX (i:=12) fx rfl fun K F=>?_;go_simp;refine F.out _ _ (SD.after (ca.setCell (p:=⟨q,5,fT⟩) (Az _) _) fx) fun e=>?_;clear F K
     try simp only[Ak,Aj,Aq,Ax]
     refine jX fx ?_ _;go_wp2_with fail
     exact⟨⟨k+1,fu,fz,fQ ⟨_,cYq bQ.out bT.out,fun x D=>(by
      rcases List.mem_append.1 D with D|D
      ·exact bj.out x D
      ·rw[List.mem_singleton.1 D];exact cC.out),cM.out⟩⟩,fB⟩
  ·have t1:decide ((k:Int)<n)=gj:=fw;have bD:k=n:=fu;subst bD;obtain⟨b0,b1,b2,b3,b4,b5⟩:=pQ kb;obtain⟨z0,z1,z2,z3,z4,z5⟩:=pQ O;have f0:=ik O 0;have f1:=ik O 1;have f2:=ik O 2;have f3:=ik O 3;have f4:=ik O 4;have f5:=ik O 5;have aE:=fQ (bXy O (fG W LS Y) (fF fN im) (fG Z LG bc) (fG dA LM dc) (fH mm) (fG Af k cf));have ay:=fQ (bYp an.out (show w.heap.size<=S+1 by have:=a8.out;omega) (fG W LS Y) (fF fN im) (fG Z LG bc) (fG dA LM dc) (fH mm) (fG Af k cf));have a1:=fQ (show X.map Prod.fst=p.b0 by rw[bQ.out,<-HN.out];exact List.take_length);have cN:=fQ (cv.fYy O (fG W LS Y) (fF fN im) (fG Z LG bc) (fG dA LM dc) (fH mm) (fG Af k cf));clear kb of E IU O aT;go_upto_region 11 with fail;clear t1 hk aU aF e0 y e2 z B C ye;go_wp2_with fail;refine bodyPost_ret (aJl _ _ (S+1) _ _ _ _ _ _ _ rfl rfl aE.out) rfl ?_
   have cO:X.length<=100000:=by
    have h1:=gG Ab a1.out;have h2:=kY ar.J;have h3:=ar.len;rw[AK]at h1;omega
   have cP:∀ x∈X,iq p.J x.1:=fun x D=>by
    have cQ:x.1∈p.b0:=(by rw[<-a1.out];exact List.mem_map_of_mem D);obtain⟨i,hi⟩:=List.mem_iff_getElem?.1 cQ;exact(ar.row i _ hi).1
   refine fS (fS ⟨ar.out,fun r hr=>?_,X,_,rfl,a1.out,bj.out,?_,ay.out⟩)
   ·rw[<-a1.out]at hr;obtain⟨x,D,rfl⟩:=List.mem_map.1 hr;obtain⟨P,h1,h2,_⟩:=bj.out x D;omega
   ·exact dYr (aD.C ay.out (Az _)) (cN.structs ay.out (by have:=aQ.out.size;omega) cO cP)
theorem eJh(p:hU)(vp:Ae)(s:gT)(vs:Ae)(n:Int)(va:Ae)(args:List Nat)(lost:Nat)(w:Ad)(hv:jf w vp p)(hs:kf w vs s)(ha:UR w va args)(hn : -9223372036854775808<=n/\n<=9223372036854775807)(aS:lost<=1000):
  Calls fZ 43 #[vp,vs,fF fN n,va,fF fN lost] w (aWw p s n args lost w):=by
 have aw:=hv;have aT:=hs;obtain⟨p0,p2,p3,p5,rfl,h1,h2,h3,h4⟩:=hv;obtain⟨s0,s2,s4,s5,rfl,k1,k2,k3,k4⟩:=hs;obtain⟨Aa,ca,rfl⟩:=ha.I;obtain⟨m,hm⟩:=fX args.length;rw[hm]at ha ⊢;have HE:=fQ (show iG w (fM #[p0,fF fN p.J.G,p2,p3,fH p.J.L]) p.J from aw.J);obtain⟨sA,sc,rfl,_,bj,_⟩:=h1.len;obtain⟨L,hL⟩:=fX p.J.R.length;rw[hL]at h1 bj aw HE ⊢;have HV:=fQ aw;have T:=fQ aT;have H1:=fQ h1;have H4:=fQ h4;have HA:=fQ ha;have HL:=fQ hL;obtain⟨P2,b2,rfl⟩:=h2.I;obtain⟨P3,b3,rfl⟩:=bXt h3;obtain⟨P5,b5,rfl,_⟩:=h4.len;obtain⟨t,u,rfl⟩:=k1.I;obtain⟨x,o,rfl⟩:=k2.I;obtain⟨y,z,rfl⟩:=k3.I;obtain⟨A,C,rfl⟩:=k4.I
 have B0:=fQ (show qd w (fG sA L sc) (fF fN p.J.G) (fG P2 p.J.E.length b2) (fG P3 p.J.a3.length b3) (fH p.J.L) (fG P5 p.b0.length b5) (fG t s.L.length u) (fF fN s.Y) (fG x s.E.length o) (fF fN s.U) (fG y s.input.length z) (fG A s.a0.length C) (((w.alloc (fO #[fG sA L sc,fF fN p.J.G,(fG P2 p.J.E.length b2),(fG P3 p.J.a3.length b3),fH p.J.L,(fG P5 p.b0.length b5)] 29)).alloc (fO #[(fG t s.L.length u),fF fN s.Y,(fG x s.E.length o),fF fN s.U,(fG y s.input.length z),(fG A s.a0.length C)] 33)).alloc (fO #[fG fT 0 0,fF fN 0,fG fT 0 0,fF fN 0,fG fT 0 0,fG fT 0 0] 33))from
  ⟨gO.alloc (gO.alloc (gO.a4 _ _ _) _) _,gO.alloc (gO.X _ _ _ fz) _,gO.X _ _ _ fz,(((Ay _ _).alloc (Az _) _).alloc fz _).alloc fw _⟩)
 clear h1 h2 h3 h4 k1 k2 k3 k4 ha hm aw aT hL;go_in;go_wp2_with fail;refine(bKg p _ _ (HV.C B0.b (Az _))).mono ?_;rintro en w1 ⟨b1,rfl,aU,aV⟩;have E:=fQ (B0.C aV);have aB:=fQ aU;clear aU aV B0;cases b1
 ·as_aux_lemma=>
  obtain⟨U,V,W,X,Y,Z⟩:=iY E.kp;obtain⟨G,H,I,J,M,O⟩:=iY E.ks;have yp:=E.kp.lt;have Q:=E.ks.lt;obtain⟨q0,q1,q2,q3,q4,q5⟩:=iY E.kz;have yz:=E.kz.lt;have f0:=ik E.kz 0;have f1:=ik E.kz 1;have f2:=ik E.kz 2;have f3:=ik E.kz 3;have f4:=ik E.kz 4;have f5:=ik E.kz 5;have af:=fQ (tQ E.kz.drew (fG t s.L.length u) (fF fN s.Y) (fG x s.E.length o) (fF fN s.U) (fG y s.input.length z) (fG A s.a0.length C));have R:=fQ (tJ E.b.drew (show w.heap.size<=w.heap.size+1+1 by omega) (fG t s.L.length u) (fF fN s.Y) (fG x s.E.length o) (fF fN s.U) (fG y s.input.length z) (fG A s.a0.length C));go_wp2_with fail;refine jY (fun _=>True) (fun w'=>w'.cell? ⟨w.heap.size+1,0,fT⟩=fU (fG t s.L.length u)/\w'.cell? ⟨w.heap.size+1,1,fT⟩=fU (fF fN s.Y)/\w'.cell? ⟨w.heap.size+1,2,fT⟩=fU (fG x s.E.length o)/\w'.cell? ⟨w.heap.size+1,3,fT⟩=fU (fF fN s.U)/\w'.cell? ⟨w.heap.size+1,4,fT⟩=fU (fG y s.input.length z)/\w'.cell? ⟨w.heap.size+1,5,fT⟩=fU (fG A s.a0.length C)/\w.heap.size+1<w'.heap.size) 2 fx trivial ⟨G,H,I,J,M,O,Q⟩ fun c=>?_;refine nY (i:=0) (v:=?veb0) rfl fx fx fx (fun _ _ _ h=>h) rfl fx fx (Or.inl ⟨by rfl,?uh⟩) c fun c=>?_
  case uh=>intro w F;(try dsimp only at F);go_simp;(try with_reducible rfl)
  try simp only[Ak,Aj,Aq,Ax]
  refine ig 1 c fun c=>?_;refine gX (i:=2) fx rfl fun K k=>?_;refine yY rfl (po:=.tmp 11) (vo:=.tmp 25) rfl rfl rfl E.kz.drew ?_;refine k.out _ _ (SD.after trivial rfl) fun c=>?_;clear k K
  try simp only[Ak,Ax]
  refine fW (i:=3) (v:=?veb3) rfl fx fx fx (fun _ _ _ h=>h) rfl (Or.inl ⟨by rfl,?ui⟩) c fun c=>?_
  case ui=>intro w F;clear F;go_simp;(try with_reducible rfl)
  try simp only[Ak,Aj,Aq,Ax]
  refine jX fx ?_ _;clear c U V W X Y Z G H I J M O q0 q1 q2 q3 q4 q5 f0 f1 f2 f3 f4 f5 yp Q yz;obtain⟨wz,D⟩:=fX (((((((w1.drew.setCell ⟨w.heap.size+1+1,0,fT⟩ (fG t s.L.length u)).setCell ⟨w.heap.size+1+1,1,fT⟩ (fF fN s.Y)).setCell ⟨w.heap.size+1+1,2,fT⟩ (fG x s.E.length o)).setCell ⟨w.heap.size+1+1,3,fT⟩ (fF fN s.U)).setCell ⟨w.heap.size+1+1,4,fT⟩ (fG y s.input.length z)).setCell ⟨w.heap.size+1+1,5,fT⟩ (fG A s.a0.length C)));rw[D]at af R ⊢;clear D;go_wp2_with fail;refine bodyPost_ret (xX _ _ (w.heap.size+1+1) _ _ _ _ _ _ _ _ rfl rfl rfl af.out) rfl ?_;exact⟨[],s,6,_,_,.form (fun h=>(by have:=aB.2 h.1;cases this)),rfl,tO _,T.C R.out (Az _),R.out⟩
 have HP:=fQ (aB.1 rfl);clear aB;obtain⟨U,V,W,X,Y,Z⟩:=iY E.kp;obtain⟨G,H,I,J,M,O⟩:=iY E.ks;have yp:=E.kp.lt;have Q:=E.ks.lt;go_wp2_with fail;refine(dKs _ _ p.J s _ (HE.C E.b (Az _)) (T.C E.b (Az _)) (sF HP.J)).mono ?_;rintro en w2 ⟨b2,rfl,aW,aX⟩;have f:=fQ (E.C aX);have aC:=fQ aW;clear aW aX E U V W X Y Z G H I J M O yp Q;cases b2
 ·as_aux_lemma=>
  obtain⟨U,V,W,X,Y,Z⟩:=iY f.kp;obtain⟨G,H,I,J,M,O⟩:=iY f.ks;have yp:=f.kp.lt;have Q:=f.ks.lt;obtain⟨q0,q1,q2,q3,q4,q5⟩:=iY f.kz;have yz:=f.kz.lt;have f0:=ik f.kz 0;have f1:=ik f.kz 1;have f2:=ik f.kz 2;have f3:=ik f.kz 3;have f4:=ik f.kz 4;have f5:=ik f.kz 5;have af:=fQ (tQ f.kz.drew (fG t s.L.length u) (fF fN s.Y) (fG x s.E.length o) (fF fN s.U) (fG y s.input.length z) (fG A s.a0.length C));have R:=fQ (tJ f.b.drew (show w.heap.size<=w.heap.size+1+1 by omega) (fG t s.L.length u) (fF fN s.Y) (fG x s.E.length o) (fF fN s.U) (fG y s.input.length z) (fG A s.a0.length C));go_wp2_with fail;refine jY (fun _=>True) (fun w'=>w'.cell? ⟨w.heap.size+1,0,fT⟩=fU (fG t s.L.length u)/\w'.cell? ⟨w.heap.size+1,1,fT⟩=fU (fF fN s.Y)/\w'.cell? ⟨w.heap.size+1,2,fT⟩=fU (fG x s.E.length o)/\w'.cell? ⟨w.heap.size+1,3,fT⟩=fU (fF fN s.U)/\w'.cell? ⟨w.heap.size+1,4,fT⟩=fU (fG y s.input.length z)/\w'.cell? ⟨w.heap.size+1,5,fT⟩=fU (fG A s.a0.length C)/\w.heap.size+1<w'.heap.size) 2 fx trivial ⟨G,H,I,J,M,O,Q⟩ fun c=>?_;refine nY (i:=0) (v:=?vec0) rfl fx fx fx (fun _ _ _ h=>h) rfl fx fx (Or.inl ⟨by rfl,?uj⟩) c fun c=>?_
  case uj=>intro w F;(try dsimp only at F);go_simp;(try with_reducible rfl)
  try simp only[Ak,Aj,Aq,Ax]
  refine ig 1 c fun c=>?_;refine gX (i:=2) fx rfl fun K k=>?_;refine yY rfl (po:=.tmp 11) (vo:=.tmp 25) rfl rfl rfl f.kz.drew ?_;refine k.out _ _ (SD.after trivial rfl) fun c=>?_;clear k K
  try simp only[Ak,Ax]
  refine fW (i:=3) (v:=?vec3) rfl fx fx fx (fun _ _ _ h=>h) rfl (Or.inl ⟨by rfl,?uk⟩) c fun c=>?_
  case uk=>intro w F;clear F;go_simp;(try with_reducible rfl)
  try simp only[Ak,Aj,Aq,Ax]
  refine jX fx ?_ _;clear c U V W X Y Z G H I J M O q0 q1 q2 q3 q4 q5 f0 f1 f2 f3 f4 f5 yp Q yz;obtain⟨wz,D⟩:=fX (((((((w2.drew.setCell ⟨w.heap.size+1+1,0,fT⟩ (fG t s.L.length u)).setCell ⟨w.heap.size+1+1,1,fT⟩ (fF fN s.Y)).setCell ⟨w.heap.size+1+1,2,fT⟩ (fG x s.E.length o)).setCell ⟨w.heap.size+1+1,3,fT⟩ (fF fN s.U)).setCell ⟨w.heap.size+1+1,4,fT⟩ (fG y s.input.length z)).setCell ⟨w.heap.size+1+1,5,fT⟩ (fG A s.a0.length C)));rw[D]at af R ⊢;clear D;go_wp2_with fail;refine bodyPost_ret (xX _ _ (w.heap.size+1+1) _ _ _ _ _ _ _ _ rfl rfl rfl af.out) rfl ?_;exact⟨[],s,6,_,_,.form (fun h=>(by have:=aC.2 h.2;cases this)),rfl,tO _,T.C R.out (Az _),R.out⟩
 have HF:=fQ (aC.1 rfl);clear aC;by_cases aD:n<0
 ·as_aux_lemma=>
  obtain⟨U,V,W,X,Y,Z⟩:=iY f.kp;obtain⟨G,H,I,J,M,O⟩:=iY f.ks;have yp:=f.kp.lt;have Q:=f.ks.lt;obtain⟨q0,q1,q2,q3,q4,q5⟩:=iY f.kz;have yz:=f.kz.lt;have f0:=ik f.kz 0;have f1:=ik f.kz 1;have f2:=ik f.kz 2;have f3:=ik f.kz 3;have f4:=ik f.kz 4;have f5:=ik f.kz 5;have af:=fQ (tQ f.kz.drew (fG t s.L.length u) (fF fN s.Y) (fG x s.E.length o) (fF fN s.U) (fG y s.input.length z) (fG A s.a0.length C));have R:=fQ (tJ f.b.drew (show w.heap.size<=w.heap.size+1+1 by omega) (fG t s.L.length u) (fF fN s.Y) (fG x s.E.length o) (fF fN s.U) (fG y s.input.length z) (fG A s.a0.length C));go_wp2_with fail;refine jY (fun _=>True) (fun w'=>w'.cell? ⟨w.heap.size+1,0,fT⟩=fU (fG t s.L.length u)/\w'.cell? ⟨w.heap.size+1,1,fT⟩=fU (fF fN s.Y)/\w'.cell? ⟨w.heap.size+1,2,fT⟩=fU (fG x s.E.length o)/\w'.cell? ⟨w.heap.size+1,3,fT⟩=fU (fF fN s.U)/\w'.cell? ⟨w.heap.size+1,4,fT⟩=fU (fG y s.input.length z)/\w'.cell? ⟨w.heap.size+1,5,fT⟩=fU (fG A s.a0.length C)/\w.heap.size+1<w'.heap.size) 2 fx trivial ⟨G,H,I,J,M,O,Q⟩ fun c=>?_;refine nY (i:=0) (v:=?ved0) rfl fx fx fx (fun _ _ _ h=>h) rfl fx fx (Or.inl ⟨by rfl,?um⟩) c fun c=>?_
  case um=>intro w F;(try dsimp only at F);go_simp;(try with_reducible rfl)
  try simp only[Ak,Aj,Aq,Ax]
  refine ig 1 c fun c=>?_;refine gX (i:=2) fx rfl fun K k=>?_;refine yY rfl (po:=.tmp 11) (vo:=.tmp 48) rfl rfl rfl f.kz.drew ?_;refine k.out _ _ (SD.after trivial rfl) fun c=>?_;clear k K
  try simp only[Ak,Ax]
  refine fW (i:=3) (v:=?ved3) rfl fx fx fx (fun _ _ _ h=>h) rfl (Or.inl ⟨by rfl,?uo⟩) c fun c=>?_
  case uo=>intro w F;clear F;go_simp;(try with_reducible rfl)
  try simp only[Ak,Aj,Aq,Ax]
  refine jX fx ?_ _;clear c U V W X Y Z G H I J M O q0 q1 q2 q3 q4 q5 f0 f1 f2 f3 f4 f5 yp Q yz;obtain⟨wz,D⟩:=fX (((((((w2.drew.setCell ⟨w.heap.size+1+1,0,fT⟩ (fG t s.L.length u)).setCell ⟨w.heap.size+1+1,1,fT⟩ (fF fN s.Y)).setCell ⟨w.heap.size+1+1,2,fT⟩ (fG x s.E.length o)).setCell ⟨w.heap.size+1+1,3,fT⟩ (fF fN s.U)).setCell ⟨w.heap.size+1+1,4,fT⟩ (fG y s.input.length z)).setCell ⟨w.heap.size+1+1,5,fT⟩ (fG A s.a0.length C)));rw[D]at af R ⊢;clear D;go_wp2_with fail;refine bodyPost_ret (xX _ _ (w.heap.size+1+1) _ _ _ _ _ _ _ _ rfl rfl rfl af.out) rfl ?_;exact⟨[],s,1,_,_,.arg HP.out HF.out (fun h=>(by have:=h.1;omega)),rfl,tO _,T.C R.out (Az _),R.out⟩
 have t0:decide (n<0)=gj:=(by simpa using aD);obtain⟨N,rfl⟩:∃ N:Nat,n=N:=⟨n.toNat,fu⟩;clear aD t0;by_cases bP:L<=N
 ·as_aux_lemma=>
  obtain⟨U,V,W,X,Y,Z⟩:=iY f.kp;obtain⟨G,H,I,J,M,O⟩:=iY f.ks;have yp:=f.kp.lt;have Q:=f.ks.lt;obtain⟨q0,q1,q2,q3,q4,q5⟩:=iY f.kz;have yz:=f.kz.lt;have f0:=ik f.kz 0;have f1:=ik f.kz 1;have f2:=ik f.kz 2;have f3:=ik f.kz 3;have f4:=ik f.kz 4;have f5:=ik f.kz 5;have af:=fQ (tQ f.kz.drew (fG t s.L.length u) (fF fN s.Y) (fG x s.E.length o) (fF fN s.U) (fG y s.input.length z) (fG A s.a0.length C));have R:=fQ (tJ f.b.drew (show w.heap.size<=w.heap.size+1+1 by omega) (fG t s.L.length u) (fF fN s.Y) (fG x s.E.length o) (fF fN s.U) (fG y s.input.length z) (fG A s.a0.length C));go_wp2_with fail;refine jY (fun _=>True) (fun w'=>w'.cell? ⟨w.heap.size+1,0,fT⟩=fU (fG t s.L.length u)/\w'.cell? ⟨w.heap.size+1,1,fT⟩=fU (fF fN s.Y)/\w'.cell? ⟨w.heap.size+1,2,fT⟩=fU (fG x s.E.length o)/\w'.cell? ⟨w.heap.size+1,3,fT⟩=fU (fF fN s.U)/\w'.cell? ⟨w.heap.size+1,4,fT⟩=fU (fG y s.input.length z)/\w'.cell? ⟨w.heap.size+1,5,fT⟩=fU (fG A s.a0.length C)/\w.heap.size+1<w'.heap.size) 2 fx trivial ⟨G,H,I,J,M,O,Q⟩ fun c=>?_;refine nY (i:=0) (v:=?vee0) rfl fx fx fx (fun _ _ _ h=>h) rfl fx fx (Or.inl ⟨by rfl,?uq⟩) c fun c=>?_
  case uq=>intro w F;(try dsimp only at F);go_simp;(try with_reducible rfl)
  try simp only[Ak,Aj,Aq,Ax]
  refine ig 1 c fun c=>?_;refine gX (i:=2) fx rfl fun K k=>?_;refine yY rfl (po:=.tmp 11) (vo:=.tmp 48) rfl rfl rfl f.kz.drew ?_;refine k.out _ _ (SD.after trivial rfl) fun c=>?_;clear k K
  try simp only[Ak,Ax]
  refine fW (i:=3) (v:=?vee3) rfl fx fx fx (fun _ _ _ h=>h) rfl (Or.inl ⟨by rfl,?uu⟩) c fun c=>?_
  case uu=>intro w F;clear F;go_simp;(try with_reducible rfl)
  try simp only[Ak,Aj,Aq,Ax]
  refine jX fx ?_ _;clear c U V W X Y Z G H I J M O q0 q1 q2 q3 q4 q5 f0 f1 f2 f3 f4 f5 yp Q yz;obtain⟨wz,D⟩:=fX (((((((w2.drew.setCell ⟨w.heap.size+1+1,0,fT⟩ (fG t s.L.length u)).setCell ⟨w.heap.size+1+1,1,fT⟩ (fF fN s.Y)).setCell ⟨w.heap.size+1+1,2,fT⟩ (fG x s.E.length o)).setCell ⟨w.heap.size+1+1,3,fT⟩ (fF fN s.U)).setCell ⟨w.heap.size+1+1,4,fT⟩ (fG y s.input.length z)).setCell ⟨w.heap.size+1+1,5,fT⟩ (fG A s.a0.length C)));rw[D]at af R ⊢;clear D;go_wp2_with fail;refine bodyPost_ret (xX _ _ (w.heap.size+1+1) _ _ _ _ _ _ _ _ rfl rfl rfl af.out) rfl ?_;exact⟨[],s,1,_,_,.arg HP.out HF.out (fun h=>(by have:=h.2.1;rw[HL.out]at this;omega)),rfl,tO _,T.C R.out (Az _),R.out⟩
 have t1:decide ((L:Int)<=(N:Int))=gj:=fw;obtain⟨g,hg⟩:∃ g,p.J.R[N]? = fU g:=⟨_,Av (by have:=HL.out;omega)⟩;have t2:(N:Int)<L:=fu;obtain⟨sb,so,u0,u1,rfl,aE,g5,g6,i5,i6⟩:=H1.a2 hg;replace g5:=(f.b.cell (p:=⟨sb,_,fT⟩) aE).trans g5;have bk:=AW aE f.b.size;obtain⟨U0,c0,rfl⟩:=i5.I;have HG:=fQ hg;have bm:=fQ (i5.ir.C f.b (Az _));clear hg aE g6 i5 i6;obtain⟨U,V,W,X,Y,Z⟩:=iY f.kp;obtain⟨G,H,I,J,M,O⟩:=iY f.ks;have yp:=f.kp.lt;have Q:=f.ks.lt;have t3:decide ((N:Int)<0)=gj:=fz;go_wp2_with fail;refine(dKq _ _ g.a1 args _ bm.out (HA.C f.b (Az _)) (by have:=(tN HP.J HG.out).1;omega)).mono ?_;rintro en w3 ⟨b3,rfl,aY,aZ⟩;have r:=fQ (f.C aZ);have aF:=fQ aY;clear aY aZ f U V W X Y Z G H I J M O yp Q g5 bk t1 t2 t3;cases b3
 ·as_aux_lemma=>
  obtain⟨U,V,W,X,Y,Z⟩:=iY r.kp;obtain⟨G,H,I,J,M,O⟩:=iY r.ks;have yp:=r.kp.lt;have Q:=r.ks.lt;obtain⟨q0,q1,q2,q3,q4,q5⟩:=iY r.kz;have yz:=r.kz.lt;have f0:=ik r.kz 0;have f1:=ik r.kz 1;have f2:=ik r.kz 2;have f3:=ik r.kz 3;have f4:=ik r.kz 4;have f5:=ik r.kz 5;have af:=fQ (tQ r.kz.drew (fG t s.L.length u) (fF fN s.Y) (fG x s.E.length o) (fF fN s.U) (fG y s.input.length z) (fG A s.a0.length C));have R:=fQ (tJ r.b.drew (show w.heap.size<=w.heap.size+1+1 by omega) (fG t s.L.length u) (fF fN s.Y) (fG x s.E.length o) (fF fN s.U) (fG y s.input.length z) (fG A s.a0.length C));go_wp2_with fail;refine jY (fun _=>True) (fun w'=>w'.cell? ⟨w.heap.size+1,0,fT⟩=fU (fG t s.L.length u)/\w'.cell? ⟨w.heap.size+1,1,fT⟩=fU (fF fN s.Y)/\w'.cell? ⟨w.heap.size+1,2,fT⟩=fU (fG x s.E.length o)/\w'.cell? ⟨w.heap.size+1,3,fT⟩=fU (fF fN s.U)/\w'.cell? ⟨w.heap.size+1,4,fT⟩=fU (fG y s.input.length z)/\w'.cell? ⟨w.heap.size+1,5,fT⟩=fU (fG A s.a0.length C)/\w.heap.size+1<w'.heap.size) 2 fx trivial ⟨G,H,I,J,M,O,Q⟩ fun c=>?_;refine nY (i:=0) (v:=?vef0) rfl fx fx fx (fun _ _ _ h=>h) rfl fx fx (Or.inl ⟨by rfl,?uv⟩) c fun c=>?_
  case uv=>intro w F;(try dsimp only at F);go_simp;(try with_reducible rfl)
  try simp only[Ak,Aj,Aq,Ax]
  refine ig 1 c fun c=>?_;refine gX (i:=2) fx rfl fun K k=>?_;refine yY rfl (po:=.tmp 11) (vo:=.tmp 48) rfl rfl rfl r.kz.drew ?_;refine k.out _ _ (SD.after trivial rfl) fun c=>?_;clear k K
  try simp only[Ak,Ax]
  refine fW (i:=3) (v:=?vef3) rfl fx fx fx (fun _ _ _ h=>h) rfl (Or.inl ⟨by rfl,?uw⟩) c fun c=>?_
  case uw=>intro w F;clear F;go_simp;(try with_reducible rfl)
  try simp only[Ak,Aj,Aq,Ax]
  refine jX fx ?_ _;clear c U V W X Y Z G H I J M O q0 q1 q2 q3 q4 q5 f0 f1 f2 f3 f4 f5 yp Q yz;obtain⟨wz,D⟩:=fX (((((((w3.drew.setCell ⟨w.heap.size+1+1,0,fT⟩ (fG t s.L.length u)).setCell ⟨w.heap.size+1+1,1,fT⟩ (fF fN s.Y)).setCell ⟨w.heap.size+1+1,2,fT⟩ (fG x s.E.length o)).setCell ⟨w.heap.size+1+1,3,fT⟩ (fF fN s.U)).setCell ⟨w.heap.size+1+1,4,fT⟩ (fG y s.input.length z)).setCell ⟨w.heap.size+1+1,5,fT⟩ (fG A s.a0.length C)));rw[D]at af R ⊢;clear D;go_wp2_with fail;refine bodyPost_ret (xX _ _ (w.heap.size+1+1) _ _ _ _ _ _ _ _ rfl rfl rfl af.out) rfl ?_;exact⟨[],s,1,_,_,.arg HP.out HF.out (fun h=>(by have:=aF.2 (h.2.2 g HG.out);cases this)),rfl,tO _,T.C R.out (Az _),R.out⟩
 have a6:=fQ (aF.1 rfl);clear aF;obtain⟨U,V,W,X,Y,Z⟩:=iY r.kp;obtain⟨G,H,I,J,M,O⟩:=iY r.ks;have yp:=r.kp.lt;have Q:=r.ks.lt
 have ai:=fQ (fun(w':Ad) (hb:Ag w3.heap.size w3 w')=>show w'.cell? ⟨w.heap.size,0,fT⟩=fU (fG (fU ⟨sb,so,fT⟩) L sc)/\w'.cell? ⟨w.heap.size,1,fT⟩=fU (fF fN p.J.G)/\w'.cell? ⟨w.heap.size,2,fT⟩=fU (fG P2 p.J.E.length b2)/\w'.cell? ⟨w.heap.size,3,fT⟩=fU (fG P3 p.J.a3.length b3)/\w'.cell? ⟨w.heap.size,4,fT⟩=fU (fH p.J.L)/\w'.cell? ⟨w.heap.size,5,fT⟩=fU (fG P5 p.b0.length b5)/\w'.cell? ⟨w.heap.size+1,0,fT⟩=fU (fG t s.L.length u)/\w'.cell? ⟨w.heap.size+1,1,fT⟩=fU (fF fN s.Y)/\w'.cell? ⟨w.heap.size+1,2,fT⟩=fU (fG x s.E.length o)/\w'.cell? ⟨w.heap.size+1,3,fT⟩=fU (fF fN s.U)/\w'.cell? ⟨w.heap.size+1,4,fT⟩=fU (fG y s.input.length z)/\w'.cell? ⟨w.heap.size+1,5,fT⟩=fU (fG A s.a0.length C)/\w.heap.size<w'.heap.size/\w.heap.size+1<w'.heap.size from
  let B:=r.C hb
  let P:=iY B.kp
  let S:=iY B.ks
  ⟨P.1,P.2.1,P.2.2.1,P.2.2.2.1,P.2.2.2.2.1,P.2.2.2.2.2,S.1,S.2.1,S.2.2.1,S.2.2.2.1,S.2.2.2.2.1,S.2.2.2.2.2,B.kp.lt,B.ks.lt⟩)
 have CC:=fQ (fun(w':Ad) (hb:Ag w3.heap.size w3 w')=>dKp _ s w' (T.C (r.C hb).b (Az _)));go_upto_region 5 with fail;go_cut [13] (fun bn wx=>MkR w p s lost (fG (fU ⟨sb,so,fT⟩) L sc) (fG P2 p.J.E.length b2) (fG P3 p.J.a3.length b3) (fG P5 p.b0.length b5) (fG t s.L.length u) (fG x s.E.length o) (fG y s.input.length z) (fG A s.a0.length C) bn wx)
 case first=>
  go_wp2_with fail;refine jY (fun w'=>w'.cell? ⟨w.heap.size,0,fT⟩=fU (fG (fU ⟨sb,so,fT⟩) L sc)/\w'.cell? ⟨w.heap.size,1,fT⟩=fU (fF fN p.J.G)/\w'.cell? ⟨w.heap.size,2,fT⟩=fU (fG P2 p.J.E.length b2)/\w'.cell? ⟨w.heap.size,3,fT⟩=fU (fG P3 p.J.a3.length b3)/\w'.cell? ⟨w.heap.size,4,fT⟩=fU (fH p.J.L)/\w'.cell? ⟨w.heap.size,5,fT⟩=fU (fG P5 p.b0.length b5)/\w'.cell? ⟨w.heap.size+1,0,fT⟩=fU (fG t s.L.length u)/\w'.cell? ⟨w.heap.size+1,1,fT⟩=fU (fF fN s.Y)/\w'.cell? ⟨w.heap.size+1,2,fT⟩=fU (fG x s.E.length o)/\w'.cell? ⟨w.heap.size+1,3,fT⟩=fU (fF fN s.U)/\w'.cell? ⟨w.heap.size+1,4,fT⟩=fU (fG y s.input.length z)/\w'.cell? ⟨w.heap.size+1,5,fT⟩=fU (fG A s.a0.length C)/\w.heap.size<w'.heap.size/\w.heap.size+1<w'.heap.size) (fun _=>True) 1000 fx (ai.out _ (jZ w3)) trivial fun c=>?_;refine ig 0 c fun c=>?_;refine ig 1 c fun c=>?_;refine ig 3 c fun c=>?_;refine cWw (i:=2) (j:=5) fx rfl rfl (fun K k=>?_) fun K k=>?_
  ·go_simp;refine(CC.out _ (jZ w3)).mono ?_;rintro en w4 ⟨bo,bp,bq,br,rfl,o1,o2,o3,o4,ak,d1,o⟩;obtain⟨M1,m1,rfl,bs⟩:=fJ o1;obtain⟨G1,g1,rfl,bt⟩:=fJ o2;obtain⟨I1,i1,rfl,bu⟩:=fJ o3;obtain⟨L1,l1,rfl,bw⟩:=fJ o4;have ag:=fQ ((jZ w3).trans (ak.mono (jZ w3).size));have O1:=fQ o1;have O2:=fQ o2;have O3:=fQ o3;have O4:=fQ o4;have D1:=fQ d1;have D2:=fQ o;clear o1 o2 o3 o4 ak d1 o;refine k.out _ _ ⟨ai.out _ ag.out,fun _=>trivial⟩ fun c=>?_;clear k K
   try simp only[Ak,Aj,Aq,Ax]
   refine fW (i:=4) (v:=?vmp4) rfl fx fx fx (fun _ _ _ h=>h) rfl (Or.inl ⟨by rfl,?ux⟩) c fun c=>?_
   case ux=>intro w F;clear F;refine bWk (o0:=.tmp 49) (o1:=.tmp 51) (o2:=.tmp 52) (x0:=fG (fU ⟨sb,so,fT⟩) L sc) (x1:=fF fN p.J.G) (x2:=fG P2 p.J.E.length b2) (x3:=fG P3 p.J.a3.length b3) (x4:=fH p.J.L) (x5:=fG P5 p.b0.length b5) (y0:=fG M1 s.L.length m1) (y1:=fF fN s.Y) (y2:=fG G1 s.E.length g1) (y3:=fF fN s.U) (y4:=fG I1 s.input.length i1) (y5:=fG L1 s.a0.length l1) (lo:=(lost:Int)) ?_ ?_ ?_ ?_ <;> rfl
   try simp only[Ak,Aj,Aq,Ax]
   refine gX (i:=5) fx rfl fun K k=>?_;go_simp;refine k.out _ _ ⟨ai.out _ (ag.alloc ag.out.size _),fun _=>trivial⟩ fun c=>?_;clear k K
   try simp only[Ak,Aj,Aq,Ax]
   refine gX (i:=6) fx rfl fun K k=>?_;go_simp;refine k.out _ _ ⟨ai.out _ (ag.alloc ag.out.size _),fun _=>trivial⟩ fun c=>?_;clear k K
   try simp only[Ak,Aj,Aq,Ax]
   refine jX fx ?_ _;clear c U V W X Y Z G H I J M O yp Q ai CC;go_wp2_with fail;go_meet;exact dVm ((r.C ag.out).C ((Ay _ _).alloc (Az _) _)) HF.2 (gO.a4 w4 _ _) (lJ O1.out _) (lJ O2.out _) (lJ O3.out _) (lJ O4.out _) D1.out D2.out r.kz.drew.lt (AW r.kz.lt ag.out.size) (nH T.out).1 (nH T.out).2.1 (nH T.out).2.2.1 (nH T.out).2.2.2
  ·go_simp;obtain⟨wa,ax⟩:=fX ((w3.alloc (fO #[fG fT 0 0,fF fN 0,fG fT 0 0,fG fT 0 0,fH gj,fG fT 0 0,fG fT 0 0,fF fN 0,fG fT 0 0,fF fN 0,fG fT 0 0,fG fT 0 0,fF fN 0,fF fN 0,fF fN 0,fF fN 0,fF fN 0,fF fN 0] 79)).drew);have a7:Ag w3.heap.size w3 wa:=(by rw[<-ax];exact((Ay _ _).alloc (Az _) _).drew);have KM:=fQ (show gO wa w3.heap.size 79 #[fG fT 0 0,fF fN 0,fG fT 0 0,fG fT 0 0,fH gj,fG fT 0 0,fG fT 0 0,fF fN 0,fG fT 0 0,fF fN 0,fG fT 0 0,fG fT 0 0,fF fN 0,fF fN 0,fF fN 0,fF fN 0,fF fN 0,fF fN 0]from by rw[<-ax];exact(gO.a4 _ _ _).drew);rw[ax];have ay:=fQ a7;clear ax a7;refine k.out _ _ ⟨ai.out _ ay.out,fun _=>trivial⟩ fun c=>?_;clear k K
   try simp only[Ak,Aj,Aq,Ax]
   refine gX (i:=2) fx rfl fun K k=>?_;go_simp;refine(CC.out _ ay.out).mono ?_;rintro en w4 ⟨bo,bp,bq,br,rfl,o1,o2,o3,o4,ak,d1,o⟩;obtain⟨M1,m1,rfl,bs⟩:=fJ o1;obtain⟨G1,g1,rfl,bt⟩:=fJ o2;obtain⟨I1,i1,rfl,bu⟩:=fJ o3;obtain⟨L1,l1,rfl,bw⟩:=fJ o4;have ag:=fQ (ay.trans (ak.mono ay.out.size));have bA:=fQ (KM.C ak KM.lt);have O1:=fQ o1;have O2:=fQ o2;have O3:=fQ o3;have O4:=fQ o4;have D1:=fQ d1;have D2:=fQ o;clear o1 o2 o3 o4 ak d1 o;refine k.out _ _ ⟨ai.out _ ag.out,fun _=>trivial⟩ fun c=>?_;clear k K
   try simp only[Ak,Aj,Aq,Ax]
   refine fW (i:=4) (v:=?vmpq4) rfl fx fx fx (fun _ _ _ h=>h) rfl (Or.inl ⟨by rfl,?qt⟩) c fun c=>?_
   case qt=>intro w F;clear F;refine bWk (o0:=.tmp 49) (o1:=.tmp 51) (o2:=.tmp 52) (x0:=fG (fU ⟨sb,so,fT⟩) L sc) (x1:=fF fN p.J.G) (x2:=fG P2 p.J.E.length b2) (x3:=fG P3 p.J.a3.length b3) (x4:=fH p.J.L) (x5:=fG P5 p.b0.length b5) (y0:=fG M1 s.L.length m1) (y1:=fF fN s.Y) (y2:=fG G1 s.E.length g1) (y3:=fF fN s.U) (y4:=fG I1 s.input.length i1) (y5:=fG L1 s.a0.length l1) (lo:=(lost:Int)) ?_ ?_ ?_ ?_ <;> rfl
   try simp only[Ak,Aj,Aq,Ax]
   refine gX (i:=6) fx rfl fun K k=>?_;refine cXn rfl (po:=.tmp 13) (vo:=.tmp 53) rfl rfl rfl bA.out ?_;intro w5 a8 ba;have bB:=fQ a8;have al:=fQ ba;clear a8 ba;refine k.out _ _ ⟨ai.out _ (al.C ag.out (Az _)),fun _=>trivial⟩ fun c=>?_;clear k K
   try simp only[Ak,Ax]
   refine jX fx ?_ _;clear c U V W X Y Z G H I J M O yp Q ai CC;go_wp2_with fail;go_meet;exact dVm (r.C (al.C ag.out (Az _))) HF.2 bB.out (al.own O1.out (tP O1.out KM.lt)) (al.own O2.out (tP O2.out KM.lt)) (al.own O3.out (tP O3.out KM.lt)) (al.own O4.out (tP O4.out KM.lt)) D1.out D2.out (Nat.lt_trans r.kz.lt KM.lt) r.kz.lt (nH T.out).1 (nH T.out).2.1 (nH T.out).2.2.1 (nH T.out).2.2.2
 case rest=>
  obtain⟨mb,lv,iv,mv,gv,rfl,hM,hW,hZ⟩:=hcut;obtain⟨s2,e2,dc,wd,l,hd⟩:=bWj HP.out lost N args (my s) HG.out;have aG:args.length=g.a1.length:=a6.1.symm;have bC:=bXs HP.out hd (by rw[aG];exact(tN HP.J HG.out).1);have bD:(my s).U<=1024:=(by show s.U.toNat<=1024;have:=HF.2.f1;omega);have bE:(my s).a0.length<=4096:=HF.2.ll;have bF:(my s).input.length<=4096:=HF.2.il;have bG:dc<=4196353:=fu;have aq:s2.a0.length<=1000000000:=fu;have hlen:l.length<=5000:=fu;have az:=fQ (nH T.out);have bb:=fQ (show jh p.J (my s)from dVl HF.2 az.1 az.2.1 az.2.2.1 az.2.2.2);have aj:=fQ (eZh ⟨w,fG (fU ⟨sb,so,fT⟩) L sc,fG P2 p.J.E.length b2,fG P3 p.J.a3.length b3,fG P5 p.b0.length b5,p,lost,mb,gv⟩ ⟨my s,lv,iv,mv,0,0,0,0,0⟩ N (fG Aa m ca) args g wc s2 e2 dc wd l HP.out HE.out H4.out hM bb.out rfl ⟨by show 0+dc<=_;omega,by show(my s).a0.length+9*dc<=_;omega,Az _,AZ _,AZ _,AZ _⟩ (HA.C hM.bel (Az _)) HG.out aG (cXl H4.out) hd);have HW:=fQ hW;have HZ:=fQ hZ;have HD:=fQ hd;have ar:=fQ aq;clear hM hW hZ hd aG bC bD bE bF bG aq r;go_wp2_with fail;refine aj.mono ?_;rintro en w7 ⟨v7,d,rfl,M7,K7,aH,bc,bH,bI,bJ,bL,⟨A7,n7,c7,rfl⟩,bd⟩;have be:=fQ M7;have bf:=fQ aH;have aI:=fQ bd;have an:=fQ (K7.a9 HW.kz HZ.out);have aJ:=fQ (K7.keep _ HW.kz.lt HZ.out).2;have bM:=fQ (show w.heap.size+1+1<wc.heap.size from HW.kz.lt);have aK:w7.cell? ⟨mb,17,fT⟩=fU (fF fN e2):=(by rw[M7.cell 17,<-bc];rfl);have ym:=M7.a9.lt;obtain⟨MM,mm,aL⟩:=M7.L.I;obtain⟨II,mi,aM⟩:=M7.inp.I;obtain⟨GG,mg,aN,_⟩:=fJ M7.kq;obtain⟨LL,ml,aO,_⟩:=fJ M7.a0;have b6:w7.cell? ⟨mb,6,fT⟩=fU (fG MM d.s.L.length mm):=(by rw[M7.cell 6,<-aL];rfl);have b7:w7.cell? ⟨mb,7,fT⟩=fU (fF fN d.s.Y):=(by rw[M7.cell 7];rfl);have b8:w7.cell? ⟨mb,8,fT⟩=fU (fG GG d.s.E.length mg):=(by rw[M7.cell 8,<-aN];rfl);have b9:w7.cell? ⟨mb,9,fT⟩=fU (fF fN (d.s.U:Int)):=(by rw[M7.cell 9];rfl);have aP:w7.cell? ⟨mb,10,fT⟩=fU (fG II d.s.input.length mi):=(by rw[M7.cell 10,<-aM];rfl);have aQ:w7.cell? ⟨mb,11,fT⟩=fU (fG LL d.s.a0.length ml):=(by rw[M7.cell 11,<-aO];rfl)
  have ao:=fQ (fun(w':Ad) (ho:iU w7.drew w' (w.heap.size+1+1))=>show w'.cell? ⟨mb,6,fT⟩=fU (fG MM d.s.L.length mm)/\w'.cell? ⟨mb,7,fT⟩=fU (fF fN d.s.Y)/\w'.cell? ⟨mb,8,fT⟩=fU (fG GG d.s.E.length mg)/\w'.cell? ⟨mb,9,fT⟩=fU (fF fN (d.s.U:Int))/\w'.cell? ⟨mb,10,fT⟩=fU (fG II d.s.input.length mi)/\w'.cell? ⟨mb,11,fT⟩=fU (fG LL d.s.a0.length ml)/\w'.cell? ⟨mb,17,fT⟩=fU (fF fN e2)/\mb<w'.heap.size from by
   have bN:mb≠w.heap.size+1+1:=fun e=>aJ.out (fR e.symm);have hc:∀ i,w'.cell? ⟨mb,i,fT⟩=w7.cell? ⟨mb,i,fT⟩:=fun i=>World.cell?_of_block (a:=⟨mb,i,fT⟩) (ho.other mb bN)
   exact⟨(hc 6).trans b6,(hc 7).trans b7,(hc 8).trans b8,(hc 9).trans b9,(hc 10).trans aP,(hc 11).trans aQ,(hc 17).trans aK,by rw[ho.size];exact ym⟩)
  have HV:=fQ (show d.mv = fG MM d.s.L.length mm/\gv = fG GG d.s.E.length mg/\d.iv = fG II d.s.input.length mi/\d.lv = fG LL d.s.a0.length ml from⟨aL,aN,aM,aO⟩);have au:=fQ (kL.run HP.out HF.out (show lx p (N:Int) args from⟨fu,by rw[HL.out];omega,fun g' bO=>by have h1:p.J.R[N]? = fU g':=bO;rw[HG.out]at h1;cases h1;exact a6.out⟩) (dVk HF.2) HG.out HD.out)
  have bg:=fQ (show d.s.E.length<=100000 by
   have h1:=HP.J;have h2:=sF h1;rw[aH];have:=(eWm HP.out (cXl H4.out) HD.out bb.out (by obtain⟨_,_,_,_,_,_,_,q⟩:=HA.out;exact q) (by have:=(kY h1).1;have:=HL.out;omega)).kR
   omega)
  clear M7 K7 aH bc bH bI bJ bL bd aL aM aN aO aj;by_cases h0:e2=0
  ·as_aux_lemma=>
   have u0:(e2 != 0)=gj:=(by simp[h0]);have ah:=fQ h0;clear h0;go_wp2_with fail;refine jY (fun w'=>w'.cell? ⟨mb,6,fT⟩=fU (fG MM d.s.L.length mm)/\w'.cell? ⟨mb,7,fT⟩=fU (fF fN d.s.Y)/\w'.cell? ⟨mb,8,fT⟩=fU (fG GG d.s.E.length mg)/\w'.cell? ⟨mb,9,fT⟩=fU (fF fN (d.s.U:Int))/\w'.cell? ⟨mb,10,fT⟩=fU (fG II d.s.input.length mi)/\w'.cell? ⟨mb,11,fT⟩=fU (fG LL d.s.a0.length ml)/\w'.cell? ⟨mb,17,fT⟩=fU (fF fN e2)/\mb<w'.heap.size) (fun _=>True) 1000 fx (ao.out _ (iU.refl _ _)) trivial fun c=>?_;refine ig 0 c fun c=>?_;refine ig 1 c fun c=>?_;refine ig 2 c fun c=>?_;refine ig 3 c fun c=>?_;refine ig 4 c fun c=>?_;refine ig 5 c fun c=>?_;refine gX (i:=6) fx rfl fun K k=>?_;refine yY rfl (po:=.tmp 11) (vo:=.tmp 62) rfl rfl rfl an.drew ?_;refine k.out _ _ ⟨ao.out _ (tR _ _ _ _ _ _ _ _),fun _=>trivial⟩ fun c=>?_;clear k K
   try simp only[Ak,Ax]
   refine ig 7 c fun c=>?_;refine jX fx ?_ _;clear c ao b6 b7 b8 b9 aP aQ aK ym;obtain⟨wz,D⟩:=fX (((((((w7.drew.setCell ⟨w.heap.size+1+1,0,fT⟩ (fG MM d.s.L.length mm)).setCell ⟨w.heap.size+1+1,1,fT⟩ (fF fN d.s.Y)).setCell ⟨w.heap.size+1+1,2,fT⟩ (fG GG d.s.E.length mg)).setCell ⟨w.heap.size+1+1,3,fT⟩ (fF fN (d.s.U:Int))).setCell ⟨w.heap.size+1+1,4,fT⟩ (fG II d.s.input.length mi)).setCell ⟨w.heap.size+1+1,5,fT⟩ (fG LL d.s.a0.length ml)));have aA:=fQ (show iU w7.drew wz (w.heap.size+1+1)from by rw[<-D];exact tR _ _ _ _ _ _ _ _);have aR:=fQ (show gO wz (w.heap.size+1+1) 33 #[fG MM d.s.L.length mm,fF fN d.s.Y,fG GG d.s.E.length mg,fF fN (d.s.U:Int),fG II d.s.input.length mi,fG LL d.s.a0.length ml]from by rw[<-D];exact tQ an.drew _ _ _ _ _ _);rw[D];clear D;go_wp2_with fail;refine bodyPost_ret (xX _ _ (w.heap.size+1+1) _ _ _ _ _ _ _ _ rfl rfl rfl aR.out) rfl ?_;exact cXo be.out bf.out ar.out bg.out aJ.out an.drew aA.out HV.out au.out (by rw[gz ah.out];exact aA.own (iJ (aI.out ah.out).1 (jZ _) (Az _)) (tP (aI.out ah.out).1 bM.out)) (by rw[gz ah.out];omega) (by rw[gz ah.out];exact(aI.out ah.out).2)
  ·as_aux_lemma=>
   have u0:(e2 != 0)=gh:=(by simpa using h0);have ah:=fQ h0;clear h0;go_wp2_with fail;refine jY (fun w'=>w'.cell? ⟨mb,6,fT⟩=fU (fG MM d.s.L.length mm)/\w'.cell? ⟨mb,7,fT⟩=fU (fF fN d.s.Y)/\w'.cell? ⟨mb,8,fT⟩=fU (fG GG d.s.E.length mg)/\w'.cell? ⟨mb,9,fT⟩=fU (fF fN (d.s.U:Int))/\w'.cell? ⟨mb,10,fT⟩=fU (fG II d.s.input.length mi)/\w'.cell? ⟨mb,11,fT⟩=fU (fG LL d.s.a0.length ml)/\w'.cell? ⟨mb,17,fT⟩=fU (fF fN e2)/\mb<w'.heap.size) (fun _=>True) 1000 fx (ao.out _ (iU.refl _ _)) trivial fun c=>?_;refine ig 0 c fun c=>?_;refine ig 1 c fun c=>?_;refine ig 2 c fun c=>?_;refine ig 3 c fun c=>?_;refine ig 4 c fun c=>?_;refine ig 5 c fun c=>?_;refine gX (i:=6) fx rfl fun K k=>?_;refine yY rfl (po:=.tmp 11) (vo:=.tmp 62) rfl rfl rfl an.drew ?_;refine k.out _ _ ⟨ao.out _ (tR _ _ _ _ _ _ _ _),fun _=>trivial⟩ fun c=>?_;clear k K
   try simp only[Ak,Ax]
   refine ig 7 c fun c=>?_;refine jX fx ?_ _;clear c ao b6 b7 b8 b9 aP aQ aK ym;obtain⟨wz,D⟩:=fX (((((((w7.drew.setCell ⟨w.heap.size+1+1,0,fT⟩ (fG MM d.s.L.length mm)).setCell ⟨w.heap.size+1+1,1,fT⟩ (fF fN d.s.Y)).setCell ⟨w.heap.size+1+1,2,fT⟩ (fG GG d.s.E.length mg)).setCell ⟨w.heap.size+1+1,3,fT⟩ (fF fN (d.s.U:Int))).setCell ⟨w.heap.size+1+1,4,fT⟩ (fG II d.s.input.length mi)).setCell ⟨w.heap.size+1+1,5,fT⟩ (fG LL d.s.a0.length ml)));have aA:=fQ (show iU w7.drew wz (w.heap.size+1+1)from by rw[<-D];exact tR _ _ _ _ _ _ _ _);have aR:=fQ (show gO wz (w.heap.size+1+1) 33 #[fG MM d.s.L.length mm,fF fN d.s.Y,fG GG d.s.E.length mg,fF fN (d.s.U:Int),fG II d.s.input.length mi,fG LL d.s.a0.length ml]from by rw[<-D];exact tQ an.drew _ _ _ _ _ _);rw[D];clear D;go_wp2_with fail;refine bodyPost_ret (xX _ _ (w.heap.size+1+1) _ _ _ _ _ _ _ _ rfl rfl rfl aR.out) rfl ?_;exact cXo (base:=0) be.out bf.out ar.out bg.out aJ.out an.drew aA.out HV.out au.out (by rw[gy ah.out];exact World.ownsRow_nil _ _ _ _) (by rw[gy ah.out];exact AZ _) (by rw[gy ah.out];exact nW)
end Go.Proofs.YtabibkpfgmolkaaGreatDoor

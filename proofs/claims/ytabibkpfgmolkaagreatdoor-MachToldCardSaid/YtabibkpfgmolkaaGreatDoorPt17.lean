/- Lemmas for the claim, part 17. Conditions: none. -/
import Derived.Test.YtabibkpfgmolkaaGreatDoorPt10
import Derived.Test.YtabibkpfgmolkaaGreatDoorPt16
import Derived.Deep.CutBlock
set_option maxRecDepth 100000
set_option maxHeartbeats 16000000
set_option linter.unusedVariables false
set_option linter.unusedSimpArgs false
open Go.Lib renaming hid→fQ
open Go.Proofs.Tryz renaming prog→fZ
open Go.Proofs.Tryz
open Go.RowKit
open List renaming getElem?_eq_getElem→Aj,mem_of_getElem?→Ak,getD_eq_getElem?_getD→Aw,replicate→AQ,setIfInBounds_toArray→Ad,set_cons_zero→Ag,set_cons_succ→Ah,length_map→Ai,take_zero→Bj
open Nat renaming le_refl→Aq,lt_of_lt_of_le→Ax,lt_succ_self→AK,zero_le→Ac,le_trans→Bq,add_zero→Bx
open Go.RowKit.Below renaming cell→Az,refl→AJ,heap_setCell→AX,size→AY
open Go.IntWalk renaming i64_in→Ay
open Option renaming some→AZ
open Array renaming getElem?_eq_getElem→AV
open Int renaming toNat_natCast→AW,toNat_of_nonneg→Af
open Go.World renaming setCell→Ab
open Bool renaming and_eq_true→Ae
open Go renaming World→Bz,Value→Bk
open Go.RowKit renaming Below→Bv
open Go.Value renaming int->fF,slice->fG,bool->fH,tuple->fI,agg->fM,pointer->fN
open Go.IntKind renaming i64->fO,u64->fP
open Go.Obj renaming cells->fR
open Go.Ending renaming returned->fS
open Option renaming none->fT,some->fU
open Bool renaming true->gh,false->gj
namespace Go.Proofs.YtabibkpfgmolkaaGreatDoor
variable {w w' wr:Bz}{n g base k dc lost d y m n2 vb P z B:Nat}{l a V args:List Nat}{v x0 x1 x2 x3 x4 x5 p q:Bk}{e2:Int}{e:TypeId}{A:Option Addr}
theorem bWf:(fZ.info? 52).map (fun i=>(i.zero,i.size,i.bytes))=fU (fU (fF fP 0),1,8):=fx
theorem bZo{s:iu}(h:je s=gh):s.a1.length<=8/\s.out.length<=8:=by
 unfold je lY at h;simp only[Ae,decide_eq_true_eq]at h;exact⟨h.1.1,h.2.1⟩
theorem bJv{c:Nat}(h:w.ownsRow base 52 1 (fG A n c) n (hH l))(d:n<=17592186043904)(f:ij l):UR w (fG A n c) l:=by
 have e:l.length=n:=(by have:=h.1;simpa[hH]using this);subst e;refine⟨A,c,rfl,Src.mf h,?_⟩;rcases h.2 with⟨h1,h2⟩|⟨g,cap,cur,h1,_,_,i,j,_⟩
 ·injection h1 with a e2 b;subst a;subst b;exact⟨fu,fun _=>rfl,⟨d,fu⟩,f⟩
 ·injection h1 with a e2 b;subst b;exact⟨i,(fun e=>by rw[e]at a;cases a),⟨d,by unfold maxLen at j;omega⟩,f⟩
def rG(C:jo)(r:gR)(d:Nat):Prop:=∀ (x1:jk) (w1:Bz) (c:gP) (k:Nat) (b cb f va:Bk) (a:List Nat) (s2:iM) (e2:Int) (dc wd:Nat) (l:List Nat),x1.d=d->x1.e=0->c∈r.K->c.op≠273->c.op≠274->c.op≠275->c.op≠276->c.op≠277->iB C x1 w1->jh C.p.J x1.s->kU x1 dc->UR w1 va a->(∀ g,va.ownBlock=fU g->¬js C x1 g)->a.length=(jL C.p.J r.a2 c).length->ie (jL C.p.J r.a2 c) a=a ->
 Did C.p C.lost d c k a x1.s s2 e2 dc wd l->Calls fZ 87 #[fN (fU ⟨C.mb,0,fT⟩),fM #[fF fO c.op,fF fP (c.n:Int),b,cb,f],va] w1 (kt C x1 s2 e2 dc wd l w1)
theorem bWg:∀ (ts:List Int) (l:List Nat),ie ts (ie ts l)=ie ts l
 | [],l=>by cases l <;> rfl
 | t :: ts,[]=>rfl
 | t :: ts,n :: l=>by
  show oY t (oY t n) :: ie ts (ie ts l)=_;rw[bWg ts l]
  congr 1
  unfold oY
  split <;> simp
theorem fVt(h:gO w g 52 (hH V).toArray)(a:V[k]? = fU y):w.cell? ⟨g,k,fT⟩=fU (fF fP (y:Int)):=by
 rw[h.cell k];simp[hH,a]
theorem eWg(h:V[k]? = fU y):V.getD k 0=y:=by rw[Aw,h];rfl
def ow(C:jo)(x:jk)(r:gR)(args:List Nat)(w:Bz)(vb rb:Nat)(p q t s:Bk)(P:Nat)(va:Bk)(k:Nat)(wr:Bz):Prop:=
 iB C x wr/\MK C x x w wr/\gO wr vb 52 (hH (iS (r.params.take k) (args.take k) (AQ P 0))).toArray/\gO wr rb 89 #[p,q,fF fO (P:Int),t,s]/\UR wr va args
theorem ow.C{C:jo}{x:jk}{r:gR}{args:List Nat}{w:Bz}{vb rb:Nat}{p q t s:Bk}{P:Nat}{va:Bk}{k:Nat}{wr w':Bz}(h:ow C x r args w vb rb p q t s P va k wr)(a:Bv wr.heap.size wr w'):ow C x r args w vb rb p q t s P va k w':=
 ⟨h.1.C a,h.2.1.C a,h.2.2.1.C a h.2.2.1.lt,h.2.2.2.1.C a h.2.2.2.1.lt,h.2.2.2.2.C a (Aq _)⟩
theorem bWh(V:List Nat)(k n:Nat):(hH V).toArray.setIfInBounds k (fF fP (n:Int))=(hH (V.set k n)).toArray:=by
 rw[<-qO];simp
theorem ow.put{C:jo}{x:jk}{r:gR}{rb:Nat}{t s:Bk}{va:Bk}{o:Int}(h:ow C x r args w vb rb p q t s P va k wr)(a:r.params[k]? = fU o)(b:o=(z:Int))(c:args[k]? = fU y)
  (d:¬js C x vb) (f:w.heap.size<=vb) (ag:C.w0.heap.size<=w.heap.size) (g:rb≠vb) (i:va.ownBlock≠fU vb):ow C x r args w vb rb p q t s P va (k+1) (wr.setCell ⟨vb,z,fT⟩ (fF fP (y:Int))):=by
 obtain⟨h1,h2,j,l,m⟩:=h;refine⟨h1.pG _ d fu,h2.pG _ f,?_,l.setCell _ g,m.heap (by simp[Ab]) (fun k n _=>AX _ _ _ _ (fun e=>i (by rw[n];show fU k=fU vb;rw[show k=vb from e])))⟩;have:=fY j z (fF fP (y:Int));rw[bWh]at this;rw[sG _ _ _ k o y a c,b,AW];exact this
def lC(mb:Nat)(w:Bz):Nat:=match w.cell? ⟨mb,13,fT⟩with
 | some (fF _ n)=>n.toNat
 | _=>0
theorem iB.lC{C:jo}{x:jk}{w:Bz}(h:iB C x w):lC C.mb w=x.a7:=by
 unfold _root_.Go.Proofs.YtabibkpfgmolkaaGreatDoor.lC;rw[show w.cell? ⟨C.mb,13,fT⟩=fU (fF fO x.a7) by rw[h.cell 13];rfl];simp
theorem dVe{C:jo}{x:jk}{r:gR}{t s va:Bk}{R:jD}(h:ow C x r args w vb w.heap.size p q t s P va m wr)(hm:args.length=m)(af:args.length=r.params.length)(a:r.M=P)(hc:iq C.p.J r)(ev:Ev C.p C.lost x.d r 0 (jb r args) x.s R)(c:kU x R.a7)(he:x.e=0)(f:jh C.p.J x.s)(g:ij args)
  (hf:¬js C x w.heap.size) (i:¬js C x vb) (hv:w.heap.size<=vb) (h0:C.w0.heap.size<=w.heap.size):lO C x r R w vb w.heap.size p q t s 0 x (jb r args) R wr:=by
 obtain⟨h1,h2,b,j,h5⟩:=h
 have k:iS (r.params.take m) (args.take m) (AQ P 0)=jb r args:=by
  rw[cXf _ _ _ m fu];unfold jb;rw[a];rfl
 rw[k]at b;exact⟨h1,h2,ev,rfl,rfl,rfl,rfl,rfl,he,rfl,rfl,c,b,by unfold jb;rw[rh,List.length_replicate],yK r g,i,fu,by rw[a];exact j,hf,f,by have:=hc.n1;omega⟩
def me(C:jo)(x0 x4:jk)(w w4:Bz)(vb rb g base:Nat)(V l:List Nat)(a b:Array Bk)(v:Bk)(e2:Int)(wr:Bz):Prop:=
 iB C x4 wr/\MK C x0 x4 w wr/\gO wr vb 52 (hH V).toArray/\gO wr rb 89 a/\gO wr g 86 b/\(e2=0->wr.ownsRow base 52 1 v l.length (hH l))/\Bv C.w0.heap.size C.w0 wr
theorem me.put{C:jo}{x0 x4:jk}{a:Bz}{rb:Nat}{b c:Array Bk}(h:me C x0 x4 w a vb rb g base V l b c v e2 wr)(i:¬js C x4 vb)(j:w.heap.size<=vb)(d:C.w0.heap.size<=vb)(k:rb≠vb)(hg:g≠vb)(hb:vb<base):me C x0 x4 w a vb rb g base (V.set z y) l b c v e2 (wr.setCell ⟨vb,z,fT⟩ (fF fP (y:Int))):=by
 obtain⟨h1,h2,m,n,o,f,q⟩:=h;refine⟨h1.pG _ i d,h2.pG _ j,?_,n.setCell _ k,o.setCell _ hg,fun e=>iW (f e) (fun e'=>by have:=((f e).lt vb e').1;omega),q.setCell (p:=⟨vb,z,fT⟩) d _⟩;have:=fY m z (fF fP (y:Int))
 rwa[bWh]at this
theorem me.C{C:jo}{x0 x4:jk}{w b:Bz}{vb rb g base:Nat}{V l:List Nat}{c d:Array Bk}{v:Bk}{e2:Int}{wr w':Bz}(h:me C x0 x4 w b vb rb g base V l c d v e2 wr)(a:Bv wr.heap.size wr w'):me C x0 x4 w b vb rb g base V l c d v e2 w':=
 ⟨h.1.C a,h.2.1.C a,h.2.2.1.C a h.2.2.1.lt,h.2.2.2.1.C a h.2.2.2.1.lt,h.2.2.2.2.1.C a h.2.2.2.2.1.lt,fun e=>iJ (h.2.2.2.2.2.1 e) a (Aq _),h.2.2.2.2.2.2.trans (a.mono h.2.2.2.2.2.2.size)⟩
theorem cYa(os:List Int)(a V:List Nat):iS (os.take 0) (a.take 0) V=V:=by
 rw[Bj,Bj];rfl
theorem eWh{c:Nat}{a:List Bk}(h:w.ownsRow base e 1 (fG A n c) m a):n=m:=by
 rcases h.2 with⟨h1,h2⟩|⟨g,cap,cur,h1,_⟩
 ·injection h1 with _ e2 _;have:=h.1;rw[h2]at this;simp at this;omega
 ·injection h1 with _ e2 _
def RL3(w:Bz)(V:List Nat)(l:List Int)(j:Nat)(v:Bk)(wr:Bz):Prop:=wr.ownsRow w.heap.size 52 1 v j (hH (jd V (l.take j)))/\Bv w.heap.size w wr
theorem eWi(C:jo)(x:jk)(r:gR)(vr va:Bk)(args:List Nat)(w:Bz)(R:jD)(hp:iD C.p)(hc:iq C.p.J r)(hr:jn C.w0 vr r)(hE:iG C.w0 (fM #[C.a,fF fO C.p.J.G,C.b,C.d,fH C.p.J.L]) C.p.J)
  (h:iB C x w) (ev:Ev C.p C.lost x.d r 0 (jb r args) x.s R) (hb:kU x R.a7) (he:x.e=0) (aR:jh C.p.J x.s) (ha:UR w va args) (bL:∀ k,va.ownBlock=fU k->¬js C x k) (cL:args.length=r.params.length) (bM:∀ (i:Nat) q,C.p.b0[i]? = AZ q->∀ c∈q.K,c.n<18446744073709551616) (bN:∀ c∈r.K,c.n<18446744073709551616) (bO:rG C r x.d) :
  Calls fZ 56 #[fN (fU ⟨C.mb,0,fT⟩),vr,va] w (kt C x R.s R.e R.a7 R.kO R.out w):=by
 obtain⟨H,J,vt,vs,rfl,h4,h5,Z,h7⟩:=hr;obtain⟨P,hP⟩:∃ P:Nat,r.M=P:=⟨r.M.toNat,by have:=hc.p1;omega⟩;have eR:P<=4096:=(by have:=hc.p2;omega);obtain⟨Aa,ca,rfl⟩:=ha.I;obtain⟨m,hm⟩:=fX args.length;rw[hm]at ha bL ⊢;have aH:=fQ hP;rw[hP];have eS:m<=8:=(by have h1:=bZo hc.a2;have:=hc.par;omega);obtain⟨sA,Y,cM,_⟩:=h7.len;obtain⟨S,bP⟩:∃ n,r.K.length=n:=⟨_,rfl⟩;rw[bP]at cM;subst cM;have dD:=fQ bP;clear bP;obtain⟨L,tc,cN⟩:=Z.I;have dE:r.params.length=m:=fu;rw[dE]at cN;subst cN;have bq:=(AJ w.heap.size w).alloc (Aq _) (fR #[H,J,fF fO (P:Int),fG L m tc,fG sA S Y] 89);have bQ:=fQ bq;have KR:=fQ (gO.a4 w 89 #[H,J,fF fO (P:Int),fG L m tc,fG sA S Y]);have bT:=fQ (h.C bq);have bU:=fQ (ha.C bq (Aq _));have dF:=fQ (h.a6 (Aq w.heap.size));have bV:=fQ (show ¬js C x (w.heap.size+1)from h.a6 (Nat.le_succ w.heap.size));have eT:=fQ bL;have HM:=fQ hm;have cO:=fQ cL;have HC:=fQ hc;have dG:=fQ ev;have dH:=fQ hb;have dI:=fQ he;have dJ:=fQ aR;have dK:=fQ (show jq C.w0 (fM #[H,J]) r.a2 from⟨H,J,rfl,h4,h5⟩);have dL:=fQ Z.ir;have dM:=fQ ha.len.2.2.2.2.2;have dN:=fQ h7;have y0:=h.bel.size;obtain⟨r0,r1,r2,r3,r4⟩:=gZ KR.out;have yr:=KR.lt;have cP:=nL (P:=fZ) 30 52 (fF fP 0) 8 underlying30 bWf rfl P fu fu;rw[show(AQ P (Value.int fP 0)).toArray=(hH (AQ P 0)).toArray by simp[hH]]at cP
 have dO:=fQ (show ∀ k,(Value.slice Aa m ca).ownBlock=fU k->k<w.heap.size\/m=0 from fun k hk=>by
  rcases Nat.eq_zero_or_pos m with h0|h0
  ·exact .inr h0
  ·obtain⟨b,o,e,dP⟩:=ha.len.2.1.addr h0;subst e;injection hk with hk;subst hk
   exact .inl dP)
 clear h ha bL hm cL hP hc ev hb he aR h4 h5 Z h7 bq;go_in;go_wp2_with fail;obtain⟨wA,br⟩:=fX (w.alloc (fR #[H,J,fF fO (P:Int),fG L m tc,fG sA S Y] 89));have hA:wA.heap.size=w.heap.size+1:=(by rw[<-br];simp);obtain⟨vb,cQ⟩:∃ g,w.heap.size+1=g:=⟨_,rfl⟩;rw[cQ]at hA bV;have ar:=(AJ wA.heap.size wA).alloc (Aq _) (fR (hH (AQ P 0)).toArray 52)
 have bW:=fQ (show ow C x r args w vb w.heap.size H J (fG L m tc) (fG sA S Y) P (fG Aa m ca) 0 (wA.alloc (fR (hH (AQ P 0)).toArray 52))from by
  rw[br]at bQ KR bT bU
  exact⟨bT.C ar,(MK.jN bQ.out).C ar,gO.X _ _ _ hA,KR.C ar KR.lt,bU.C ar (Aq _)⟩)
 clear bQ KR bT bU r0 r1 r2 r3 r4 yr ar cP;rw[br];obtain⟨wB,cR⟩:=fX (wA.alloc (fR (hH (AQ P 0)).toArray 52));rw[cR]at bW ⊢
 (try simp only[cQ])
 clear cR br hA;go_loopw [8] (fun i wr=>∃ k:Nat,k<=m/\i = fF fO k/\Hid (ow C x r args w vb w.heap.size H J (fG L m tc) (fG sA S Y) P (fG Aa m ca) k wr)) (fun i _=>m - (intOf i).toNat)
 case atStart=>exact⟨0,fu,rfl,bW⟩
 case round=>
  clear bW;obtain⟨k,hk,rfl,IL⟩:=hrel;obtain⟨I1,I2,I3,I4,I5⟩:=IL.out;obtain⟨r0,r1,r2,r3,r4⟩:=gZ I4;have yr:=I4.lt;have yv:=I3.lt;by_cases eU:k<m
  ·as_aux_lemma=>
   have t2:(k:Int)<m:=fu;obtain⟨o,ho⟩:∃ o,r.params[k]? = fU o:=⟨_,Aj (by have:=cO.out;have:=HM.out;omega)⟩;obtain⟨y,hy⟩:∃ y,args[k]? = fU y:=⟨_,Aj (by have:=HM.out;omega)⟩;have aS:=vK HC.pin (Ak ho);obtain⟨z,rfl⟩:∃ z:Nat,o=z:=⟨o.toNat,fu⟩;have cT:z<P:=(by have:=aH.out;omega);have t3:(z:Int)<P:=fu;obtain⟨pb,po,e1,aT,aY⟩:=dL.cell ho;subst e1;have bX:wr.cell? ⟨pb,po+k,fT⟩=fU (fF fO z):=(I1.bel.cell (p:=⟨pb,po+k,fT⟩) aT).trans aY;obtain⟨ab,ao,e4,eV,cU,_⟩:=I5.cell hy;subst e4;obtain⟨u,hu⟩:∃ u,wr.cell? ⟨vb,z,fT⟩=fU u:=(by rw[I3.cell z];exact⟨_,AV (by simp[hH,rh];omega)⟩);have fv:=ik I3 z;have aj:=fQ (IL.out.put ho rfl hy bV.out fu y0 fu (fun e=>by rcases dO.out vb e with h1|h1 <;> omega));clear I1 I2 I3 I4 I5 IL ho hy aY aS;go_wp2_with fail;go_region
   all_goals
    go_wp2;exact⟨⟨k+1,fu,fz,fQ (aj.C (jZ _))⟩,fB⟩
  ·as_aux_lemma=>
   have t1:decide ((k:Int)<m)=gj:=fw;obtain rfl:m=k:=fu;have cV:=fQ (dVe IL.out HM.out cO.out aH.out HC.out dG.out dH.out dI.out dJ.out dM.out dF.out bV.out fu y0);clear I1 I2 I3 I4 I5 IL r0 r1 r2 r3 r4 yr yv t1;go_wp2_with fail;go_loopw [9] (fun i wr=>∃ (k:Nat) (x1:jk) (V:List Nat) (R':jD),i = fF fO k/\Hid (lO C x r R w vb w.heap.size H J (fG L m tc) (fG sA S Y) k x1 V R' wr)) (fun _ wr=>(x.a7+R.a7) - lC C.mb wr)
   case atStart=>exact⟨0,_,_,_,rfl,cV⟩
   case round=>
    clear cV;obtain⟨k,x1,V,R',rfl,IR⟩:=hrel;have I:=IR.out;obtain⟨c,bs⟩:∃ c,r.K[k]? = fU c:=⟨_,Aj I.k⟩;have cW:=Ak bs;have t2:(k:Int)<S:=(by have:=I.k;have:=dD.out;omega);obtain⟨cb,co,pa,pb,pt,e1,aI,g0,g1,g2,g3,g4,s0,i1,i2,i3⟩:=dN.K bs;subst e1;obtain⟨pA,pc,rfl⟩:=i1.I;obtain⟨qA,qc,rfl⟩:=i2.I;obtain⟨eA,ec,rfl⟩:=i3.I;have b1:=I.m.bel;replace g0:=(b1.cell (p:=⟨cb,_,fT⟩) aI).trans g0;replace g1:=(b1.cell (p:=⟨cb,_,fT⟩) aI).trans g1;replace g2:=(b1.cell (p:=⟨cb,_,fT⟩) aI).trans g2;replace g3:=(b1.cell (p:=⟨cb,_,fT⟩) aI).trans g3;replace g4:=(b1.cell (p:=⟨cb,_,fT⟩) aI).trans g4;have dR:=Ax aI b1.size;obtain⟨N,hN⟩:=fX x1.a7;have eW:N<=1000000000000:=(by have:=I.b.a7;omega);have dS:IntKind.i64.wrap ((N:Int)+1)=((N+1:Nat):Int):=(by rw[Ay _ fu];rfl);have dT:wr.cell? ⟨C.mb,13,fT⟩=fU (fF fO N):=(by rw[I.m.cell 13];simp[iC,hN]);have f13:=ik I.m.a9 13;have dU:=I.m.a9.lt;obtain⟨r0,r1,r2,r3,r4⟩:=gZ I.rk;have yr:=I.rk.lt;have yv:=I.vk.lt;have bY:=fQ cW;have aU:=fQ bs;have aD:=fQ hN;have dV:=fQ s0;have J1:=fQ i1;have J2:=fQ i2;have J3:=fQ i3;have dW:wr.heap.size≠C.mb:=fu;clear I b1 aI bs cW hN i1 i2 i3 s0;go_wp2_with fail;obtain⟨f,bt⟩:∃ n,c.args.length=n:=⟨_,rfl⟩;obtain⟨D,bu⟩:∃ n,c.O.length=n:=⟨_,rfl⟩;obtain⟨O,aZ⟩:∃ n,c.to.length=n:=⟨_,rfl⟩;obtain⟨wn,aV⟩:=fX ((wr.setCell ⟨C.mb,13,fT⟩ (fF fO ((N:Int)+1))).alloc (fR #[fF fO c.op,fF fP (c.n:Int),fG pA c.args.length pc,fG qA c.O.length qc,fG eA c.to.length ec] 86));have bZ:wn.heap.size=wr.heap.size+1:=(by rw[<-aV];simp[Ab]);have a1:Bv (wr.setCell ⟨C.mb,13,fT⟩ (fF fO ((N:Int)+1))).heap.size (wr.setCell ⟨C.mb,13,fT⟩ (fF fO ((N:Int)+1))) wn:=(by rw[<-aV];exact(AJ _ _).alloc (Aq _) _);have aW:=fQ (show iB C { x1 with a7:=N+1 } wn from(IR.out.m.k9 13 (fF fO ((N:Int)+1)) (y:={ x1 with a7:=N+1 }) (by simp[iC]) rfl rfl rfl rfl rfl rfl rfl).C a1);have cX:=fQ (show MK C x { x1 with a7:=N+1 } w wn from(IR.out.mq.k9 13 _ (y:={ x1 with a7:=N+1 }) rfl rfl rfl).C a1);have aJ:=fQ (show gO wn vb 52 (hH V).toArray from(IR.out.vk.setCell _ (fun e=>IR.out.vo (.inl e))).C a1 (by rw[xQ];exact IR.out.vk.lt));have b0:=fQ (show gO wn w.heap.size 89 #[H,J,fF fO r.M,fG L m tc,fG (fU ⟨cb,co,fT⟩) S Y]from(IR.out.rk.setCell _ (fun e=>IR.out.ro (.inl e))).C a1 (by rw[xQ];exact IR.out.rk.lt));have a6:=fQ (show gO wn wr.heap.size 86 #[fF fO c.op,fF fP (c.n:Int),fG pA c.args.length pc,fG qA c.O.length qc,fG eA c.to.length ec]from by rw[<-aV];exact gO.X _ _ _ (by rw[xQ]));rw[bt,bu,aZ]at aV a6;have cY:=fQ (show ¬js C { x1 with a7:=N+1 } wr.heap.size from IR.out.m.a6 (Aq _));obtain⟨g,hg⟩:=fX wr.heap.size;have eX:vb<g:=(by rw[<-hg];exact IR.out.vk.lt);rw[hg]at bZ a6 cY;rw[bt,bu,aZ,aV]
    (try simp only[hg])
    have dX:=fQ (show lC C.mb wr=N from by rw[IR.out.m.lC];exact aD.out);have b5:N+R'.a7=x.a7+R.a7/\1<=R'.a7:=⟨by rw[<-aD.out];exact IR.out.tc,IR.out.pos⟩;have aX:=fQ (fun(w':Bz) (x2:jk) (M:iB C x2 w') (h:N<x2.a7)=>show(x.a7+R.a7) - lC C.mb w'<(x.a7+R.a7) - lC C.mb wr from by rw[M.lC,dX.out];omega);clear b5;have aE:=fQ bt;have a7:=fQ bu;have ax:=fQ aZ;clear g0 g1 g2 g3 g4 dR dT f13 dU r0 r1 r2 r3 r4 yr yv aV a1 dS bt bu aZ dW bZ;have aR:=HC.K c bY.out;obtain⟨fi,fo,aF,cZ,c0,c2,dY,c5,c6,aS,c7⟩:=hY aR;have aK:=fQ aF;have dZ:=fQ c6;have a8:=fQ cZ;have bw:=fQ c5;have b6:=fQ c2;have eb:=fQ aS;have b7:=fQ c0;have ba:=fQ aR
    have e3:f<=8:=by
     have h1:=(qG HC.J HC.a2 aK.out).1;have U:=aE.out;omega
    have e6:D<=8:=by
     have h1:=(qG HC.J HC.a2 aK.out).2;have U:=a7.out;omega
    clear aF cZ c0 c2 dY c5 c6 aS c7 aR;go_loopw [11,12] (fun v i wq=>∃ j:Nat,j<=f/\i = fF fO j/\Hid (RL3 wn V c.args j v wq)) (fun _ i _=>f - (intOf i).toNat)
    case atStart=>exact⟨0,fu,rfl,fQ ⟨World.ownsRow_nil _ _ _ _,AJ _ _⟩⟩
    case round=>
     obtain⟨j,hj,rfl,IA⟩:=hrel;obtain⟨iO,IB⟩:=IA.out;obtain⟨Av,cv,rfl,e7⟩:=fJ iO;have KC:=a6.C IB a6.lt;obtain⟨k0,k1,k2,k3,k4⟩:=gZ KC;have yc:=KC.lt;by_cases ed:j<f
     ·as_aux_lemma=>
      have t3:(j:Int)<f:=fu;obtain⟨p,bz⟩:∃ p,c.args[j]? = fU p:=⟨_,Aj (by have:=aE.out;omega)⟩;have ee:=dZ.out p (Ak bz);have e8:=IR.out.vl;obtain⟨z,rfl⟩:∃ z:Nat,p=z:=⟨p.toNat,fu⟩;have cT:z<P:=(by have:=aH.out;omega);have t4:(z:Int)<P:=fu;obtain⟨y,hy⟩:∃ y,V[z]? = fU y:=⟨_,Aj (by have:=aH.out;omega)⟩;obtain⟨pb,po,e1,aT,aY⟩:=J1.ir.cell bz;subst e1;have b8:=aW.bel.trans (IB.mono aW.bel.size);have bX:wr.cell? ⟨pb,po+j,fT⟩=fU (fF fO z):=(b8.cell (p:=⟨pb,po+j,fT⟩) aT).trans aY;have e9:=fVt (aJ.C IB aJ.lt) hy;have ef:=fQ (bWd (V:=V) bz);have eg:=fQ (show V.getD (z:Int).toNat 0=y from by rw[AW];exact eWg hy);have c8:=fQ (lJ iO (fR #[fF fP (y:Int)] 52));have eh:=fQ (IB.alloc IB.size (fR #[fF fP (y:Int)] 52));have fa:=IB.size;clear iO IB IA KC bz ee hy aT aY b8;go_wp2_with (at_builtin;refine nQ _ rfl (.tmp 59) (.tmp 68) 30 rfl wn.heap.size 52 (fF fP 0) 1 8 underlying30 bWf rfl fu (.slice Av j cv) j (hH (jd V (c.args.take j))) rfl c8.out (fU ⟨wr.heap.size,0,fT⟩) 1 1 [fF fP (y:Int)] rfl (gO.kE (cs:=#[fF fP (y:Int)]) (gO.X _ _ _ rfl) rfl) (fun u hu=>by rw[List.mem_singleton.1 hu];rfl) (by unfold maxLen;omega) fu fw ?_);rintro v' w' g1 g2 g3 _;have HX:=fQ (show RL3 wn V c.args (j+1) v' w' from⟨by rw[ef.out,eg.out,oH];first|exact g1|simpa[hH]using g1,oQ eh.out g2 fw (fun j hj=>(c8.lt j hj).1)⟩);clear g1 g2 g3;go_wp2;exact⟨⟨j+1,fu,fz,HX⟩,fB⟩
     ·as_aux_lemma=>
      have t1:decide ((j:Int)<f)=gj:=fw;obtain rfl:f=j:=fu;have BW:=fQ (aW.bel.trans (IB.mono aW.bel.size));have aG:=fQ (aW.C IB);have c9:=fQ (cX.C IB);have b9:=fQ (aJ.C IB aJ.lt);have bb:=fQ (b0.C IB b0.lt);have cc:=fQ KC;have da:=fQ (show wr.ownsRow wn.heap.size 52 1 (fG Av f cv) f (hH (jd V c.args))from by have:=iO;rwa[List.take_of_length_le (by rw[aE.out];exact Aq _)]at this)
      have CF:=fQ (fun(w':Bz) (hb:Bv C.w0.heap.size C.w0 w')=>bVn C.p.J r.a2 c (fM #[C.a,fF fO C.p.J.G,C.b,C.d,fH C.p.J.L]) (fM #[H,J]) (fM #[fF fO c.op,fF fP (c.n:Int),fG pA f pc,fG qA D qc,fG eA O ec]) w' (hE.C hb (Aq _)) (dK.C hb (Aq _))
       (by rw[<-aE.out,<-a7.out,<-ax.out];exact⟨_,_,_,rfl,dV.out,J1.C hb (Aq _),J2.C hb (Aq _),J3.C hb (Aq _)⟩) (by have:=HC.J;unfold iH at this;simp only[Ae,decide_eq_true_eq]at this;exact this.1.2.2.2))
      obtain⟨r0,r1,r2,r3,r4⟩:=gZ bb.out;have yr:=bb.lt;have ym:=aG.a9.lt;have m0:wr.cell? ⟨C.mb,0,fT⟩=fU C.a:=(by rw[aG.cell 0];rfl);have m1:wr.cell? ⟨C.mb,1,fT⟩=fU (fF fO C.p.J.G):=(by rw[aG.cell 1];rfl);have m2:wr.cell? ⟨C.mb,2,fT⟩=fU C.b:=(by rw[aG.cell 2];rfl);have m3:wr.cell? ⟨C.mb,3,fT⟩=fU C.d:=(by rw[aG.cell 3];rfl);have m4:wr.cell? ⟨C.mb,4,fT⟩=fU (fH C.p.J.L):=(by rw[aG.cell 4];rfl);have db:=IB.size;clear iO IB IA KC aW cX aJ b0 a6 t1;go_wp2_with fail;refine jY (fun w'=>w'.cell? ⟨C.mb,0,fT⟩=fU (C.a)/\w'.cell? ⟨C.mb,1,fT⟩=fU (fF fO C.p.J.G)/\w'.cell? ⟨C.mb,2,fT⟩=fU (C.b)/\w'.cell? ⟨C.mb,3,fT⟩=fU (C.d)/\w'.cell? ⟨C.mb,4,fT⟩=fU (fH C.p.J.L)/\w'.cell? ⟨w.heap.size,0,fT⟩=fU (H)/\w'.cell? ⟨w.heap.size,1,fT⟩=fU (J)/\w'.cell? ⟨g,0,fT⟩=fU (fF fO c.op)/\w'.cell? ⟨g,1,fT⟩=fU (fF fP (c.n:Int))/\w'.cell? ⟨g,2,fT⟩=fU (fG pA f pc)/\w'.cell? ⟨g,3,fT⟩=fU (fG qA D qc)/\w'.cell? ⟨g,4,fT⟩=fU (fG eA O ec)/\C.mb<w'.heap.size/\w.heap.size<w'.heap.size/\g<w'.heap.size) (fun _=>True) 1000 fx ⟨(Az (jZ wr) (p:=⟨C.mb,0,fT⟩) ym).trans m0,(Az (jZ wr) (p:=⟨C.mb,1,fT⟩) ym).trans m1,(Az (jZ wr) (p:=⟨C.mb,2,fT⟩) ym).trans m2,(Az (jZ wr) (p:=⟨C.mb,3,fT⟩) ym).trans m3,(Az (jZ wr) (p:=⟨C.mb,4,fT⟩) ym).trans m4,(Az (jZ wr) (p:=⟨w.heap.size,0,fT⟩) yr).trans r0,(Az (jZ wr) (p:=⟨w.heap.size,1,fT⟩) yr).trans r1,(Az (jZ wr) (p:=⟨g,0,fT⟩) yc).trans k0,(Az (jZ wr) (p:=⟨g,1,fT⟩) yc).trans k1,(Az (jZ wr) (p:=⟨g,2,fT⟩) yc).trans k2,(Az (jZ wr) (p:=⟨g,3,fT⟩) yc).trans k3,(Az (jZ wr) (p:=⟨g,4,fT⟩) yc).trans k4,Ax ym (AY (jZ wr)),Ax yr (AY (jZ wr)),Ax yc (AY (jZ wr))⟩ trivial fun B=>?_;refine ig 0 B fun B=>?_;refine ig 1 B fun B=>?_;refine ig 2 B fun B=>?_;refine ig 3 B fun B=>?_;refine ig 4 B fun B=>?_;refine ig 5 B fun B=>?_;refine ig 6 B fun B=>?_;refine ig 7 B fun B=>?_;refine gX (i:=8) fx rfl fun K hK=>?_;go_simp;refine(CF.out _ (BW.trans ((jZ wr).mono BW.out.size))).mono ?_;rintro en w2 ⟨vi,vo,fb,fc,fe,rfl,dd,ei,ej,de,df⟩;have G:=fQ ((jZ wr).trans df);have dg:=fQ dd;have dh:=fQ (de _ aK.out);clear dd ei ej de df;refine hK.out _ _ ⟨⟨(Az G.out (p:=⟨C.mb,0,fT⟩) ym).trans m0,(Az G.out (p:=⟨C.mb,1,fT⟩) ym).trans m1,(Az G.out (p:=⟨C.mb,2,fT⟩) ym).trans m2,(Az G.out (p:=⟨C.mb,3,fT⟩) ym).trans m3,(Az G.out (p:=⟨C.mb,4,fT⟩) ym).trans m4,(Az G.out (p:=⟨w.heap.size,0,fT⟩) yr).trans r0,(Az G.out (p:=⟨w.heap.size,1,fT⟩) yr).trans r1,(Az G.out (p:=⟨g,0,fT⟩) yc).trans k0,(Az G.out (p:=⟨g,1,fT⟩) yc).trans k1,(Az G.out (p:=⟨g,2,fT⟩) yc).trans k2,(Az G.out (p:=⟨g,3,fT⟩) yc).trans k3,(Az G.out (p:=⟨g,4,fT⟩) yc).trans k4,Ax ym (AY G.out),Ax yr (AY G.out),Ax yc (AY G.out)⟩,fun _=>trivial⟩ fun B=>?_
      clear hK K
      try simp only[Act.put,Ad,Ag,Ah]
      refine ig 9 B fun B=>?_;refine ig 10 B fun B=>?_;refine ig 11 B fun B=>?_;refine ig 12 B fun B=>?_;refine ig 13 B fun B=>?_;refine ig 14 B fun B=>?_;refine ig 15 B fun B=>?_;refine jX fx ?_ _;clear B m0 m1 m2 m3 m4 r0 r1 r2 r3 r4 k0 k1 k2 k3 k4 yc yr ym CF;obtain⟨cd,ek⟩:=dh.out;injection ek with cf ch;subst cf;subst ch;have bA:=fQ (aG.C G.out);have cj:=fQ (c9.C G.out);have cm:=fQ (b9.C G.out b9.lt);have cp:=fQ (bb.C G.out bb.lt);have cq:=fQ (cc.C G.out cc.lt);have di:=fQ (bJv (iJ da.out G.out (Aq _)) fu (aWu IR.out.v64 c.args));have dj:fi.length=(jd V c.args).length:=(by unfold jd;rw[Ai];have:=a8.out;omega);have aL:(jd V c.args).length=f:=(by unfold jd;rw[Ai];exact aE.out);have dk:=fQ aL;have ep:w.heap.size<=w2.heap.size:=cj.out.size;clear aG c9 b9 bb cc G da dh cd BW db;go_wp2_with fail;refine(cKj vi (fG Av f cv) fi (jd V c.args) _ dg.out di.out dj (by rw[dk.out];omega)).mono ?_;rintro en E ⟨v3,rfl,bc,aM⟩;rw[aL]at bc;have cr:jL C.p.J r.a2 c=fi:=(by unfold jL;rw[aK.out];rfl);have aN:=fQ (show E.ownsRow w2.heap.size 52 1 v3 f (hH (iw C.p.J r c V)) by unfold iw;rw[cr];exact bc);have bB:=fQ (show(iw C.p.J r c V).length=f by have:=bc.1;unfold iw;rw[cr];simpa[hH]using this);have Q:=fQ (bA.C aM);have bC:=fQ (cj.C aM);have bD:=fQ (cm.C aM cm.lt);have ct:=fQ (cp.C aM cp.lt);have cw:=fQ (cq.C aM cq.lt);have et:=fQ (show ∀ gg,v3.ownBlock=fU gg->¬js C { x1 with a7:=N+1 } gg from fun gg eu=>bA.a6 (bc.lt gg eu).1);clear dj aL cr bc aM bA cj cm cp cq di dg dk;obtain⟨k0,k1,k2,k3,k4⟩:=gZ cw.out;have yc:=cw.lt;have ym:=Q.a9.lt;have fg:k<=4096:=(by have:=IR.out.k;have:=HC.n2;omega);have w9:IntKind.i64.wrap ((k:Int)+1)=((k+1:Nat):Int):=(by rw[Ay _ fu];rfl);obtain⟨A3,c3,rfl,fh⟩:=fJ aN.out;by_cases ah:c.op=276
      ·as_aux_lemma=>
       have cx:(c.op == 276)=gh:=(by simp[ah]);have ew:=fQ ah;clear ah;have au:=fQ (fXm IR.out.ev aU.out ew.out);go_wp2;go_ret;refine bKw IR.out Q.out bC.out (by rw[au.out]) (by rw[au.out];exact IR.out.e0.symm) (by rw[au.out];show N+1=x1.a7+1;rw[aD.out]) (by rw[au.out];have:=IR.out.b.oa;show x1.jt=max x1.jt (x1.ji+0);omega) rfl rfl ⟨_,_,_,rfl⟩ fun _=>?_;rw[au.out];refine⟨?_,vY _ _ _ IR.out.v64⟩;show E.ownsRow w.heap.size 52 1 (fG A3 f c3) (iw C.p.J r c V).length _;rw[bB.out];exact iQ aN.out ep
      have cx:(c.op == 276)=gj:=(by simp[ah]);have dm:E.cell? ⟨C.mb,17,fT⟩=fU (fF fO 0):=(by rw[Q.cell 17];simp[iC,IR.out.e0]);have f17:=ik Q.a9 17;by_cases an:c.op=277
      ·as_aux_lemma=>
       have cy:(c.op == 277)=gh:=(by simp[an]);have au:=fQ (fXn IR.out.ev aU.out an);have ey:=fQ (Q.k9 17 (fF fO 32) (y:={ x1 with a7:=N+1,e:=32 }) (by simp[iC]) rfl rfl rfl rfl rfl rfl rfl);have ez:=fQ (bC.k9 17 (fF fO 32) (y:={ x1 with a7:=N+1,e:=32 }) rfl rfl rfl);clear ah an;go_wp2;go_ret;exact bKw IR.out ey.out ez.out (by rw[au.out]) (by rw[au.out]) (by rw[au.out];show N+1=x1.a7+1;rw[aD.out]) (by rw[au.out];have:=IR.out.b.oa;show x1.jt=max x1.jt (x1.ji+0);omega) rfl rfl ⟨_,_,_,rfl⟩ (fun h=>by rw[au.out]at h;exact gH h (show ¬(32:Int)=0 by decide))
      have cy:(c.op == 277)=gj:=by simp[an]
      have aj:=fQ (fun(k2:Nat) (ha:iF C.p.J c k (iw C.p.J r c V) x1.s = .go k2) (eB:k2<r.K.length)=>show ∃ R2,lO C x r R w vb w.heap.size H J (fG L m tc) (fG (fU ⟨cb,co,fT⟩) S Y) k2 { x1 with a7:=N+1 } V R2 E by
       obtain⟨R2,e2,hR⟩:=fKe IR.out.ev aU.out ha
       exact⟨R2,cXi (dc:=0) (wd:=0) IR.out Q.out bC.out e2 hR (by show N+1=x1.a7+1+0;rw[aD.out]) (by have:=IR.out.b.oa;show x1.jt=max x1.jt (x1.ji+0);omega) rfl rfl IR.out.e0 (by show x1.s.a0.length<=_;omega) IR.out.b.wmx bD.out IR.out.vl IR.out.v64 IR.out.vo ct.out IR.out.ro IR.out.ok eB⟩)
      by_cases ak:c.op=273
      ·as_aux_lemma=>
       have bE:1<=c.to.length:=(by have:=b6.out;rw[ak]at this;have:(1:Int)<=c.to.length:=this;omega);obtain⟨t,W⟩:∃ t,c.to[0]? = fU t:=⟨_,Aj bE⟩;have aO:=bw.out t (Ak W);obtain⟨z,rfl⟩:∃ z:Nat,t=z:=⟨t.toNat,fu⟩;obtain⟨tb,tq,e5,X,al⟩:=J3.ir.cell W;subst e5;rw[Bx]at al;have ay:E.cell? ⟨tb,tq,fT⟩=fU (fF fO z):=(Q.bel.cell (p:=⟨tb,tq,fT⟩) X).trans al;have tT:(0:Int)<(O:Int):=(by have:=ax.out;omega);obtain⟨R2,hI⟩:=aj.out z (by rw[eJa ak,Aw,W];simp) fu;have HI:=fQ hI;clear hI W aO al X aj;go_wp2;exact⟨⟨_,_,_,_,rfl,HI⟩,aX.out _ _ Q.out (AK N)⟩
      have cz:(c.op == 273)=gj:=(by simp[ak]);by_cases ad:c.op=274
      ·as_aux_lemma=>
       have eC:f=1:=by
        have hf:=aK.out;rw[ad]at hf;have hf:(if c.n=0 then fU (([127]:List Int),([]:List Int))else fT)=fU (fi,fo):=hf
        split at hf
        ·cases hf;have h1:=a8.out;have h2:=aE.out;rw[<-h2,h1];rfl
        ·cases hf
       obtain⟨F,az⟩:∃ F,(iw C.p.J r c V)[0]? = fU F:=⟨_,Aj (by have:=bB.out;omega)⟩;obtain⟨ag,ac,ea,eD,_,_⟩:=lZ aN.out fu;injection ea with ea _ eE;subst ea;have cU:E.cell? ⟨ag,0,fT⟩=fU (fF fP (F:Int)):=(by rw[aN.cellAt 0 fu];simp[hH,az]);have aA:(iw C.p.J r c V).getD 0 0=F:=(by rw[Aw,az];rfl);by_cases hz:F=0
       ·have t0:((F:Int) != 0)=gj:=(by simp[hz]);obtain⟨R2,hI⟩:=aj.out (k+1) (by rw[dVb ad,aA,gz hz]) (zW HC.out aU.out (by unfold ib;rw[gy fu,gy fu,gz ad];simp));have HI:=fQ hI;clear hI az aj hz aA;go_wp2;exact⟨⟨_,_,_,_,rfl,HI⟩,aX.out _ _ Q.out (AK N)⟩
       ·have t0:((F:Int) != 0)=gh:=fw;have bE:1<=c.to.length:=(by have:=b6.out;rw[ad]at this;have:(1:Int)<=c.to.length:=this;omega);obtain⟨t,W⟩:∃ t,c.to[0]? = fU t:=⟨_,Aj bE⟩;have aO:=bw.out t (Ak W);obtain⟨z,rfl⟩:∃ z:Nat,t=z:=⟨t.toNat,fu⟩;obtain⟨tb,tq,e5,X,al⟩:=J3.ir.cell W;subst e5;rw[Bx]at al;have ay:E.cell? ⟨tb,tq,fT⟩=fU (fF fO z):=(Q.bel.cell (p:=⟨tb,tq,fT⟩) X).trans al;have tT:(0:Int)<(O:Int):=(by have:=ax.out;omega);obtain⟨R2,hI⟩:=aj.out z (by rw[dVb ad,aA,gy hz,Aw,W];simp) fu;have HI:=fQ hI;clear hI W aO al X aj az hz aA;go_wp2;exact⟨⟨_,_,_,_,rfl,HI⟩,aX.out _ _ Q.out (AK N)⟩
      have cA:(c.op == 274)=gj:=(by simp[ad]);by_cases ae:c.op=275
      ·as_aux_lemma=>
       have eC:f=1:=by
        have hf:=aK.out;rw[ae]at hf;have hf:(if c.n=0 then fU (([127]:List Int),([]:List Int))else fT)=fU (fi,fo):=hf
        split at hf
        ·cases hf;have h1:=a8.out;have h2:=aE.out;rw[<-h2,h1];rfl
        ·cases hf
       obtain⟨F,az⟩:∃ F,(iw C.p.J r c V)[0]? = fU F:=⟨_,Aj (by have:=bB.out;omega)⟩;obtain⟨ag,ac,ea,eD,_,_⟩:=lZ aN.out fu;injection ea with ea _ eE;subst ea;have cU:E.cell? ⟨ag,0,fT⟩=fU (fF fP (F:Int)):=(by rw[aN.cellAt 0 fu];simp[hH,az]);have aA:(iw C.p.J r c V).getD 0 0=F:=(by rw[Aw,az];rfl);have bE:1<=c.to.length:=(by have:=b6.out;rw[ae]at this;have:(1:Int)<=c.to.length:=this;omega);have aZ:O<=17592186043904:=(by have:=(J3.kj).2.2.1;have:=ax.out;omega);obtain⟨T,hT⟩:=fX (O - 1);have wT:IntKind.i64.wrap ((O:Int) - 1)=(T:Int):=(by rw[Ay _ fu];have:=ax.out;omega);have wU:IntKind.u64.wrap (T:Int)=(T:Int):=(by rw[IntKind.wrap_u64];omega)
       have bd:∀ q,min F (c.to.length - 1)=q->q<c.to.length:=fun q e=>by omega
       by_cases hz:F<T
       ·have wI:IntKind.i64.wrap (F:Int)=(F:Int):=Ay _ fu;obtain⟨t,W⟩:∃ t,c.to[F]? = fU t:=⟨_,Aj (by have:=ax.out;omega)⟩;have aO:=bw.out t (Ak W);obtain⟨z,rfl⟩:∃ z:Nat,t=z:=⟨t.toNat,fu⟩;obtain⟨tb,tq,e5,X,al⟩:=J3.ir.cell W;subst e5;have ay:E.cell? ⟨tb,tq+F,fT⟩=fU (fF fO z):=(Q.bel.cell (p:=⟨tb,tq+F,fT⟩) X).trans al;have tT:(F:Int)<(O:Int):=fu;obtain⟨R2,hI⟩:=aj.out z (by rw[bWe ae,aA,show min F (c.to.length - 1)=F by have:=ax.out;omega,Aw,W];simp) fu;have HI:=fQ hI;clear hI W aO al X aj az aA bd hT;go_wp2;exact⟨⟨_,_,_,_,rfl,HI⟩,aX.out _ _ Q.out (AK N)⟩
       ·obtain⟨t,W⟩:∃ t,c.to[T]? = fU t:=⟨_,Aj (by have:=ax.out;omega)⟩;have aO:=bw.out t (Ak W);obtain⟨z,rfl⟩:∃ z:Nat,t=z:=⟨t.toNat,fu⟩;obtain⟨tb,tq,e5,X,al⟩:=J3.ir.cell W;subst e5;have ay:E.cell? ⟨tb,tq+T,fT⟩=fU (fF fO z):=(Q.bel.cell (p:=⟨tb,tq+T,fT⟩) X).trans al;have tT:(T:Int)<(O:Int):=(by have:=ax.out;omega);obtain⟨R2,hI⟩:=aj.out z (by rw[bWe ae,aA,show min F (c.to.length - 1)=T by have:=ax.out;omega,Aw,W];simp) fu;have HI:=fQ hI;clear hI W aO al X aj az aA bd hT;go_wp2;exact⟨⟨_,_,_,_,rfl,HI⟩,aX.out _ _ Q.out (AK N)⟩
      have cB:(c.op == 275)=gj:=(by simp[ae]);clear aj f17;obtain⟨s2,e2,dc,wd,l,aP,cC,cD⟩:=Ev.step IR.out.ev aU.out ak ad ae ah;have be:=ak;have bf:=ad;have bg:=ae;have bj:=ah;have bk:=an;have cE:=fQ (bN c bY.out);have dn:w.heap.size<=vb:=fu;have aB:=fQ aP;have eF:=fQ cC;have eG:=fQ cD
      have dp:kU { x1 with a7:=N+1 } dc:=by
       have tb:=IR.out.b
       have hle:1+dc<=R'.a7:=by
        by_cases dq:e2=0
        ·obtain⟨R2,_,hR,_⟩:=cC dq;rw[hR];show 1+dc<=1+dc+R2.a7;omega
        ·rw[cD dq];exact Aq _
       exact⟨by show N+1+dc<=_;have:=tb.a7;have:=aD.out;omega,by show x1.s.a0.length+9*dc<=_;have:=tb.a0;omega,tb.oa,tb.wmx,tb.s6,tb.dle⟩
      have dr:UR E (fG A3 f c3) (iw C.p.J r c V):=bJv aN.out fu (vY _ _ _ IR.out.v64);have bm:(iw C.p.J r c V).length=(jL C.p.J r.a2 c).length:=(by rw[bB.out];unfold jL;rw[aK.out];show f=fi.length;have:=a8.out;have:=aE.out;omega);have CO:=fQ (bO { x1 with a7:=N+1 } E c k (fG pA f pc) (fG qA D qc) (fG eA O ec) (fG A3 f c3) (iw C.p.J r c V) s2 e2 dc wd l IR.out.d IR.out.e0 bY.out ak ad ae ah an Q.out IR.out.ok dp dr et.out bm (bWg _ _) aP);clear aP cC cD dp dr bm ak ad ae ah an dm;go_wp2_with fail;refine CO.mono ?_;rintro en w4 ⟨v4,x4,rfl,M4,K4,ds,dt,du,dv,dw,dx,⟨A4,n4,c4,rfl⟩,dy⟩;have dz:vb<E.heap.size:=bD.lt;have cF:=fQ (show me C x x4 w w4 vb w.heap.size g E.heap.size V l (#[H,J,fF fO r.M,fG L m tc,fG (fU ⟨cb,co,fT⟩) S Y]) (#[fF fO c.op,fF fP (c.n:Int),fG pA f pc,fG qA D qc,fG eA O ec]) (fG A4 n4 c4) e2 w4 from⟨M4,bC.trans K4,K4.a9 bD.out IR.out.vo,K4.a9 ct.out IR.out.ro,K4.a9 cw.out cY.out,fun e=>(dy e).1,M4.bel⟩);have aQ:=fQ (K4.keep vb bD.lt IR.out.vo).2;have cG:=fQ (K4.keep w.heap.size ct.lt IR.out.ro).2;have bG:=fQ ds;have cH:=fQ dt;have dA:Hid (x4.a7=N+1+dc/\x4.jt=max x1.jt (x1.ji+wd)/\x4.ji=x1.ji/\x4.d=x1.d):=⟨du,dv,dw,dx⟩;clear M4 K4 ds dt du dv dw dx dy k0 k1 k2 k3 k4 yc ym CO;obtain⟨M,hM⟩:∃ M:Nat,C.p.J.G=M:=⟨C.p.J.G.toNat,by have:=(kY HC.J).2.1;omega⟩;have eH:M<=64:=(by have:=kY HC.J;omega);have wM:IntKind.u64.wrap (M:Int)=(M:Int):=(by rw[IntKind.wrap_u64];omega);have bn:=fQ (show zV C.p.J c=decide (c.op=16/\M<=c.n) by unfold zV;rw[hM];congr 1;apply propext;constructor <;> (intro h;omega));have eI:=fQ hM;clear hM;go_upto_block 7 with fail;go_cut [18] (fun fj wx=>Hid (me C x x4 w w4 vb w.heap.size g E.heap.size (lG C.p.J c C.lost V) l (#[H,J,fF fO r.M,fG L m tc,fG (fU ⟨cb,co,fT⟩) S Y]) (#[fF fO c.op,fF fP (c.n:Int),fG pA f pc,fG qA D qc,fG eA O ec]) (fG A4 n4 c4) e2 wx))
      case first=>
       go_wp2_with fail;go_loopw [18] (fun i wr=>∃ j:Nat,j<=P/\j<=C.lost/\(j=0\/zV C.p.J c=gh)/\i = fF fO j/\Hid (me C x x4 w w4 vb w.heap.size g E.heap.size (mO j V) l (#[H,J,fF fO r.M,fG L m tc,fG (fU ⟨cb,co,fT⟩) S Y]) (#[fF fO c.op,fF fP (c.n:Int),fG pA f pc,fG qA D qc,fG eA O ec]) (fG A4 n4 c4) e2 wr)) (fun i _=>P - (intOf i).toNat)
       case atStart=>exact⟨0,fu,fu,.inl rfl,rfl,by rw[bWa];exact cF⟩
       case round=>
        clear cF;obtain⟨j,hj,eJ,bH,rfl,IJ⟩:=hrel;obtain⟨h1,h2,U,h4,h5,Z,h7⟩:=IJ.out;obtain⟨k0,k1,k2,k3,k4⟩:=gZ h5;obtain⟨r0,r1,r2,r3,r4⟩:=gZ h4;have m12:wr.cell? ⟨C.mb,12,fT⟩=fU (fF fO C.lost):=(by rw[h1.cell 12];rfl);have m1:wr.cell? ⟨C.mb,1,fT⟩=fU (fF fO M):=(by rw[h1.cell 1,<-eI.out];rfl);have fv:=ik U j;have dB:V.length=P:=(by rw[IR.out.vl,aH.out];rfl);by_cases b1:j<C.lost
        ·by_cases b2:j<P
         ·have fk:(j:Int)<P:=Int.ofNat_lt.2 b2;by_cases b3:c.op=16
          ·have eK:(c.op == 16)=gh:=(by simp[b3]);by_cases b4:M<=c.n
           ·as_aux_lemma=>
            have bo:zV C.p.J c=gh:=(by rw[bn.out];simp[b3,b4]);obtain⟨u,hu⟩:∃ u,wr.cell? ⟨vb,j,fT⟩=fU u:=(by rw[U.cell j];exact⟨_,AV (by simp[hH,eZx (show j<=V.length by omega)];omega)⟩)
            have aj:=fQ (fun q:Nat=>show me C x x4 w w4 vb w.heap.size g E.heap.size (mO (j+1) V) l (#[H,J,fF fO r.M,fG L m tc,fG (fU ⟨cb,co,fT⟩) S Y]) (#[fF fO c.op,fF fP (c.n:Int),fG pA f pc,fG qA D qc,fG eA O ec]) (fG A4 n4 c4) e2 ((wr.drewN q).setCell ⟨vb,j,fT⟩ (fF fP 0)) by
             rw[<-bWb (show j<V.length by omega)]
             exact(IJ.out.C (fK (AJ _ _) q)).put (y:=0) aQ.out dn IR.out.vlo fu fu dz)
            clear h1 h2 U h4 h5 Z h7 IJ b3;go_wp2_with fail;go_quiet (fail);go_wp2;exact⟨⟨j+1,fu,fu,.inr bo,fz,aj.out nq⟩,fB⟩
           ·as_aux_lemma=>
            have aw:=fQ (show me C x x4 w w4 vb w.heap.size g E.heap.size (lG C.p.J c C.lost V) l (#[H,J,fF fO r.M,fG L m tc,fG (fU ⟨cb,co,fT⟩) S Y]) (#[fF fO c.op,fF fP (c.n:Int),fG pA f pc,fG qA D qc,fG eA O ec]) (fG A4 n4 c4) e2 wr by rw[<-bXg (i:=j) (.inl ⟨by rw[bn.out];simp[b4],by rcases bH with h|h;exact h;rw[bn.out]at h;simp[b4]at h⟩)];exact IJ.out);clear h1 h2 U h4 h5 Z h7 IJ;go_wp2_with fail;go_quiet (fail);have IZ:=fQ (aw.C (fK (AJ _ _) nq));clear aw;generalize wr.drewN nq=wz at IZ ⊢;go_wp2_with fail;go_meet;exact IZ
          ·have eK:(c.op == 16)=gj:=by simp[b3]
           as_aux_lemma=>
           have aw:=fQ (show me C x x4 w w4 vb w.heap.size g E.heap.size (lG C.p.J c C.lost V) l (#[H,J,fF fO r.M,fG L m tc,fG (fU ⟨cb,co,fT⟩) S Y]) (#[fF fO c.op,fF fP (c.n:Int),fG pA f pc,fG qA D qc,fG eA O ec]) (fG A4 n4 c4) e2 wr by rw[<-bXg (i:=j) (.inl ⟨by rw[bn.out];simp[b3],by rcases bH with h|h;exact h;rw[bn.out]at h;simp[b3]at h⟩)];exact IJ.out);clear h1 h2 U h4 h5 Z h7 IJ;go_wp2_with fail;go_quiet (fail);have IZ:=fQ (aw.C (fK (AJ _ _) nq));clear aw;generalize wr.drewN nq=wz at IZ ⊢;go_wp2_with fail;go_meet;exact IZ
         ·as_aux_lemma=>
          have aw:=fQ (show me C x x4 w w4 vb w.heap.size g E.heap.size (lG C.p.J c C.lost V) l (#[H,J,fF fO r.M,fG L m tc,fG (fU ⟨cb,co,fT⟩) S Y]) (#[fF fO c.op,fF fP (c.n:Int),fG pA f pc,fG qA D qc,fG eA O ec]) (fG A4 n4 c4) e2 wr by rw[<-bXg (i:=j) (by cases bo:zV C.p.J c;exact .inl ⟨rfl,by rcases bH with h|h;exact h;rw[bo]at h;cases h⟩;exact .inr ⟨rfl,by rw[dB];omega⟩)];exact IJ.out);clear h1 h2 U h4 h5 Z h7 IJ;go_wp2_with fail;go_quiet (fail);have IZ:=fQ (aw.C (fK (AJ _ _) nq));clear aw;generalize wr.drewN nq=wz at IZ ⊢;go_wp2_with fail;go_meet;exact IZ
        ·as_aux_lemma=>
         have aw:=fQ (show me C x x4 w w4 vb w.heap.size g E.heap.size (lG C.p.J c C.lost V) l (#[H,J,fF fO r.M,fG L m tc,fG (fU ⟨cb,co,fT⟩) S Y]) (#[fF fO c.op,fF fP (c.n:Int),fG pA f pc,fG qA D qc,fG eA O ec]) (fG A4 n4 c4) e2 wr by rw[<-bXg (i:=j) (by cases bo:zV C.p.J c;exact .inl ⟨rfl,by rcases bH with h|h;exact h;rw[bo]at h;cases h⟩;exact .inr ⟨rfl,by rw[dB];omega⟩)];exact IJ.out);clear h1 h2 U h4 h5 Z h7 IJ;go_wp2_with fail;go_quiet (fail);have IZ:=fQ (aw.C (fK (AJ _ _) nq));clear aw;generalize wr.drewN nq=wz at IZ ⊢;go_wp2_with fail;go_meet;exact IZ
      case rest=>
       have IZ:=hcut;clear hcut cF;generalize wc=wz at IZ ⊢;go_wp2_with fail;go_loopw [19] (fun i wr=>∃ j:Nat,j<=D/\(e2=0\/j=0)/\i = fF fO j/\Hid (me C x x4 w w4 vb w.heap.size g E.heap.size (iS (c.O.take j) (l.take j) (lG C.p.J c C.lost V)) l (#[H,J,fF fO r.M,fG L m tc,fG (fU ⟨cb,co,fT⟩) S Y]) (#[fF fO c.op,fF fP (c.n:Int),fG pA f pc,fG qA D qc,fG eA O ec]) (fG A4 n4 c4) e2 wr)) (fun i _=>D - (intOf i).toNat)
       case atStart=>exact⟨0,fu,.inr rfl,rfl,fQ (by rw[cYa];exact IZ.out)⟩
       case round=>
        clear IZ;obtain⟨j,hj,fl,rfl,IJ⟩:=hrel;obtain⟨h1,h2,U,h4,h5,Z,h7⟩:=IJ.out;obtain⟨k0,k1,k2,k3,k4⟩:=gZ h5;have dm:wr.cell? ⟨C.mb,17,fT⟩=fU (fF fO e2):=(by rw[h1.cell 17];simp[iC,cH.out]);by_cases aq:e2=0
        ·by_cases ed:j<D
         ·as_aux_lemma=>
          have v2:(j:Int)<D:=fu;obtain⟨o,ho⟩:∃ o,c.O[j]? = fU o:=⟨_,Aj (by have:=a7.out;omega)⟩;have aS:=eb.out o (Ak ho);obtain⟨z,rfl⟩:∃ z:Nat,o=z:=⟨o.toNat,fu⟩;have eL:=aB.len hp ba.out aq;obtain⟨y,hy⟩:∃ y,l[j]? = fU y:=⟨_,Aj (by have:=a7.out;omega)⟩;have eM:=eWh (Z aq);have eJ:j<l.length:=(gw hy).1;obtain⟨og,oc,eo,fm,_,_⟩:=lZ (Z aq) fu;injection eo with eo _ eN;subst eo;subst eN;rw[eM]at Z;have fp:wr.cell? ⟨og,j,fT⟩=fU (fF fP (y:Int)):=(by rw[(Z aq).cellAt j fu];simp[hH,hy]);have cT:z<P:=(by have:=aH.out;omega);have v4:(z:Int)<P:=fu;obtain⟨tb,tq,e5,X,al⟩:=J2.ir.cell ho;subst e5;have ay:wr.cell? ⟨tb,tq+j,fT⟩=fU (fF fO z):=(h7.cell (p:=⟨tb,tq+j,fT⟩) X).trans al;obtain⟨u,hu⟩:∃ u,wr.cell? ⟨vb,z,fT⟩=fU u:=(by rw[U.cell z];exact⟨_,AV (by simp[hH,rh,cKi,IR.out.vl];have:=aH.out;omega)⟩);have fv:=ik U z
          have aj:=fQ (show me C x x4 w w4 vb w.heap.size g E.heap.size (iS (c.O.take (j+1)) (l.take (j+1)) (lG C.p.J c C.lost V)) l (#[H,J,fF fO r.M,fG L m tc,fG (fU ⟨cb,co,fT⟩) S Y]) (#[fF fO c.op,fF fP (c.n:Int),fG pA f pc,fG (fU ⟨tb,tq,fT⟩) D qc,fG eA O ec]) (fG (fU ⟨og,0,fT⟩) n4 c4) e2 (wr.setCell ⟨vb,z,fT⟩ (fF fP (y:Int))) by
           rw[sG _ _ _ j z y ho hy,AW]
           exact IJ.out.put aQ.out dn IR.out.vlo fu fu dz)
          clear h1 h2 U h4 h5 Z h7 IJ ho hy aS eL al X;go_wp2_with fail;go_region
          all_goals
           go_wp2;exact⟨⟨j+1,fu,.inl aq,fz,fQ (aj.C (jZ _))⟩,fB⟩
         ·as_aux_lemma=>
          have v1:decide ((j:Int)<D)=gj:=fw;obtain rfl:D=j:=fu;have e1:iS (c.O.take D) (l.take D) (lG C.p.J c C.lost V)=iS c.O l (lG C.p.J c C.lost V):=cXf _ _ _ _ (by have:=a7.out;omega);rw[e1]at U;obtain⟨R2,dC,aC,_⟩:=eF.out aq;have cI:=aB.ok bM IR.out.ok (vY _ _ _ IR.out.v64) cE.out;obtain⟨bI,bJ,cJ,cK⟩:=dA.out;have bp:=zW HC.out aU.out (show((k+1:Nat):Int)∈ib c k by rw[yX be bf bg bj bk];simp);have tb:=IR.out.b;have HI:=fQ (cXi (k2:=k+1) (dc:=dc) (wd:=wd) IR.out h1 h2 (by rw[bG.out];exact dC) aC (by rw[bI,aD.out]) bJ cJ cK (by rw[cH.out];exact aq) (by rw[bG.out];exact aB.a0 hp (bXf HC.out ba.out V)) (by rw[bJ];have h8:=aB.wd hp;have h9:=tb.wmx;have eO:=tb.s6;have eP:=tb.dle;have eQ:=IR.out.d;rw[eQ]at eO eP;omega) U (by rw[rh,cKi];exact IR.out.vl) (pD _ _ _ cI.2 (fXo IR.out.v64)) aQ.out h4 cG.out (by rw[bG.out];exact cI.1) bp);have HM:=fQ h1;clear h1 h2 U h4 h5 Z h7 IJ dC aC cI bp tb e1;go_wp2;exact⟨⟨_,_,_,_,rfl,HI⟩,aX.out _ _ HM.out (by rw[bI];omega)⟩
        ·as_aux_lemma=>
         have u0:(e2 == 0)=gj:=(by simpa using aq);have u1:(e2 != 0)=gh:=(by simpa using aq);obtain rfl:j=0:=fu;obtain⟨bI,bJ,cJ,cK⟩:=dA.out;have aC:=eG.out aq;have HO:=fQ (fun(v:Bk) (hv:∃ A n c,v = fG A n c)=>bKw (v:=v) IR.out h1 h2 (by rw[aC];exact bG.symm) (by rw[aC];exact cH.symm) (by rw[aC,bI];show N+1+dc=x1.a7+(1+dc);rw[aD.out];omega) (by rw[aC];exact bJ) cJ cK hv (fun h=>gH (by rw[aC]at h;exact h) aq));clear h1 h2 U h4 h5 Z h7 IJ aC;by_cases fq:0<D
         ·go_wp2;go_ret;exact HO.out _ ⟨_,_,_,rfl⟩
         ·have v1:decide (((0:Nat):Int)<D)=gj:=fw;obtain rfl:D=0:=fu;go_wp2;go_ret;exact HO.out _ ⟨_,_,_,rfl⟩
theorem ph(h:w.ownsRow base 52 1 v n (hH l))(a:n<=17592186043904)(b:ij l):UR w v l:=by
 obtain⟨A,c,rfl,_⟩:=fJ h;exact bJv h a b
theorem tN{e:ia}{g:iu}(h:iH e=gh)(hg:e.R[n]? = fU g):g.a1.length<=8/\g.out.length<=8:=by
 unfold iH at h;simp only[Ae,decide_eq_true_eq]at h;have:=Ak hg;exact bZo (by first|exact List.all_eq_true.1 h.2.2 g this|exact List.all_eq_true.1 h.2.1 g this|exact List.all_eq_true.1 h.2.1.1 g this|exact List.all_eq_true.1 h.2 g this|exact List.all_eq_true.1 h.2.2.2 g this)
theorem dKk{C:jo}{x x4:jk}{n:Nat}{g:iu}{a:List Nat}{w j f:Bz}{s2:iM}{e2 b:Int}{dc wd:Nat}{l:List Nat}{A:Option Addr}{m c:Nat}(k:iB C { x4 with e:=b } (f.setCell ⟨C.mb,17,fT⟩ (fF fO b)))(o:MK C x { x4 with e:=b } w (f.setCell ⟨C.mb,17,fT⟩ (fF fO b)))
  (h:x4={ x with lv:=x4.lv,iv:=x4.iv,s:=(iy n g.out (ie g.a1 a) x.s).2.2 }) (q:(iy n g.out (ie g.a1 a) x.s).2.1=b) (r:(iy n g.out (ie g.a1 a) x.s).2.1=0->f.ownsRow j.heap.size 52 1 (fG A m c) (iy n g.out (ie g.a1 a) x.s).1.length (hH (iy n g.out (ie g.a1 a) x.s).1))
  (hd:j6 C.p C.lost x.d n g a x.s s2 e2 dc wd l) (hi:(n:Int)<C.p.J.G) (t:jh C.p.J x.s) (u:ij (ie g.a1 a)) (v:w.heap.size<=j.heap.size) (hle:x.ji<=x.jt) (hn:n<18446744073709551616) {cs:Array Bk} (y:gO f C.mb 79 cs):kt C x s2 e2 dc wd l w (fS (fG A m c)) (f.setCell ⟨C.mb,17,fT⟩ (fF fO b)):=by
 cases hd with
 | host i=>
  have hs:x4.s=(iy n g.out (ie g.a1 a) x.s).2.2:=(by rw[h]);refine⟨_,_,rfl,k,o,hs,q.symm,(by rw[h];rfl),(by rw[h];show x.jt=max x.jt (x.ji+0);omega),by rw[h],by rw[h],⟨_,_,_,rfl⟩,fun z=>?_⟩;refine⟨?_,(sC t u hn).2⟩;have h1:=iQ (r z) v;exact iW h1 (iZ h1 y fy)
 | deep i=>exact gH hi i
 | call i=>exact gH hi i
theorem dKl{C:jo}{x:jk}{n:Nat}{g:iu}{a:List Nat}{w b:Bz}{s2:iM}{e2:Int}{dc wd:Nat}{l:List Nat}(f:iB C { x with e:=37 } b)(h:MK C x { x with e:=37 } w b)(hd:j6 C.p C.lost x.d n g a x.s s2 e2 dc wd l)(hi:¬(n:Int)<C.p.J.G)(ae:16<=x.d)(hle:x.ji<=x.jt):
  kt C x s2 e2 dc wd l w (fS (fG fT 0 0)) b:=by
 cases hd with
 | host c=>exact gH c hi
 | deep c=>exact⟨_,_,rfl,f,h,rfl,rfl,rfl,(by show x.jt=max x.jt (x.ji+0);omega),rfl,rfl,⟨_,_,_,rfl⟩,fun i=>gH i (show ¬(37:Int)=0 by decide)⟩
 | call c j=>exact gH j fu
theorem eZe{p:hU}{g:iu}{s s2:iM}{wd:Nat}(hd:j6 p lost d n g a s s2 e2 dc wd l)(hi:¬(n:Int)<p.J.G)(c:d<16):
  ∃ q R,p.b0[n - p.J.G.toNat]? = fU q/\Ev p lost (d+1) q 0 (jb q (ie g.a1 a)) s R/\s2=R.s/\e2=R.e/\dc=R.a7/\wd=q.M.toNat+R.kO/\l=R.out:=by
 cases hd with
 | host b=>exact gH b hi
 | deep b h=>exact gH c fu
 | call b ae hq h1=>exact⟨_,_,hq,h1,rfl,rfl,rfl,rfl,rfl⟩
theorem bXr{l:List gR}(h:Structs 5 kr w v l){x:gR}(a:l[k]? = fU x):
  ∃ b o p q r s,(∃ c,v = fG (fU ⟨b,o,fT⟩) l.length c)/\b<w.heap.size/\w.cell? ⟨b,o+k*5,fT⟩=fU p/\w.cell? ⟨b,o+k*5+1,fT⟩=fU q/\w.cell? ⟨b,o+k*5+2,fT⟩=fU (fF fO x.M)/\w.cell? ⟨b,o+k*5+3,fT⟩=fU r/\w.cell? ⟨b,o+k*5+4,fT⟩=fU s /\
   Ints w p x.a2.a1/\Ints w q x.a2.out/\Ints w r x.params/\Structs 5 jE w s x.K:=by
 obtain⟨A,c,rfl,_⟩:=h.len;obtain⟨b,o,p,q,r,s,rfl,d⟩:=h.row a;exact⟨b,o,p,q,r,s,⟨c,rfl⟩,d⟩
theorem cQz(C:jo)(x:jk)(n:Nat)(va:Bk)(a:List Nat)(g:iu)(w:Bz)(s2:iM)(e2:Int)(dc wd:Nat)(l:List Nat)(hp:iD C.p)(hE:iG C.w0 (fM #[C.a,fF fO C.p.J.G,C.b,C.d,fH C.p.J.L]) C.p.J)(hF:Structs 5 kr C.w0 C.f C.p.b0)
  (h:iB C x w) (bu:jh C.p.J x.s) (he:x.e=0) (hb:kU x dc) (ha:UR w va a) (hg:C.p.J.R[n]? = fU g) (bw:a.length=g.a1.length) (aB:∀ (i:Nat) q,C.p.b0[i]? = AZ q->∀ c∈q.K,c.n<18446744073709551616)
  (aC:x.d<16->∀ r∈C.p.b0,rG C r (x.d+1)) (aD:j6 C.p C.lost x.d n g a x.s s2 e2 dc wd l) :
  Calls fZ 37 #[fN (fU ⟨C.mb,0,fT⟩),fF fO n,va] w (kt C x s2 e2 dc wd l w):=by
 obtain⟨Aa,ca,rfl⟩:=ha.I;obtain⟨m,hm⟩:=fX a.length;rw[hm]at ha ⊢;have b6:m<=8:=(by have:=(tN hp.J hg).1;omega);have b7:=(tN hp.J hg).2;have b8:=hE;obtain⟨a',b',d',e,hS,hG,hB⟩:=b8;injection e with e;injection e with e;simp only[List.cons.injEq,and_true]at e;obtain⟨e1,_,rfl,rfl,_⟩:=e;rw[<-e1]at hS;clear e1;obtain⟨sA,sc,aE,_⟩:=hS.len;obtain⟨L,hL⟩:=fX C.p.J.R.length;have cH:n<L:=(by rw[<-hL];exact(gw hg).1);have b9:L<=64:=(by have:=(kY hp.J).1;omega);rw[hL]at aE;rw[aE]at hS;obtain⟨sb,so,u0,u1,rfl,aS,g5,g6,i5,i6⟩:=hS.a2 hg;have t2:(n:Int)<L:=fu;have t:=h.bel;replace g5:=(t.cell (p:=⟨sb,_,fT⟩) aS).trans g5;replace g6:=(t.cell (p:=⟨sb,_,fT⟩) aS).trans g6;have cc:=Ax aS t.size;have m0:w.cell? ⟨C.mb,0,fT⟩=fU (fG (fU ⟨sb,so,fT⟩) L sc):=(by rw[h.cell 0];simp[iC,aE]);have v:=h.a9.lt;obtain⟨M,hM⟩:∃ M:Nat,C.p.J.G=M:=⟨C.p.J.G.toNat,by have:=(kY hp.J).2.1;omega⟩;have aF:=(AJ w.heap.size w).alloc (Aq _) (fR #[u0,u1] 62);have aY:=fQ (h.C aF);have bz:=fQ (MK.jN (C:=C) (x:=x) aF);have bA:=fQ (ha.C aF (Aq _));have KS:=fQ (gO.a4 w 62 #[u0,u1]);have bB:=fQ (i5.C (t.trans (aF.mono t.size)) (Aq _)).ir;have cd:=fQ (show jq C.w0 (fM #[u0,u1]) g from⟨u0,u1,rfl,i5,i6⟩);obtain⟨U0,c0,rfl⟩:=i5.I;obtain⟨U1,c1,rfl⟩:=i6.I;have V:=fQ hM;have aZ:=fQ hm;have bC:=fQ bw;have cf:=fQ hg;have HH:=fQ h;have HP:=fQ hp;have ch:=fQ hF;have cj:=fQ hE;have ak:=fQ aD;have cm:=fQ ha.len.2.2.2.2.2;have a7:=fQ bu;have J:=fQ hb;have cn:=fQ he;have aG:=fQ aB;have a8:=fQ aC;clear aB aC;clear h ha hm bw hg hp hF hE aD bu hb he aE hS hG hB hL aF t i5 i6 hM aS;go_in;go_wp2_with fail;refine(cKj _ _ g.a1 a _ bB.out bA.out bC.symm (by rw[aZ.out];omega)).mono ?_;rintro en w2 ⟨v3,rfl,W,aH⟩;rw[aZ.out]at W;obtain⟨X,Y,rfl,cJ⟩:=fJ W;have F:=fQ (aY.C aH);have aT:=fQ (bz.C aH);have aI:=fQ (KS.C aH KS.lt);have aJ:=fQ (pZ g.a1 a cm.out);have ba:=fQ (bJv W fu aJ.out);have aq:=fQ (show ∀ k,(Value.slice X m Y).ownBlock=fU k->¬js C x k from fun k Z=>aY.a6 (W.lt k Z).1);have bD:=fQ (show(ie g.a1 a).length=m by have:=W.1;simpa[hH]using this);have cp:=aH.size;simp only[World.size_alloc]at cp;have cq:=fQ W;have cr:=fQ (show ¬js C x w.heap.size from HH.a6 (Aq _));clear aY bz KS bA bB W aH m0 g5 g6 cc v t2;obtain⟨q0,q1⟩:=qH aI.out;have yS:=aI.lt;have v:=F.a9.lt;have m1:w2.cell? ⟨C.mb,1,fT⟩=fU (fF fO M):=(by rw[F.cell 1,<-V.out];rfl);by_cases hi:n<M
 ·as_aux_lemma=>
  have CF:=fQ (fun(w':Bz) (bE:Bv w2.heap.size w2 w')=>eZi C x n g (fM #[fG U0 g.a1.length c0,fG U1 g.out.length c1]) (fG X m Y) (ie g.a1 a) w' (F.C bE) cd.out (ba.C bE (Aq _)) aq.out fu (by rw[bD.out];exact b6) b7 (by have:=J.a0;omega) (by have:=a7.ilen;omega));go_wp2_with fail;refine jY (fun w'=>w'.cell? ⟨w.heap.size,0,fT⟩=fU (fG U0 g.a1.length c0)/\w'.cell? ⟨w.heap.size,1,fT⟩=fU (fG U1 g.out.length c1)/\w.heap.size<w'.heap.size) (fun _=>True) 1000 fx ⟨(Az (jZ w2) (p:=⟨w.heap.size,0,fT⟩) yS).trans q0,(Az (jZ w2) (p:=⟨w.heap.size,1,fT⟩) yS).trans q1,Ax yS (AY (jZ w2))⟩ trivial fun j=>?_;refine ig 0 j fun j=>?_;refine ig 1 j fun j=>?_;refine ig 2 j fun j=>?_;refine ig 3 j fun j=>?_;refine ig 4 j fun j=>?_;refine ig 5 j fun j=>?_;refine gX (i:=6) fx rfl fun K hK=>?_;go_simp;refine(CF.out _ (jZ w2)).mono ?_;rintro en N ⟨v4,x4,rfl,M4,K4,bF,bG,A4,n4,c4,rfl⟩;have bb:=fQ (K4.a9 (aI.drew) cr.out);have A:=fQ M4;have aK:=fQ ((aT.C (jZ w2)).trans K4);have bc:=fQ bF;have bH:=fQ bG;clear M4 K4 bF bG;refine hK.out _ _ ⟨⟨(qH bb.out).1,(qH bb.out).2,bb.lt⟩,fun _=>trivial⟩ fun j=>?_;clear hK K
  try simp only[Act.put,Ad,Ag,Ah]
  refine ig 7 j fun j=>?_;refine ig 8 j fun j=>?_;refine ig 9 j fun j=>?_;refine ig 10 j fun j=>?_;refine ig 11 j fun j=>?_;refine jX fx ?_ _;clear j q0 q1 yS v CF;obtain⟨eH,bd⟩:=fX ((iy n g.out (ie g.a1 a) x.s).2.1);rw[bd];have ct:=fQ bd;clear bd;obtain⟨cv,bI⟩:∃ u,N.cell? ⟨C.mb,17,fT⟩=fU u:=⟨_,by rw[A.cell 17];rfl⟩;have f17:=ik A.a9 17;have B:=fQ (A.k9 17 (fF fO eH) (y:={ x4 with e:=eH }) (by simp[iC]) rfl rfl rfl rfl rfl rfl rfl);have O:=fQ (aK.k9 17 (fF fO eH) (y:={ x4 with e:=eH }) rfl rfl rfl);have cw:=(bc.out);have ae:=fQ (show kt C x s2 e2 dc wd l w (fS (fG A4 n4 c4)) (N.setCell ⟨C.mb,17,fT⟩ (fF fO eH))from dKk B.out O.out bc.out ct.out bH.out ak.out (by rw[V.out];omega) a7.out aJ.out (Nat.le_of_lt (aI.drew).lt) J.oa fu A.a9);clear B O bc bH A aK cw;go_wp2;go_ret;exact ae.out
 ·obtain⟨D,j⟩:=fX x.d;have ar:=fQ j;have cx:w2.cell? ⟨C.mb,16,fT⟩=fU (fF fO D):=(by rw[F.cell 16,<-j];rfl);obtain⟨cv,bI⟩:∃ u,w2.cell? ⟨C.mb,17,fT⟩=fU u:=⟨_,by rw[F.cell 17];rfl⟩;have f17:=ik F.a9 17;have f16:=ik F.a9 16;by_cases cy:16<=D
  ·as_aux_lemma=>
   have t3:decide ((16:Int)<=(D:Int))=gh:=fw;have B:=fQ (F.k9 17 (fF fO 37) (y:={ x with e:=37 }) (by simp[iC]) rfl rfl rfl rfl rfl rfl rfl);have O:=fQ (aT.k9 17 (fF fO 37) (y:={ x with e:=37 }) rfl rfl rfl);have ae:=fQ (show kt C x s2 e2 dc wd l w (fS (fG fT 0 0)) (w2.setCell ⟨C.mb,17,fT⟩ (fF fO 37))from dKl B.out O.out ak.out (by rw[V.out];omega) (by rw[j];exact cy) J.oa);clear B O j;go_wp2;go_ret;exact ae.out
  ·have t3:decide ((16:Int)<=(D:Int))=gj:=fw;clear j bI f17;have cz:=fQ (eZe ak.out (by rw[V.out];omega) (by rw[ar.out];omega));obtain⟨q,R,hq,bJ,rfl,rfl,rfl,rfl,rfl⟩:=cz.out;obtain⟨K,hK⟩:=fX (n - M);have bL:C.p.b0[K]? = fU q:=(by rw[<-hK,<-hq,V.out];rfl);have wK:IntKind.i64.wrap ((n:Int) - (M:Int))=(K:Int):=(by rw[Ay _ fu];omega);have wD:IntKind.i64.wrap ((D:Int)+1)=((D+1:Nat):Int):=(by rw[Ay _ fu];rfl);have HQ:=fQ bL;have cA:=fQ hK;have be:=fQ bJ;clear hq bJ hK bL;go_wp2_with fail;obtain⟨E,aL⟩:=fX (w2.setCell ⟨C.mb,16,fT⟩ (fF fO ((D:Int)+1)));have Q:=fQ (show iB C { x with d:=D+1 } E from by rw[<-aL];exact F.k9 16 (fF fO ((D:Int)+1)) (y:={ x with d:=D+1 }) (by simp[iC]) rfl rfl rfl rfl rfl rfl rfl);have bf:=fQ (show MK C x { x with d:=D+1 } w E from by rw[<-aL];exact aT.k9 16 _ (y:={ x with d:=D+1 }) rfl rfl rfl);have bM:=fQ (show UR E (fG X m Y) (ie g.a1 a)from by rw[<-aL];exact ba.heap (by simp[Ab]) (fun k Z _=>AX _ _ _ _ (fun e=>aq.out k Z (.inl e))));rw[aL];clear aL wD cx f16 m1 q0 q1 v yS aI F aT ba cq;obtain⟨fb,fo,v0,v1,v3,v4,cB,an,g0,g1,S,g3,g4,i1,i2,i3,i4⟩:=bXr ch.out HQ.out;have t:=Q.bel;replace g0:=(t.cell (p:=⟨fb,_,fT⟩) an).trans g0;replace g1:=(t.cell (p:=⟨fb,_,fT⟩) an).trans g1;replace S:=(t.cell (p:=⟨fb,_,fT⟩) an).trans S;replace g3:=(t.cell (p:=⟨fb,_,fT⟩) an).trans g3;replace g4:=(t.cell (p:=⟨fb,_,fT⟩) an).trans g4;have cC:=Ax an t.size;obtain⟨nF,bN⟩:∃ k,C.p.b0.length=k:=⟨_,rfl⟩;obtain⟨fc,bg⟩:=cB;rw[bN]at bg;have tK:(K:Int)<nF:=(by have:=(gw HQ.out).1;omega);have m5:E.cell? ⟨C.mb,5,fT⟩=fU (fG (fU ⟨fb,fo,fT⟩) nF fc):=(by rw[Q.cell 5];simp[iC,bg]);have m1:E.cell? ⟨C.mb,1,fT⟩=fU (fF fO M):=(by rw[Q.cell 1,<-V.out];rfl);have v:=Q.a9.lt;have cD:=fQ (show jn C.w0 (fM #[v0,v1,fF fO q.M,v3,v4]) q from jn.of i1 i2 i3 i4);obtain⟨P,hP⟩:∃ P:Nat,q.M=P:=⟨q.M.toNat,by have:=(HP.row _ _ HQ.out).1.p1;omega⟩;rw[hP]at S;have bj:=fQ hP;obtain⟨X0,d0,rfl⟩:=i1.I;obtain⟨X1,d1,rfl⟩:=i2.I;obtain⟨X3,d3,rfl⟩:=i3.I;obtain⟨X4,d4,rfl,_⟩:=i4.len;clear i1 i2 i3 i4 t an bg bN hP;go_region;go_wp2_with fail;obtain⟨N,aU⟩:=fX ((E.alloc (fR #[fG X0 q.a2.a1.length d0,fG X1 q.a2.out.length d1,fF fO (P:Int),fG X3 q.params.length d3,fG X4 q.K.length d4] 89)).drew);have aV:Bv E.heap.size E N:=(by rw[<-aU];exact((AJ _ _).alloc (Aq _) _).drew);have A:=fQ (Q.C aV);have aK:=fQ (bf.C aV);have bO:=fQ (bM.C aV (Aq _));have aM:=fQ (show gO N E.heap.size 89 #[fG X0 q.a2.a1.length d0,fG X1 q.a2.out.length d1,fF fO (P:Int),fG X3 q.params.length d3,fG X4 q.K.length d4]from by rw[<-aU];exact(gO.a4 _ _ _).drew);rw[aU];have bk:=fQ (show ¬js C { x with d:=D+1 } E.heap.size from Q.a6 (Aq _));obtain⟨I,aN⟩:∃ g,E.heap.size=g:=⟨_,rfl⟩
   rw[aN]at aM bk ⊢;have bP:I≠C.mb:=(by rw[<-aN];omega);clear aU aV aN Q bf bM m5 m1 v g0 g1 S g3 g4 cC wK;obtain⟨o,bm⟩:∃ k,x.ji=k:=⟨_,rfl⟩;obtain⟨G,bQ⟩:∃ k,x.jt=k:=⟨_,rfl⟩;have bT:=fQ bm;have bn:=fQ bQ;have cN:P<=4096:=(by have:=(HP.row _ _ HQ.out).1.p2;have:=bj.out;omega);have cO:o<=65536:=(by have h1:=J.s6;have h2:=J.dle;omega);have cP:G<=1000000:=(by have h1:=J.wmx;omega);have wA:IntKind.i64.wrap ((o:Int)+(P:Int))=((o+P:Nat):Int):=(by rw[Ay _ fu];rfl);have m15:N.cell? ⟨C.mb,15,fT⟩=fU (fF fO o):=(by rw[A.cell 15,<-bm];rfl);have f15:=ik A.a9 15;have S:N.cell? ⟨I,2,fT⟩=fU (fF fO P):=(gZ aM.out).2.2.1;have v:=A.a9.lt;have yg:=aM.lt;clear bm bQ;go_region;go_wp2_with fail;obtain⟨w5,au⟩:=fX ((N.setCell ⟨C.mb,15,fT⟩ (fF fO ((o:Int)+(P:Int)))).drew);have B:=fQ (show iB C { x with d:=D+1,ji:=o+P } w5 from by rw[<-au];exact(A.k9 15 (fF fO ((o:Int)+(P:Int))) (y:={ x with d:=D+1,ji:=o+P }) (by simp[iC]) rfl rfl rfl rfl rfl rfl rfl).C (jZ _));have O:=fQ (show MK C x { x with d:=D+1,ji:=o+P } w w5 from by rw[<-au];exact(aK.k9 15 _ (y:={ x with d:=D+1,ji:=o+P }) rfl rfl rfl).C (jZ _));have bU:=fQ (show UR w5 (fG X m Y) (ie g.a1 a)from by rw[<-au];exact(bO.heap (by simp[Ab]) (fun k Z _=>AX _ _ _ _ (fun e=>aq.out k Z (.inl e)))).C (jZ _) (Aq _));have bV:=fQ (show gO w5 I 89 #[fG X0 q.a2.a1.length d0,fG X1 q.a2.out.length d1,fF fO (P:Int),fG X3 q.params.length d3,fG X4 q.K.length d4]from by rw[<-au];exact(aM.setCell (p:=⟨C.mb,15,fT⟩) _ bP).drew);rw[au];clear au A aK bO aM m15 f15 S v yg wA;have m14:w5.cell? ⟨C.mb,14,fT⟩=fU (fF fO G):=(by rw[B.cell 14,<-bn.out];rfl);have m15:w5.cell? ⟨C.mb,15,fT⟩=fU (fF fO ((o+P:Nat):Int)):=(by rw[B.cell 15];rfl);have f14:=ik B.a9 14;have v:=B.a9.lt;obtain⟨H,bo⟩:∃ k,o+P=k:=⟨_,rfl⟩;rw[bo]at m15;have aO:=fQ bo;clear bo;go_region;go_upto_region 14 with fail;obtain⟨T,aw⟩:=fX ((w5.setCell ⟨C.mb,14,fT⟩ (fF fO (max (G:Int) (H:Int)))).drew);obtain⟨U,ax⟩:∃ U:jk,{ x with d:=D+1,ji:=o+P,jt:=max G H }=U:=⟨_,rfl⟩;have bW:=fQ (show iB C U T from by rw[<-aw,<-ax];exact(B.k9 14 (fF fO (max (G:Int) (H:Int))) (y:={ x with d:=D+1,ji:=o+P,jt:=max G H }) (by simp[iC];omega) rfl rfl rfl rfl rfl rfl rfl).C (jZ _));have bX:=fQ (show MK C x U w T from by rw[<-aw,<-ax];exact(O.k9 14 _ (y:={ x with d:=D+1,ji:=o+P,jt:=max G H }) rfl rfl rfl).C (jZ _));have bY:=fQ (show UR T (fG X m Y) (ie g.a1 a)from by rw[<-aw];exact(bU.heap (by simp[Ab]) (fun k Z _=>AX _ _ _ _ (fun e=>aq.out k Z (.inl e)))).C (jZ _) (Aq _));have aP:=fQ (show gO T I 89 #[fG X0 q.a2.a1.length d0,fG X1 q.a2.out.length d1,fF fO (P:Int),fG X3 q.params.length d3,fG X4 q.K.length d4]from by rw[<-aw];exact(bV.setCell (p:=⟨C.mb,14,fT⟩) _ bP).drew)
   rw[aw];have ay:=fQ ax.symm;have aQ:=fQ (show ¬js C U I from by rw[<-ax];exact bk.out);have cE:=fQ (show ∀ k,(Value.slice X m Y).ownBlock=fU k->¬js C U k from by rw[<-ax];exact aq.out);clear aw ax B O bU bV m14 m15 f14 v bk aq;obtain⟨k0,k1,k2,k3,k4⟩:=gZ aP.out;have yg:=aP.lt
   have CR:=fQ (show Calls fZ 56 #[fN (fU ⟨C.mb,0,fT⟩),fM #[fG X0 q.a2.a1.length d0,fG X1 q.a2.out.length d1,fF fO (P:Int),fG X3 q.params.length d3,fG X4 q.K.length d4],fG X m Y] T (kt C U R.s R.e R.a7 R.kO R.out T)from by
    have ao:=HP.row _ _ HQ.out;have himp:=(kY HP.J).2
    have cF:g=q.a2:=by
     have h1:=ao.2;rw[show C.p.J.G.toNat+K=n by have:=V.out;have:=cA.out;omega,cf.out]at h1;injection h1
    refine eWi C U q _ _ (ie g.a1 a) T R HP.out ao.1 (by rw[<-bj.out];exact cD.out) cj.out bW.out ?_ ?_ ?_ ?_ bY.out cE.out ?_ aG.out (aG.out _ _ HQ.out) ?_
    ·rw[ay.out];show Ev C.p C.lost (D+1) q 0 (jb q (ie g.a1 a)) x.s R;rw[<-ar.out];exact be.out
    ·rw[ay.out];have tb:=J.out;have h1:=bT.out;have h2:=bn.out;have h3:=aO.out;have h4:=ar.out;exact⟨tb.a7,tb.a0,(by show o+P<=max G H;omega),(by show max G H<=1000000;omega),(by show o+P<=4096*(D+1);have:=tb.s6;omega),(by show D+1<=16;omega)⟩
    ·rw[ay.out];exact cn.out
    ·rw[ay.out];exact a7.out
    ·rw[bD.out,ao.1.par,<-cF,<-bC.out,aZ.out]
    ·rw[ay.out];show rG C q (D+1);rw[<-ar.out];exact a8.out (by rw[ar.out];omega) q (Ak HQ.out))
   go_wp2_with fail;refine CR.mono ?_;rintro en w7 ⟨v7,z,rfl,M7,K7,bZ,b0,bp,bq,br,bs,⟨A7,n7,c7,rfl⟩,b2⟩;have az:=fQ M7;have b3:=fQ (bX.trans K7);have b4:=fQ (K7.a9 aP.out aQ.out);have cQ:=fQ (K7.keep I aP.lt aQ.out).2;have aW:=fQ b2
   have aX:Hid (z.s=R.s/\z.e=R.e/\z.a7=x.a7+R.a7/\z.jt=max (max G H) (o+P+R.kO)/\z.ji=o+P/\z.d=D+1):=by
    rw[ay.out]at bp bq br bs;exact⟨bZ,b0,bp,bq,br,bs⟩
   clear M7 K7 bZ b0 bp bq br bs b2 bW bY aP k0 k1 k2 k3 k4 yg CR;have m15:w7.cell? ⟨C.mb,15,fT⟩=fU (fF fO H):=(by rw[az.cell 15,<-aO.out,<-aX.out.2.2.2.2.1];rfl);have f15:=ik az.a9 15;have v:=az.a9.lt;have yg:=b4.lt;have S:w7.cell? ⟨I,2,fT⟩=fU (fF fO P):=(gZ b4.out).2.2.1;have wS:IntKind.i64.wrap ((H:Int) - (P:Int))=(o:Int):=(by rw[Ay _ (by have:=aO.out;omega)];have:=aO.out;omega);go_upto_region 15 with fail;go_region;go_upto_region 16 with fail;obtain⟨w8,aR⟩:=fX ((w7.setCell ⟨C.mb,15,fT⟩ (fF fO (o:Int))).drew);have aA:=fQ (show iB C { z with ji:=o } w8 from by rw[<-aR];exact(az.k9 15 (fF fO (o:Int)) (y:={ z with ji:=o }) (by simp[iC]) rfl rfl rfl rfl rfl rfl rfl).C (jZ _));have b5:=fQ (show MK C x { z with ji:=o } w w8 from by rw[<-aR];exact(b3.k9 15 _ (y:={ z with ji:=o }) rfl rfl rfl).C (jZ _));have bt:=fQ (fun h:R.e=0=>show w8.ownsRow T.heap.size 52 1 (fG A7 n7 c7) R.out.length (hH R.out)from by rw[<-aR];exact iJ (iW (aW.out h).1 (iZ (aW.out h).1 az.a9 fy)) (jZ _) (Aq _));rw[aR];have m16:w8.cell? ⟨C.mb,16,fT⟩=fU (fF fO ((D+1:Nat):Int)):=(by rw[aA.cell 16,<-aX.out.2.2.2.2.2];rfl);have f16:=ik aA.a9 16;clear aR m15 f15 v yg S wS;have wE:IntKind.i64.wrap (((D+1:Nat):Int) - 1)=(D:Int):=(by rw[Ay _ fu];omega)
   have ae:=fQ (show kt C x R.s R.e R.a7 (q.M.toNat+R.kO) R.out w (fS (fG A7 n7 c7)) (w8.setCell ⟨C.mb,16,fT⟩ (fF fO (D:Int)))from by
    obtain⟨a1,a2,a3,a4,a5,a6⟩:=aX.out;have h1:=bT.out;have h2:=bn.out;have h3:=aO.out;have h4:=ar.out;have h5:q.M.toNat=P:=(by rw[bj.out];exact AW P);have hle:=J.oa;refine⟨_,{ z with ji:=o,d:=D },rfl,aA.k9 16 (fF fO (D:Int)) (y:={ z with ji:=o,d:=D }) (by simp[iC]) rfl rfl rfl rfl rfl rfl rfl,b5.k9 16 _ (y:={ z with ji:=o,d:=D }) rfl rfl rfl,a1,a2,a3,?_,h1.symm,h4.symm,⟨_,_,_,rfl⟩,fun h0=>⟨?_,(aW.out h0).2⟩⟩
    ·show z.jt=_;rw[a4,h5,h1,h2];omega
    ·exact iQ (iW (bt.out h0) (iZ (bt.out h0) aA.a9 fy)) bX.out.size)
   clear aA b5 bt az b3 aW aX;go_wp2;go_ret;exact ae.out
theorem eZf(C:jo)(x:jk)(w:Bz)(b:Nat)(c cb d va:Bk)(a:List Nat)(s2:iM)(e2:Int)(dc wd:Nat)(l:List Nat)(ha:UR w va a)(ah:b<=1000)
  (f:∀ w',Bv w.heap.size w w'->Calls fZ 37 #[fN (fU ⟨C.mb,0,fT⟩),fF fO b,va] w' (kt C x s2 e2 dc wd l w')) :
  Calls fZ 87 #[fN (fU ⟨C.mb,0,fT⟩),fM #[fF fO 16,fF fP (b:Int),c,cb,d],va] w (kt C x s2 e2 dc wd l w):=by
 obtain⟨Aa,cap,rfl⟩:=ha.I;obtain⟨m,j⟩:=fX a.length;rw[j]at f ⊢;have g:=(AJ w.heap.size w).alloc (Aq _) (fR #[fF fO 16,fF fP (b:Int),c,cb,d] 86);have k:=fQ (MK.jN (C:=C) (x:=x) g);have h:=fQ (f _ g);have i:=gO.a4 w 86 #[fF fO 16,fF fP (b:Int),c,cb,d];have q:=fQ (show fV 16 = fI #[fF fO 0,fF fO 0,fH gj,fH gj]from by rw[fV,show acc 16=fT from by decide +kernel]);have wI:IntKind.i64.wrap (b:Int)=(b:Int):=Ay _ fu;clear g ha f j;go_in;go_wp2_with fail;refine(gK _ _).mono ?_;rintro e wX ⟨rfl,n⟩;rw[q.out];rw[n]at i k h;obtain⟨k0,k1,k2,k3,k4⟩:=gZ i;clear n;go_wp2_with fail;refine h.mono ?_;rintro r w9 o;have p:=fQ (o.from k.out);clear o h
 obtain⟨v,s⟩:∃ v,r = fS v:=by
  obtain⟨v,_,e,_⟩:=p.out;exact⟨v,e⟩
 subst s;go_wp2;go_ret;exact p.out
theorem eVz{C:jo}{x:jk}{c:gP}{e:Ending}{s2:iM}{wd:Nat}(h:pV C x c a w e w')(hd:Did C.p C.lost x.d c k a x.s s2 e2 dc wd l)(g:c.op≠16)(h1:c.op≠273)(h2:c.op≠274)(i:c.op≠275)(j:c.op≠276)(m:c.op≠277)
  (o:jh C.p.J x.s) (ha:ij a) (hn:c.n<18446744073709551616) (hle:x.ji<=x.jt):kt C x s2 e2 dc wd l w e w':=by
 obtain⟨v,x',rfl,q,r,b,t,hs⟩:=h;obtain⟨rfl,rfl,rfl,rfl,u⟩:=hd.gQj g h1 h2 i j m;refine⟨v,x',rfl,q,r,by rw[b],by rw[b],by rw[b];rfl,by rw[b];show x.jt=max x.jt (x.ji+0);omega,by rw[b],by rw[b],hs,fun f=>?_⟩;rw[u f];exact⟨t f,aYy (bKu o ha hn).2⟩
theorem bVx(C:jo)(d:Nat)(hp:iD C.p)(I:iG C.w0 (fM #[C.a,fF fO C.p.J.G,C.b,C.d,fH C.p.J.L]) C.p.J)(hF:Structs 5 kr C.w0 C.f C.p.b0)(t:∀ (i:Nat) q,C.p.b0[i]? = AZ q->∀ c∈q.K,c.n<18446744073709551616)
  (h:d<16->∀ r∈C.p.b0,rG C r (d+1)):∀ r∈C.p.b0,rG C r d:=by
 intro r J x1 w1 c k u cb v va a s2 e2 dc wd l hd he hc w x y z B D m E ha K o F s;obtain⟨i,hi⟩:=List.mem_iff_getElem?.1 J;have L:=hp.row i r hi;have G:=L.1.K c hc;rw[<-hd]at s;by_cases j:c.op=16
 ·obtain⟨M,N,hf,_⟩:=hY G;have O:=hf;rw[j]at hf;have hf:(C.p.J.R[c.n]?).map (fun g=>(g.a1,g.out))=fU (M,N):=hf
  cases hg:C.p.J.R[c.n]? with
  | none=>rw[hg]at hf;cases hf
  | some g=>
   rw[hg]at hf;cases hf;have P:jL C.p.J r.a2 c=g.a1:=(by unfold jL;rw[O];rfl);rw[P]at o F;have Q:=s.gQi j hg F;have R:c.n<=1000:=(by have h1:=(gw hg).1;have h2:=(kY hp.J).1;omega);rw[j];exact eZf C x1 w1 c.n u cb v va a s2 e2 dc wd l ha R (fun w' H=>cQz C x1 c.n va a g w' s2 e2 dc wd l hp I hF (D.C H) m he E (ha.C H (Aq _)) hg o t (by rw[hd];exact h) Q)
 ·exact(dVa C x1 w1 r c u cb v va a D ha K m G o j w x y z B).mono fun en w' q=>eVz q s j w x y z B m (by obtain⟨A,c',e,_,_,_,_,S⟩:=ha;exact S) (t i r hi c hc) E.oa
theorem eZg(C:jo)(hp:iD C.p)(e:iG C.w0 (fM #[C.a,fF fO C.p.J.G,C.b,C.d,fH C.p.J.L]) C.p.J)(hF:Structs 5 kr C.w0 C.f C.p.b0)(g:∀ (i:Nat) q,C.p.b0[i]? = AZ q->∀ c∈q.K,c.n<18446744073709551616):
  ∀ (m d:Nat),16<=d+m->∀ r∈C.p.b0,rG C r d:=by
 intro m
 induction m with
 | zero=>exact fun d h=>bVx C d hp e hF g (fun j=>gH j fu)
 | succ m k=>exact fun d h=>bVx C d hp e hF g (fun _=>k (d+1) fu)
theorem eZh(C:jo)(x:jk)(n:Nat)(va:Bk)(a:List Nat)(g:iu)(w:Bz)(s2:iM)(e2:Int)(dc wd:Nat)(l:List Nat)(hp:iD C.p)(j:iG C.w0 (fM #[C.a,fF fO C.p.J.G,C.b,C.d,fH C.p.J.L]) C.p.J)(hF:Structs 5 kr C.w0 C.f C.p.b0)
  (h:iB C x w) (m:jh C.p.J x.s) (he:x.e=0) (o:kU x dc) (ha:UR w va a) (hg:C.p.J.R[n]? = fU g) (r:a.length=g.a1.length) (k:∀ (i:Nat) q,C.p.b0[i]? = AZ q->∀ c∈q.K,c.n<18446744073709551616)
  (t:j6 C.p C.lost x.d n g a x.s s2 e2 dc wd l):Calls fZ 37 #[fN (fU ⟨C.mb,0,fT⟩),fF fO n,va] w (kt C x s2 e2 dc wd l w):=
 cQz C x n va a g w s2 e2 dc wd l hp j hF h m he o ha hg r k (fun _=>eZg C hp j hF k 16 _ fu) t
theorem bQd:∀ (ts:List Int) (l:List Nat),(ie ts l).length<=l.length
 | [],l=>by cases l <;> exact Ac _
 | t :: ts,[]=>Ac _
 | t :: ts,x :: l=>by simp only[ie,List.length_cons];have:=bQd ts l;omega
theorem cYd{p:hU}{r:gR}{s:iM}{R:jD}(h:Ev p lost d r k V s R)(a:R.e≠0):R.out = []:=by
 induction h with
 | ret hc ha=>exact gH rfl a
 | trap hc ha=>rfl
 | go hc ha hn b=>exact b a
 | vals hc ha hn b=>exact b a
 | call hc ha hd hq hg h1 he h2 ih1 ih2=>exact ih2 a
 | jO hc ha hd hq hg h1 he ih1=>rfl
 | deep hc ha hd=>rfl
def lx(p:hU)(n:Int)(args:List Nat):Prop:=0<=n/\n<p.J.R.length/\∀ g,p.J.R[n.toNat]? = fU g->lj g.a1 args
inductive kL (p:hU) (s:gT) (n:Int) (args:List Nat) (lost:Nat):List Nat->gT->Int->Prop
 | form (h:¬(iD p/\kh p.J s)):kL p s n args lost [] s 6
 | arg (hp:iD p) (hf:kh p.J s) (ha:¬lx p n args):kL p s n args lost [] s 1
 | run {g:iu} {sd s2:iM} {e2:Int} {dc wd:Nat} {l:List Nat} (hp:iD p) (hf:kh p.J s) (ha:lx p n args) (hs:gT.of sd=s) (hg:p.J.R[n.toNat]? = fU g) (hd:j6 p lost 0 n.toNat g args sd s2 e2 dc wd l):kL p s n args lost (if e2=0 then l else[]) (gT.of s2) e2
def aWw(p:hU)(s:gT)(n:Int)(args:List Nat)(lost:Nat)(w:Bz)(a:Ending)(w':Bz):Prop:=
 ∃ (out:List Nat) (s':gT) (e:Int) (v vs:Bk),kL p s n args lost out s' e/\a = fS (fI #[v,vs,fF fO e])/\UR w' v out/\kf w' vs s'/\Bv w.heap.size w w'
def my(s:gT):iM:=⟨s.L,s.Y,s.E,s.U.toNat,s.input,s.a0⟩
theorem dVk{ks:List Int}{m:Bool}{s:gT}(h:kg ks m s):gT.of (my s)=s:=by
 have:=h.f0;show gT.mk s.L s.Y s.E ((s.U.toNat:Nat):Int) s.input s.a0=s;rw[Af this]
theorem dVl{e:ia}{s:gT}(h:kg e.E e.L s)(h1:jw s.L)(h2:ij s.E)(a:ij s.input)(b:ij s.a0):jh e (my s):=
 ⟨h1,h.le,h.mx,h.gl,h2,b,a,(by show s.input.length<=_;have:=h.il;omega),(by show s.U.toNat<=_;have:=h.f1;omega)⟩
theorem cXl{p:hU}(h:Structs 5 kr w v p.b0):∀ (i:Nat) q,p.b0[i]? = AZ q->∀ c∈q.K,c.n<18446744073709551616:=by
 intro i q hq c hc;obtain⟨b,o,p',q',r,s,_,_,_,_,_,_,_,_,_,_,a⟩:=bXr h hq;obtain⟨j,hj⟩:=List.mem_iff_getElem?.1 hc;obtain⟨A,c',rfl,_⟩:=a.len;obtain⟨_,_,_,_,_,_,_,_,_,_,_,_,d,_⟩:=a.K hj;exact d.1
theorem bWj{p:hU}(hp:iD p)(lost n:Nat){g:iu}(a:List Nat)(s:iM)(hg:p.J.R[n]? = fU g):∃ s2 e2 dc wd l,j6 p lost 0 n g a s s2 e2 dc wd l:=by
 by_cases hi:(n:Int)<p.J.G
 ·exact⟨_,_,_,_,_,.host hi⟩
 ·have h1:=(gw hg).1;have h2:=kY hp.J;have h3:=hp.len;obtain⟨q,hq⟩:∃ q,p.b0[n - p.J.G.toNat]? = AZ q:=⟨_,Aj fu⟩;have hc:=(hp.row _ q hq).1;obtain⟨R,b⟩:=Ev.some hp lost hc (0+1) 0 (jb q (ie g.a1 a)) s (by have:=hc.n1;omega);exact⟨_,_,_,_,_,.call hi fu hq b⟩
theorem bXs{p:hU}(hp:iD p){g:iu}{s s2:iM}{wd:Nat}(h:j6 p lost d n g a s s2 e2 dc wd l)(ha:a.length<=8):dc<=4098*s.U+1/\s2.a0.length<=s.a0.length+9*(dc+1)/\l.length<=s.input.length+8:=by
 cases h with
 | host hi=>
  have c:(ie g.a1 a).length<=8:=Bq (bQd _ _) ha;have h1:=bQb (n:=n) (outs:=g.out) (s:=s) c;refine⟨fu,fu,?_⟩;unfold iy
  split
  ·rename_i h2;show(ie g.out (s.input.take g.out.length)).length<=_;have:=bQd g.out (s.input.take g.out.length);rw[List.length_take]at this;omega
  ·exact Ac _
 | deep hi hd=>exact⟨fu,fu,Ac _⟩
 | @call q R hi hd hq h1=>
  have hc:=(hp.row _ q hq).1;refine⟨h1.gQl hp hc,?_,?_⟩
  ·have:=h1.a0 hp hc;omega
  ·by_cases b:R.e=0
   ·have h2:=h1.fYg hc b;have h3:=(bZo hc.a2).2;omega
   ·rw[cYd h1 b];exact Ac _
theorem eWm{p:hU}(hp:iD p)(b:∀ (i:Nat) q,p.b0[i]? = AZ q->∀ c∈q.K,c.n<18446744073709551616){g:iu}{s s2:iM}{wd:Nat}(h:j6 p lost d n g a s s2 e2 dc wd l)(hs:jh p.J s)(ha:ij a)(hn:n<18446744073709551616):jh p.J s2:=by
 cases h with
 | host hi=>exact(sC hs (pZ _ _ ha) hn).1
 | deep hi hd=>exact hs
 | call hi hd hq h1=>exact(h1.ok b (b _ _ hq) hs (yK _ (pZ _ _ ha))).1
theorem xX(g:Array Bk)(W:Bz)(h:Nat)(a b c d e f o x:Bk)(h1:g.getD 10 undef=o)(h2:g.getD 11 undef = fN (fU ⟨h,0,fT⟩))(i:g.getD 12 undef=x)(k:gO W h 33 #[a,b,c,d,e,f]):
  (results Tryz.f43 g).run fZ W = .ok (fI #[o,fM #[a,b,c,d,e,f],x]) W:=by
 obtain⟨j,l,m,n,p,q⟩:=iY k;simp only[Array.getD_eq_getD_getElem?]at h1 h2 i;simp[results,results43,go_sem,h1,h2,i,j,l,m,n,p,q]
theorem tO(w:Bz):UR w (fG fT 0 0) []:=⟨fT,0,rfl,Src.nil _ _,Aq _,fun _=>rfl,⟨Ac _,fu⟩,nW⟩
theorem cJn{a:Act}{o:Oper}{w:Bz}{po vo:Operand}{e:TypeId}{x0 x1 x2 x3 x4 x5:Bk}{A B C D:Option Addr}{n1 n2 b c c1 d f h:Nat}{u v:Int}(i:o.op = .store 33 po vo)(hp:a.eval po = fN (fU ⟨g,0,fT⟩))
  (hv:a.eval vo = fM #[fG A n1 c1,fF fO u,fG B n2 d,fF fO v,fG C b f,fG D c h]) (k:gO w g e #[x0,x1,x2,x3,x4,x5]) :
  (execOp a.eval o).run fZ w = .ok .skip ((((((w.setCell ⟨g,0,fT⟩ (fG A n1 c1)).setCell ⟨g,1,fT⟩ (fF fO u)).setCell ⟨g,2,fT⟩ (fG B n2 d)).setCell ⟨g,3,fT⟩ (fF fO v)).setCell ⟨g,4,fT⟩ (fG C b f)).setCell ⟨g,5,fT⟩ (fG D c h)):=by
 obtain⟨z0,z1,z2,z3,z4,z5⟩:=iY k;have f0:=ik k 0;have f1:=ik k 1;have f2:=ik k 2;have f3:=ik k 3;have f4:=ik k 4;have f5:=ik k 5;clear k;unfold execOp;rw[i];simp only[hp,hv];clear hp hv i;go_simp
theorem yY{ops:Array Oper}{o:Oper}{a:Act}{w:Bz}{K:Act->Bz->Prop}{Q:Exit->Act->Bz->Prop}{E:Prop}(j:o.guard=fT){po vo:Operand}{e:TypeId}{x0 x1 x2 x3 x4 x5:Bk}{A B C D:Option Addr}{n1 n2 b c c1 d f i:Nat}{u v:Int}(l:o.op = .store 33 po vo)(hp:a.eval po = fN (fU ⟨g,0,fT⟩))
  (hv:a.eval vo = fM #[fG A n1 c1,fF fO u,fG B n2 d,fF fO v,fG C b f,fG D c i]) (k:gO w g e #[x0,x1,x2,x3,x4,x5])
  (h:K (a.put o.dst undef) ((((((w.setCell ⟨g,0,fT⟩ (fG A n1 c1)).setCell ⟨g,1,fT⟩ (fF fO u)).setCell ⟨g,2,fT⟩ (fG B n2 d)).setCell ⟨g,3,fT⟩ (fF fO v)).setCell ⟨g,4,fT⟩ (fG C b f)).setCell ⟨g,5,fT⟩ (fG D c i))) :
  if Region.wanted o (yielded ops a.tmps)=gh then Oper.wp fZ o a w K Q else E:=by
 have m:Region.wanted o (yielded ops a.tmps)=gh:=(by simp[Region.wanted,j]);rw[gz m];have he:=cJn l hp hv k;unfold Oper.wp;rw[he];exact h
theorem bWk{a:Act}{o:Oper}{w:Bz}{o0 o1 o2:Operand}(b:o.op = .build 79 #[(0,o0),(1,o1),(2,o2)]){y0 y1 y2 y3 y4 y5:Bk}{lo:Int}(c:a.eval o0 = fM #[x0,x1,x2,x3,x4,x5])(h1:a.eval o1 = fM #[y0,y1,y2,y3,y4,y5])(h2:a.eval o2 = fF fO lo):
  (execOp a.eval o).run fZ w = .ok (.value (fM #[x0,x1,x2,x3,x4,x5,y0,y1,y2,y3,y4,y5,fF fO lo,fF fO 0,fF fO 0,fF fO 0,fF fO 0,fF fO 0])) w:=by
 unfold execOp;rw[b];simp only[List.map_toArray,List.map_cons,List.map_nil,c,h1,h2]
 kernel_rfl
theorem bXt{l:List Bool}(h:Bools w v l):∃ A c,v = fG A l.length c:=by
 obtain⟨A,c,e,_⟩:=h;exact⟨A,c,e⟩
structure qd (w:Bz) (p0 p1 p2 p3 p4 p5 s0 s1 s2 s3 s4 s5:Bk) (wr:Bz):Prop where
 kp:gO wr w.heap.size 29 #[p0,p1,p2,p3,p4,p5]
 ks:gO wr (w.heap.size+1) 33 #[s0,s1,s2,s3,s4,s5]
 kz:gO wr (w.heap.size+1+1) 33 #[fG fT 0 0,fF fO 0,fG fT 0 0,fF fO 0,fG fT 0 0,fG fT 0 0]
 b:Bv w.heap.size w wr
theorem qd.C{w:Bz}{p0 p1 p2 p3 p4 p5 s0 s1 s2 s3 s4 s5:Bk}{wr w':Bz}(h:qd w p0 p1 p2 p3 p4 p5 s0 s1 s2 s3 s4 s5 wr)(a:Bv wr.heap.size wr w'):qd w p0 p1 p2 p3 p4 p5 s0 s1 s2 s3 s4 s5 w':=
 ⟨h.kp.C a h.kp.lt,h.ks.C a h.ks.lt,h.kz.C a h.kz.lt,h.b.trans (a.mono h.b.size)⟩
structure iU (w w':Bz) (g:Nat):Prop where
 os:w'.os=w.os
 tape:w'.tape=w.tape
 output:w'.output=w.output
 size:w'.heap.size=w.heap.size
 other:∀ k,k≠g->w'.heap[k]? = w.heap[k]?
theorem iU.refl(w:Bz)(g:Nat):iU w w g:=⟨rfl,rfl,rfl,rfl,fun _ _=>rfl⟩
theorem iU.set(h:iU w w' g)(i:Nat)(u:Bk):iU w (w'.setCell ⟨g,i,fT⟩ u) g:=
 ⟨h.os,h.tape,h.output,(by rw[xQ];exact h.size),fun k a=>(AX _ _ _ _ a).trans (h.other k a)⟩
theorem iU.C{w0:Bz}(h:iU w w' g)(a:Bv B w0 w)(hg:B<=g):Bv B w0 w':=
 ⟨h.os.trans a.os,h.tape.trans a.tape,h.output.trans a.output,by rw[h.size];exact a.size,fun k b=>(h.other k fu).trans (a.block k b)⟩
theorem iU.own{a:Nat}{b:List Bk}(h:iU w w' g)(k:w.ownsRow base e a v n b)(hg:∀ j,v.ownBlock=fU j->j≠g):w'.ownsRow base e a v n b:=yW k (fun j hj _=>h.other j (hg j hj))
theorem tP{a:Nat}{b:List Bk}(k:w.ownsRow base e a v n b)(hg:g<base):∀ j,v.ownBlock=fU j->j≠g:=fun j hj=>by have:=(k.lt j hj).1;omega
theorem nH{s:gT}(h:kf w v s):jw s.L/\ij s.E/\ij s.input/\ij s.a0:=by
 obtain⟨a,g,i,l,_,⟨_,_,_,_,_,_,_,h1⟩,⟨_,_,_,_,_,_,_,h2⟩,⟨_,_,_,_,_,_,_,b⟩,⟨_,_,_,_,_,_,_,c⟩⟩:=h;exact⟨h1,h2,b,c⟩
theorem cXm{a:Act}{o:Oper}{w:Bz}{po vo:Operand}{e:TypeId}{x0 x1 x2 x3 x4 x5 c d f h i j k l m n p q:Bk}{r s t u v x z A:Option Addr}{B n2 C D E F G H I J K L M N O P:Nat}{Q R S T:Int}{U:Bool}(V:o.op = .store 79 po vo)(hp:a.eval po = fN (fU ⟨g,0,fT⟩))
  (hv:a.eval vo = fM #[fG r B I,fF fO Q,fG s n2 J,fG t C K,fH U,fG u D L,fG v E M,fF fO R,fG x F N,fF fO S,fG z G O,fG A H P,fF fO T,fF fO 0,fF fO 0,fF fO 0,fF fO 0,fF fO 0]) (b:gO w g e #[x0,x1,x2,x3,x4,x5,c,d,f,h,i,j,k,l,m,n,p,q]):(execOp a.eval o).run fZ w = .ok .skip ((((((((((((((((((w.setCell ⟨g,0,fT⟩ (fG r B I)).setCell ⟨g,1,fT⟩ (fF fO Q)).setCell ⟨g,2,fT⟩ (fG s n2 J)).setCell ⟨g,3,fT⟩ (fG t C K)).setCell ⟨g,4,fT⟩ (fH U)).setCell ⟨g,5,fT⟩ (fG u D L)).setCell ⟨g,6,fT⟩ (fG v E M)).setCell ⟨g,7,fT⟩ (fF fO R)).setCell ⟨g,8,fT⟩ (fG x F N)).setCell ⟨g,9,fT⟩ (fF fO S)).setCell ⟨g,10,fT⟩ (fG z G O)).setCell ⟨g,11,fT⟩ (fG A H P)).setCell ⟨g,12,fT⟩ (fF fO T)).setCell ⟨g,13,fT⟩ (fF fO 0)).setCell ⟨g,14,fT⟩ (fF fO 0)).setCell ⟨g,15,fT⟩ (fF fO 0)).setCell ⟨g,16,fT⟩ (fF fO 0)).setCell ⟨g,17,fT⟩ (fF fO 0)):=by
 have z0:w.cell? ⟨g,0,fT⟩=fU x0:=(by simpa using b.cell 0);have f0:=ik b 0;have z1:w.cell? ⟨g,1,fT⟩=fU x1:=(by simpa using b.cell 1);have f1:=ik b 1;have z2:w.cell? ⟨g,2,fT⟩=fU x2:=(by simpa using b.cell 2);have f2:=ik b 2;have z3:w.cell? ⟨g,3,fT⟩=fU x3:=(by simpa using b.cell 3);have f3:=ik b 3;have z4:w.cell? ⟨g,4,fT⟩=fU x4:=(by simpa using b.cell 4);have f4:=ik b 4;have z5:w.cell? ⟨g,5,fT⟩=fU x5:=(by simpa using b.cell 5);have f5:=ik b 5;have z6:w.cell? ⟨g,6,fT⟩=fU c:=(by simpa using b.cell 6);have f6:=ik b 6;have z7:w.cell? ⟨g,7,fT⟩=fU d:=(by simpa using b.cell 7);have f7:=ik b 7;have z8:w.cell? ⟨g,8,fT⟩=fU f:=(by simpa using b.cell 8);have f8:=ik b 8;have z9:w.cell? ⟨g,9,fT⟩=fU h:=(by simpa using b.cell 9);have f9:=ik b 9;have aw:w.cell? ⟨g,10,fT⟩=fU i:=(by simpa using b.cell 10);have f10:=ik b 10;have ax:w.cell? ⟨g,11,fT⟩=fU j:=(by simpa using b.cell 11);have f11:=ik b 11;have z12:w.cell? ⟨g,12,fT⟩=fU k:=(by simpa using b.cell 12);have f12:=ik b 12;have ay:w.cell? ⟨g,13,fT⟩=fU l:=(by simpa using b.cell 13);have f13:=ik b 13;have az:w.cell? ⟨g,14,fT⟩=fU m:=(by simpa using b.cell 14);have f14:=ik b 14;have aA:w.cell? ⟨g,15,fT⟩=fU n:=(by simpa using b.cell 15);have f15:=ik b 15;have aB:w.cell? ⟨g,16,fT⟩=fU p:=(by simpa using b.cell 16);have f16:=ik b 16;have aC:w.cell? ⟨g,17,fT⟩=fU q:=(by simpa using b.cell 17);have f17:=ik b 17;clear b;unfold execOp;rw[V];simp only[hp,hv];clear hp hv V;go_simp
theorem cXn{ops:Array Oper}{o:Oper}{a:Act}{w:Bz}{K:Act->Bz->Prop}{Q:Exit->Act->Bz->Prop}{E:Prop}(L:o.guard=fT){po vo:Operand}{e:TypeId}{x0 x1 x2 x3 x4 x5 M N O P R S T U V W X Y:Bk}{b c d f i j k l:Option Addr}{m n2 n p q r s t u v x y z A B C:Nat}{D F G H:Int}{I:Bool}(Z:o.op = .store 79 po vo)(hp:a.eval po = fN (fU ⟨g,0,fT⟩))
  (hv:a.eval vo = fM #[fG b m u,fF fO D,fG c n2 v,fG d n x,fH I,fG f p y,fG i q z,fF fO F,fG j r A,fF fO G,fG k s B,fG l t C,fF fO H,fF fO 0,fF fO 0,fF fO 0,fF fO 0,fF fO 0]) (J:gO w g e #[x0,x1,x2,x3,x4,x5,M,N,O,P,R,S,T,U,V,W,X,Y]) (h:∀ w',gO w' g e #[fG b m u,fF fO D,fG c n2 v,fG d n x,fH I,fG f p y,fG i q z,fF fO F,fG j r A,fF fO G,fG k s B,fG l t C,fF fO H,fF fO 0,fF fO 0,fF fO 0,fF fO 0,fF fO 0]->iU w w' g->K (a.put o.dst undef) w'):if Region.wanted o (yielded ops a.tmps)=gh then Oper.wp fZ o a w K Q else E:=by
 have hw:Region.wanted o (yielded ops a.tmps)=gh:=(by simp[Region.wanted,L]);rw[gz hw];have he:=cXm Z hp hv J;have hb:=(fY (fY (fY (fY (fY (fY (fY (fY (fY (fY (fY (fY (fY (fY (fY (fY (fY (fY J 0 (fG b m u)) 1 (fF fO D)) 2 (fG c n2 v)) 3 (fG d n x)) 4 (fH I)) 5 (fG f p y)) 6 (fG i q z)) 7 (fF fO F)) 8 (fG j r A)) 9 (fF fO G)) 10 (fG k s B)) 11 (fG l t C)) 12 (fF fO H)) 13 (fF fO 0)) 14 (fF fO 0)) 15 (fF fO 0)) 16 (fF fO 0)) 17 (fF fO 0));unfold Oper.wp;rw[he];exact h _ (by simpa using hb) (((((((((((((((((((iU.refl w g).set 0 (fG b m u)).set 1 (fF fO D)).set 2 (fG c n2 v)).set 3 (fG d n x)).set 4 (fH I)).set 5 (fG f p y)).set 6 (fG i q z)).set 7 (fF fO F)).set 8 (fG j r A)).set 9 (fF fO G)).set 10 (fG k s B)).set 11 (fG l t C)).set 12 (fF fO H)).set 13 (fF fO 0)).set 14 (fF fO 0)).set 15 (fF fO 0)).set 16 (fF fO 0)).set 17 (fF fO 0))
def MkR(w:Bz)(p:hU)(s:gT)(lost:Nat)(p0 p2 p3 p5 s0 s2 s4 s5:Bk)(b:Bk)(a:Bz):Prop:=∃ (mb:Nat) (lv iv mv gv:Bk),b = fN (fU ⟨mb,0,fT⟩)/\iB ⟨w,p0,p2,p3,p5,p,lost,mb,gv⟩ ⟨my s,lv,iv,mv,0,0,0,0,0⟩ a/\qd w p0 (fF fO p.J.G) p2 p3 (fH p.J.L) p5 s0 (fF fO s.Y) s2 (fF fO s.U) s4 s5 a/\¬js ⟨w,p0,p2,p3,p5,p,lost,mb,gv⟩ ⟨my s,lv,iv,mv,0,0,0,0,0⟩ (w.heap.size+1+1)
theorem dVm{a:Bz}{p:hU}{s:gT}{lost mb base:Nat}{p0 p2 p3 p5 s0 s2 s4 s5 lv iv mv gv:Bk}(f:qd w p0 (fF fO p.J.G) p2 p3 (fH p.J.L) p5 s0 (fF fO s.Y) s2 (fF fO s.U) s4 s5 a)(e:kg p.J.E p.J.L s)
  (d:gO a mb 79 #[p0,fF fO p.J.G,p2,p3,fH p.J.L,p5,mv,fF fO s.Y,gv,fF fO s.U,iv,lv,fF fO lost,fF fO 0,fF fO 0,fF fO 0,fF fO 0,fF fO 0])
  (o1:a.ownsRow base 5 1 mv s.L.length (jv s.L)) (o2:a.ownsRow base 52 1 gv s.E.length (hH s.E)) (o3:a.ownsRow base 52 1 iv s.input.length (hH s.input)) (o4:a.ownsRow base 52 1 lv s.a0.length (hH s.a0))
  (g:∀ k,gv.ownBlock=fU k->lv.ownBlock≠fU k/\iv.ownBlock≠fU k/\mv.ownBlock≠fU k) (i:∀ k,lv.ownBlock=fU k->iv.ownBlock≠fU k/\mv.ownBlock≠fU k) (hb:w.heap.size+1+1<base) (hm:w.heap.size+1+1<mb)
  (j:jw s.L) (l:ij s.E) (m:ij s.input) (n:ij s.a0):MkR w p s lost p0 p2 p3 p5 s0 s2 s4 s5 (fN (fU ⟨mb,0,fT⟩)) a:=by
 have o:s.L.length<=4096:=(by have:=e.le;have:=e.mx;omega);have ad:=e.il;refine⟨mb,lv,iv,mv,gv,rfl,⟨?_,?_,ph o3 fu m,iQ o2 (by show w.heap.size<=base;omega),iQ o4 (by show w.heap.size<=base;omega),f.b,(by show w.heap.size<=mb;omega),g,i,?_,?_,fun k d=>?_,fun k d=>?_,l,n⟩,f,?_⟩
 ·have hf:((s.U.toNat:Nat):Int)=s.U:=Af e.f0;show gO a mb _ #[_,_,_,_,_,_,_,_,_,fF fO ((s.U.toNat:Nat):Int),_,_,_,_,_,_,_,_];rw[hf];exact d
 ·obtain⟨A,c,rfl,_⟩:=fJ o1;exact cXe o1 o j
 ·exact iZ o3 d fy
 ·exact iZ o1 d fy
 ·have:=o3.lt k d;exact⟨by show w.heap.size<=k;omega,this.2⟩
 ·have:=o1.lt k d;exact⟨by show w.heap.size<=k;omega,this.2⟩
 ·rintro(h|h|h|h|h)
  ·have h:w.heap.size+1+1=mb:=h;omega
  ·have:=(o2.lt _ h).1;omega
  ·have:=(o4.lt _ h).1;omega
  ·have:=(o3.lt _ h).1;omega
  ·have:=(o1.lt _ h).1;omega
theorem fXu{C:jo}{x:jk}(h:iB C x w)(hg:x.s.E.length<=100000)(hl:x.s.a0.length<=1000000000):kf w (fM #[x.mv,fF fO x.s.Y,C.gv,fF fO x.s.U,x.iv,x.lv]) (gT.of x.s):=
 ⟨_,_,_,_,rfl,h.L,ph h.kq fu h.kF,h.inp,ph h.a0 fu h.lU⟩
theorem dVn{C:jo}{x:jk}(h:iB C x w)(a:iU w w' g)(hg:¬js C x g)(b:C.w0.heap.size<=g):iB C x w':=
 h.heap (by rw[a.size];exact Aq _) (fun k c _=>a.other k (fun e=>hg (e ▸ c))) (a.C h.bel b)
theorem tR(w:Bz)(g:Nat)(a b c d e f:Bk):iU w ((((((w.setCell ⟨g,0,fT⟩ a).setCell ⟨g,1,fT⟩ b).setCell ⟨g,2,fT⟩ c).setCell ⟨g,3,fT⟩ d).setCell ⟨g,4,fT⟩ e).setCell ⟨g,5,fT⟩ f) g:=
 ((((((iU.refl w g).set 0 a).set 1 b).set 2 c).set 3 d).set 4 e).set 5 f
theorem cXo{p:hU}{s:gT}{n e2:Int}{args out:List Nat}{mb:Nat}{c b:Bz}{p0 p2 p3 p5 gv v:Bk}{a:jk}{s2:iM}{d f g LL:Option Addr}{mm h i ml base:Nat}{cs:Array Bk}{e:TypeId}(k:iB ⟨w,p0,p2,p3,p5,p,lost,mb,gv⟩ a c)(hs:a.s=s2)(l:s2.a0.length<=1000000000)(hg:a.s.E.length<=100000)
  (m:¬js ⟨w,p0,p2,p3,p5,p,lost,mb,gv⟩ a (w.heap.size+1+1)) (hk:gO c.drew (w.heap.size+1+1) e cs) (o:iU c.drew b (w.heap.size+1+1)) (hv:a.mv = fG d a.s.L.length mm/\gv = fG f a.s.E.length h/\a.iv = fG g a.s.input.length i/\a.lv = fG LL a.s.a0.length ml)
  (q:kL p s n args lost out (gT.of s2) e2) (r:b.ownsRow base 52 1 v out.length (hH out)) (hle:out.length<=5000) (t:ij out) :
  aWw p s n args lost w (fS (fI #[v,fM #[fG d a.s.L.length mm,fF fO a.s.Y,fG f a.s.E.length h,fF fO (a.s.U:Int),fG g a.s.input.length i,fG LL a.s.a0.length ml],fF fO e2])) b:=by
 have h1:iB ⟨w,p0,p2,p3,p5,p,lost,mb,gv⟩ a b:=dVn (k.C (jZ _)) o m (by show w.heap.size<=_;omega);have h2:=fXu h1 hg (by rw[hs];exact l);obtain⟨v1,v2,v3,v4⟩:=hv;have j:kf b (fM #[a.mv,fF fO a.s.Y,gv,fF fO a.s.U,a.iv,a.lv]) (gT.of a.s):=h2;rw[v1,v2,v3,v4,hs]at j;rw[hs];exact⟨out,gT.of s2,e2,_,_,q,rfl,ph r fu t,j,h1.bel⟩
end Go.Proofs.YtabibkpfgmolkaaGreatDoor

/- Lemmas for the claim, part 15. Conditions: none. -/
import Derived.Test.YtabibkpfgmolkaaGreatDoorPt08
import Derived.Test.YtabibkpfgmolkaaGreatDoorPt14
set_option maxRecDepth 100000
set_option maxHeartbeats 16000000
set_option linter.unusedVariables false
set_option linter.unusedSimpArgs false
open Go.Lib renaming hid→fQ
open Go.Proofs.Tryz renaming prog→fZ
open Go.Proofs.Tryz
open Go.RowKit
open Nat renaming le_refl→Aj,lt_of_lt_of_le→Aq,le_trans→AK,add_zero→AY,le_of_eq→Aa
open Go.RowKit.Below renaming refl→Ax
open List renaming getElem?_eq_getElem→Az,mem_of_getElem?→Ak,length_map→Aw,getD_eq_getElem?_getD→Ay,eq_nil_of_length_eq_zero→AJ,setIfInBounds_toArray→AQ,set_cons_zero→AV,set_cons_succ→AW
open Int renaming eq_ofNat_of_zero_le→AX
open Go.IntWalk renaming i64_in→AZ
open Go renaming World→Ab,Value→Ac,Calls→Ad
open Go.Value renaming int->fF,slice->fG,bool->fH,pointer->fI
open Go.IntKind renaming i64->fM,u64->fN
open Go.Obj renaming cells->fO
open Go.Ending renaming returned->fP
open Option renaming none->fR,some->fS
open Bool renaming true->fT,false->fU
namespace Go.Proofs.YtabibkpfgmolkaaGreatDoor
variable {w:Ab}
theorem ky.C{C:iO}{X:iL}{f0:iP}{rest:List iP}{g cS:Nat}{vc:Ac}{c:gP}{va:Ac}{a:List Nat}{w w':Ab}(h:ky C X f0 rest g cS vc c va a w)(b:Below w.heap.size w w'):ky C X f0 rest g cS vc c va a w':=
 { h with a5:=h.a5.C b,ur:=h.ur.C b (Aj _) }
theorem iI.from{C:iO}{X:iL}{f0:iP}{rest:List iP}{c:gP}{w1 w':Ab}{a:Ending}(h:iI C X f0 rest c w1 a w')(k:KK X X w w1):iI C X f0 rest c w a w':=by
 obtain⟨e,X',h1,h2,b,d⟩:=h;exact⟨e,X',h1,h2,k.trans b,d⟩
theorem eXk(C:iO)(X:iL)(f0:iP)(rest:List iP)(g cS:Nat)(vc:Ac)(c:gP)(va:Ac)(a:List Nat)(w:Ab)(h:ky C X f0 rest g cS vc c va a w)(l:Tabs w)(b:jh C.p.J X.x.s)(d:X.x.s.E.length=C.p.J.E.length)(m:c.op≠273/\c.op≠274/\c.op≠275/\c.op≠276/\c.op≠277/\c.op≠258/\c.op≠257/\c.op≠256/\c.op≠272/\c.op≠27/\c.op≠16):
  Ad fZ 62 #[fI (fS ⟨C.mm,0,fR⟩),fI (fS ⟨g,rest.length*3,fR⟩),vc,va] w (iI C X f0 rest c w):=by
 obtain⟨n1,n2,n3,n,n5,n6,q,t,u,v,y⟩:=m;by_cases e:c.op=35
 ·exact eXc C X f0 rest g cS vc c va a w h e b d
 by_cases f:c.op=36
 ·exact eXf C X f0 rest g cS vc c va a w h f d
 cases hgr:(gQ c.op).isSome with
 | true=>exact eXj C X f0 rest g cS vc c va a w h l hgr
 | false=>
  obtain⟨i,o,hf,_⟩:=hY h.ok;unfold iV at hf;rw[gy t,gy u,gy fu,gy fu,gy n,gy v,gy y,gy e,gy f,hgr,gy fy]at hf;unfold mW at hf
  split at hf
  ·cases hf
  try rw[gy q]at hf
  cases hacc:acc c.op with
  | some r=>
   obtain⟨kd,wd,st,sg⟩:=r
   cases st with
   | true=>exact eXh C X f0 rest g cS vc c va a w h b hacc
   | false=>exact eXi C X f0 rest g cS vc c va a w h b hacc
  | none=>
   rw[hacc]at hf;dsimp only at hf;by_cases j:c.op=63
   ·exact eXd C X f0 rest g cS vc c va a w h j b
   by_cases k:c.op=64
   ·exact eXg C X f0 rest g cS vc c va a w h k b
   rw[gy j,gy k]at hf;cases hf
theorem bYi{C:iO}{X:iL}{f0:iP}{rest:List iP}{c:gP}{w w':Ab}{k':Nat}(h1:gU C { X with x:={ X.x with st:={ f0 with k:=k' } :: rest } } w')(h2:KK X X w w')(ha:iF C.p.J c f0.k (iw C.p.J f0.r c f0.V) X.x.s = .go k'):iI C X f0 rest c w (fP (fF fM 0)) w':=by
 refine⟨0,_,rfl,h1,h2.to rfl,fun _=>?_,fun a=>gH rfl a⟩;rw[ha];rfl
theorem aWo(b:Nat)(va:Ac)(l:List Nat)(x:Nat)(w:Ab)(hb:w.cell? ⟨b,0,fR⟩=fS va)(a:UR w va l)(d:l[0]? = fS x):Ad fZ 57 #[fI (fS ⟨b,0,fR⟩)] w fun e w'=>e = fP (fF fN ((x % 4294967296:Nat):Int))/\w=w':=by
 obtain⟨A,c,rfl⟩:=a.I;have hn:0<l.length:=(gw d).1;obtain⟨b1,o1,rfl,h1,h2,f⟩:=a.cell d;rw[AY]at h2;have hand:=sm f;clear a d;go_in;go_wp2;go_ret;exact⟨rfl,rfl⟩
theorem eXl(C:iO)(X:iL)(f0:iP)(rest:List iP)(g cS:Nat)(vc:Ac)(c:gP)(va:Ac)(a:List Nat)(w:Ab)(h:ky C X f0 rest g cS vc c va a w)(b:c.op=277):
  Ad fZ 39 #[fI (fS ⟨C.mm,0,fR⟩),fI (fS ⟨g,rest.length*3,fR⟩),vc,va] w (iI C X f0 rest c w):=by
 have q:=hY h.ok;have HI:=fQ h;obtain⟨e,cb,f,t,u,v,y,z⟩:=h.K;subst t;obtain⟨i,ac,m⟩:=h.ur.I;obtain⟨j,l⟩:=fX a.length;rw[l]at m;subst m;have o:iF C.p.J c f0.k (iw C.p.J f0.r c f0.V) X.x.s = .trap 32 X.x.s:=(by unfold iF;rw[b];rfl);have A:=fQ o;have d:=(((Ax w.heap.size w).alloc (Aj _) (fO #[fF fM c.op,fF fN (c.n:Int),e,cb,f] 86))).alloc fz (fO #[fG i j ac] 30);have B:=fQ (h.a5.C d);have D:=fQ (KK.jN (x:=X) d);have al:(c.op == 273)=fU:=(by rw[b];rfl);have an:(c.op == 274)=fU:=(by rw[b];rfl);have ao:(c.op == 275)=fU:=(by rw[b];rfl);have aq:(c.op == 276)=fU:=(by rw[b];rfl);have ar:(c.op == 277)=fT:=(by rw[b];rfl);clear h d l q b o u v y z;go_in;go_wp2;go_ret;exact⟨32,X,rfl,B.out,D.out,(fun E=>by cases E),fun _=>by rw[A.out];rfl⟩
theorem dJk(C:iO)(X:iL)(f0:iP)(rest:List iP)(g cS:Nat)(vc:Ac)(c:gP)(va:Ac)(a:List Nat)(w:Ab)(h:ky C X f0 rest g cS vc c va a w)(d:c.op=273):
  Ad fZ 39 #[fI (fS ⟨C.mm,0,fR⟩),fI (fS ⟨g,rest.length*3,fR⟩),vc,va] w (iI C X f0 rest c w):=by
 have H:=hY h.ok;have q:=fQ h;obtain⟨t,cb,cd,Q,R,S,U,u⟩:=h.K;subst Q;obtain⟨v,ac,I⟩:=h.ur.I;obtain⟨z,A⟩:=fX a.length;rw[A]at I;subst I;have aJ:=fQ A;rw[d]at H;obtain⟨i,o,hf,W,Y,J,Z,K,_⟩:=H
 obtain⟨B,e2⟩:i = []/\o = []:=by
  have e:(if c.n=0 then fS ([],[])else fR)=fS (i,o):=hf
  split at e
  ·injection e with e;injection e with B e2;exact⟨B.symm,e2.symm⟩
  ·cases e
 subst B;subst e2;have aD:jL C.p.J f0.r.a2 c = []:=(by unfold jL;rw[d,hf];rfl);obtain⟨T,f⟩:∃ T,c.to[0]? = fS T:=⟨_,Az (by have h1:(1:Int)<=c.to.length:=J;omega)⟩;have L:=K T (Ak f);obtain⟨D,rfl⟩:=AX L.1;have M:c.to.getD 0 0=(D:Int):=(by rw[Ay,f];rfl)
 have O:iF C.p.J c f0.k (iw C.p.J f0.r c f0.V) X.x.s = .go D:=by
  unfold iF;rw[gy (by rw[d];decide),gy (by rw[d];decide),gz d,M];rfl
 have HA:=fQ O;obtain⟨A4,E,rfl⟩:=u.I;obtain⟨tb,l,aE,F,G⟩:=u.ir.cell f;subst aE;rw[AY]at G;have aF:=(h.a5.bel.cell (p:=⟨tb,l,fR⟩) F).trans G;have aG:=Aq F h.a5.bel.size;obtain⟨m,P⟩:=fX c.to.length;have aH:(0:Int)<(m:Int):=(by have h1:=(gw f).1;omega);rw[P];obtain⟨gx,cx,aK,aL,b,t2,t3,t4,t5,t6,t7,t8,t9,t10,t11⟩:=gU.top h.a5.tojl h.st;rw[h.sv]at b;injection b with b _ aM;injection b with b;injection b with b;subst b;have j:=(((Ax w.heap.size w).alloc (Aj _) (fO #[fF fM c.op,fF fN (c.n:Int),t,cb,fG (fS ⟨tb,l,fR⟩) m E] 86))).alloc fz (fO #[fG v z ac] 30);have aI:(c.op == 273)=fT:=(by rw[d];rfl);clear h j A d O R S U u K J Z f L M hf W Y aD F G P;go_in;go_wp2;go_ret;exact bYi ((q.a5.setAt q.st q.sv D).C (((Ax _ _).alloc (Aj _) _).alloc fz _)) (((KK.refl X w).set (y:=X) (g:=g) _ _ (.inl (by rw[t9];decide)) rfl).C (((Ax _ _).alloc (Aj _) _).alloc fz _)) HA.out
theorem eVm(C:iO)(X:iL)(f0:iP)(rest:List iP)(g cS:Nat)(vc:Ac)(c:gP)(va:Ac)(a:List Nat)(w:Ab)(h:ky C X f0 rest g cS vc c va a w)(b:c.op=274):
  Ad fZ 39 #[fI (fS ⟨C.mm,0,fR⟩),fI (fS ⟨g,rest.length*3,fR⟩),vc,va] w (iI C X f0 rest c w):=by
 have M:=hY h.ok;have q:=fQ h;obtain⟨z,cb,cd,aD,ai,aE,aF,A⟩:=h.K;subst aD;obtain⟨B,ac,O⟩:=h.ur.I;obtain⟨D,E⟩:=fX a.length;rw[E]at O;subst O;have aP:=fQ E;rw[b]at M;obtain⟨i,o,hf,P,aG,Q,al,R,_⟩:=M
 obtain⟨F,e2⟩:i = [127]/\o = []:=by
  have f:(if c.n=0 then fS ([127],[])else fR)=fS (i,o):=hf
  split at f
  ·injection f with f;injection f with F e2;exact⟨F.symm,e2.symm⟩
  ·cases f
 subst F;subst e2;have S:jL C.p.J f0.r.a2 c = [127]:=(by unfold jL;rw[b,hf];rfl)
 obtain⟨x,t⟩:∃ x,a = [x]:=by
  have hl:a.length=1:=by rw[h.args];unfold jd;rw[Aw];exact P
  match a,hl with
  | [x],_=>exact⟨x,rfl⟩
 obtain⟨T,j⟩:∃ T,c.to[0]? = fS T:=⟨_,Az (by have h1:(1:Int)<=c.to.length:=Q;omega)⟩;have U:=R T (Ak j);obtain⟨G,rfl⟩:=AX U.1;have W:c.to.getD 0 0=(G:Int):=(by rw[Ay,j];rfl);obtain⟨y,H⟩:=fX (x % 4294967296);have Y:iw C.p.J f0.r c f0.V = [y]:=(by unfold iw;rw[S,<-h.args,t,<-H];rfl)
 have Z:iF C.p.J c f0.k (iw C.p.J f0.r c f0.V) X.x.s = .go (if y=0 then f0.k+1 else G):=by
  rw[Y];unfold iF;rw[gy (by rw[b];decide),gy (by rw[b];decide),gy (by rw[b];decide),gz b,W];rfl
 have HA:=fQ Z;have HX:=fQ t;have HY:=fQ H;obtain⟨A4,I,rfl⟩:=A.I;obtain⟨tb,u,aI,J,K⟩:=A.ir.cell j;subst aI;rw[AY]at K;have aJ:=(h.a5.bel.cell (p:=⟨tb,u,fR⟩) J).trans K;have aK:=Aq J h.a5.bel.size;obtain⟨v,aC⟩:=fX c.to.length;have aL:(0:Int)<(v:Int):=(by have h1:=(gw j).1;omega);rw[aC];obtain⟨gx,cx,aQ,aR,d,t2,t3,t4,t5,t6,t7,t8,t9,t10,t11⟩:=gU.top h.a5.tojl h.st;rw[h.sv]at d;injection d with d _ aS;injection d with d;injection d with d;subst d;have l:=(((Ax w.heap.size w).alloc (Aj _) (fO #[fF fM c.op,fF fN (c.n:Int),z,cb,fG (fS ⟨tb,u,fR⟩) v I] 86))).alloc fz (fO #[fG B D ac] 30);have HR:=fQ (h.a5.C l);have HK:=fQ (KK.jN (x:=X) l);have HU:=fQ (h.ur.C l (Aj _));have aM:=fQ (gO.X (w.alloc (fO #[fF fM c.op,fF fN (c.n:Int),z,cb,fG (fS ⟨tb,u,fR⟩) v I] 86)) (N:=w.heap.size+1) 30 #[fG B D ac] fz);have aN:(c.op == 273)=fU:=(by rw[b];rfl);have aO:(c.op == 274)=fT:=(by rw[b];rfl);clear h l E b Z ai aE aF A R Q al j U W hf P aG S J K aC t H Y;go_in;go_wp2_with fail;refine gu (aWo _ _ a x _ (by have:=aM.cell 0;simp) HU.out (by rw[HX.out];rfl)) ?_;rw[HY.out];by_cases m:y=0
 ·have u1:((y:Int) != 0)=fU:=(by simp[m]);have L:=fQ m;clear m;go_wp2;go_ret;exact bYi (k':=f0.k+1) (by rw[<-q.st];exact HR.out) HK.out (by rw[HA.out,gz L.out])
 ·have u1:((y:Int) != 0)=fT:=fw;have L:=fQ m;clear m;go_wp2;go_ret;exact bYi ((q.a5.setAt q.st q.sv G).C (((Ax _ _).alloc (Aj _) _).alloc fz _)) (((KK.refl X w).set (y:=X) (g:=g) _ _ (.inl (by rw[t9];decide)) rfl).C (((Ax _ _).alloc (Aj _) _).alloc fz _)) (by rw[HA.out,gy L.out])
theorem dJl(C:iO)(X:iL)(f0:iP)(rest:List iP)(g cS:Nat)(vc:Ac)(c:gP)(va:Ac)(a:List Nat)(w:Ab)(h:ky C X f0 rest g cS vc c va a w)(b:c.op=258)(D:jh C.p.J X.x.s):
  Ad fZ 39 #[fI (fS ⟨C.mm,0,fR⟩),fI (fS ⟨g,rest.length*3,fR⟩),vc,va] w (iI C X f0 rest c w):=by
 have E:=hY h.ok;have l:=fQ h;obtain⟨m,cb,q,K,L,M,O,P⟩:=h.K;subst K;obtain⟨t,ac,F⟩:=h.ur.I;obtain⟨u,v⟩:=fX a.length;rw[v]at F;subst F;have aL:=fQ v;rw[b]at E;obtain⟨i,o,hf,Q,G,R,S,T,_⟩:=E
 obtain⟨z,e2⟩:i = []/\o = []:=by
  have e:(if c.n=0 then fS ([],[])else fR)=fS (i,o):=hf
  split at e
  ·injection e with e;injection e with z e2;exact⟨z.symm,e2.symm⟩
  ·cases e
 subst z;subst e2;have U:jL C.p.J f0.r.a2 c = []:=(by unfold jL;rw[b,hf];rfl);have W:w.cell? ⟨C.cb,9,fR⟩=fS (fF fM (X.x.s.U:Int)):=h.a5.cell 9;have f9:=ik h.a5.cb 9
 have H:jV c (iw C.p.J f0.r c f0.V) X.x.s=if X.x.s.U=0 then(0,36,X.x.s)else(0,0,{ X.x.s with U:=X.x.s.U - 1 }):=by
  unfold jV;rw[gy (by rw[b];decide),gy (by rw[b];decide),gz b]
 have I:=fQ H;have Y:=fQ (AJ (show c.O.length=0 from G));have J:=fQ (show c.op≠276/\c.op≠277/\c.op≠273/\c.op≠274/\c.op≠275/\c.op≠16 by rw[b];decide);obtain⟨d,k⟩:=fX X.x.s.U;rw[k]at W;have A:=fQ k;have aM:d<=1024:=(by rw[<-k];exact D.U);have f:=(((Ax w.heap.size w).alloc (Aj _) (fO #[fF fM c.op,fF fN (c.n:Int),m,cb,q] 86))).alloc fz (fO #[fG t u ac] 30);have Z:=fQ (h.a5.C f);have HK:=fQ (KK.jN (x:=X) f);have m0:=h.a5.fWi;have yb:=h.a5.cb.lt;have ym:=h.a5.mm.lt;have aE:(c.op == 273)=fU:=(by rw[b];rfl);have aF:(c.op == 274)=fU:=(by rw[b];rfl);have aG:(c.op == 275)=fU:=(by rw[b];rfl);have aH:(c.op == 276)=fU:=(by rw[b];rfl);have aI:(c.op == 277)=fU:=(by rw[b];rfl);have aJ:(c.op == 258)=fT:=(by rw[b];rfl);clear h f v b H L M O P T R S hf Q G U k D;go_in;by_cases j:d=0
 ·have u1:((d:Int) == 0)=fT:=(by simp[j]);have B:=fQ j;clear j;go_wp2;go_ret;exact tI Z.out HK.out rfl (by rw[I.out,gz (A.trans B.out)]) fy J.out
 ·have u1:((d:Int) == 0)=fU:=fw;have aK:IntKind.i64.wrap ((d:Int) - 1)=((d - 1:Nat):Int):=(by rw[show(d:Int) - 1=((d - 1:Nat):Int) by omega];exact AZ _ fu);have B:=fQ j;clear j;go_wp2;go_ret;exact bQt l.st ((l.a5.fYz (d - 1)).C (((Ax _ _).alloc (Aj _) _).alloc fz _)) ((((KK.refl X w).set (y:=X) (g:=C.cb) 9 _ (.inl (gU.nl l.a5.tojl)) rfl).C (((Ax _ _).alloc (Aj _) _).alloc fz _)).to rfl) (by rw[<-A.out]) Y.out (by rw[I.out,gy (by rw[A.out];exact B.out)]) J.out
theorem cWk(C:iO)(X:iL)(f0:iP)(rest:List iP)(g cS:Nat)(vc:Ac)(c:gP)(va:Ac)(a:List Nat)(w:Ab)(h:ky C X f0 rest g cS vc c va a w)(b:c.op=256):
  Ad fZ 39 #[fI (fS ⟨C.mm,0,fR⟩),fI (fS ⟨g,rest.length*3,fR⟩),vc,va] w (iI C X f0 rest c w):=by
 have D:=hY h.ok;have f:=fQ h;obtain⟨q,cb,t,M,E,O,P,Q⟩:=h.K;subst M;obtain⟨j,ac,F⟩:=h.ur.I;obtain⟨l,u⟩:=fX a.length;rw[u]at F;subst F;have aO:=fQ u;rw[b]at D;obtain⟨i,o,hf,R,G,S,T,U,_⟩:=D
 obtain⟨v,e2⟩:i = []/\o = [0]:=by
  have y:fS ([],[0])=fS (i,o):=hf;injection y with y;injection y with v e2;exact⟨v.symm,e2.symm⟩
 subst v;subst e2;have W:jL C.p.J f0.r.a2 c = []:=(by unfold jL;rw[b,hf];rfl)
 have H:jV c (iw C.p.J f0.r c f0.V) X.x.s=(c.n,0,X.x.s):=by
  unfold jV;rw[gz b]
 have Y:=fQ H;have Z:=fQ (show c.O.length = [c.n].length from G);have aF:=fQ (show c.op≠276/\c.op≠277/\c.op≠273/\c.op≠274/\c.op≠275/\c.op≠16 by rw[b];decide);have al:=E.1;have m:=(((Ax w.heap.size w).alloc (Aj _) (fO #[fF fM c.op,fF fN (c.n:Int),q,cb,t] 86))).alloc fz (fO #[fG j l ac] 30);have HB:=fQ m;have d:=fQ (h.a5.C m);have I:=fQ (KK.jN (x:=X) m);have HU:=fQ (h.ur.C m (Aj _));have z:=fQ ((gO.a4 w 86 #[fF fM c.op,fF fN (c.n:Int),q,cb,t]).alloc (fO #[fG j l ac] 30));have A:=fQ (gO.X (w.alloc (fO #[fF fM c.op,fF fN (c.n:Int),q,cb,t] 86)) (N:=w.heap.size+1) 30 #[fG j l ac] fz);have aG:(c.op == 273)=fU:=(by rw[b];rfl);have aH:(c.op == 274)=fU:=(by rw[b];rfl);have aI:(c.op == 275)=fU:=(by rw[b];rfl);have aJ:(c.op == 276)=fU:=(by rw[b];rfl);have aK:(c.op == 277)=fU:=(by rw[b];rfl);have aL:(c.op == 258)=fU:=(by rw[b];rfl);have aM:(c.op == 257)=fU:=(by rw[b];rfl);have aN:(c.op == 256)=fT:=(by rw[b];rfl);clear h m u b H E O P Q U S T hf R G W;go_in;go_upto_region 2 with fail;obtain⟨wz,J⟩:=fX (((w.alloc (fO #[fF fM c.op,fF fN (c.n:Int),q,cb,t] 86)).alloc (fO #[fG j l ac] 30)));rw[J]at HB d I HU z A ⊢;clear J;obtain⟨b0,b1,b2,b3,b4⟩:=gZ z.out;go_wp2_with fail;refine(sJ C X { f0 with k:=f0.k+1 } rest g cS _ c _ [c.n] _ (d.C ((Ax _ _).alloc (Aj _) _)) f.st f.sv f.K (oq _ al) (fun k B=>by injection B with B;rw[<-B,gU.a6 d.tojl (by first|exact Aj _|(simp))];omega) f.O (Aa Z.symm)).mono ?_;rintro e w9 ⟨rfl,K,L⟩;have L1:=fQ K;have L2:=fQ L;clear K L;go_wp2;go_ret;exact ot f.st L1.out ((I.C ((Ax _ _).alloc (Aj _) _)).trans L2.out) rfl Y.out aF.out
theorem dJm(C:iO)(X:iL)(f0:iP)(rest:List iP)(g cS:Nat)(vc:Ac)(c:gP)(va:Ac)(a:List Nat)(w:Ab)(h:ky C X f0 rest g cS vc c va a w)(b:c.op=272):
  Ad fZ 39 #[fI (fS ⟨C.mm,0,fR⟩),fI (fS ⟨g,rest.length*3,fR⟩),vc,va] w (iI C X f0 rest c w):=by
 have I:=hY h.ok;have l:=fQ h;obtain⟨u,cb,v,Y,Z,aH,aI,aJ⟩:=h.K;subst Y;obtain⟨aA,ac,J⟩:=h.ur.I;obtain⟨d,y⟩:=fX a.length;rw[y]at J;subst J;have a1:=fQ y;rw[b]at I;obtain⟨i,o,hf,K,L,ai,aj,aK,_⟩:=I
 obtain⟨A,e2⟩:i = [0]/\o = [0]:=by
  have m:(if c.n=0 then fS ([0],[0])else fR)=fS (i,o):=hf
  split at m
  ·injection m with m;injection m with A e2;exact⟨A.symm,e2.symm⟩
  ·cases m
 subst A;subst e2;have M:jL C.p.J f0.r.a2 c = [0]:=(by unfold jL;rw[b,hf];rfl)
 obtain⟨x,z⟩:∃ x,a = [x]:=by
  have hl:a.length=1:=by rw[h.args];unfold jd;rw[Aw];exact K
  match a,hl with
  | [x],_=>exact⟨x,rfl⟩
 have O:iw C.p.J f0.r c f0.V = [x]:=by unfold iw;rw[M,<-h.args,z];rfl
 have P:jV c (iw C.p.J f0.r c f0.V) X.x.s=(x,0,X.x.s):=by
  rw[O];unfold jV;rw[gy (by rw[b];decide),gz b];rfl
 have ak:=fQ P;have aL:=fQ (show c.O.length = [x].length from L);have aM:=fQ (show c.op≠276/\c.op≠277/\c.op≠273/\c.op≠274/\c.op≠275/\c.op≠16 by rw[b];decide);have B:=h.ur;rw[z]at B;obtain⟨ab,f,aN,Q,D,aq⟩:=B.cell (k:=0) (x:=x) rfl;subst aN;rw[AY]at D;have aO:=fQ D;have R:=fQ Q;have aP:(0:Int)<(d:Int):=(by rw[<-y,z];simp);have aQ:0<d:=fu;have q:=(((Ax w.heap.size w).alloc (Aj _) (fO #[fF fM c.op,fF fN (c.n:Int),u,cb,v] 86))).alloc fz (fO #[fG (fS ⟨ab,f,fR⟩) d ac] 30);have E:=fQ q;have j:=fQ (h.a5.C q);have S:=fQ (KK.jN (x:=X) q);have HU:=fQ (h.ur.C q (Aj _));have F:=fQ ((gO.a4 w 86 #[fF fM c.op,fF fN (c.n:Int),u,cb,v]).alloc (fO #[fG (fS ⟨ab,f,fR⟩) d ac] 30));have G:=fQ (gO.X (w.alloc (fO #[fF fM c.op,fF fN (c.n:Int),u,cb,v] 86)) (N:=w.heap.size+1) 30 #[fG (fS ⟨ab,f,fR⟩) d ac] fz);have aR:(c.op == 273)=fU:=(by rw[b];rfl);have aS:(c.op == 274)=fU:=(by rw[b];rfl);have aT:(c.op == 275)=fU:=(by rw[b];rfl);have aU:(c.op == 276)=fU:=(by rw[b];rfl);have aV:(c.op == 277)=fU:=(by rw[b];rfl);have aW:(c.op == 258)=fU:=(by rw[b];rfl);have aX:(c.op == 257)=fU:=(by rw[b];rfl);have aY:(c.op == 256)=fU:=(by rw[b];rfl);have aZ:(c.op == 272)=fT:=(by rw[b];rfl);clear h q y b P Z aH aI aJ aK ai aj hf K L M z O B D Q;go_in;go_upto_region 2 with fail;obtain⟨t,T⟩:=fX (((w.alloc (fO #[fF fM c.op,fF fN (c.n:Int),u,cb,v] 86)).alloc (fO #[fG (fS ⟨ab,f,fR⟩) d ac] 30)));rw[T]at E j S HU F G ⊢;clear T;obtain⟨b0,b1,b2,b3,b4⟩:=gZ F.out;have ba:t.cell? ⟨w.heap.size+1,0,fR⟩=fS (fG (fS ⟨ab,f,fR⟩) d ac):=G.cell 0;have yB:=F.lt;go_wp2_with fail;have ax:t.cell? ⟨ab,f,fR⟩=fS (fF fN (x:Int)):=(E.cell (p:=⟨ab,f,fR⟩) R.out).trans aO.out;go_region_with ((go_at_call 60;refine(sJ C X { f0 with k:=f0.k+1 } rest g cS _ c _ [x] _ ((j.C ((Ax _ _).alloc (Aj _) _)).drew) l.st l.sv l.K (show UR (t.alloc (fO #[fF fN (x:Int)] 52)).drew _ _ from oq t aq) (fun k H=>by injection H with H;rw[<-H,gU.a6 j.tojl (Aj _)];omega) l.O (Aa aL.symm)).mono ?_;rintro e w9 ⟨rfl,U,W⟩;have L1:=fQ U;have L2:=fQ W;clear U W))
 all_goals
  go_wp2;go_ret;exact ot l.st L1.out (((S.C ((Ax _ _).alloc (Aj _) _)).drew).trans L2.out) rfl ak.out aM.out
theorem eXm(C:iO)(X:iL)(f0:iP)(rest:List iP)(g cS:Nat)(vc:Ac)(c:gP)(va:Ac)(a:List Nat)(w:Ab)(h:ky C X f0 rest g cS vc c va a w)(b:c.op=276)(O:jy ({ f0 with k:=f0.k+1 } :: rest))(P:∀ q∈rest,kH C.p q):
  Ad fZ 39 #[fI (fS ⟨C.mm,0,fR⟩),fI (fS ⟨g,rest.length*3,fR⟩),vc,va] w (iI C X f0 rest c w):=by
 have G:=hY h.ok;have D:=fQ h;obtain⟨E,cb,F,ay,ah,az,aB,aC⟩:=h.K;subst ay;obtain⟨t,ac,Q⟩:=h.ur.I;obtain⟨u,H⟩:=fX a.length;rw[H]at Q;subst Q;have aQ:=fQ H
 have I:jL C.p.J f0.r.a2 c=f0.r.a2.out/\c.args.length=f0.r.a2.out.length:=by
  rw[b]at G;obtain⟨i,o,hf,aD,_⟩:=G;have y:(if c.n=0 then fS (f0.r.a2.out,([]:List Int))else fR)=fS (i,o):=hf
  split at y
  ·injection y with y;injection y with e1 e2;subst e1;refine⟨?_,aD⟩;unfold jL;rw[b,hf];rfl
  ·cases y
 have R:a.length=f0.r.a2.out.length:=by rw[h.args];unfold jd;rw[Aw];exact I.2
 have S:iF C.p.J c f0.k (iw C.p.J f0.r c f0.V) X.x.s = .ret (ie f0.r.a2.out a):=by
  unfold iF;rw[gz b];unfold iw;rw[I.1,<-h.args]
 have HA:=fQ S;have m:=fQ R;have aE:=fQ O;have aF:=fQ P;obtain⟨rp,rq,rs,ru,y0,y1,y2,y3,y4,y5,_,T,_,_⟩:=h.kc.row h.a5.bel h.row;have aG:=fQ T.ir
 have aR:f0.r.a2.out.length<=8:=by
  have hs:=h.ck.a2;unfold je lY at hs;simp only[Bool.and_eq_true,decide_eq_true_eq]at hs;exact hs.2.1
 obtain⟨gx,cx,aS,aT,d,t2,t3,U,t5,t6,t7,W,t9,t10,t11⟩:=gU.top h.a5.tojl h.st;rw[h.sv]at d;injection d with d _ aU;injection d with d;injection d with d;subst d;have z:=(((Ax w.heap.size w).alloc (Aj _) (fO #[fF fM c.op,fF fN (c.n:Int),E,cb,F] 86))).alloc fz (fO #[fG t u ac] 30);have A:=fQ z;have f:=fQ (h.a5.C z);have J:=fQ (KK.jN (x:=X) z);have Y:=fQ (h.ur.C z (Aj _));have K:=fQ ((gO.a4 w 86 #[fF fM c.op,fF fN (c.n:Int),E,cb,F]).alloc (fO #[fG t u ac] 30));have L:=fQ (gO.X (w.alloc (fO #[fF fM c.op,fF fN (c.n:Int),E,cb,F] 86)) (N:=w.heap.size+1) 30 #[fG t u ac] fz);have aH:(c.op == 273)=fU:=(by rw[b];rfl);have aI:(c.op == 274)=fU:=(by rw[b];rfl);have aJ:(c.op == 275)=fU:=(by rw[b];rfl);have aK:(c.op == 276)=fT:=(by rw[b];rfl);clear h z H G b S ah az aB aC I R O P T;go_in;go_upto_region 2 with fail;obtain⟨l,Z⟩:=fX (((w.alloc (fO #[fF fM c.op,fF fN (c.n:Int),E,cb,F] 86)).alloc (fO #[fG t u ac] 30)));rw[Z]at A f J Y K L ⊢;clear Z;obtain⟨b0,b1,b2,b3,b4⟩:=gZ K.out;have ba:l.cell? ⟨w.heap.size+1,0,fR⟩=fS (fG t u ac):=L.cell 0;have z4:l.cell? ⟨g,rest.length*3,fR⟩=fS (fI (fS ⟨C.zf,C.jU+f0.fi*5,fR⟩)):=(A.cell (p:=⟨g,rest.length*3,fR⟩) W).trans U;have z2:l.cell? ⟨C.zf,C.jU+f0.fi*5+1,fR⟩=fS rq:=(A.cell (p:=⟨C.zf,C.jU+f0.fi*5+1,fR⟩) y0).trans y2;clear y1 y2 y3 y4 y5 t2 t3 U t5 t6 t7 t10 t11;go_wp2_with fail;go_region_with ((first|(go_at_call 48;refine(pH _ _ f0.r.a2.out a _ (aG.C (f.bel.drew) (Aj _)) (show UR l.drew _ _ from Y.out) m.symm).mono ?_;rintro e w3 ⟨v3,rfl,ax,M⟩;have B:=fQ (show Hid (w3.ownsRow l.drew.heap.size 52 1 v3 (ie f0.r.a2.out a).length (hH (ie f0.r.a2.out a)))from fQ (by rw[pY _ _ m.symm];exact ax));have aL:=fQ (f.drew.C M);have aM:=fQ (J.drew.C M);have aN:=fQ (aL.lH v3 8 (fun j hj=>⟨gU.a6 f.drew.tojl (B.out.lt j hj).1,AK f.drew.bel.size (B.out.lt j hj).1,(B.out.lt j hj).2⟩));have aO:=fQ (aM.lH (v:=v3) (c:=8) (fun j hj=>.inl (AK J.out.size (B.out.lt j hj).1)));have aP:=fQ (zZ B.out (pZ _ _ D.ur.all) (by rw[pY _ _ m.symm,m.out];omega));clear ax M)|(go_at_call 58;refine(eXb C { X with a8:=mY X.a8 v3 8 } { f0 with k:=f0.k+1 } rest v3 (ie f0.r.a2.out a) w3 aN.out D.kc D.st aP.out (fun j hj=>zJ hj) aE.out aF.out (by rw[pY _ _ m.symm];exact m.out) (by have:=D.dep;omega)).mono ?_;rintro e w4 ⟨rfl,X4,k1,k2,k3⟩;have K1:=fQ k1;have K2:=fQ k2;have K3:=fQ k3;clear k1 k2 k3)))
 all_goals
  go_wp2;go_ret;exact⟨0,X4,rfl,K1.out,aO.trans K2.out,(fun _=>by rw[K3.out,HA.out];rfl),fun h0=>gH rfl h0⟩
theorem dJn(C:iO)(X:iL)(f0:iP)(rest:List iP)(g cS:Nat)(vc:Ac)(c:gP)(va:Ac)(a:List Nat)(w:Ab)(h:ky C X f0 rest g cS vc c va a w)(b:c.op=16):
  Ad fZ 39 #[fI (fS ⟨C.mm,0,fR⟩),fI (fS ⟨g,rest.length*3,fR⟩),vc,va] w (iI C X f0 rest c w):=by
 have s:=hY h.ok;have t:=fQ h;obtain⟨f,cb,i,u,v,y,z,A⟩:=h.K;subst u;obtain⟨j,ac,m⟩:=h.ur.I;obtain⟨k,l⟩:=fX a.length;rw[l]at m;subst m;have B:=fQ b;have d:=(((Ax w.heap.size w).alloc (Aj _) (fO #[fF fM c.op,fF fN (c.n:Int),f,cb,i] 86))).alloc fz (fO #[fG j k ac] 30);have D:=fQ d;have E:=fQ (KK.jN (x:=X) d);have an:(c.op == 273)=fU:=(by rw[b];rfl);have ao:(c.op == 274)=fU:=(by rw[b];rfl);have aq:(c.op == 275)=fU:=(by rw[b];rfl);have ar:(c.op == 276)=fU:=(by rw[b];rfl);have au:(c.op == 277)=fU:=(by rw[b];rfl);have aw:(c.op == 258)=fU:=(by rw[b];rfl);have ax:(c.op == 257)=fU:=(by rw[b];rfl);have ay:(c.op == 256)=fU:=(by rw[b];rfl);have az:(c.op == 272)=fU:=(by rw[b];rfl);have aG:(c.op == 27)=fU:=(by rw[b];rfl);have aH:(c.op == 16)=fT:=(by rw[b];rfl);clear h d l s b v y z A;go_in;go_wp2_with fail;refine(cWg C X f0 rest g cS _ c _ a _ (t.C D.out) B.out).mono ?_;rintro e F G;obtain⟨o,H,rfl,p,k2,q,r⟩:=G;have K:=fQ (show iI C X f0 rest c w (fP (fF fM o)) F from⟨o,H,rfl,p,E.trans k2,q,r⟩);clear p k2 q r;go_wp2;go_ret;exact K.out
theorem dJo(C:iO)(X:iL)(f0:iP)(rest:List iP)(g cS:Nat)(vc:Ac)(c:gP)(va:Ac)(a:List Nat)(w:Ab)(h:ky C X f0 rest g cS vc c va a w)(l:Tabs w)(m:jh C.p.J X.x.s)(o:X.x.s.E.length=C.p.J.E.length)(q:c.op≠273/\c.op≠274/\c.op≠275/\c.op≠276/\c.op≠277/\c.op≠258/\c.op≠257/\c.op≠256/\c.op≠272/\c.op≠27/\c.op≠16):
  Ad fZ 39 #[fI (fS ⟨C.mm,0,fR⟩),fI (fS ⟨g,rest.length*3,fR⟩),vc,va] w (iI C X f0 rest c w):=by
 have D:=hY h.ok;have E:=fQ h;obtain⟨d,cb,f,F,G,H,I,J⟩:=h.K;subst F;obtain⟨i,ac,r⟩:=h.ur.I;obtain⟨j,k⟩:=fX a.length;rw[k]at r;subst r;have b:=(((Ax w.heap.size w).alloc (Aj _) (fO #[fF fM c.op,fF fN (c.n:Int),d,cb,f] 86))).alloc fz (fO #[fG i j ac] 30);have t:=fQ b;have L:=fQ (KK.jN (x:=X) b);have u:=fQ l;have M:=fQ m;have O:=fQ o;have P:=fQ q;obtain⟨n273,n274,n275,n276,n277,n258,n257,n256,n272,n27,v⟩:=q;have ao:(c.op == 273)=fU:=(by simp[n273]);have aq:(c.op == 274)=fU:=(by simp[n274]);have ar:(c.op == 275)=fU:=(by simp[n275]);have au:(c.op == 276)=fU:=(by simp[n276]);have aw:(c.op == 277)=fU:=(by simp[n277]);have ax:(c.op == 258)=fU:=(by simp[n258]);have ay:(c.op == 257)=fU:=(by simp[n257]);have az:(c.op == 256)=fU:=(by simp[n256]);have aB:(c.op == 272)=fU:=(by simp[n272]);have aH:(c.op == 27)=fU:=(by simp[n27]);have aI:(c.op == 16)=fU:=(by simp[v]);clear h b k D G H I J l m o n273 n274 n275 n276 n277 n258 n257 n256 n272 n27 v;go_in;go_wp2_with fail;refine(eXk C X f0 rest g cS _ c _ a _ (E.C t.out) (u.C t.out u.2.2) M.out O.out P.out).mono ?_;rintro e Q R;obtain⟨y,S,rfl,z,k2,A,B⟩:=R;have K:=fQ (show iI C X f0 rest c w (fP (fF fM y)) Q from⟨y,S,rfl,z,L.trans k2,A,B⟩);clear z k2 A B;go_wp2;go_ret;exact K.out
theorem bJi(C:iO)(X:iL)(f0:iP)(rest:List iP)(g cS:Nat)(vc:Ac)(c:gP)(va:Ac)(a:List Nat)(w:Ab)(h:ky C X f0 rest g cS vc c va a w)(b:c.op=257)(H:∀ x:Nat,a = [x]->qJ X.x.s.L.length (x % 4294967296) c.n=fT):
  Ad fZ 39 #[fI (fS ⟨C.mm,0,fR⟩),fI (fS ⟨g,rest.length*3,fR⟩),vc,va] w (iI C X f0 rest c w):=by
 have I:=hY h.ok;have Z:=fQ h;obtain⟨q,cb,t,aC,aj,aD,aE,aF⟩:=h.K;subst aC;obtain⟨j,ac,J⟩:=h.ur.I;obtain⟨k,B⟩:=fX a.length;rw[B]at J;subst J;have aS:=fQ B;rw[b]at I;obtain⟨i,o,hf,K,L,_⟩:=I;have d:mW C.p.J.L 257 c.n=fS (i,o):=hf;unfold mW at d
 obtain⟨D,e2⟩:i = [127]/\o = []:=by
  split at d
  ·cases d
  ·rw[gz rfl]at d
   split at d
   ·injection d with d;injection d with D e2;exact⟨D.symm,e2.symm⟩
   ·cases d
 subst D;subst e2;have M:jL C.p.J f0.r.a2 c = [127]:=(by unfold jL;rw[b,hf];rfl)
 obtain⟨x,u⟩:∃ x,a = [x]:=by
  have hl:a.length=1:=by rw[h.args];unfold jd;rw[Aw];exact K
  match a,hl with
  | [x],_=>exact⟨x,rfl⟩
 obtain⟨y,v⟩:=fX (x % 4294967296);have O:iw C.p.J f0.r c f0.V = [y]:=(by unfold iw;rw[M,<-h.args,u,<-v];rfl);have l:=H x u;rw[v]at l
 have P:jV c (iw C.p.J f0.r c f0.V) X.x.s=(0,0,X.x.s):=by
  rw[O];unfold jV;rw[gy (by rw[b];decide),gy (by rw[b];decide),gy (by rw[b];decide),gy (by rw[b];decide),gy (by rw[b];decide),gy (by rw[b];decide),gz b];show(0,(if qJ X.x.s.L.length y c.n=fT then(0:Int)else 35),X.x.s)=_;rw[l];rfl
 have al:=fQ P;have aG:=fQ (AJ (show c.O.length=0 from L));have aH:=fQ (show c.op≠276/\c.op≠277/\c.op≠273/\c.op≠274/\c.op≠275/\c.op≠16 by rw[b];decide);obtain⟨Q,R⟩:=fX X.x.s.L.length;obtain⟨S,T,z⟩:=h.a5.L.I;have E:=h.a5.L;rw[R]at z l;rw[z]at E;have aI:=E.len.2.2.2.2.1.1;have aJ:=fQ z;have aK:=fQ l;have HX:=fQ u;have HY:=fQ v;have m:=(((Ax w.heap.size w).alloc (Aj _) (fO #[fF fM c.op,fF fN (c.n:Int),q,cb,t] 86))).alloc fz (fO #[fG j k ac] 30);have HB:=fQ m;have f:=fQ (h.a5.C m);have U:=fQ (KK.jN (x:=X) m);have W:=fQ (h.ur.C m (Aj _));have F:=fQ ((gO.a4 w 86 #[fF fM c.op,fF fN (c.n:Int),q,cb,t]).alloc (fO #[fG j k ac] 30));have G:=fQ (gO.X (w.alloc (fO #[fF fM c.op,fF fN (c.n:Int),q,cb,t] 86)) (N:=w.heap.size+1) 30 #[fG j k ac] fz);have aL:(c.op == 273)=fU:=(by rw[b];rfl);have aM:(c.op == 274)=fU:=(by rw[b];rfl);have aN:(c.op == 275)=fU:=(by rw[b];rfl);have aO:(c.op == 276)=fU:=(by rw[b];rfl);have aP:(c.op == 277)=fU:=(by rw[b];rfl);have aQ:(c.op == 258)=fU:=(by rw[b];rfl);have aR:(c.op == 257)=fT:=(by rw[b];rfl);clear h m B b P aj aD aE aF hf d K L M u v O H l R z E;go_in;go_upto_region 2 with fail;obtain⟨A,Y⟩:=fX (((w.alloc (fO #[fF fM c.op,fF fN (c.n:Int),q,cb,t] 86)).alloc (fO #[fG j k ac] 30)));rw[Y]at HB f U W F G ⊢;clear Y;have mz:=f.fWi;obtain⟨b0,b1,b2,b3,b4⟩:=gZ F.out;have ba:A.cell? ⟨w.heap.size+1,0,fR⟩=fS (fG j k ac):=G.cell 0;have z6:A.cell? ⟨C.cb,6,fR⟩=fS (fG S Q T):=aJ.out ▸ f.cell 6;go_wp2_with fail;go_region_with ((first|(go_at_call 57;refine gu (aWo (w.heap.size+1) _ a x _ (show A.drew.cell? ⟨w.heap.size+1,0,fR⟩=_ from ba) (show UR A.drew _ _ from W.out) (by rw[HX.out];rfl)) ?_;rw[HY.out])|(go_at_call 59;refine gu (aJu S Q T y c.n _ aI) ?_;rw[aK.out])))
 all_goals
  go_wp2;go_ret;exact bQt Z.st f.drew U.drew rfl aG.out al.out aH.out
theorem bZl(C:iO)(X:iL)(f0:iP)(rest:List iP)(g cS:Nat)(vc:Ac)(c:gP)(va:Ac)(a:List Nat)(w:Ab)(h:ky C X f0 rest g cS vc c va a w)(b:c.op=257)(H:∀ x:Nat,a = [x]->qJ X.x.s.L.length (x % 4294967296) c.n=fU):
  Ad fZ 39 #[fI (fS ⟨C.mm,0,fR⟩),fI (fS ⟨g,rest.length*3,fR⟩),vc,va] w (iI C X f0 rest c w):=by
 have I:=hY h.ok;have HI:=fQ h;obtain⟨q,cb,t,Z,aj,aD,aE,aF⟩:=h.K;subst Z;obtain⟨j,ac,J⟩:=h.ur.I;obtain⟨k,B⟩:=fX a.length;rw[B]at J;subst J;have aR:=fQ B;rw[b]at I;obtain⟨i,o,hf,K,L,_⟩:=I;have d:mW C.p.J.L 257 c.n=fS (i,o):=hf;unfold mW at d
 obtain⟨D,e2⟩:i = [127]/\o = []:=by
  split at d
  ·cases d
  ·rw[gz rfl]at d
   split at d
   ·injection d with d;injection d with D e2;exact⟨D.symm,e2.symm⟩
   ·cases d
 subst D;subst e2;have M:jL C.p.J f0.r.a2 c = [127]:=(by unfold jL;rw[b,hf];rfl)
 obtain⟨x,u⟩:∃ x,a = [x]:=by
  have hl:a.length=1:=by rw[h.args];unfold jd;rw[Aw];exact K
  match a,hl with
  | [x],_=>exact⟨x,rfl⟩
 obtain⟨y,v⟩:=fX (x % 4294967296);have O:iw C.p.J f0.r c f0.V = [y]:=(by unfold iw;rw[M,<-h.args,u,<-v];rfl);have l:=H x u;rw[v]at l
 have P:jV c (iw C.p.J f0.r c f0.V) X.x.s=(0,35,X.x.s):=by
  rw[O];unfold jV;rw[gy (by rw[b];decide),gy (by rw[b];decide),gy (by rw[b];decide),gy (by rw[b];decide),gy (by rw[b];decide),gy (by rw[b];decide),gz b];show(0,(if qJ X.x.s.L.length y c.n=fT then(0:Int)else 35),X.x.s)=_;rw[l];rfl
 have al:=fQ P;have aG:=fQ (show c.op≠276/\c.op≠277/\c.op≠273/\c.op≠274/\c.op≠275/\c.op≠16 by rw[b];decide);obtain⟨Q,R⟩:=fX X.x.s.L.length;obtain⟨S,T,z⟩:=h.a5.L.I;have E:=h.a5.L;rw[R]at z l;rw[z]at E;have aH:=E.len.2.2.2.2.1.1;have aI:=fQ z;have aJ:=fQ l;have HX:=fQ u;have HY:=fQ v;have m:=(((Ax w.heap.size w).alloc (Aj _) (fO #[fF fM c.op,fF fN (c.n:Int),q,cb,t] 86))).alloc fz (fO #[fG j k ac] 30);have HB:=fQ m;have f:=fQ (h.a5.C m);have U:=fQ (KK.jN (x:=X) m);have W:=fQ (h.ur.C m (Aj _));have F:=fQ ((gO.a4 w 86 #[fF fM c.op,fF fN (c.n:Int),q,cb,t]).alloc (fO #[fG j k ac] 30));have G:=fQ (gO.X (w.alloc (fO #[fF fM c.op,fF fN (c.n:Int),q,cb,t] 86)) (N:=w.heap.size+1) 30 #[fG j k ac] fz);have aK:(c.op == 273)=fU:=(by rw[b];rfl);have aL:(c.op == 274)=fU:=(by rw[b];rfl);have aM:(c.op == 275)=fU:=(by rw[b];rfl);have aN:(c.op == 276)=fU:=(by rw[b];rfl);have aO:(c.op == 277)=fU:=(by rw[b];rfl);have aP:(c.op == 258)=fU:=(by rw[b];rfl);have aQ:(c.op == 257)=fT:=(by rw[b];rfl);clear h m B b P aj aD aE aF hf d K L M u v O H l R z E;go_in;go_upto_region 2 with fail;obtain⟨A,Y⟩:=fX (((w.alloc (fO #[fF fM c.op,fF fN (c.n:Int),q,cb,t] 86)).alloc (fO #[fG j k ac] 30)));rw[Y]at HB f U W F G ⊢;clear Y;have mz:=f.fWi;obtain⟨b0,b1,b2,b3,b4⟩:=gZ F.out;have ba:A.cell? ⟨w.heap.size+1,0,fR⟩=fS (fG j k ac):=G.cell 0;have z6:A.cell? ⟨C.cb,6,fR⟩=fS (fG S Q T):=aI.out ▸ f.cell 6;go_wp2_with fail;go_region_with ((first|(go_at_call 57;refine gu (aWo (w.heap.size+1) _ a x _ (show A.drew.cell? ⟨w.heap.size+1,0,fR⟩=_ from ba) (show UR A.drew _ _ from W.out) (by rw[HX.out];rfl)) ?_;rw[HY.out])|(go_at_call 59;refine gu (aJu S Q T y c.n _ aH) ?_;rw[aJ.out])))
 all_goals
  go_wp2;go_ret;exact tI f.drew U.drew rfl al.out fy aG.out
theorem cWl(C:iO)(X:iL)(f0:iP)(rest:List iP)(g cS:Nat)(vc:Ac)(c:gP)(va:Ac)(a:List Nat)(w:Ab)(h:ky C X f0 rest g cS vc c va a w)(d:c.op=275):
  Ad fZ 39 #[fI (fS ⟨C.mm,0,fR⟩),fI (fS ⟨g,rest.length*3,fR⟩),vc,va] w (iI C X f0 rest c w):=by
 have S:=hY h.ok;have U:=fQ h;obtain⟨D,cb,cd,aJ,ak,aK,aL,H⟩:=h.K;subst aJ;obtain⟨t,ac,W⟩:=h.ur.I;obtain⟨u,I⟩:=fX a.length;rw[I]at W;subst W;have aS:=fQ I;rw[d]at S;obtain⟨i,o,hf,Y,aM,Z,ag,aC,_⟩:=S
 obtain⟨J,e2⟩:i = [127]/\o = []:=by
  have v:(if c.n=0 then fS ([127],[])else fR)=fS (i,o):=hf
  split at v
  ·injection v with v;injection v with J e2;exact⟨J.symm,e2.symm⟩
  ·cases v
 subst J;subst e2;have aD:jL C.p.J f0.r.a2 c = [127]:=(by unfold jL;rw[d,hf];rfl)
 obtain⟨x,K⟩:∃ x,a = [x]:=by
  have hl:a.length=1:=by rw[h.args];unfold jd;rw[Aw];exact Y
  match a,hl with
  | [x],_=>exact⟨x,rfl⟩
 obtain⟨y,L⟩:=fX (x % 4294967296);have aE:iw C.p.J f0.r c f0.V = [y]:=(by unfold iw;rw[aD,<-h.args,K,<-L];rfl);obtain⟨l,E⟩:=fX (min y (c.to.length - 1));have ao:1<=c.to.length/\c.to.length<=65:=(by have h1:(1:Int)<=c.to.length:=Z;have h2:(c.to.length:Int)<=65:=ag;omega);obtain⟨T,z⟩:∃ T,c.to[l]? = fS T:=⟨_,Az fu⟩;have aF:=aC T (Ak z);obtain⟨F,rfl⟩:=AX aF.1;have aG:c.to.getD l 0=(F:Int):=(by rw[Ay,z];rfl)
 have hA:iF C.p.J c f0.k (iw C.p.J f0.r c f0.V) X.x.s = .go F:=by
  rw[aE];unfold iF;rw[gy (by rw[d];decide),gy (by rw[d];decide),gy (by rw[d];decide),gy (by rw[d];decide),gz d];show mn.go (c.to.getD (min y (c.to.length - 1)) 0).toNat=_;rw[E,aG];rfl
 have HA:=fQ hA;have HX:=fQ K;have HY:=fQ L;obtain⟨A4,G,rfl⟩:=H.I;obtain⟨tb,m,aN,M,aH⟩:=H.ir.cell z;subst aN;have ar:=E;have au:=(h.a5.bel.cell (p:=⟨tb,m+l,fR⟩) M).trans aH;have ai:=Aq M h.a5.bel.size;obtain⟨b,O⟩:=fX c.to.length;have aO:(0:Int)<(b:Int):=(by have h1:=(gw z).1;omega);rw[O];obtain⟨gx,cx,aT,aU,f,t2,t3,t4,t5,t6,t7,P,t9,t10,t11⟩:=gU.top h.a5.tojl h.st;rw[h.sv]at f;injection f with f _ aV;injection f with f;injection f with f;subst f;rw[O]at E ao;have aW:IntKind.i64.wrap ((b:Int) - 1)=((b - 1:Nat):Int):=(by rw[show(b:Int) - 1=((b - 1:Nat):Int) by omega];exact AZ _ fu);have aX:IntKind.u64.wrap ((b - 1:Nat):Int)=((b - 1:Nat):Int):=qZ fu;have aY:min (y:Int) ((b - 1:Nat):Int)=(l:Int):=fu;have aZ:(l:Int)<(b:Int):=fu;have A:=(((Ax w.heap.size w).alloc (Aj _) (fO #[fF fM c.op,fF fN (c.n:Int),D,cb,fG (fS ⟨tb,m,fR⟩) b G] 86))).alloc fz (fO #[fG t u ac] 30);have q:=fQ A;have B:=fQ (h.a5.C A);have HK:=fQ (KK.jN (x:=X) A);have HU:=fQ (h.ur.C A (Aj _));have Q:=fQ ((gO.a4 w 86 #[fF fM c.op,fF fN (c.n:Int),D,cb,fG (fS ⟨tb,m,fR⟩) b G]).alloc (fO #[fG t u ac] 30));have R:=fQ (gO.X (w.alloc (fO #[fF fM c.op,fF fN (c.n:Int),D,cb,fG (fS ⟨tb,m,fR⟩) b G] 86)) (N:=w.heap.size+1) 30 #[fG t u ac] fz);have aP:(c.op == 273)=fU:=(by rw[d];rfl);have aQ:(c.op == 274)=fU:=(by rw[d];rfl);have aR:(c.op == 275)=fT:=(by rw[d];rfl);clear h A I d hA ak aK aL H aC Z ag z aF aG hf Y aM aD M aH O K L aE E ar;go_in;go_upto_region 2 with fail;obtain⟨j,aI⟩:=fX (((w.alloc (fO #[fF fM c.op,fF fN (c.n:Int),D,cb,fG (fS ⟨tb,m,fR⟩) b G] 86)).alloc (fO #[fG t u ac] 30)));rw[aI]at q B HK HU Q R ⊢;clear aI;obtain⟨b0,b1,b2,b3,b4⟩:=gZ Q.out;have ba:j.cell? ⟨w.heap.size+1,0,fR⟩=fS (fG t u ac):=R.cell 0;have z5:j.cell? ⟨g,rest.length*3+1,fR⟩=fS (fF fM ((f0.k+1:Nat):Int)):=(q.cell (p:=⟨g,rest.length*3+1,fR⟩) P).trans t5;have z7:j.frozen? ⟨g,rest.length*3+1,fR⟩=fU:=(q.frozen (p:=⟨g,rest.length*3+1,fR⟩) P).trans (t7 _);have ze:j.cell? ⟨tb,m+l,fR⟩=fS (fF fM (F:Int)):=(q.cell (p:=⟨tb,m+l,fR⟩) ai).trans au;clear t2 t3 t4 t5 t6 t7 t10 t11;go_wp2_with fail;go_region_with ((go_at_call 57;refine gu (aWo (w.heap.size+1) _ a x _ (show j.drew.cell? ⟨w.heap.size+1,0,fR⟩=_ from ba) (show UR j.drew _ _ from HU.out) (by rw[HX.out];rfl)) ?_;rw[HY.out]))
 all_goals
  go_wp2;go_ret;exact bYi (B.setAt U.st U.sv F).drew (((HK.set (y:=X) (g:=g) _ _ (.inl (by rw[t9];decide)) rfl)).drew) HA.out
theorem bYc(C:iO)(X:iL)(f0:iP)(rest:List iP)(g cS:Nat)(vc:Ac)(c:gP)(va:Ac)(a:List Nat)(w:Ab)(h:ky C X f0 rest g cS vc c va a w)(b:c.op=27)(nE:Ab)(ar:KK X X nE w)(au:∀ k,va.ownBlock=fS k->nE.heap.size<=k)(P:w.ownsRow C.w0.heap.size 52 1 va a.length (hH a))(U:∀ z:Nat,a[2]? = fS z->z % 4294967296=0):
  Ad fZ 39 #[fI (fS ⟨C.mm,0,fR⟩),fI (fS ⟨g,rest.length*3,fR⟩),vc,va] w (iI C X f0 rest c nE):=by
 have W:=hY h.ok;have q:=fQ h;obtain⟨F,cb,G,aV,aw,aW,aX,aY⟩:=h.K;subst aV;obtain⟨aA,ac,Y⟩:=h.ur.I;obtain⟨na,t⟩:=fX a.length;rw[t]at Y;subst Y;have bw:=fQ t;rw[b]at W;obtain⟨i,o,hf,Z,aO,aB,aC,aZ,_⟩:=W
 obtain⟨Q,e2⟩:i = [0,0,127]/\o = [0]:=by
  have A:(if c.n=0 then fS ([0,0,127],[0])else fR)=fS (i,o):=hf
  split at A
  ·injection A with A;injection A with Q e2;exact⟨Q.symm,e2.symm⟩
  ·cases A
 subst Q;subst e2;have aP:jL C.p.J f0.r.a2 c = [0,0,127]:=(by unfold jL;rw[b,hf];rfl)
 obtain⟨x,y,z,d⟩:∃ x y z,a = [x,y,z]:=by
  have hl:a.length=3:=by rw[h.args];unfold jd;rw[Aw];exact Z
  match a,hl with
  | [x,y,z],_=>exact⟨x,y,z,rfl⟩
 have aD:=h.ur.all y (by rw[d];simp);obtain⟨H,R⟩:=fX (z % 4294967296);have a7:IntKind.u32.wrap (z:Int)=(H:Int):=(by rw[IntKind.wrap_u32];omega);have aQ:iw C.p.J f0.r c f0.V = [x,y,H]:=(by unfold iw;rw[aP,<-h.args,d,<-R];rfl);obtain⟨ab,bz,I,B,aF,_⟩:=lZ P (by rw[d];simp);rw[t]at I;injection I with I _ aG;subst I;subst aG;have u:=P;rw[t,d]at u;have a8:na=3:=(by rw[<-t,d];rfl);subst a8;have J:=u.cellAt 0 fy;have K:=u.cellAt 1 fy;have L:=u.cellAt 2 fy;have aR:=u.frozenAt 0;have J:w.cell? ⟨ab,0,fR⟩=fS (fF fN (x:Int)):=J;have K:w.cell? ⟨ab,1,fR⟩=fS (fF fN (y:Int)):=K;have L:w.cell? ⟨ab,2,fR⟩=fS (fF fN (z:Int)):=L;have bb:=fQ (show c.op≠276/\c.op≠277/\c.op≠273/\c.op≠274/\c.op≠275/\c.op≠16 by rw[b];decide);have aH:=fQ ar;have aI:=au ab rfl;have S:=U z (by rw[d];rfl);rw[R]at S;have q0:((H:Int) == 0)=fT:=fw
 have al:jV c (iw C.p.J f0.r c f0.V) X.x.s=(y,0,X.x.s):=by
  rw[aQ];unfold jV;rw[gy (by rw[b];decide),gy (by rw[b];decide),gy (by rw[b];decide),gz b];show((if H=0 then y else x),(0:Int),X.x.s)=_;rw[gz S]
 have aK:=fQ al;have bc:=fQ (show c.O.length = [y].length from aO);have D:=(((Ax w.heap.size w).alloc (Aj _) (fO #[fF fM c.op,fF fN (c.n:Int),F,cb,G] 86))).alloc fz (fO #[fG (fS ⟨ab,0,fR⟩) 3 ac] 30);have v:=fQ D;have m:=fQ (h.a5.C D);have HK:=fQ (KK.jN (x:=X) D);have HU:=fQ (h.ur.C D (Aj _));have M:=fQ ((gO.a4 w 86 #[fF fM c.op,fF fN (c.n:Int),F,cb,G]).alloc (fO #[fG (fS ⟨ab,0,fR⟩) 3 ac] 30));have O:=fQ (gO.X (w.alloc (fO #[fF fM c.op,fF fN (c.n:Int),F,cb,G] 86)) (N:=w.heap.size+1) 30 #[fG (fS ⟨ab,0,fR⟩) 3 ac] fz);have bd:(c.op == 273)=fU:=(by rw[b];rfl);have be:(c.op == 274)=fU:=(by rw[b];rfl);have bf:(c.op == 275)=fU:=(by rw[b];rfl);have bg:(c.op == 276)=fU:=(by rw[b];rfl);have bj:(c.op == 277)=fU:=(by rw[b];rfl);have bk:(c.op == 258)=fU:=(by rw[b];rfl);have bm:(c.op == 257)=fU:=(by rw[b];rfl);have bn:(c.op == 256)=fU:=(by rw[b];rfl);have bo:(c.op == 272)=fU:=(by rw[b];rfl);have bC:(c.op == 27)=fT:=(by rw[b];rfl);clear h D t b al aw aW aX aY aZ aB aC hf Z aO aP d aQ P u U S R;go_in;go_upto_region 2 with fail;obtain⟨j,aS⟩:=fX (((w.alloc (fO #[fF fM c.op,fF fN (c.n:Int),F,cb,G] 86)).alloc (fO #[fG (fS ⟨ab,0,fR⟩) 3 ac] 30)));rw[aS]at v m HK HU M O ⊢;clear aS;have mz:=m.fWi;have yz:=m.cb.lt;have nz:=m.mm.lt;obtain⟨b0,b1,b2,b3,b4⟩:=gZ M.out;have ba:j.cell? ⟨w.heap.size+1,0,fR⟩=fS (fG (fS ⟨ab,0,fR⟩) 3 ac):=O.cell 0;have yB:=M.lt;have yA:=O.lt;have wx:j.cell? ⟨ab,0,fR⟩=fS (fF fN (x:Int)):=(v.cell (p:=⟨ab,0,fR⟩) B).trans J;have wy:j.cell? ⟨ab,1,fR⟩=fS (fF fN (y:Int)):=(v.cell (p:=⟨ab,1,fR⟩) B).trans K;have bD:j.cell? ⟨ab,2,fR⟩=fS (fF fN (z:Int)):=(v.cell (p:=⟨ab,2,fR⟩) B).trans L;have bp:j.frozen? ⟨ab,0,fR⟩=fU:=(v.frozen (p:=⟨ab,0,fR⟩) B).trans aR;have bq:ab<j.heap.size:=Aq B v.out.size;clear J K L aR;go_wp2_with fail;have br:=fQ (aH.trans HK.out);have bs:=q.free ab rfl;go_region;obtain⟨f,l⟩:=fX ((j.setCell ⟨ab,0,fR⟩ (fF fN (y:Int))).drew);have E:=fQ (show gU C X f from l ▸ (m.pG (g:=ab) (i:=0) (fF fN (y:Int)) bs aF).drew);have bt:=fQ (show KK X X nE f from l ▸ (br.set (y:=X) (g:=ab) 0 (fF fN (y:Int)) (.inr aI) rfl).drew);have aT:=fQ (show gO f w.heap.size 86 _ from l ▸ (M.setCell (p:=⟨ab,0,fR⟩) (fF fN (y:Int)) (show w.heap.size≠ab by omega)).drew);have aU:=fQ (show gO f (w.heap.size+1) 30 _ from l ▸ (O.setCell (p:=⟨ab,0,fR⟩) (fF fN (y:Int)) (show w.heap.size+1≠ab by omega)).drew);have vx:f.cell? ⟨ab,0,fR⟩=fS (fF fN (y:Int)):=(by rw[<-l];exact World.cell?_setCell_same' _ _ _ (by rw[wx];rfl))
 rw[l];clear l b0 b1 b2 b3 b4 ba yB yA mz yz nz wx wy bp;obtain⟨b0,b1,b2,b3,b4⟩:=gZ aT.out;have ba:f.cell? ⟨w.heap.size+1,0,fR⟩=fS (fG (fS ⟨ab,0,fR⟩) 3 ac):=aU.cell 0;have yB:=aT.lt;go_wp2_with fail;have m:=E;go_region_with ((go_at_call 60;refine(sJ C X { f0 with k:=f0.k+1 } rest g cS _ c _ [y] _ ((E.C ((Ax _ _).alloc (Aj _) _)).drew) q.st q.sv q.K (show UR (f.alloc (fO #[fF fN (y:Int)] 52)).drew _ _ from oq f aD) (fun k T=>by injection T with T;rw[<-T,gU.a6 m.tojl (Aj _)];omega) q.O (Aa bc.symm)).mono ?_;rintro e w9 ⟨rfl,l1,l2⟩;have L1:=fQ l1;have L2:=fQ l2;clear l1 l2))
 all_goals
  go_wp2;go_ret;exact ot q.st L1.out (((bt.C ((Ax _ _).alloc (Aj _) _)).drew).trans L2.out) rfl aK.out bb.out
theorem bYd(C:iO)(X:iL)(f0:iP)(rest:List iP)(g cS:Nat)(vc:Ac)(c:gP)(va:Ac)(a:List Nat)(w:Ab)(h:ky C X f0 rest g cS vc c va a w)(b:c.op=27)(J:w.ownsRow C.w0.heap.size 52 1 va a.length (hH a))(R:∀ z:Nat,a[2]? = fS z->¬z % 4294967296=0):
  Ad fZ 39 #[fI (fS ⟨C.mm,0,fR⟩),fI (fS ⟨g,rest.length*3,fR⟩),vc,va] w (iI C X f0 rest c w):=by
 have S:=hY h.ok;have t:=fQ h;obtain⟨B,cb,D,aM,al,aN,aO,aP⟩:=h.K;subst aM;obtain⟨aA,ac,T⟩:=h.ur.I;obtain⟨na,j⟩:=fX a.length;rw[j]at T;subst T;have be:=fQ j;rw[b]at S;obtain⟨i,o,hf,U,W,an,ao,aQ,_⟩:=S
 obtain⟨K,e2⟩:i = [0,0,127]/\o = [0]:=by
  have u:(if c.n=0 then fS ([0,0,127],[0])else fR)=fS (i,o):=hf
  split at u
  ·injection u with u;injection u with K e2;exact⟨K.symm,e2.symm⟩
  ·cases u
 subst K;subst e2;have Y:jL C.p.J f0.r.a2 c = [0,0,127]:=(by unfold jL;rw[b,hf];rfl)
 obtain⟨x,y,z,d⟩:∃ x y z,a = [x,y,z]:=by
  have hl:a.length=3:=by rw[h.args];unfold jd;rw[Aw];exact U
  match a,hl with
  | [x,y,z],_=>exact⟨x,y,z,rfl⟩
 have aq:=h.ur.all x (by rw[d];simp);obtain⟨E,L⟩:=fX (z % 4294967296);have aT:IntKind.u32.wrap (z:Int)=(E:Int):=(by rw[IntKind.wrap_u32];omega);have Z:iw C.p.J f0.r c f0.V = [x,y,E]:=(by unfold iw;rw[Y,<-h.args,d,<-L];rfl);obtain⟨ab,bf,F,v,aU,_⟩:=lZ J (by rw[d];simp);rw[j]at F;injection F with F _ au;subst F;subst au;have l:=J;rw[j,d]at l;have aV:na=3:=(by rw[<-j,d];rfl);subst aV;have G:=l.cellAt 0 fy;have H:=l.cellAt 1 fy;have I:=l.cellAt 2 fy;have aK:=l.frozenAt 0;have G:w.cell? ⟨ab,0,fR⟩=fS (fF fN (x:Int)):=G;have H:w.cell? ⟨ab,1,fR⟩=fS (fF fN (y:Int)):=H;have I:w.cell? ⟨ab,2,fR⟩=fS (fF fN (z:Int)):=I;have aW:=fQ (show c.op≠276/\c.op≠277/\c.op≠273/\c.op≠274/\c.op≠275/\c.op≠16 by rw[b];decide);have M:=R z (by rw[d];rfl);rw[L]at M;have q0:((E:Int) == 0)=fU:=fw
 have ak:jV c (iw C.p.J f0.r c f0.V) X.x.s=(x,0,X.x.s):=by
  rw[Z];unfold jV;rw[gy (by rw[b];decide),gy (by rw[b];decide),gy (by rw[b];decide),gz b];show((if E=0 then y else x),(0:Int),X.x.s)=_;rw[gy M]
 have aB:=fQ ak;have aX:=fQ (show c.O.length = [x].length from W);have A:=(((Ax w.heap.size w).alloc (Aj _) (fO #[fF fM c.op,fF fN (c.n:Int),B,cb,D] 86))).alloc fz (fO #[fG (fS ⟨ab,0,fR⟩) 3 ac] 30);have m:=fQ A;have q:=fQ (h.a5.C A);have HK:=fQ (KK.jN (x:=X) A);have HU:=fQ (h.ur.C A (Aj _));have O:=fQ ((gO.a4 w 86 #[fF fM c.op,fF fN (c.n:Int),B,cb,D]).alloc (fO #[fG (fS ⟨ab,0,fR⟩) 3 ac] 30));have P:=fQ (gO.X (w.alloc (fO #[fF fM c.op,fF fN (c.n:Int),B,cb,D] 86)) (N:=w.heap.size+1) 30 #[fG (fS ⟨ab,0,fR⟩) 3 ac] fz);have aY:(c.op == 273)=fU:=(by rw[b];rfl);have aZ:(c.op == 274)=fU:=(by rw[b];rfl);have a1:(c.op == 275)=fU:=(by rw[b];rfl);have a6:(c.op == 276)=fU:=(by rw[b];rfl);have a7:(c.op == 277)=fU:=(by rw[b];rfl);have a8:(c.op == 258)=fU:=(by rw[b];rfl);have bb:(c.op == 257)=fU:=(by rw[b];rfl);have bc:(c.op == 256)=fU:=(by rw[b];rfl);have bd:(c.op == 272)=fU:=(by rw[b];rfl);have bk:(c.op == 27)=fT:=(by rw[b];rfl);clear h A j b ak al aN aO aP aQ an ao hf U W Y d Z J l R M L;go_in;go_upto_region 2 with fail;obtain⟨f,aL⟩:=fX (((w.alloc (fO #[fF fM c.op,fF fN (c.n:Int),B,cb,D] 86)).alloc (fO #[fG (fS ⟨ab,0,fR⟩) 3 ac] 30)));rw[aL]at m q HK HU O P ⊢;clear aL;obtain⟨b0,b1,b2,b3,b4⟩:=gZ O.out;have ba:f.cell? ⟨w.heap.size+1,0,fR⟩=fS (fG (fS ⟨ab,0,fR⟩) 3 ac):=P.cell 0;have yB:=O.lt;have wx:f.cell? ⟨ab,0,fR⟩=fS (fF fN (x:Int)):=(m.cell (p:=⟨ab,0,fR⟩) v).trans G;have bm:f.cell? ⟨ab,2,fR⟩=fS (fF fN (z:Int)):=(m.cell (p:=⟨ab,2,fR⟩) v).trans I;clear G H I aK;go_wp2_with fail;go_region_with ((go_at_call 60;refine(sJ C X { f0 with k:=f0.k+1 } rest g cS _ c _ [x] _ ((q.C ((Ax _ _).alloc (Aj _) _)).drew) t.st t.sv t.K (show UR (f.alloc (fO #[fF fN (x:Int)] 52)).drew _ _ from oq f aq) (fun k Q=>by injection Q with Q;rw[<-Q,gU.a6 q.tojl (Aj _)];omega) t.O (Aa aX.symm)).mono ?_;rintro e w9 ⟨rfl,l1,l2⟩;have L1:=fQ l1;have L2:=fQ l2;clear l1 l2))
 all_goals
  go_wp2;go_ret;exact ot t.st L1.out (((HK.C ((Ax _ _).alloc (Aj _) _)).drew).trans L2.out) rfl aB.out aW.out
theorem tM(C:iO)(X:iL)(w:Ab)(h:gU C X w):Ad fZ 38 #[fI (fS ⟨C.mm,0,fR⟩)] w fun e w'=>e = fP (fH fT)/\w=w':=by
 have m0:=h.fWi;clear h;go_in;go_wp2;go_ret;exact⟨rfl,rfl⟩
theorem rD(C:iO)(X:iL)(w:Ab)(h:gU C X w):Ad fZ 12 #[fI (fS ⟨C.mm,0,fR⟩)] w fun e w'=>e = fP (fH X.x.over)/\w=w':=by
 have m0:=h.fWi;have aa:w.cell? ⟨C.cb,16,fR⟩=fS (fH X.x.over):=h.cell 16;have H:=fQ h;clear h;go_in;go_wp2_with fail;refine gu (tM C X _ H.out) ?_;go_wp2;go_ret;exact⟨rfl,rfl⟩
theorem cWr(C:iO)(X:iL)(w:Ab)(h:gU C X w):Ad fZ 13 #[fI (fS ⟨C.mm,0,fR⟩)] w fun e w'=>e = fP (fF fM (X.x.b1:Int))/\w=w':=by
 have m0:=h.fWi;have aa:w.cell? ⟨C.cb,15,fR⟩=fS (fF fM (X.x.b1:Int)):=h.cell 15;have H:=fQ h;clear h;go_in;go_wp2_with fail;refine gu (tM C X _ H.out) ?_;go_wp2;go_ret;exact⟨rfl,rfl⟩
theorem gU.fYo{C:iO}{X:iL}(h:gU C X w):∃ A c,X.sv = fG A X.x.st.length c:=by
 have h2:=h.stk;obtain⟨A,c,e,_⟩:=fJ h2;exact⟨A,c,e⟩
theorem cWs(C:iO)(X:iL)(w:Ab)(h:gU C X w):Ad fZ 36 #[fI (fS ⟨C.mm,0,fR⟩)] w fun e w'=>e = fP (fF fM (X.x.st.length:Int))/\w=w':=by
 obtain⟨A,c,a⟩:=h.fYo;have m0:=h.fWi;have ad:w.cell? ⟨C.cb,12,fR⟩=fS (fG A X.x.st.length c):=(by rw[h.cell 12,<-a];rfl);have H:=fQ h;clear h a;go_in;go_wp2_with fail;refine gu (tM C X _ H.out) ?_;go_wp2;go_ret;exact⟨rfl,rfl⟩
theorem eXz(C:iO)(X:iL)(f0:iP)(rest:List iP)(g cS:Nat)(vc:Ac)(c:gP)(va:Ac)(a:List Nat)(w:Ab)(h:ky C X f0 rest g cS vc c va a w)(G:Tabs w)(d:jh C.p.J X.x.s)(H:jy ({ f0 with k:=f0.k+1 } :: rest))(I:∀ q∈rest,kH C.p q)
  (nE:Ab) (i:KK X X nE w) (J:∀ k,va.ownBlock=fS k->nE.heap.size<=k) (j:w.ownsRow C.w0.heap.size 52 1 va a.length (hH a)) :
  Ad fZ 39 #[fI (fS ⟨C.mm,0,fR⟩),fI (fS ⟨g,rest.length*3,fR⟩),vc,va] w (iI C X f0 rest c nE):=by
 have lift:∀ l w',iI C X f0 rest c w l w'->iI C X f0 rest c nE l w':=fun _ _ h=>h.from i;by_cases m:c.op=273
 ·exact(dJk C X f0 rest g cS vc c va a w h m).mono lift
 by_cases o:c.op=274
 ·exact(eVm C X f0 rest g cS vc c va a w h o).mono lift
 by_cases r:c.op=275
 ·exact(cWl C X f0 rest g cS vc c va a w h r).mono lift
 by_cases t:c.op=276
 ·exact(eXm C X f0 rest g cS vc c va a w h t H I).mono lift
 by_cases u:c.op=277
 ·exact(eXl C X f0 rest g cS vc c va a w h u).mono lift
 by_cases v:c.op=258
 ·exact(dJl C X f0 rest g cS vc c va a w h v d).mono lift
 by_cases e:c.op=257
 ·by_cases A:∀ x:Nat,a = [x]->qJ X.x.s.L.length (x % 4294967296) c.n=fT
  ·exact(bJi C X f0 rest g cS vc c va a w h e A).mono lift
  ·refine(bZl C X f0 rest g cS vc c va a w h e (fun x K=>?_)).mono lift
   cases hv:qJ X.x.s.L.length (x % 4294967296) c.n with
   | false=>rfl
   | true=>
    refine gH (fun y b=>?_) A;rw[K]at b;injection b with b;rw[<-b];exact hv
 by_cases B:c.op=256
 ·exact(cWk C X f0 rest g cS vc c va a w h B).mono lift
 by_cases D:c.op=272
 ·exact(dJm C X f0 rest g cS vc c va a w h D).mono lift
 by_cases f:c.op=27
 ·by_cases E:∀ z:Nat,a[2]? = fS z->z % 4294967296=0
  ·exact bYc C X f0 rest g cS vc c va a w h f nE i J j E
  ·refine(bYd C X f0 rest g cS vc c va a w h f j (fun z L M=>E (fun y b=>?_))).mono lift;rw[L]at b;injection b with b;rw[<-b];exact M
 by_cases F:c.op=16
 ·exact(dJn C X f0 rest g cS vc c va a w h F).mono lift
 exact(dJo C X f0 rest g cS vc c va a w h G d d.kR ⟨m,o,r,t,u,v,e,B,D,f,F⟩).mono lift
def pe(o:List Nat)(s:gT)(e:Int)(w:Ab)(b:Ending)(w':Ab):Prop:=∃ v a g i l,b = fP (.tuple #[v,.agg #[a,fF fM s.Y,g,fF fM s.U,i,l],fF fM e])/\w'.ownsRow w.heap.size 52 1 v o.length (hH o)/\w'.ownsRow w.heap.size 5 1 a s.L.length (jv s.L)/\w'.ownsRow w.heap.size 52 1 g s.E.length (hH s.E)/\w'.ownsRow w.heap.size 52 1 i s.input.length (hH s.input)/\w'.ownsRow w.heap.size 52 1 l s.a0.length (hH s.a0)/\Below w.heap.size w w' /\
 (∀ k,v.ownBlock=fS k->a.ownBlock≠fS k/\g.ownBlock≠fS k/\i.ownBlock≠fS k/\l.ownBlock≠fS k)/\(∀ k,g.ownBlock=fS k->l.ownBlock≠fS k/\i.ownBlock≠fS k/\a.ownBlock≠fS k)/\(∀ k,l.ownBlock=fS k->i.ownBlock≠fS k/\a.ownBlock≠fS k)
theorem gU.stv{C:iO}{X:iL}(h:gU C X w)(a:jh C.p.J X.x.s)(hg:X.x.s.E.length<=1000000000)(b:X.x.s.a0.length<=1000000000):kf w (.agg #[X.mv,fF fM X.x.s.Y,C.gv,fF fM (X.x.s.U:Int),X.iv,X.lv]) (gT.of X.x.s):=
 ⟨X.mv,C.gv,X.iv,X.lv,rfl,h.L,zZ h.kq a.kF hg,h.inp,zZ h.a0 a.lU b⟩
theorem cJg(h:Array Ac)(W:Ab)(i:Nat)(v e a b c d f g:Ac)(h2:h.getD 2 undef=v)(j:h.getD 3 undef = fI (fS ⟨i,0,fR⟩))(l:h.getD 4 undef=e)(k:gO W i 33 #[a,b,c,d,f,g]):
  (results Tryz.f15 h).run fZ W = .ok (.tuple #[v,.agg #[a,b,c,d,f,g],e]) W:=by
 obtain⟨m,n,o,p,q,r⟩:=iY k;simp only[Array.getD_eq_getD_getElem?]at h2 j l;simp[results,results15,go_sem,h2,j,l,m,n,o,p,q,r]
theorem cKf(C:iO)(X:iL)(w:Ab)(h:gU C X w)(hS:jh C.p.J X.x.s)(hg:X.x.s.E.length<=1000000000)(hl:X.x.s.a0.length<=1000000000):Ad fZ 15 #[fI (fS ⟨C.mm,0,fR⟩)] w (pe X.x.out (gT.of X.x.s) X.x.e w):=by
 have al:=h.stv hS hg hl;obtain⟨B,D,an⟩:=h.out.I;obtain⟨H,I,ao⟩:=BR.I h.L;obtain⟨J,cg,aq,_⟩:=fJ h.kq;obtain⟨L,ci,ar⟩:=h.inp.I;obtain⟨M,cl,au,_⟩:=fJ h.a0;have aw:=h.out;rw[ao,aq,ar,au]at al;rw[an]at aw;have aI:=fQ al;have aJ:=fQ aw;have HZ:=fQ (show gO (w.alloc (fO #[fG fR 0 0,fF fM 0,fG fR 0 0,fF fM 0,fG fR 0 0,fG fR 0 0] 33)) w.heap.size 33 _ from gO.a4 _ _ _);have HB:=fQ ((Ax w.heap.size w).alloc (Aj _) (fO #[fG fR 0 0,fF fM 0,fG fR 0 0,fF fM 0,fG fR 0 0,fG fR 0 0] 33));have HR:=fQ (h.C HB.out);have n:=fQ (And.intro h.mm.lt h.cb.lt);have N:=fQ (And.intro an (And.intro ao (And.intro aq (And.intro ar au))));clear h al aw hS hg hl an ao aq ar au;go_in;go_wp2_with fail;refine gu (tM C X _ HR.out) ?_;go_upto_region 3 with fail;obtain⟨w1,ax⟩:=fX (w.alloc (fO #[fG fR 0 0,fF fM 0,fG fR 0 0,fF fM 0,fG fR 0 0,fG fR 0 0] 33));rw[ax]at HZ HB HR ⊢;clear ax;have ay:=fQ HZ.drew;have E:=fQ HB.drew;have m:=fQ HR.drew;have m0:=m.fWi;have F:=m.mm.lt;have c:=m.cb.lt;have R:w1.drew.cell? ⟨C.cb,13,fR⟩=fS (fG B X.x.out.length D):=(m.cell 13).trans (gG fS N.1);have S:w1.drew.cell? ⟨C.cb,6,fR⟩=fS (fG H X.x.s.L.length I):=(m.cell 6).trans (gG fS N.2.1);have T:w1.drew.cell? ⟨C.cb,7,fR⟩=fS (fF fM X.x.s.Y):=m.cell 7;have U:w1.drew.cell? ⟨C.cb,8,fR⟩=fS (fG J X.x.s.E.length cg):=(m.cell 8).trans (gG fS N.2.2.1);have V:w1.drew.cell? ⟨C.cb,9,fR⟩=fS (fF fM (X.x.s.U:Int)):=m.cell 9;have W:w1.drew.cell? ⟨C.cb,10,fR⟩=fS (fG L X.x.s.input.length ci):=(m.cell 10).trans (gG fS N.2.2.2.1);have Y:w1.drew.cell? ⟨C.cb,11,fR⟩=fS (fG M X.x.s.a0.length cl):=(m.cell 11).trans (gG fS N.2.2.2.2);have Z:w1.drew.cell? ⟨C.cb,14,fR⟩=fS (fF fM X.x.e):=m.cell 14;refine jY (fun w'=>w'.cell? ⟨C.mm,0,fR⟩=fS (fI (fS ⟨C.cb,0,fR⟩))/\w'.cell? ⟨C.cb,13,fR⟩=fS (fG B X.x.out.length D)/\w'.cell? ⟨C.cb,6,fR⟩=fS (fG H X.x.s.L.length I)/\w'.cell? ⟨C.cb,7,fR⟩=fS (fF fM X.x.s.Y)/\w'.cell? ⟨C.cb,8,fR⟩=fS (fG J X.x.s.E.length cg)/\w'.cell? ⟨C.cb,9,fR⟩=fS (fF fM (X.x.s.U:Int))/\w'.cell? ⟨C.cb,10,fR⟩=fS (fG L X.x.s.input.length ci)/\w'.cell? ⟨C.cb,11,fR⟩=fS (fG M X.x.s.a0.length cl)/\w'.cell? ⟨C.cb,14,fR⟩=fS (fF fM X.x.e)/\C.mm<w'.heap.size/\C.cb<w'.heap.size) (fun _=>True) 24 fx ⟨m0,R,S,T,U,V,W,Y,Z,F,c⟩ trivial fun b=>?_;refine ig 0 b fun b=>?_;refine ig 1 b fun b=>?_;refine ig 2 b fun b=>?_;refine ig 3 b fun b=>?_;refine ig 4 b fun b=>?_;refine ig 5 b fun b=>?_;refine ig 6 b fun b=>?_;refine ig 8 b fun b=>?_;refine ig 9 b fun b=>?_
 refine ig 10 b fun b=>?_;refine ig 11 b fun b=>?_;refine ig 12 b fun b=>?_;refine ig 13 b fun b=>?_;refine ig 14 b fun b=>?_;refine ig 16 b fun b=>?_;refine ig 17 b fun b=>?_;refine ig 18 b fun b=>?_;refine ig 19 b fun b=>?_;refine ig 20 b fun b=>?_;refine ig 21 b fun b=>?_;refine ig 22 b fun b=>?_;refine gX (i:=7) fx rfl fun K o=>?_;go_simp;refine(yJ (fG B X.x.out.length D) X.x.out _ (aJ.C E.out (Aj _))).mono ?_;rintro en wa ⟨v1,rfl,o1,d⟩;obtain⟨B1,d1,rfl,_⟩:=fJ o1;have O:=fQ (show(fun w':Ab=>w'.cell? ⟨C.mm,0,fR⟩=fS (fI (fS ⟨C.cb,0,fR⟩))/\w'.cell? ⟨C.cb,13,fR⟩=fS (fG B X.x.out.length D)/\w'.cell? ⟨C.cb,6,fR⟩=fS (fG H X.x.s.L.length I)/\w'.cell? ⟨C.cb,7,fR⟩=fS (fF fM X.x.s.Y)/\w'.cell? ⟨C.cb,8,fR⟩=fS (fG J X.x.s.E.length cg)/\w'.cell? ⟨C.cb,9,fR⟩=fS (fF fM (X.x.s.U:Int))/\w'.cell? ⟨C.cb,10,fR⟩=fS (fG L X.x.s.input.length ci)/\w'.cell? ⟨C.cb,11,fR⟩=fS (fG M X.x.s.a0.length cl)/\w'.cell? ⟨C.cb,14,fR⟩=fS (fF fM X.x.e)/\C.mm<w'.heap.size/\C.cb<w'.heap.size) wa from⟨(d.cell (p:=⟨C.mm,0,fR⟩) F).trans m0,(d.cell (p:=⟨C.cb,13,fR⟩) c).trans R,(d.cell (p:=⟨C.cb,6,fR⟩) c).trans S,(d.cell (p:=⟨C.cb,7,fR⟩) c).trans T,(d.cell (p:=⟨C.cb,8,fR⟩) c).trans U,(d.cell (p:=⟨C.cb,9,fR⟩) c).trans V,(d.cell (p:=⟨C.cb,10,fR⟩) c).trans W,(d.cell (p:=⟨C.cb,11,fR⟩) c).trans Y,(d.cell (p:=⟨C.cb,14,fR⟩) c).trans Z,Aq F d.size,Aq c d.size⟩);have O1:=fQ o1;have G:=fQ d;have az:=fQ (ay.C d ay.lt);refine o.out _ _ ⟨O.out,fun _=>trivial⟩ fun b=>?_;clear o K o1 d
 try simp only[Act.put,AQ,AV,AW]
 refine gX (i:=15) fx rfl fun K o=>?_;go_simp;refine(bQv _ (gT.of X.x.s) _ (aI.C (E.trans (G.mono E.out.size)) (Aj _))).mono ?_;rintro en wb ⟨a,g,i,l,rfl,o2,o3,o4,o5,P,n1,n2⟩;obtain⟨q,r,rfl,_⟩:=fJ o2;obtain⟨t,u,rfl,_⟩:=fJ o3;obtain⟨v,y,rfl,_⟩:=fJ o4;obtain⟨z,A,rfl,_⟩:=fJ o5;have aK:=fQ (iJ O1.out P (Aj _));have O2:=fQ o2;have O3:=fQ o3;have O4:=fQ o4;have O5:=fQ o5;have P2:=fQ P;have N1:=fQ n1;have N2:=fQ n2;have f:=fQ (az.C P az.lt);have j:=G.trans (P.mono G.out.size);have O:=fQ (show(fun w':Ab=>w'.cell? ⟨C.mm,0,fR⟩=fS (fI (fS ⟨C.cb,0,fR⟩))/\w'.cell? ⟨C.cb,13,fR⟩=fS (fG B X.x.out.length D)/\w'.cell? ⟨C.cb,6,fR⟩=fS (fG H X.x.s.L.length I)/\w'.cell? ⟨C.cb,7,fR⟩=fS (fF fM X.x.s.Y)/\w'.cell? ⟨C.cb,8,fR⟩=fS (fG J X.x.s.E.length cg)/\w'.cell? ⟨C.cb,9,fR⟩=fS (fF fM (X.x.s.U:Int))/\w'.cell? ⟨C.cb,10,fR⟩=fS (fG L X.x.s.input.length ci)/\w'.cell? ⟨C.cb,11,fR⟩=fS (fG M X.x.s.a0.length cl)/\w'.cell? ⟨C.cb,14,fR⟩=fS (fF fM X.x.e)/\C.mm<w'.heap.size/\C.cb<w'.heap.size) wb from⟨(j.cell (p:=⟨C.mm,0,fR⟩) F).trans m0,(j.cell (p:=⟨C.cb,13,fR⟩) c).trans R,(j.cell (p:=⟨C.cb,6,fR⟩) c).trans S,(j.cell (p:=⟨C.cb,7,fR⟩) c).trans T,(j.cell (p:=⟨C.cb,8,fR⟩) c).trans U,(j.cell (p:=⟨C.cb,9,fR⟩) c).trans V,(j.cell (p:=⟨C.cb,10,fR⟩) c).trans W,(j.cell (p:=⟨C.cb,11,fR⟩) c).trans Y,(j.cell (p:=⟨C.cb,14,fR⟩) c).trans Z,Aq F j.size,Aq c j.size⟩);refine o.out _ _ ⟨O.out,fun _=>trivial⟩ fun b=>?_;clear o K o2 o3 o4 o5 P n1 n2 j
 try simp only[Act.put,AQ,AV,AW]
 refine ig 23 b fun b=>?_;obtain⟨g0,g1,g2,g3,g4,g5⟩:=iY f.out;have f0:=ik f.out 0;have f1:=ik f.out 1;have f2:=ik f.out 2;have f3:=ik f.out 3;have f4:=ik f.out 4;have f5:=ik f.out 5;have aA:=fQ (tJ (Ax w.heap.size wb) (Aj _) (fG q (gT.of X.x.s).L.length r) (fF fM (gT.of X.x.s).Y) (fG t (gT.of X.x.s).E.length u) (fF fM (gT.of X.x.s).U) (fG v (gT.of X.x.s).input.length y) (fG z (gT.of X.x.s).a0.length A));have aB:=fQ (tQ f.out (fG q (gT.of X.x.s).L.length r) (fF fM (gT.of X.x.s).Y) (fG t (gT.of X.x.s).E.length u) (fF fM (gT.of X.x.s).U) (fG v (gT.of X.x.s).input.length y) (fG z (gT.of X.x.s).a0.length A));have aC:=fQ (nK aK.out f.out fy (fG q (gT.of X.x.s).L.length r) (fF fM (gT.of X.x.s).Y) (fG t (gT.of X.x.s).E.length u) (fF fM (gT.of X.x.s).U) (fG v (gT.of X.x.s).input.length y) (fG z (gT.of X.x.s).a0.length A));have aD:=fQ (nK O2.out f.out fy (fG q (gT.of X.x.s).L.length r) (fF fM (gT.of X.x.s).Y) (fG t (gT.of X.x.s).E.length u) (fF fM (gT.of X.x.s).U) (fG v (gT.of X.x.s).input.length y) (fG z (gT.of X.x.s).a0.length A));have aE:=fQ (nK O3.out f.out fy (fG q (gT.of X.x.s).L.length r) (fF fM (gT.of X.x.s).Y) (fG t (gT.of X.x.s).E.length u) (fF fM (gT.of X.x.s).U) (fG v (gT.of X.x.s).input.length y) (fG z (gT.of X.x.s).a0.length A));have aF:=fQ (nK O4.out f.out fy (fG q (gT.of X.x.s).L.length r) (fF fM (gT.of X.x.s).Y) (fG t (gT.of X.x.s).E.length u) (fF fM (gT.of X.x.s).U) (fG v (gT.of X.x.s).input.length y) (fG z (gT.of X.x.s).a0.length A));have aG:=fQ (nK O5.out f.out fy (fG q (gT.of X.x.s).L.length r) (fF fM (gT.of X.x.s).Y) (fG t (gT.of X.x.s).E.length u) (fF fM (gT.of X.x.s).U) (fG v (gT.of X.x.s).input.length y) (fG z (gT.of X.x.s).a0.length A));refine gX (i:=24) fx rfl fun K o=>?_;go_simp;obtain⟨wx,aH⟩:=fX ((((((wb.setCell ⟨w.heap.size,0,fR⟩ (fG q (gT.of X.x.s).L.length r)).setCell ⟨w.heap.size,1,fR⟩ (fF fM (gT.of X.x.s).Y)).setCell ⟨w.heap.size,2,fR⟩ (fG t (gT.of X.x.s).E.length u)).setCell ⟨w.heap.size,3,fR⟩ (fF fM (gT.of X.x.s).U)).setCell ⟨w.heap.size,4,fR⟩ (fG v (gT.of X.x.s).input.length y)).setCell ⟨w.heap.size,5,fR⟩ (fG z (gT.of X.x.s).a0.length A));rw[aH]at aA aB aC aD aE aF aG ⊢;clear aH;have bx:=((G.trans (P2.mono G.out.size)).mono E.out.size).trans aA.out;have O:=fQ (show(fun w':Ab=>w'.cell? ⟨C.mm,0,fR⟩=fS (fI (fS ⟨C.cb,0,fR⟩))/\w'.cell? ⟨C.cb,13,fR⟩=fS (fG B X.x.out.length D)/\w'.cell? ⟨C.cb,6,fR⟩=fS (fG H X.x.s.L.length I)/\w'.cell? ⟨C.cb,7,fR⟩=fS (fF fM X.x.s.Y)/\w'.cell? ⟨C.cb,8,fR⟩=fS (fG J X.x.s.E.length cg)/\w'.cell? ⟨C.cb,9,fR⟩=fS (fF fM (X.x.s.U:Int))/\w'.cell? ⟨C.cb,10,fR⟩=fS (fG L X.x.s.input.length ci)/\w'.cell? ⟨C.cb,11,fR⟩=fS (fG M X.x.s.a0.length cl)/\w'.cell? ⟨C.cb,14,fR⟩=fS (fF fM X.x.e)/\C.mm<w'.heap.size/\C.cb<w'.heap.size) wx from⟨(bx.cell (p:=⟨C.mm,0,fR⟩) n.1).trans m0,(bx.cell (p:=⟨C.cb,13,fR⟩) n.2).trans R,(bx.cell (p:=⟨C.cb,6,fR⟩) n.2).trans S,(bx.cell (p:=⟨C.cb,7,fR⟩) n.2).trans T,(bx.cell (p:=⟨C.cb,8,fR⟩) n.2).trans U,(bx.cell (p:=⟨C.cb,9,fR⟩) n.2).trans V,(bx.cell (p:=⟨C.cb,10,fR⟩) n.2).trans W,(bx.cell (p:=⟨C.cb,11,fR⟩) n.2).trans Y,(bx.cell (p:=⟨C.cb,14,fR⟩) n.2).trans Z,Aq F bx.size,Aq c bx.size⟩)
 refine o.out _ _ ⟨O.out,fun _=>trivial⟩ fun b=>?_;clear o K g0 g1 g2 g3 g4 g5 f0 f1 f2 f3 f4 f5
 try simp only[Act.put,AQ,AV,AW]
 refine ig 25 b fun b=>?_;refine jX fx ?_ _;clear b;go_wp2_with fail;refine bodyPost_ret (cJg _ _ w.heap.size _ _ _ _ _ _ _ _ rfl rfl rfl aB.out) rfl ?_;have Q:=E.out.size;have z1:=G.out.size;have T1:=O1.lt;have T2:=O2.lt;have T3:=O3.lt;have T4:=O4.lt;have T5:=O5.lt;exact⟨_,_,_,_,_,rfl,iQ aC.out Q,iQ aD.out (AK Q z1),iQ aE.out (AK Q z1),iQ aF.out (AK Q z1),iQ aG.out (AK Q z1),E.trans bx,fun k hk=>⟨fun h=>by have:=T1 k hk;have:=T2 k h;omega,fun h=>by have:=T1 k hk;have:=T3 k h;omega,fun h=>by have:=T1 k hk;have:=T4 k h;omega,fun h=>by have:=T1 k hk;have:=T5 k h;omega⟩,N1.out,N2.out⟩
def eVo(Q:Prop)(w:Ab)(a:Ending)(w':Ab):Prop:=∃ b:Bool,a = fP (fH b)/\(b=fT↔Q)/\w=w'
theorem dJp(t:Int)(n:Nat)(w:Ab)(hn:n<18446744073709551616):Ad fZ 25 #[fF fM t,fF fN n] w fun e w'=>e = fP (fH (jx t n))/\w=w':=bZb t n w hn
theorem bQw(vk vl:Ac)(ks:List Int)(l:List Nat)(w:Ab)(a:IR w vk ks)(c:UR w vl l)(B:ks.length<=100000):Ad fZ 24 #[vk,vl,.func (.func 25) #[] #[]] w (eVo (lj ks l) w):=by
 obtain⟨A1,c1,rfl⟩:=a.I;obtain⟨A2,c2,rfl⟩:=c.I;have r:=fQ a;have s:=fQ c;have C:=c.len.2.2.2.2.1.1;clear a c;by_cases hlen:ks.length=l.length
 ·obtain⟨n,hn⟩:=fX l.length;have d:ks.length=n:=fu;have u:=fQ hn;have f:=fQ d;rw[hn]at s C;rw[d]at r B;rw[hn,d];clear hn d hlen;go_in;go_wp2;go_loopw [17] (fun i wr=>∃ k:Nat,k<=n/\i = fF fM k/\w=wr/\Hid (∀ (j:Nat) (t:Int) (n:Nat),j<k->ks[j]? = fS t->l[j]? = fS n->jx t n=fT)) (fun i _=>n - (intOf i).toNat)
  case atStart=>exact⟨0,fu,rfl,rfl,fQ (fun j t n h=>fu)⟩
  case round=>
   obtain⟨k,a,rfl,rfl,IM⟩:=hrel;by_cases v:k<n
   ·have E:decide ((k:Int)<n)=fT:=fw;have t2:(k:Int)<n:=fu;obtain⟨x,g⟩:∃ x,ks[k]? = fS x:=⟨_,Az (by rw[f.out];exact v)⟩;obtain⟨y,p⟩:∃ y,l[k]? = fS y:=⟨_,Az (by rw[u.out];exact v)⟩;obtain⟨b,o,rfl,hb,hc⟩:=r.cell g;obtain⟨b2,o2,rfl,ag,ah,F⟩:=s.cell p;have z:=fQ g;have A:=fQ p;clear g p;go_wp2_with fail;refine gu (dJp x y _ F) ?_;cases hf:jx x y
    ·have q:=fQ hf;clear hf;go_wp2;go_ret;exact⟨fU,rfl,⟨fun h=>(by cases h),fun h=>(by have:=h.2 k x y z.out A.out;rw[q.out]at this;cases this)⟩,rfl⟩
    ·have q:=fQ hf;clear hf;go_wp2;refine⟨⟨k+1,fu,fz,by first|rfl|trivial,fQ (fun j t n hj h1 h2=>?_)⟩,fB⟩;rcases Nat.lt_or_ge j k with h|h
     ·exact IM.out j t n h h1 h2
     ·obtain rfl:j=k:=fu;rw[z.out]at h1;rw[A.out]at h2;cases h1;cases h2;exact q.out
   ·go_wp2;go_ret;exact⟨fT,rfl,⟨fun _=>⟨f.trans u.symm,fun j t m h1 h2=>IM.out j t m (by have:=(gw h1).1;have:=f.out;omega) h1 h2⟩,fun _=>rfl⟩,rfl⟩
 ·have D:((ks.length:Int) != (l.length:Int))=fT:=fw;have G:=fQ hlen;clear hlen;go_in;go_wp2;go_ret;exact⟨fU,rfl,⟨fun h=>(by cases h),fun h=>gH h.1 G.out⟩,rfl⟩
theorem bJl(ve vs:Ac)(e:ia)(s:gT)(w:Ab)(he:iG w ve e)(hs:kf w vs s):Ad fZ 22 #[ve,vs] w (rf (kh e s) w):=by
 have z:=he;obtain⟨a,b,d,rfl,_,A,_⟩:=he;have ar:=hs;obtain⟨a1,g1,i1,l1,rfl,au,B,aw,ax⟩:=hs;obtain⟨C,D,rfl⟩:=au.I;obtain⟨E,F,rfl⟩:=B.I;obtain⟨G,H,rfl⟩:=aw.I;obtain⟨I,J,rfl⟩:=ax.I;obtain⟨K,L,rfl⟩:=A.I;obtain⟨g,M⟩:=fX s.Y;obtain⟨f,O⟩:=fX s.U;obtain⟨n1,P⟩:∃ n,s.L.length=n:=⟨_,rfl⟩;obtain⟨k,Q⟩:∃ n,s.input.length=n:=⟨_,rfl⟩;obtain⟨l,R⟩:∃ n,s.a0.length=n:=⟨_,rfl⟩;obtain⟨mm,S⟩:∃ m,e.L=m:=⟨_,rfl⟩
 have ay:kh e s↔(iH e=fT/\lj e.E s.E/\n1 % 256=0/\(n1:Int)<=g/\g<=4096/\(mm=fU->g=0)/\0<=f/\f<=1024/\k<=4096/\l<=4096):=by
  rw[<-M,<-O,<-P,<-Q,<-R,<-S];exact⟨fun h=>⟨h.1,⟨h.2.gl.symm,h.2.ft⟩,h.2.pg,h.2.le,h.2.mx,h.2.no,h.2.f0,h.2.f1,h.2.il,h.2.ll⟩,fun h=>⟨h.1,⟨h.2.2.1,h.2.2.2.1,h.2.2.2.2.1,h.2.2.2.2.2.1,h.2.1.1.symm,h.2.2.2.2.2.2.1,h.2.2.2.2.2.2.2.1,h.2.2.2.2.2.2.2.2.1,h.2.2.2.2.2.2.2.2.2,h.2.1.2⟩⟩⟩
 rw[M,O,P,Q,R]at ar ⊢;rw[S]at z ⊢;have i:=fQ ay;have T:=fQ (pE w (fO #[a,fF fM e.G,fG K e.E.length L,d,fH mm] 26) (fO #[fG C n1 D,fF fM g,fG E s.E.length F,fF fM f,fG G k H,fG I l J] 33));have U:=fQ (gO.alloc (gO.a4 w 26 #[a,fF fM e.G,fG K e.E.length L,d,fH mm]) (fO #[fG C n1 D,fF fM g,fG E s.E.length F,fF fM f,fG G k H,fG I l J] 33));have V:=fQ (gO.X (w.alloc (fO #[a,fF fM e.G,fG K e.E.length L,d,fH mm] 26)) (N:=w.heap.size+1) 33 #[fG C n1 D,fF fM g,fG E s.E.length F,fF fM f,fG G k H,fG I l J] fz);have HE:=fQ z;have HI:=fQ A.ir;have HG:=fQ B;clear z ar au B aw ax A ay M O P Q R S;go_in;go_wp2_with fail;refine(aZc _ e _ (HE.C T.out (Aj _))).mono ?_;rintro en w1 ⟨rfl,u⟩;have H1:=fQ (T.trans (u.mono T.out.size));have az:=fQ (U.C u U.lt);have aA:=fQ (V.C u V.lt);clear u U V;cases W:iH e
 ·go_wp2;go_ret;exact⟨fU,rfl,⟨fun h=>(by cases h),fun h=>(by have:=h.1;rw[W]at this;cases this)⟩,H1.out⟩
 obtain⟨e0,e1,e2,e3,e4⟩:=gZ az.out;obtain⟨s0,s1,s2,s3,s4,s5⟩:=iY aA.out;have X:=fQ W;clear W;go_wp2_with fail;refine(bQw _ _ e.E s.E _ (HI.C H1.out (Aj _)) (HG.C H1.out (Aj _)) (sF X.out)).mono ?_;rintro en w2 ⟨bb,rfl,aB,rfl⟩;have Y:=fQ aB;clear aB
 cases bb with
 | false=>
  go_wp2;go_ret;exact⟨fU,rfl,⟨fun h=>(by cases h),fun h=>(by have h1:=Y.2 (i.1 h).2.1;cases h1)⟩,H1.out⟩
 | true=>
  by_cases v:n1 % 256=0
  rotate_left
  ·have q1:((n1:Int) % 256 != 0)=fT:=fw;have c:=fQ v;clear v;go_wp2;go_ret;exact⟨fU,rfl,⟨fun h=>(by cases h),fun h=>(by have h1:=(i.1 h).2.2.1;have h2:=c.out;first|exact gH h1 h2|omega)⟩,H1.out⟩
  have q1:((n1:Int) % 256 != 0)=fU:=fw;by_cases x:(n1:Int)<=g
  rotate_left
  ·have q2:decide (g<(n1:Int))=fT:=fw;have c:=fQ x;clear x;go_wp2;go_ret;exact⟨fU,rfl,⟨fun h=>(by cases h),fun h=>(by have h1:=(i.1 h).2.2.2.1;have h2:=c.out;first|exact gH h1 h2|omega)⟩,H1.out⟩
  have q2:decide (g<(n1:Int))=fU:=fw;by_cases y:g<=4096
  rotate_left
  ·have q3:decide (4096<g)=fT:=fw;have c:=fQ y;clear y;go_wp2;go_ret;exact⟨fU,rfl,⟨fun h=>(by cases h),fun h=>(by have h1:=(i.1 h).2.2.2.2.1;have h2:=c.out;first|exact absurd h1 h2|omega)⟩,H1.out⟩
  have q3:decide (4096<g)=false:=(by simp;omega);by_cases o:mm=false->g=0
  rotate_left
  ·have hm:mm=false:=(by cases mm with|false=>rfl|true=>exact absurd (fun h=>by cases h) o);subst hm;have q4:decide (0<g)=true:=(by simp;have:=fun h=>o (fun _=>h);omega);have c:=fQ o;clear o;go_wp2;go_ret;exact⟨false,rfl,⟨fun h=>(by cases h),fun h=>(by have h1:=(i.1 h).2.2.2.2.2.1;have h2:=c.out;first|exact gH h1 h2|omega)⟩,H1.out⟩
  have B4:=fQ o
  cases mm with
  | false=>
   have q4:decide (0<g)=fU:=(by simp;have:=o rfl;omega);clear o;by_cases p:0<=f
   rotate_left
   ·have Z:decide (0<=f)=fU:=fw;have c:=fQ p;clear p;go_wp2;go_ret;exact⟨fU,rfl,⟨fun h=>(by cases h),fun h=>(by have h1:=(i.1 h).2.2.2.2.2.2.1;have h2:=c.out;first|exact gH h1 h2|omega)⟩,H1.out⟩
   by_cases q:f<=1024
   rotate_left
   ·have q7:decide (f<=1024)=fU:=fw;have c:=fQ q;clear q;go_wp2;go_ret;exact⟨fU,rfl,⟨fun h=>(by cases h),fun h=>(by have h1:=(i.1 h).2.2.2.2.2.2.2.1;have h2:=c.out;first|exact gH h1 h2|omega)⟩,H1.out⟩
   by_cases r:k<=4096
   rotate_left
   ·have q8:decide ((k:Int)<=4096)=fU:=fw;have c:=fQ r;clear r;go_wp2;go_ret;exact⟨fU,rfl,⟨fun h=>(by cases h),fun h=>(by have h1:=(i.1 h).2.2.2.2.2.2.2.2.1;have h2:=c.out;first|exact gH h1 h2|omega)⟩,H1.out⟩
   have q8:decide ((k:Int)<=4096)=fT:=fw;by_cases t:l<=4096
   rotate_left
   ·have q9:decide ((l:Int)<=4096)=fU:=fw;have c:=fQ t;clear t;go_wp2;go_ret;exact⟨fU,rfl,⟨fun h=>(by cases h),fun h=>(by have h1:=(i.1 h).2.2.2.2.2.2.2.2.2;have h2:=c.out;first|exact gH h1 h2|omega)⟩,H1.out⟩
   have q9:decide ((l:Int)<=4096)=fT:=fw;have j:=fQ (And.intro v (And.intro x (And.intro y (And.intro p (And.intro q (And.intro r t))))));go_wp2;go_ret;exact⟨fT,rfl,⟨fun _=>i.2 ⟨X.out,Y.1 (by first|rfl|trivial),j.1,j.2.1,j.2.2.1,B4.out,j.2.2.2.1,j.2.2.2.2.1,j.2.2.2.2.2.1,j.2.2.2.2.2.2⟩,fun _=>rfl⟩,H1.out⟩
  | true=>
   clear o;by_cases p:0<=f
   rotate_left
   ·have Z:decide (0<=f)=fU:=fw;have c:=fQ p;clear p;go_wp2;go_ret;exact⟨fU,rfl,⟨fun h=>(by cases h),fun h=>(by have h1:=(i.1 h).2.2.2.2.2.2.1;have h2:=c.out;first|exact gH h1 h2|omega)⟩,H1.out⟩
   by_cases q:f<=1024
   rotate_left
   ·have q7:decide (f<=1024)=fU:=fw;have c:=fQ q;clear q;go_wp2;go_ret;exact⟨fU,rfl,⟨fun h=>(by cases h),fun h=>(by have h1:=(i.1 h).2.2.2.2.2.2.2.1;have h2:=c.out;first|exact gH h1 h2|omega)⟩,H1.out⟩
   by_cases r:k<=4096
   rotate_left
   ·have q8:decide ((k:Int)<=4096)=fU:=fw;have c:=fQ r;clear r;go_wp2;go_ret;exact⟨fU,rfl,⟨fun h=>(by cases h),fun h=>(by have h1:=(i.1 h).2.2.2.2.2.2.2.2.1;have h2:=c.out;first|exact gH h1 h2|omega)⟩,H1.out⟩
   have q8:decide ((k:Int)<=4096)=fT:=fw;by_cases t:l<=4096
   rotate_left
   ·have q9:decide ((l:Int)<=4096)=fU:=fw;have c:=fQ t;clear t;go_wp2;go_ret;exact⟨fU,rfl,⟨fun h=>(by cases h),fun h=>(by have h1:=(i.1 h).2.2.2.2.2.2.2.2.2;have h2:=c.out;first|exact gH h1 h2|omega)⟩,H1.out⟩
   have q9:decide ((l:Int)<=4096)=fT:=fw;have j:=fQ (And.intro v (And.intro x (And.intro y (And.intro p (And.intro q (And.intro r t))))));go_wp2;go_ret;exact⟨fT,rfl,⟨fun _=>i.2 ⟨X.out,Y.1 (by first|rfl|trivial),j.1,j.2.1,j.2.2.1,B4.out,j.2.2.2.1,j.2.2.2.2.1,j.2.2.2.2.2.1,j.2.2.2.2.2.2⟩,fun _=>rfl⟩,H1.out⟩
theorem aWr{P:Program}(w:Ab)(d:Nat)(t:TypeId){ps a b}(h:P.underlying t=fS (.func ps a b)):(Op.equalIn (d+1) t .nilFunc .nilFunc).run P w = .ok fT w:=by
 simp[Op.equalIn,run_underlying h]
theorem aVo{P:Program}(w:Ab)(d:Nat)(t:TypeId){ps a b}(h:P.underlying t=fS (.func ps a b))(fn:Fn)(fi c:Array Ac):(Op.equalIn (d+1) t (.func fn fi c) .nilFunc).run P w = .ok fU w:=by
 simp[Op.equalIn,run_underlying h]
theorem aYs{P:Program}(w:Ab)(t:TypeId){ps a b}(h:P.underlying t=fS (.func ps a b)):(Op.equal t .nilFunc .nilFunc).run P w = .ok fT w:=aWr w 9999 t h
theorem aYc{P:Program}(w:Ab)(t:TypeId){ps b c}(h:P.underlying t=fS (.func ps b c))(fn:Fn)(fi a:Array Ac):(Op.equal t (.func fn fi a) .nilFunc).run P w = .ok fU w:=aVo w 9999 t h fn fi a
theorem bZn{P:Program}(w:Ab)(t:TypeId){ps a b}(h:P.underlying t=fS (.func ps a b)):(binOp .neq t .nilFunc .nilFunc).run P w = .ok (.bool fU) w:=by
 simp only[binOp];simp[aYs w t h]
theorem bXj{P:Program}(w:Ab)(t:TypeId){ps a b}(h:P.underlying t=fS (.func ps a b))(fn:Fn)(fi c:Array Ac):(binOp .neq t (.func fn fi c) .nilFunc).run P w = .ok (fH fT) w:=by
 simp only[binOp];simp[aYc w t h]
@[go_sem] theorem pf (w:Ab):(binOp .neq 66 .nilFunc .nilFunc).run fZ w = .ok (fH fU) w:=bZn w 66 underlying66
@[go_sem] theorem ou (w:Ab) (fn:Fn) (fi a:Array Ac):(binOp .neq 66 (.func fn fi a) .nilFunc).run fZ w = .ok (fH fT) w:=bXj w 66 underlying66 fn fi a
theorem cKg(w:Ab):UR w (fG fR 0 0) []:=⟨fR,0,rfl,Src.nil _ _,Aj _,fun _=>rfl,⟨Nat.zero_le _,fu⟩,nW⟩
def bJn(C:iO)(X:iL)(w:Ab)(a:Ending)(w':Ab):Prop:=a = fP (fH (!X.x.over))/\∃ X',gU C X' w'/\KK X X' w w'/\X'.x=kJ C.p X.x
def AgI(w:Ab)(V:List Nat)(l:List Int)(j:Nat)(v:Ac)(wr:Ab):Prop:=wr.ownsRow w.heap.size 52 1 v j (hH (jd V (l.take j)))/\Below w.heap.size w wr
theorem dKe(C:iO)(X:iL)(w:Ab)(h:gU C X w)(b:X.x.over=fT):Ad fZ 14 #[fI (fS ⟨C.mm,0,fR⟩)] w (bJn C X w):=by
 have H:=fQ h;have a:=fQ b;clear h b;go_in;go_wp2_with fail;refine gu (rD C X _ H.out) ?_;rw[a.out];go_wp2;go_ret;exact⟨by rw[a.out];rfl,X,H.out,KK.refl _ _,by unfold kJ;rw[a.out];rfl⟩
theorem eZa{p:hU}{x y:jP}{f:iP}{rest:List iP}{c:gP}{A:mn}(h:y={ x with st:=y.st })(hn:∀ n,A = .call n->∃ q g,p.b0[n - p.J.G.toNat]? = fS q/\p.J.R[n]? = fS g):lp p y f rest c A=lp p x f rest c A:=by
 rw[h]
 cases A with
 | go k=>rfl
 | vals l s=>rfl
 | trap e s=>rfl
 | ret l=>cases rest <;> rfl
 | call n=>
  obtain⟨q,g,hq,hg⟩:=hn n rfl;by_cases a:16<=rest.length+1
  ·simp only[lp,gz a,uX]
  ·simp only[lp,gy a,hq,hg]
theorem eZb(C:iO)(X:iL)(w:Ab)(h:gU C X w)(hC:KC C)(hT:Tabs C.w0)(hM:ld C.p X.x)(ho:X.x.over=fU)(hf:X.x.first=fR)(hs:X.x.b1<=100000000):Ad fZ 14 #[fI (fS ⟨C.mm,0,fR⟩)] w (bJn C X w):=by
 have m0:=h.fWi;have ym:=h.mm.lt;have yb:=h.cb.lt;have bz:w.cell? ⟨C.cb,15,fR⟩=fS (fF fM (X.x.b1:Int)):=h.cell 15;have f15:=ik h.cb 15;have aQ:IntKind.i64.wrap ((X.x.b1:Int)+1)=((X.x.b1+1:Nat):Int):=(by rw[show(X.x.b1:Int)+1=((X.x.b1+1:Nat):Int) by omega];exact AZ _ fu);have af:kJ C.p X.x=nR C.p { X.x with b1:=X.x.b1+1 }:=(by unfold kJ;rw[gy (by rw[ho];decide)]);have H:=fQ h;have R:=fQ ho;have HF:=fQ hf;have S:=fQ hC;have HT:=fQ hT;have E:=fQ hM;have HS:=fQ hs;clear h hC hT hM ho hf hs af;go_in;go_wp2_with fail;refine(rD C X _ H.out).mono ?_;rintro e w1 ⟨rfl,rfl⟩;rw[R.out];go_upto_region 4 with fail;obtain⟨w1,aD⟩:=fX (w.setCell ⟨C.cb,15,fR⟩ (fF fM ((X.x.b1:Int)+1)));obtain⟨d,aE⟩:∃ d:iL,{ X with x:={ X.x with b1:=X.x.b1+1 } }=d:=⟨_,rfl⟩;have A:=fQ (show gU C d w1 by rw[<-aE,<-aD];exact H.fYp (X.x.b1+1));have a7:=fQ (show KK X d w w1 by rw[<-aE,<-aD];exact(KK.refl X w).set (y:={ X with x:={ X.x with b1:=X.x.b1+1 } }) 15 _ (.inl (gU.nl H.tojl)) rfl);have a8:d.x={ X.x with b1:=X.x.b1+1 }:=(by rw[<-aE]);have F:=fQ a8;rw[aD];clear aD aE a8 m0 ym yb bz f15 aQ
 obtain⟨f0,rest,aF⟩:∃ f0 rest,d.x.st=f0 :: rest:=by
  rw[F.out]
  cases e:X.x.st with
  | nil=>exact gH e (E.live R.out HF.out)
  | cons f r=>exact⟨f,r,rfl⟩
 have J:X.x.st=f0 :: rest:=(by have h1:=aF;rw[F.out]at h1;exact h1);have hF:=E.nU f0 (by rw[J];exact List.mem_cons_self ..);obtain⟨c,hc⟩:∃ c,f0.r.K[f0.k]? = fS c:=⟨_,Az hF.k⟩;have aG:=(S.ok.row _ _ hF.row).1;have ba:=aG.K c (Ak hc);have aj:=E.depth;rw[J]at aj;have aq:rest.length<=15:=(by simp at aj;omega)
 have bb:kJ C.p X.x=lp C.p d.x f0 rest c (iF C.p.J c f0.k (iw C.p.J f0.r c f0.V) X.x.s):=by
  rw[F.out];exact nS R.out HF.out J hc rfl
 have ag:∀ n,iF C.p.J c f0.k (iw C.p.J f0.r c f0.V) X.x.s = .call n->∃ q g,C.p.b0[n - C.p.J.G.toNat]? = fS q/\C.p.J.R[n]? = fS g:=fun n hn=>by
  obtain⟨bA,rfl,bB⟩:=rZ hn;obtain⟨q,g,hq,hg,_⟩:=ss S.ok bA ba bB;exact⟨q,g,hq,hg⟩
 have aR:=E.chain;rw[J]at aR;have bc:∀ q∈rest,kH C.p q:=fun q hq=>E.nU q (by rw[J];exact List.mem_cons_of_mem _ hq);have bd:C.fv = .nilFunc:=(by have h1:=A.fst;rw[F.out]at h1;have h2:nk C d.a8 w1 X.x.first:=h1;rw[HF.out]at h2;exact h2);have cf:=hF.k;have bC:f0.k<=1000000000:=(by have:=aG.n2;omega);have ar:=hF.len;obtain⟨g,cS,pv,ch,K,t2,t3,t4,t5,L,t7,M,t9,t10,t11⟩:=gU.top A.tojl aF;obtain⟨rp,rq,rs,ru,y0,y1,y2,y3,y4,y5,y6,y7,y8,y9⟩:=S.row A.bel hF.row;obtain⟨A5,c5,be,_⟩:=y9.len;rw[be]at y9 y5;obtain⟨_,cj,b,o,ca,cb,cd,bD,ah,u0,u1,u2,u3,u4,u6⟩:=KC.K A.bel y9 hc;subst bD;obtain⟨cm,cn,cp,O,au,aH,aI,aJ⟩:=u6;injection O with O;injection O with O;simp only[List.cons.injEq,and_true,true_and]at O;obtain⟨e1,e2,e3⟩:=O;subst e1;subst e2;subst e3;obtain⟨J1,z1,rfl⟩:=aH.I;obtain⟨J2,z2,rfl⟩:=aI.I;obtain⟨J3,z3,rfl⟩:=aJ.I;obtain⟨l,aS⟩:=fX c.args.length;obtain⟨nO,bf⟩:=fX c.O.length;obtain⟨nT,bg⟩:=fX c.to.length;rw[aS]at u2 aH;rw[bf]at u3 aI;rw[bg]at u4 aJ;have aK:=fQ aS;clear aS bf bg;have m1:=A.fWi;have ym:=A.mm.lt;have yb:=A.cb.lt;have bj:w1.cell? ⟨C.cb,12,fR⟩=fS (fG (fS ⟨g,0,fR⟩) (rest.length+1) cS):=(A.cell 12).trans (gG fS K);have bE:w1.cell? ⟨C.cb,17,fR⟩=fS .nilFunc:=(A.cell 17).trans (gG fS bd);have T7:=fQ t7;have HG:=fQ (And.intro bb ag);have bF:=fQ aR;have bG:=fQ bc;have aL:=fQ aG;have aM:=fQ hF;have aT:=fQ hc;have bH:=fQ aF;have bI:=fQ aq;have bk:=fQ (And.intro au (And.intro aH (And.intro aI aJ)));have bm:=fQ K;have bJ:=fQ t9;have bL:IntKind.i64.wrap ((f0.k:Int)+1)=((f0.k+1:Nat):Int):=(by rw[show(f0.k:Int)+1=((f0.k+1:Nat):Int) by omega];exact AZ _ fu);have bM:IntKind.i64.wrap (rest.length:Int)=(rest.length:Int):=AZ _ fu;clear K t3 t7 t9 t10 t11 y1 y2 y3 y4 y6 y7 y8 y9 bb ag aR bc aG hF hc aF J aj au aH aI aJ bd ar ba be;go_wp2_with fail;go_quiet (fail);obtain⟨B,G⟩:=fX (w1.drewN nq)
 have q0:∀ a,B.cell? a=w1.cell? a:=fun a=>by rw[<-G];rfl
 have qs:B.heap.size=w1.heap.size:=(by rw[<-G];rfl);rw[<-q0]at m1 bj t4 t5 L y5 u0 u1 u2 u3 u4;rw[<-qs]at yb ym M y0 ah;have bn:=fQ (show gU C d B by rw[<-G];exact A.drewN nq);have bo:=fQ (show KK X d w B by rw[<-G];exact a7.trans (KK.jN (fK (Ax _ _) nq)))
 have Qf:∀ i,B.frozen? ⟨g,i,fR⟩=fU:=fun i=>by rw[<-G];exact T7.out i
 rw[G];clear G q0 qs bj bE;have bN:∀ i,B.frozen? ⟨g,i,fR⟩=fU:=Qf;have zn:B.heap.size≠g:=fu;go_wp2_with fail;go_region;go_upto_region 10 with fail;obtain⟨D,T⟩:=fX (((B.setCell ⟨g,rest.length*3+1,fR⟩ (fF fM ((f0.k:Int)+1))).alloc (fO #[fF fM c.op,fF fN (c.n:Int),fG J1 l z1,fG J2 nO z2,fG J3 nT z3] 86)).drew);obtain⟨m,U⟩:∃ m:iL,{ d with x:={ d.x with st:={ f0 with k:=f0.k+1 } :: rest } }=m:=⟨_,rfl⟩;have P:=fQ (show gU C m D by rw[<-U,<-T];exact((bn.setAt bH.out bm.out (f0.k+1)).C ((Ax _ _).alloc (Aj _) _)).drew);have bp:=fQ (show KK X m w D by rw[<-U,<-T];exact((bo.set (y:={ d with x:={ d.x with st:={ f0 with k:=f0.k+1 } :: rest } }) (rest.length*3+1) _ (.inl (by rw[bJ.out];decide)) rfl).C ((Ax _ _).alloc (Aj _) _)).drew);have W:=fQ (show gO D B.heap.size 86 #[fF fM c.op,fF fN (c.n:Int),fG J1 l z1,fG J2 nO z2,fG J3 nT z3] by rw[<-T];exact(gO.X _ (N:=B.heap.size) 86 _ (by simp[World.setCell])).drew);have Y:=fQ (show m.x={ d.x with st:={ f0 with k:=f0.k+1 } :: rest } by rw[<-U]);have bq:=fQ (show m.sv = fG (fS ⟨g,0,fR⟩) (rest.length+1) cS by rw[<-U];exact bm.out);rw[T];clear T U bN Qf m1 t4 t5 L M y0 y5 u0 u1 u2 u3 u4 ah bL bM;obtain⟨cr,aA⟩:=fX B.heap.size;rw[aA]at W zn ⊢;clear aA yb ym bn bo A a7;have al:m.x.st={ f0 with k:=f0.k+1 } :: rest:=(by rw[Y.out]);obtain⟨gx,cx,ct,bO,K,bP,t3,t4,t5,L,t7,M,t9,t10,t11⟩:=gU.top P.tojl al;have I:=bq.symm.trans K;injection I with I _ _;injection I with I;injection I with I _;subst I;have aV:=fQ al;have aB:=fQ t10;obtain⟨b0,b1,b2,b3,b4⟩:=gZ W.out
 have cw:l<=8:=by
  obtain⟨fi,fo,aC,cy,_⟩:=hY (aL.K c (Ak aT.out));have h1:=(qG S.ok.J aL.a2 aC).1;have h3:=aK.out;omega
 have bQ:=fQ (show ∀ p∈c.args,0<=p/\p<f0.r.M by
  obtain⟨_,_,_,_,_,_,_,_,bT,_⟩:=hY (aL.K c (Ak aT.out))
  exact bT)
 have bU:=fQ aM.len;clear K bP t3 t4 t5 t7 t9 t10 t11 al;go_wp2_with fail;go_loopw [5,78] (fun v i wx=>∃ j:Nat,j<=l/\i = fF fM j/\Hid (AgI D f0.V c.args j v wx)) (fun _ i _=>l - (intOf i).toNat)
 case atStart=>exact⟨0,fu,rfl,fQ ⟨World.ownsRow_nil _ _ _ _,Ax _ _⟩⟩
 case round=>
  obtain⟨j,hj,rfl,IA⟩:=hrel;obtain⟨IOh,t⟩:=IA.out;obtain⟨Av,cv,rfl,cz⟩:=fJ IOh;have aN:=W.C t W.lt;obtain⟨k0,k1,k2,k3,k4⟩:=gZ aN;by_cases cB:j<l
  ·as_aux_lemma=>
   have q3:(j:Int)<l:=fu;obtain⟨p,aO⟩:∃ p,c.args[j]? = fS p:=⟨_,Az (by have:=aK.out;omega)⟩;have bV:=bQ.out p (Ak aO);obtain⟨z,rfl⟩:∃ z:Nat,p=z:=⟨p.toNat,fu⟩;obtain⟨VL,aW⟩:=fX f0.V.length;have cC:z<VL:=(by have:=bU.out;omega);have q4:(z:Int)<VL:=fu;obtain⟨y,hy⟩:∃ y,f0.V[z]? = fS y:=⟨_,Az fu⟩;obtain⟨pb,po,e1,aX,br⟩:=bk.2.1.ir.cell aO;subst e1;have aY:=P.bel.trans (t.mono P.bel.size);have bW:wr.cell? ⟨pb,po+j,fR⟩=fS (fF fM z):=(aY.cell (p:=⟨pb,po+j,fR⟩) aX).trans br;obtain⟨vb,vc,e2,aZ,bX,bY⟩:=lZ aB.out fu;subst e2;rw[aW]at L;have g6:wr.cell? ⟨g,rest.length*3+2,fR⟩=fS (fG (fS ⟨vb,0,fR⟩) VL vc):=(t.cell (p:=⟨g,rest.length*3+2,fR⟩) M).trans L;have gv:wr.cell? ⟨vb,z,fR⟩=fS (fF fN (y:Int)):=(t.cell (p:=⟨vb,z,fR⟩) aZ).trans (by rw[aB.cellAt z (by rw[aW];omega)];simp[hH,hy]);have bZ:=fQ (bWd (V:=f0.V) aO);have b5:=fQ (show f0.V.getD (z:Int).toNat 0=y from by rw[Int.toNat_natCast,Ay,hy];rfl);have aU:=fQ (lJ IOh (fO #[fF fN (y:Int)] 52));have b6:=fQ (t.alloc t.size (fO #[fF fN (y:Int)] 52));have cE:=t.size;clear IOh t IA aN aO bV hy aX br aY L M aW aZ bX bY;go_wp2_with (at_builtin;refine nQ _ rfl (.tmp 82) (.tmp 90) 30 rfl D.heap.size 52 (fF fN 0) 1 8 underlying30 tX rfl fu (.slice Av j cv) j (hH (jd f0.V (c.args.take j))) rfl aU.out (fS ⟨wr.heap.size,0,fR⟩) 1 1 [fF fN (y:Int)] rfl (gO.kE (cs:=#[fF fN (y:Int)]) (gO.X _ _ _ rfl) rfl) (fun u hu=>by rw[List.mem_singleton.1 hu];rfl) (by unfold maxLen;omega) fu fw ?_);rintro v' w' g1 g2 g3 _;have HX:=fQ (show AgI D f0.V c.args (j+1) v' w' from⟨by rw[bZ.out,b5.out,oH];first|exact g1|simpa[hH]using g1,oQ b6.out g2 fw (fun j hj=>(aU.lt j hj).1)⟩);clear g1 g2 g3;go_wp2;exact⟨⟨j+1,fu,fz,HX⟩,fB⟩
  ·as_aux_lemma=>
   have q1:decide ((j:Int)<l)=fU:=fw;obtain rfl:l=j:=fu;have bs:=fQ (show(jd f0.V c.args).length=l by unfold jd;rw[Aw];exact aK.out);have aP:=fQ (show wr.ownsRow D.heap.size 52 1 (fG Av l cv) (jd f0.V c.args).length (hH (jd f0.V c.args)) by rw[bs.out];have h1:=IOh;rwa[List.take_of_length_le (by rw[aK.out];exact Aj _)]at h1);have b7:=fQ t;have b8:=fQ (aWu aM.a64 c.args)
   have a1:=fQ (show m.x.s.a0.length<=1000000000 by
    have h1:=E.a0;have h2:=HS.out;rw[Y.out,F.out];show X.x.s.a0.length<=1000000000
    omega)
   have bt:=fQ (show ky C m f0 rest g cS (.agg #[fF fM c.op,fF fN (c.n:Int),fG J1 l z1,fG J2 nO z2,fG J3 nT z3]) c (fG Av l cv) (jd f0.V c.args) wr from
    { a5:=P.C t,kc:=S.out,st:=aV.out,sv:=bq.out,K:=⟨_,_,_,rfl,bk.out⟩,at_:=aT.out,ck:=aL.out,len:=aM.len,row:=aM.row,ur:=zZ aP.out b8.out (by rw[bs.out];omega),free:=fun k Z=>gU.a6 P.tojl (aP.lt k Z).1,args:=rfl,a0:=a1.out,dep:=bI.out })
   have b9:=fQ (HT.C (bt.a5.bel) HT.2.2);have cc:=fQ (show jh C.p.J m.x.s by rw[Y.out,F.out];exact E.st);clear IOh t IA aN;go_wp2_with fail;refine(eXz C m f0 rest g cS _ c _ (jd f0.V c.args) _ bt.out b9.out cc.out (jy.top bF.out rfl) bG.out D (KK.jN b7.out) (fun k Z=>(aP.lt k Z).1) (iQ aP.out P.bel.size)).mono ?_;rintro e w5 ⟨e5,X5,rfl,p1,p2,p3,p4⟩;have P1:=fQ p1;have P2:=fQ p2;have bu:=fQ (And.intro p3 p4);clear p1 p2 p3 p4
   have bw:=fQ (show lp C.p m.x f0 rest c (iF C.p.J c f0.k (iw C.p.J f0.r c f0.V) m.x.s)=kJ C.p X.x by
    rw[HG.1,show m.x.s=X.x.s by rw[Y.out,F.out]]
    exact eZa (by rw[Y.out]) HG.2)
   by_cases Q:e5=0
   ·have u5:(e5 != 0)=fU:=(by simp[Q]);have H5:=fQ Q;clear Q;go_wp2;go_ret;exact⟨by rw[R.out];rfl,X5,P1.out,bp.trans P2.out,by rw[bu.1 H5.out,bw.out]⟩
   ·have u5:(e5 != 0)=fT:=(by simp[Q]);have H5:=fQ Q;clear Q;go_wp2_with fail;refine(aWp C X5 (fG fR 0 0) [] e5 _ P1.out (cKg _) (fun k Z=>by cases Z)).mono ?_;rintro e w6 ⟨rfl,X6,r1,r2,r3⟩;have R1:=fQ r1;have R2:=fQ r2;have R3:=fQ r3;clear r1 r2 r3;go_wp2;go_ret;exact⟨by rw[R.out];rfl,X6,R1.out,(bp.trans P2.out).trans R2.out,by rw[R3.out,bu.2 H5.out,bw.out]⟩
end Go.Proofs.YtabibkpfgmolkaaGreatDoor

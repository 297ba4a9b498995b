/- Lemmas for the claim, part 16. Conditions: none. -/
import Derived.Test.YtabibkpfgmolkaaGreatPl15
set_option maxRecDepth 100000
set_option maxHeartbeats 16000000
set_option linter.unusedVariables false
set_option linter.unusedSimpArgs false
open Go.Lib renaming hid→fQ
open Go.Proofs.Tryz renaming prog→fZ
open Go.Proofs.Tryz
open Go.RowKit
open Nat renaming le_refl→Aj,zero_le→AX,lt_of_lt_of_le→AZ,min_eq_left→AY,le_trans→Ad
open List renaming getElem?_eq_getElem→Aq,length_map→Az,mem_of_getElem?→Ak,length_take→AJ,range→AQ,getElem?_append_right→AK,getElem?_append_left→AV,getElem?_replicate→AW,getElem_of_mem→Ab
open Array renaming getElem?_setIfInBounds→Ax
open Go.IntWalk renaming i64_in→Av
open Go.RowKit.Below renaming heap_setCell→Aw,refl→Ac,cell→Ae
open Option renaming some→Ay
open Go renaming World→Af,Value→Ag
open Go.RowKit renaming Below→Ah
namespace Go.Proofs.YtabibkpfgmolkaaGreat
variable {w w0 w' wr wx:Af}{base n g k dc lost d c n2 B Z i j:Nat}{v x0 x1 x4 x2 x3 x5 p0 p2 p3 p5 v9 v16 f p1 p4:Ag}{e:TypeId}{l a:List Nat}{e2 b:Int}{A:Option Addr}
theorem aYk(h:w.ownsRow base 50 1 v n (u64V l))(a:n<=17592186043904)(b:All64 l):UR w v l:=by
 obtain⟨A,c,rfl,_⟩:=gZ h;exact aYt h a b
theorem aYl{e:EnvD}{g:SigD}(h:envOk e=true)(hg:e.sigs[n]? = some g):g.inn.length<=8/\g.out.length<=8:=by
 unfold envOk at h;simp only[Bool.and_eq_true,decide_eq_true_eq]at h;have h2:=h.2;have:=Ak hg;exact aJo (by first | exact List.all_eq_true.1 h.2.2 g this | exact List.all_eq_true.1 h.2.1 g this | exact List.all_eq_true.1 h.2.1.1 g this | exact List.all_eq_true.1 h.2 g this | exact List.all_eq_true.1 h.2.2.2 g this)
theorem cKp{C:MaC}{x x4:MaS}{n:Nat}{g:SigD}{a:List Nat}{w j f:Af}{s2:StD}{e2 b:Int}{dc wd:Nat}{l:List Nat}{A:Option Addr}{m c:Nat}(k:MRef C { x4 with e:=b } (f.setCell ⟨C.mb,17,none⟩ (.int .i64 b)))(o:MK C x { x4 with e:=b } w (f.setCell ⟨C.mb,17,none⟩ (.int .i64 b)))
  (h:x4={ x with lv:=x4.lv,iv:=x4.iv,s:=(hostV n g.out (lowL g.inn a) x.s).2.2 }) (q:(hostV n g.out (lowL g.inn a) x.s).2.1=b) (ho:(hostV n g.out (lowL g.inn a) x.s).2.1=0->f.ownsRow j.heap.size 50 1 (.slice A m c) (hostV n g.out (lowL g.inn a) x.s).1.length (u64V (hostV n g.out (lowL g.inn a) x.s).1))
  (hd:CDid C.p C.lost x.d n g a x.s s2 e2 dc wd l) (hi:(n:Int)<C.p.env.imports) (r:StOk C.p.env x.s) (t:All64 (lowL g.inn a)) (u:w.heap.size<=j.heap.size) (hle:x.wcur<=x.wmax) (hn:n<18446744073709551616) {cs:Array Ag} (v:Blk f C.mb 89 cs):RunR C x s2 e2 dc wd l w (.returned (.slice A m c)) (f.setCell ⟨C.mb,17,none⟩ (.int .i64 b)):=by
 cases hd with
 | host i=>
  have hs:x4.s=(hostV n g.out (lowL g.inn a) x.s).2.2:=(by rw[h]);refine⟨_,_,rfl,k,o,hs,q.symm,(by rw[h];rfl),(by rw[h];show x.wmax=max x.wmax (x.wcur+0);omega),by rw[h],by rw[h],⟨_,_,_,rfl⟩,fun y=>?_⟩;refine⟨?_,(aJm r t hn).2⟩;have h1:=lZ (ho y) u;exact iQ h1 (own_ne h1 v (by decide))
 | deep i=>exact absurd hi i
 | call i=>exact absurd hi i
theorem cKq{C:MaC}{x:MaS}{n:Nat}{g:SigD}{a:List Nat}{w b:Af}{s2:StD}{e2:Int}{dc wd:Nat}{l:List Nat}(f:MRef C { x with e:=37 } b)(h:MK C x { x with e:=37 } w b)(hd:CDid C.p C.lost x.d n g a x.s s2 e2 dc wd l)(hi:¬(n:Int)<C.p.env.imports)(ad:16<=x.d)(hle:x.wcur<=x.wmax):
  RunR C x s2 e2 dc wd l w (.returned (.slice none 0 0)) b:=by
 cases hd with
 | host c=>exact absurd c hi
 | deep c=>exact⟨_,_,rfl,f,h,rfl,rfl,rfl,(by show x.wmax=max x.wmax (x.wcur+0);omega),rfl,rfl,⟨_,_,_,rfl⟩,fun i=>absurd i (show ¬(37:Int)=0 by decide)⟩
 | call c j=>exact absurd j (by omega)
theorem dQe{p:RowsD}{g:SigD}{s s2:StD}{wd:Nat}(hd:CDid p lost d n g a s s2 e2 dc wd l)(hi:¬(n:Int)<p.env.imports)(c:d<16):
  ∃ q R,p.fns[n - p.env.imports.toNat]? = some q/\Ev p lost (d+1) q 0 (initV q (lowL g.inn a)) s R/\s2=R.s/\e2=R.e/\dc=R.cnt/\wd=q.places.toNat+R.wds/\l=R.out:=by
 cases hd with
 | host b=>exact absurd b hi
 | deep b h=>exact absurd c (by omega)
 | call b ad hq h1=>exact⟨_,_,hq,h1,rfl,rfl,rfl,rfl,rfl⟩
theorem aVy{l:List RowD}(h:Structs 5 RowC w v l){x:RowD}(a:l[k]? = some x):
  ∃ b o p q r s,(∃ c,v = .slice (some ⟨b,o,none⟩) l.length c)/\b<w.heap.size/\w.cell? ⟨b,o+k*5,none⟩=some p/\w.cell? ⟨b,o+k*5+1,none⟩=some q/\w.cell? ⟨b,o+k*5+2,none⟩=some (.int .i64 x.places)/\w.cell? ⟨b,o+k*5+3,none⟩=some r/\w.cell? ⟨b,o+k*5+4,none⟩=some s /\
   Ints w p x.sig.inn/\Ints w q x.sig.out/\Ints w r x.params/\Structs 5 CodeC w s x.code:=by
 obtain⟨A,c,rfl,_⟩:=h.len;obtain⟨b,o,p,q,r,s,rfl,d⟩:=h.row a;exact⟨b,o,p,q,r,s,⟨c,rfl⟩,d⟩
theorem bKb(C:MaC)(x:MaS)(n:Nat)(va:Ag)(a:List Nat)(g:SigD)(w:Af)(s2:StD)(e2:Int)(dc wd:Nat)(l:List Nat)(hp:ProgP C.p)(hE:EnvV C.w0 (.agg #[C.a,.int .i64 C.p.env.imports,C.b,C.d,.bool C.p.env.mem]) C.p.env)(hF:Structs 5 RowC C.w0 C.f C.p.fns)
  (h:MRef C x w) (bq:StOk C.p.env x.s) (he:x.e=0) (hb:MRunB x dc) (ha:UR w va a) (hg:C.p.env.sigs[n]? = some g) (br:a.length=g.inn.length) (az:∀ (i:Nat) q,C.p.fns[i]? = Ay q->∀ c∈q.code,c.n<18446744073709551616)
  (aA:x.d<16->∀ r∈C.p.fns,bQv C r (x.d+1)) (aB:CDid C.p C.lost x.d n g a x.s s2 e2 dc wd l) :
  Calls fZ 36 #[.pointer (some ⟨C.mb,0,none⟩),.int .i64 n,va] w (RunR C x s2 e2 dc wd l w):=by
 obtain⟨Aa,ca,rfl⟩:=ha.shape;obtain⟨m,hm⟩:=fX a.length;rw[hm]at ha ⊢;have b5:m<=8:=(by have:=(aYl hp.env hg).1;omega);have b6:=(aYl hp.env hg).2;have b7:=hE;obtain⟨a',b',d',e,hS,hG,hB⟩:=b7;injection e with e;injection e with e;simp only[List.cons.injEq,and_true]at e;obtain⟨e1,_,rfl,rfl,_⟩:=e;rw[<-e1]at hS;clear e1;obtain⟨sA,sc,aC,_⟩:=hS.len;obtain⟨L,hL⟩:=fX C.p.env.sigs.length;have cG:n<L:=(by rw[<-hL];exact(List.getElem?_eq_some_iff.1 hg).1);have b8:L<=64:=(by have:=(mW hp.env).1;omega);rw[hL]at aC;rw[aC]at hS;obtain⟨sb,so,u0,u1,rfl,aQ,g5,g6,i5,i6⟩:=hS.sig hg;have t2:(n:Int)<L:=(by omega);have b1:=h.bel;replace g5:=(b1.cell (p:=⟨sb,_,none⟩) aQ).trans g5;replace g6:=(b1.cell (p:=⟨sb,_,none⟩) aQ).trans g6;have b9:=AZ aQ b1.size;have m0:w.cell? ⟨C.mb,0,none⟩=some (.slice (some ⟨sb,so,none⟩) L sc):=(by rw[h.cell 0];simp[mCells,aC]);have t:=h.blk.lt;obtain⟨M,hM⟩:∃ M:Nat,C.p.env.imports=M:=⟨C.p.env.imports.toNat,by have:=(mW hp.env).2.1;omega⟩;have aD:=(Ac w.heap.size w).alloc (Aj _) (.cells #[u0,u1] 40);have aW:=fQ (h.below aD);have bs:=fQ (MK.eXn (C:=C) (x:=x) aD);have bt:=fQ (ha.below aD (Aj _));have KS:=fQ (Blk.new w 40 #[u0,u1]);have bu:=fQ (i5.below (b1.trans (aD.mono b1.size)) (Aj _)).ir;have cd:=fQ (show SigV C.w0 (.agg #[u0,u1]) g from⟨u0,u1,rfl,i5,i6⟩);obtain⟨U0,c0,rfl⟩:=i5.shape;obtain⟨U1,c1,rfl⟩:=i6.shape;have V:=fQ hM;have aX:=fQ hm;have bw:=fQ br;have cf:=fQ hg;have HH:=fQ h;have HP:=fQ hp;have ch:=fQ hF;have cj:=fQ hE;have aj:=fQ aB;have ck:=fQ ha.len.2.2.2.2.2;have aY:=fQ bq;have J:=fQ hb;have cm:=fQ he;have cH:=fQ aC;have aE:=fQ az;have aZ:=fQ aA;clear az aA;clear h ha hm br hg hp hF hE aB bq hb he aC hS hG hB hL aD b1 i5 i6 hM aQ;go_in;go_wp2_with fail;refine(bWt _ _ g.inn a _ bu.out bt.out bw.out.symm (by rw[aX.out];omega)).mono ?_;rintro en z ⟨v3,rfl,W,aF⟩;rw[aX.out]at W;obtain⟨X,Y,rfl,cI⟩:=gZ W;have F:=fQ (aW.out.below aF);have aR:=fQ (bs.out.below aF);have aG:=fQ (KS.out.below aF KS.out.lt);have aH:=fQ (rX g.inn a ck.out);have a7:=fQ (aYt W (by omega) aH.out);have ao:=fQ (show ∀ k,(Value.slice X m Y).ownBlock=some k->¬MOwn C x k from fun k Z=>aW.out.fresh (W.lt k Z).1);have bx:=fQ (show(lowL g.inn a).length=m by have:=W.1;simpa[u64V]using this);have cn:=aF.size;simp only[World.size_alloc]at cn;have cp:=fQ W;have cq:=fQ (show ¬MOwn C x w.heap.size from HH.out.fresh (Aj _));clear aW bs KS bt bu W aF m0 g5 g6 b9 t t2;obtain⟨q0,q1⟩:=aYy aG.out;have yS:=aG.out.lt;have t:=F.out.blk.lt;have m1:z.cell? ⟨C.mb,1,none⟩=some (.int .i64 M):=(by rw[F.out.cell 1,<-V.out];rfl);by_cases hi:n<M
 ·as_aux_lemma=>
  have t1:decide ((n:Int)<M)=true:=(by simp;omega);have CF:=fQ (fun(w':Af) (bz:Ah z.heap.size z w')=>dQj C x n g (.agg #[.slice U0 g.inn.length c0,.slice U1 g.out.length c1]) (.slice X m Y) (lowL g.inn a) w' (F.out.below bz) cd.out (a7.out.below bz (Aj _)) ao.out (by omega) (by rw[bx.out];exact b5) b6 (by have:=J.out.log;omega) (by have:=aY.out.ilen;omega));go_wp2_with fail;refine lX (fun w'=>w'.cell? ⟨w.heap.size,0,none⟩=some (.slice U0 g.inn.length c0)/\w'.cell? ⟨w.heap.size,1,none⟩=some (.slice U1 g.out.length c1)/\w.heap.size<w'.heap.size) (fun _=>True) 1000 (by kernel_rfl) ⟨(Ae (gY z) (p:=⟨w.heap.size,0,none⟩) yS).trans q0,(Ae (gY z) (p:=⟨w.heap.size,1,none⟩) yS).trans q1,AZ yS (Below.size (gY z))⟩ trivial (fun j=>?_);refine wtk 0 j (fun j=>?_);refine wtk 1 j (fun j=>?_);refine wtk 2 j (fun j=>?_);refine wtk 3 j (fun j=>?_);refine wtk 4 j (fun j=>?_);refine wtk 5 j (fun j=>?_);refine jK (i:=6) (by kernel_rfl) rfl (fun K hK=>?_);go_simp;refine(CF.out _ (gY z)).mono ?_;rintro en N ⟨v4,x4,rfl,M4,K4,bD,bE,A4,n4,c4,rfl⟩;have a8:=fQ (K4.blk (aG.out.drew) cq.out);have A:=fQ M4;have aI:=fQ ((aR.out.below (gY z)).trans K4);have ba:=fQ bD;have bF:=fQ bE;have cJ:=K4.size;clear M4 K4 bD bE;refine hK.out _ _ ⟨⟨(aYy a8.out).1,(aYy a8.out).2,a8.out.lt⟩,fun _=>trivial⟩ (fun j=>?_);clear hK K
  try simp only[Act.put,List.setIfInBounds_toArray,List.set_cons_zero,List.set_cons_succ]
  refine wtk 7 j (fun j=>?_);refine wtk 8 j (fun j=>?_);refine wtk 9 j (fun j=>?_);refine wtk 10 j (fun j=>?_);refine wtk 11 j (fun j=>?_);refine kQ (by kernel_rfl) ?_ _;clear j q0 q1 yS t CF;obtain⟨eH,bb⟩:=fX ((hostV n g.out (lowL g.inn a) x.s).2.1);rw[bb];have cr:=fQ bb;clear bb;have t:=A.out.blk.lt;obtain⟨ct,bG⟩:∃ u,N.cell? ⟨C.mb,17,none⟩=some u:=⟨_,by rw[A.out.cell 17];rfl⟩;have f17:=frz A.out.blk 17;have B:=fQ (A.out.eXl 17 (.int .i64 eH) (y:={ x4 with e:=eH }) (by simp[mCells]) rfl rfl rfl rfl rfl rfl rfl);have O:=fQ (aI.out.eXl 17 (.int .i64 eH) (y:={ x4 with e:=eH }) rfl rfl rfl);have cv:=(ba.out);have ad:=fQ (show RunR C x s2 e2 dc wd l w (.returned (.slice A4 n4 c4)) (N.setCell ⟨C.mb,17,none⟩ (.int .i64 eH))from cKp B.out O.out ba.out cr.out bF.out aj.out (by rw[V.out];omega) aY.out aH.out (Nat.le_of_lt (aG.out.drew).lt) J.out.wle (by omega) A.out.blk);clear B O ba bF A aI cv;go_wp2;go_ret;exact ad.out
 ·have t1:decide ((n:Int)<M)=false:=(by simp;omega);obtain⟨D,j⟩:=fX x.d;have aq:=fQ j;have cw:z.cell? ⟨C.mb,16,none⟩=some (.int .i64 D):=(by rw[F.out.cell 16,<-j];rfl);obtain⟨ct,bG⟩:∃ u,z.cell? ⟨C.mb,17,none⟩=some u:=⟨_,by rw[F.out.cell 17];rfl⟩;have f17:=frz F.out.blk 17;have f16:=frz F.out.blk 16;by_cases cx:16<=D
  ·as_aux_lemma=>
   have t3:decide ((16:Int)<=(D:Int))=true:=(by simp;omega);have B:=fQ (F.out.eXl 17 (.int .i64 37) (y:={ x with e:=37 }) (by simp[mCells]) rfl rfl rfl rfl rfl rfl rfl);have O:=fQ (aR.out.eXl 17 (.int .i64 37) (y:={ x with e:=37 }) rfl rfl rfl);have ad:=fQ (show RunR C x s2 e2 dc wd l w (.returned (.slice none 0 0)) (z.setCell ⟨C.mb,17,none⟩ (.int .i64 37))from cKq B.out O.out aj.out (by rw[V.out];omega) (by rw[j];exact cx) J.out.wle);clear B O j;go_wp2;go_ret;exact ad.out
  ·have t3:decide ((16:Int)<=(D:Int))=false:=(by simp;omega);clear j bG f17;have cy:=fQ (dQe aj.out (by rw[V.out];omega) (by rw[aq.out];omega));obtain⟨q,R,hq,bH,rfl,rfl,rfl,rfl,rfl⟩:=cy.out;obtain⟨K,hK⟩:=fX (n - M);have bI:C.p.fns[K]? = some q:=(by rw[<-hK,<-hq,V.out];rfl);have wK:IntKind.i64.wrap ((n:Int) - (M:Int))=(K:Int):=(by rw[Av _ (by omega)];omega);have wD:IntKind.i64.wrap ((D:Int)+1)=((D+1:Nat):Int):=(by rw[Av _ (by omega)];rfl);have HQ:=fQ bI;have cz:=fQ hK;have bc:=fQ bH;clear hq bH hK bI;go_wp2_with fail;obtain⟨E,aJ⟩:=fX (z.setCell ⟨C.mb,16,none⟩ (.int .i64 ((D:Int)+1)));have Q:=fQ (show MRef C { x with d:=D+1 } E from by rw[<-aJ];exact F.out.eXl 16 (.int .i64 ((D:Int)+1)) (y:={ x with d:=D+1 }) (by simp[mCells]) rfl rfl rfl rfl rfl rfl rfl);have bd:=fQ (show MK C x { x with d:=D+1 } w E from by rw[<-aJ];exact aR.out.eXl 16 _ (y:={ x with d:=D+1 }) rfl rfl rfl);have bJ:=fQ (show UR E (.slice X m Y) (lowL g.inn a)from by rw[<-aJ];exact a7.out.heap (by simp[World.setCell]) (fun k Z _=>Aw _ _ _ _ (fun e=>ao.out k Z (.inl e))));rw[aJ];clear aJ wD cw f16 m1 q0 q1 t yS aG F aR a7 cp;obtain⟨fb,fo,v0,v1,v3,v4,cA,al,g0,g1,S,g3,g4,i1,i2,i3,i4⟩:=aVy ch.out HQ.out;have b1:=Q.out.bel;replace g0:=(b1.cell (p:=⟨fb,_,none⟩) al).trans g0;replace g1:=(b1.cell (p:=⟨fb,_,none⟩) al).trans g1;replace S:=(b1.cell (p:=⟨fb,_,none⟩) al).trans S;replace g3:=(b1.cell (p:=⟨fb,_,none⟩) al).trans g3;replace g4:=(b1.cell (p:=⟨fb,_,none⟩) al).trans g4;have cB:=AZ al b1.size;obtain⟨nF,bL⟩:∃ k,C.p.fns.length=k:=⟨_,rfl⟩;obtain⟨fc,be⟩:=cA;rw[bL]at be;have tK:(K:Int)<nF:=(by have:=(List.getElem?_eq_some_iff.1 HQ.out).1;omega);have m5:E.cell? ⟨C.mb,5,none⟩=some (.slice (some ⟨fb,fo,none⟩) nF fc):=(by rw[Q.out.cell 5];simp[mCells,be]);have m1:E.cell? ⟨C.mb,1,none⟩=some (.int .i64 M):=(by rw[Q.out.cell 1,<-V.out];rfl);have t:=Q.out.blk.lt;have cC:=fQ (show RowV C.w0 (.agg #[v0,v1,.int .i64 q.places,v3,v4]) q from RowV.of i1 i2 i3 i4);obtain⟨P,hP⟩:∃ P:Nat,q.places=P:=⟨q.places.toNat,by have:=(HP.out.row _ _ HQ.out).1.p1;omega⟩;rw[hP]at S;have bf:=fQ hP;obtain⟨X0,d0,rfl⟩:=i1.shape;obtain⟨X1,d1,rfl⟩:=i2.shape;obtain⟨X3,d3,rfl⟩:=i3.shape;obtain⟨X4,d4,rfl,_⟩:=i4.len;clear i1 i2 i3 i4 b1 al be bL hP;go_region;go_wp2_with fail;obtain⟨N,aS⟩:=fX ((E.alloc (.cells #[.slice X0 q.sig.inn.length d0,.slice X1 q.sig.out.length d1,.int .i64 (P:Int),.slice X3 q.params.length d3,.slice X4 q.code.length d4] 43)).drew);have aT:Ah E.heap.size E N:=(by rw[<-aS];exact((Ac _ _).alloc (Aj _) _).drew);have A:=fQ (Q.out.below aT);have aI:=fQ (bd.out.below aT);have bM:=fQ (bJ.out.below aT (Aj _));have aK:=fQ (show Blk N E.heap.size 43 #[.slice X0 q.sig.inn.length d0,.slice X1 q.sig.out.length d1,.int .i64 (P:Int),.slice X3 q.params.length d3,.slice X4 q.code.length d4]from by rw[<-aS];exact(Blk.new _ _ _).drew);rw[aS];have bg:=fQ (show ¬MOwn C { x with d:=D+1 } E.heap.size from Q.out.fresh (Aj _));obtain⟨I,aL⟩:∃ g,E.heap.size=g:=⟨_,rfl⟩
   rw[aL]at aK bg ⊢;have cK:=fQ (show w.heap.size<=I by rw[<-aL];exact bd.out.size);have cL:=fQ (show C.w0.heap.size<=I by rw[<-aL];exact Q.out.bel.size);have bN:I≠C.mb:=(by rw[<-aL];omega);clear aS aT aL Q bd bJ m5 m1 t g0 g1 S g3 g4 cB wK;obtain⟨o,bh⟩:∃ k,x.wcur=k:=⟨_,rfl⟩;obtain⟨G,bO⟩:∃ k,x.wmax=k:=⟨_,rfl⟩;have bP:=fQ bh;have bj:=fQ bO;have cM:P<=4096:=(by have:=(HP.out.row _ _ HQ.out).1.p2;have:=bf.out;omega);have cN:o<=65536:=(by have h1:=J.out.wcr;have h2:=J.out.dle;omega);have cO:G<=1000000:=(by have h1:=J.out.wmx;omega);have wA:IntKind.i64.wrap ((o:Int)+(P:Int))=((o+P:Nat):Int):=(by rw[Av _ (by omega)];rfl);have m15:N.cell? ⟨C.mb,15,none⟩=some (.int .i64 o):=(by rw[A.out.cell 15,<-bh];rfl);have f15:=frz A.out.blk 15;have S:N.cell? ⟨I,2,none⟩=some (.int .i64 P):=(gJ aK.out).2.2.1;have t:=A.out.blk.lt;have yg:=aK.out.lt;clear bh bO;go_region;go_wp2_with fail;obtain⟨w5,ar⟩:=fX ((N.setCell ⟨C.mb,15,none⟩ (.int .i64 ((o:Int)+(P:Int)))).drew);have B:=fQ (show MRef C { x with d:=D+1,wcur:=o+P } w5 from by rw[<-ar];exact(A.out.eXl 15 (.int .i64 ((o:Int)+(P:Int))) (y:={ x with d:=D+1,wcur:=o+P }) (by simp[mCells]) rfl rfl rfl rfl rfl rfl rfl).below (gY _));have O:=fQ (show MK C x { x with d:=D+1,wcur:=o+P } w w5 from by rw[<-ar];exact(aI.out.eXl 15 _ (y:={ x with d:=D+1,wcur:=o+P }) rfl rfl rfl).below (gY _));have bQ:=fQ (show UR w5 (.slice X m Y) (lowL g.inn a)from by rw[<-ar];exact(bM.out.heap (by simp[World.setCell]) (fun k Z _=>Aw _ _ _ _ (fun e=>ao.out k Z (.inl e)))).below (gY _) (Aj _));have bT:=fQ (show Blk w5 I 43 #[.slice X0 q.sig.inn.length d0,.slice X1 q.sig.out.length d1,.int .i64 (P:Int),.slice X3 q.params.length d3,.slice X4 q.code.length d4]from by rw[<-ar];exact(aK.out.setCell (p:=⟨C.mb,15,none⟩) _ bN).drew);rw[ar];clear ar A aI bM aK m15 f15 S t yg wA;have m14:w5.cell? ⟨C.mb,14,none⟩=some (.int .i64 G):=(by rw[B.out.cell 14,<-bj.out];rfl);have m15:w5.cell? ⟨C.mb,15,none⟩=some (.int .i64 ((o+P:Nat):Int)):=(by rw[B.out.cell 15];rfl);have f14:=frz B.out.blk 14;have t:=B.out.blk.lt;obtain⟨H,bk⟩:∃ k,o+P=k:=⟨_,rfl⟩;rw[bk]at m15;have aM:=fQ bk;clear bk;go_region;go_upto_region 14 with fail;obtain⟨T,au⟩:=fX ((w5.setCell ⟨C.mb,14,none⟩ (.int .i64 (max (G:Int) (H:Int)))).drew);obtain⟨U,av⟩:∃ U:MaS,{ x with d:=D+1,wcur:=o+P,wmax:=max G H }=U:=⟨_,rfl⟩;have bU:=fQ (show MRef C U T from by rw[<-au,<-av];exact(B.out.eXl 14 (.int .i64 (max (G:Int) (H:Int))) (y:={ x with d:=D+1,wcur:=o+P,wmax:=max G H }) (by simp[mCells];omega) rfl rfl rfl rfl rfl rfl rfl).below (gY _));have bV:=fQ (show MK C x U w T from by rw[<-au,<-av];exact(O.out.eXl 14 _ (y:={ x with d:=D+1,wcur:=o+P,wmax:=max G H }) rfl rfl rfl).below (gY _));have bW:=fQ (show UR T (.slice X m Y) (lowL g.inn a)from by rw[<-au];exact(bQ.out.heap (by simp[World.setCell]) (fun k Z _=>Aw _ _ _ _ (fun e=>ao.out k Z (.inl e)))).below (gY _) (Aj _));have aN:=fQ (show Blk T I 43 #[.slice X0 q.sig.inn.length d0,.slice X1 q.sig.out.length d1,.int .i64 (P:Int),.slice X3 q.params.length d3,.slice X4 q.code.length d4]from by rw[<-au];exact(bT.out.setCell (p:=⟨C.mb,14,none⟩) _ bN).drew)
   rw[au];have aw:=fQ av.symm;have aO:=fQ (show ¬MOwn C U I from by rw[<-av];exact bg.out);have cD:=fQ (show ∀ k,(Value.slice X m Y).ownBlock=some k->¬MOwn C U k from by rw[<-av];exact ao.out);clear au av B O bQ bT m14 m15 f14 t bg ao;obtain⟨k0,k1,k2,k3,k4⟩:=gJ aN.out;have yg:=aN.out.lt
   have CR:=fQ (show Calls fZ 66 #[.pointer (some ⟨C.mb,0,none⟩),.agg #[.slice X0 q.sig.inn.length d0,.slice X1 q.sig.out.length d1,.int .i64 (P:Int),.slice X3 q.params.length d3,.slice X4 q.code.length d4],.slice X m Y] T (RunR C U R.s R.e R.cnt R.wds R.out T)from by
    have an:=HP.out.row _ _ HQ.out;have himp:=(mW HP.out.env).2
    have cE:g=q.sig:=by
     have h1:=an.2;rw[show C.p.env.imports.toNat+K=n by have:=V.out;have:=cz.out;omega,cf.out]at h1;injection h1
    refine dZu C U q _ _ (lowL g.inn a) T R HP.out an.1 (by rw[<-bf.out];exact cC.out) cj.out bU.out ?_ ?_ ?_ ?_ bW.out cD.out ?_ aE.out (aE.out _ _ HQ.out) ?_
    ·rw[aw.out];show Ev C.p C.lost (D+1) q 0 (initV q (lowL g.inn a)) x.s R;rw[<-aq.out];exact bc.out
    ·rw[aw.out];have tb:=J.out;have h1:=bP.out;have h2:=bj.out;have h3:=aM.out;have h4:=aq.out;exact⟨tb.cnt,tb.log,(by show o+P<=max G H;omega),(by show max G H<=1000000;omega),(by show o+P<=4096*(D+1);have:=tb.wcr;omega),(by show D+1<=16;omega)⟩
    ·rw[aw.out];exact cm.out
    ·rw[aw.out];exact aY.out
    ·rw[bx.out,an.1.par,<-cE,<-bw.out,aX.out]
    ·rw[aw.out];show bQv C q (D+1);rw[<-aq.out];exact aZ.out (by rw[aq.out];omega) q (Ak HQ.out))
   go_wp2_with fail;refine CR.out.mono ?_;rintro en w7 ⟨v7,v,rfl,M7,K7,bX,bY,bl,bm,bn,bo,⟨A7,n7,c7,rfl⟩,bZ⟩;have ax:=fQ M7;have b2:=fQ (bV.out.trans K7);have b3:=fQ (K7.blk aN.out aO.out);have cP:=fQ (K7.keep I aN.out.lt aO.out).2;have aU:=fQ bZ
   have aV:Hid (v.s=R.s/\v.e=R.e/\v.cnt=x.cnt+R.cnt/\v.wmax=max (max G H) (o+P+R.wds)/\v.wcur=o+P/\v.d=D+1):=by
    rw[aw.out]at bl bm bn bo;exact⟨bX,bY,bl,bm,bn,bo⟩
   have cF:=K7.size;clear M7 K7 bX bY bl bm bn bo bZ bU bW aN k0 k1 k2 k3 k4 yg CR;have m15:w7.cell? ⟨C.mb,15,none⟩=some (.int .i64 H):=(by rw[ax.out.cell 15,<-aM.out,<-aV.out.2.2.2.2.1];rfl);have f15:=frz ax.out.blk 15;have t:=ax.out.blk.lt;have yg:=b3.out.lt;have S:w7.cell? ⟨I,2,none⟩=some (.int .i64 P):=(gJ b3.out).2.2.1;have wS:IntKind.i64.wrap ((H:Int) - (P:Int))=(o:Int):=(by rw[Av _ (by have:=aM.out;omega)];have:=aM.out;omega);go_upto_region 15 with fail;go_region;go_upto_region 16 with fail;obtain⟨w8,aP⟩:=fX ((w7.setCell ⟨C.mb,15,none⟩ (.int .i64 (o:Int))).drew);have ay:=fQ (show MRef C { v with wcur:=o } w8 from by rw[<-aP];exact(ax.out.eXl 15 (.int .i64 (o:Int)) (y:={ v with wcur:=o }) (by simp[mCells]) rfl rfl rfl rfl rfl rfl rfl).below (gY _));have b4:=fQ (show MK C x { v with wcur:=o } w w8 from by rw[<-aP];exact(b2.out.eXl 15 _ (y:={ v with wcur:=o }) rfl rfl rfl).below (gY _));have bp:=fQ (fun h:R.e=0=>show w8.ownsRow T.heap.size 50 1 (.slice A7 n7 c7) R.out.length (u64V R.out)from by rw[<-aP];exact oY (iQ (aU.out h).1 (own_ne (aU.out h).1 ax.out.blk (by decide))) (gY _) (Aj _));rw[aP];have m16:w8.cell? ⟨C.mb,16,none⟩=some (.int .i64 ((D+1:Nat):Int)):=(by rw[ay.out.cell 16,<-aV.out.2.2.2.2.2];rfl);have f16:=frz ay.out.blk 16;clear aP m15 f15 t yg S wS;have t:=ay.out.blk.lt;have wE:IntKind.i64.wrap (((D+1:Nat):Int) - 1)=(D:Int):=(by rw[Av _ (by omega)];omega)
   have ad:=fQ (show RunR C x R.s R.e R.cnt (q.places.toNat+R.wds) R.out w (.returned (.slice A7 n7 c7)) (w8.setCell ⟨C.mb,16,none⟩ (.int .i64 (D:Int)))from by
    obtain⟨a1,a2,a3,a4,a5,a6⟩:=aV.out;have h1:=bP.out;have h2:=bj.out;have h3:=aM.out;have h4:=aq.out;have h5:q.places.toNat=P:=(by rw[bf.out];exact Int.toNat_natCast P);have hle:=J.out.wle;refine⟨_,{ v with wcur:=o,d:=D },rfl,ay.out.eXl 16 (.int .i64 (D:Int)) (y:={ v with wcur:=o,d:=D }) (by simp[mCells]) rfl rfl rfl rfl rfl rfl rfl,b4.out.eXl 16 _ (y:={ v with wcur:=o,d:=D }) rfl rfl rfl,a1,a2,a3,?_,h1.symm,h4.symm,⟨_,_,_,rfl⟩,fun h0=>⟨?_,(aU.out h0).2⟩⟩
    ·show v.wmax=_;rw[a4,h5,h1,h2];omega
    ·exact lZ (iQ (bp.out h0) (own_ne (bp.out h0) ay.out.blk (by decide))) bV.out.size)
   clear ay b4 bp ax b2 aU aV;go_wp2;go_ret;exact ad.out
theorem dQf(C:MaC)(x:MaS)(w:Af)(b:Nat)(c cb d f:Ag)(a:List Nat)(s2:StD)(e2:Int)(dc wd:Nat)(l:List Nat)(ha:UR w f a)(ag:b<=1000)
  (g:∀ w',Ah w.heap.size w w'->Calls fZ 36 #[.pointer (some ⟨C.mb,0,none⟩),.int .i64 b,f] w' (RunR C x s2 e2 dc wd l w')) :
  Calls fZ 95 #[.pointer (some ⟨C.mb,0,none⟩),.agg #[.int .i64 16,.int .u64 (b:Int),c,cb,d],f] w (RunR C x s2 e2 dc wd l w):=by
 obtain⟨Aa,cap,rfl⟩:=ha.shape;obtain⟨m,k⟩:=fX a.length;rw[k]at g ⊢;have h:=(Ac w.heap.size w).alloc (Aj _) (.cells #[.int .i64 16,.int .u64 (b:Int),c,cb,d] 52);have n:=fQ (MK.eXn (C:=C) (x:=x) h);have i:=fQ (g _ h);have j:=Blk.new w 52 #[.int .i64 16,.int .u64 (b:Int),c,cb,d];have r:=fQ (show fJ 16 = .tuple #[.int .i64 0,.int .i64 0,.bool false,.bool false]from by rw[fJ,show acc 16=none from by decide +kernel]);have wI:IntKind.i64.wrap (b:Int)=(b:Int):=Av _ (by omega);clear h ha g k;go_in;go_wp2_with fail;refine(fY _ _).mono ?_;rintro e wX ⟨rfl,o⟩;rw[r.out];rw[o]at j n i;obtain⟨k0,k1,k2,k3,k4⟩:=gJ j;have yB:=j.lt;clear o;go_wp2_with fail;refine i.out.mono ?_;rintro s w9 p;have q:=fQ (p.from n.out);clear p i
 obtain⟨v,t⟩:∃ v,s = .returned v:=by
  obtain⟨v,_,e,_⟩:=q.out;exact⟨v,e⟩
 subst t;go_wp2;go_ret;exact q.out
theorem dZm{C:MaC}{x:MaS}{c:CodeD}{e:Ending}{s2:StD}{wd:Nat}(h:mV C x c a w e w')(hd:Did C.p C.lost x.d c k a x.s s2 e2 dc wd l)(g:c.op≠16)(h1:c.op≠273)(h2:c.op≠274)(i:c.op≠275)(j:c.op≠276)(m:c.op≠277)
  (o:StOk C.p.env x.s) (ha:All64 a) (hn:c.n<18446744073709551616) (hle:x.wcur<=x.wmax):RunR C x s2 e2 dc wd l w e w':=by
 obtain⟨v,x',rfl,q,r,b,ho,hs⟩:=h;obtain⟨rfl,rfl,rfl,rfl,t⟩:=hd.eJb g h1 h2 i j m;refine⟨v,x',rfl,q,r,by rw[b],by rw[b],by rw[b];rfl,by rw[b];show x.wmax=max x.wmax (x.wcur+0);omega,by rw[b],by rw[b],hs,fun f=>?_⟩;rw[t f];exact⟨ho f,bXw (bQt o ha hn).2⟩
theorem bXs(C:MaC)(d:Nat)(hp:ProgP C.p)(I:EnvV C.w0 (.agg #[C.a,.int .i64 C.p.env.imports,C.b,C.d,.bool C.p.env.mem]) C.p.env)(hF:Structs 5 RowC C.w0 C.f C.p.fns)(u:∀ (i:Nat) q,C.p.fns[i]? = Ay q->∀ c∈q.code,c.n<18446744073709551616)
  (h:d<16->∀ r∈C.p.fns,bQv C r (d+1)):∀ r∈C.p.fns,bQv C r d:=by
 intro r J x1 w1 c k v cb w m a s2 e2 dc wd l hd he hc x y z B D E o hb ha K s F t;obtain⟨i,hi⟩:=List.mem_iff_getElem?.1 J;have L:=hp.row i r hi;have G:=L.1.code c hc;rw[<-hd]at t;by_cases j:c.op=16
 ·obtain⟨M,N,hf,_⟩:=lQ G;have O:=hf;rw[j]at hf;have hf:(C.p.env.sigs[c.n]?).map (fun g=>(g.inn,g.out))=some (M,N):=hf
  cases hg:C.p.env.sigs[c.n]? with
  | none=>rw[hg]at hf;cases hf
  | some g=>
   rw[hg]at hf;cases hf;have P:inK C.p.env r.sig c=g.inn:=(by unfold inK;rw[O];rfl);rw[P]at s F;have Q:=t.eJa j hg F;have R:c.n<=1000:=(by have h1:=(List.getElem?_eq_some_iff.1 hg).1;have h2:=(mW hp.env).1;omega);rw[j];exact dQf C x1 w1 c.n v cb w m a s2 e2 dc wd l ha R (fun w' H=>bKb C x1 c.n m a g w' s2 e2 dc wd l hp I hF (E.below H) o he hb (ha.below H (Aj _)) hg s u (by rw[hd];exact h) Q)
 ·exact(cVe C x1 w1 r c v cb w m a E ha K o G s j x y z B D).mono fun en w' q=>dZm q t j x y z B D o (by obtain⟨A,c',e,_,_,_,_,S⟩:=ha;exact S) (u i r hi c hc) hb.wle
theorem dQg(C:MaC)(hp:ProgP C.p)(e:EnvV C.w0 (.agg #[C.a,.int .i64 C.p.env.imports,C.b,C.d,.bool C.p.env.mem]) C.p.env)(hF:Structs 5 RowC C.w0 C.f C.p.fns)(g:∀ (i:Nat) q,C.p.fns[i]? = Ay q->∀ c∈q.code,c.n<18446744073709551616):
  ∀ (m d:Nat),16<=d+m->∀ r∈C.p.fns,bQv C r d:=by
 intro m
 induction m with
 | zero=>exact fun d h=>bXs C d hp e hF g (fun j=>absurd j (by omega))
 | succ m k=>exact fun d h=>bXs C d hp e hF g (fun _=>k (d+1) (by omega))
theorem dQh(C:MaC)(x:MaS)(n:Nat)(j:Ag)(a:List Nat)(g:SigD)(w:Af)(s2:StD)(e2:Int)(dc wd:Nat)(l:List Nat)(hp:ProgP C.p)(k:EnvV C.w0 (.agg #[C.a,.int .i64 C.p.env.imports,C.b,C.d,.bool C.p.env.mem]) C.p.env)(hF:Structs 5 RowC C.w0 C.f C.p.fns)
  (h:MRef C x w) (o:StOk C.p.env x.s) (he:x.e=0) (hb:MRunB x dc) (ha:UR w j a) (hg:C.p.env.sigs[n]? = some g) (r:a.length=g.inn.length) (m:∀ (i:Nat) q,C.p.fns[i]? = Ay q->∀ c∈q.code,c.n<18446744073709551616)
  (t:CDid C.p C.lost x.d n g a x.s s2 e2 dc wd l):Calls fZ 36 #[.pointer (some ⟨C.mb,0,none⟩),.int .i64 n,j] w (RunR C x s2 e2 dc wd l w):=
 bKb C x n j a g w s2 e2 dc wd l hp k hF h o he hb ha hg r m (fun _=>dQg C hp k hF m 16 _ (by omega)) t
theorem aKt:∀ (ts:List Int) (l:List Nat),(lowL ts l).length<=l.length
 | [],l=>by cases l <;> exact AX _
 | t :: ts,[]=>AX _
 | t :: ts,x :: l=>by simp only[lowL,List.length_cons];have:=aKt ts l;omega
theorem cQr{p:RowsD}{r:RowD}{V:List Nat}{s:StD}{R:ResD}(h:Ev p lost d r k V s R)(a:R.e≠0):R.out = []:=by
 induction h with
 | ret hc ha=>exact absurd rfl a
 | trap hc ha=>rfl
 | go hc ha hn b=>exact b a
 | vals hc ha hn b=>exact b a
 | call hc ha hd hq hg h1 he h2 ih1 ih2=>exact ih2 a
 | callT hc ha hd hq hg h1 he ih1=>rfl
 | deep hc ha hd=>rfl
def ArgP(p:RowsD)(n:Int)(args:List Nat):Prop:=0<=n/\n<p.env.sigs.length/\∀ g,p.env.sigs[n.toNat]? = some g->dVd g.inn args
inductive WithD (p:RowsD) (s:RawS) (n:Int) (args:List Nat) (lost:Nat):List Nat->RawS->Int->Prop
 | form (h:¬(ProgP p/\FitP p.env s)):WithD p s n args lost [] s 6
 | arg (hp:ProgP p) (hf:FitP p.env s) (ha:¬ArgP p n args):WithD p s n args lost [] s 1
 | run {g:SigD} {sd s2:StD} {e2:Int} {dc wd:Nat} {l:List Nat} (hp:ProgP p) (hf:FitP p.env s) (ha:ArgP p n args) (hs:RawS.of sd=s) (hg:p.env.sigs[n.toNat]? = some g) (hd:CDid p lost 0 n.toNat g args sd s2 e2 dc wd l):WithD p s n args lost (if e2=0 then l else[]) (RawS.of s2) e2
def aJs(p:RowsD)(s:RawS)(n:Int)(args:List Nat)(lost:Nat)(w:Af)(a:Ending)(w':Af):Prop:=
 ∃ (out:List Nat) (s':RawS) (e:Int) (v vs:Ag),WithD p s n args lost out s' e/\a = .returned (.tuple #[v,vs,.int .i64 e])/\UR w' v out/\StV w' vs s'/\Ah w.heap.size w w'
def stD(s:RawS):StD:=⟨s.mem,s.most,s.globals,s.fuel.toNat,s.input,s.log⟩
theorem dVq{ks:List Int}{m:Bool}{s:RawS}(h:HoldsP ks m s):RawS.of (stD s)=s:=by
 have:=h.f0;show RawS.mk s.mem s.most s.globals ((s.fuel.toNat:Nat):Int) s.input s.log=s;rw[Int.toNat_of_nonneg this]
theorem dVr{e:EnvD}{s:RawS}(h:HoldsP e.globals e.mem s)(h1:AllB s.mem)(h2:All64 s.globals)(a:All64 s.input)(b:All64 s.log):StOk e (stD s):=
 ⟨h1,h.le,h.mx,h.gl,h2,b,a,(by show s.input.length<=_;have:=h.il;omega),(by show s.fuel.toNat<=_;have:=h.f1;omega)⟩
theorem cVt{p:RowsD}(h:Structs 5 RowC w v p.fns):∀ (i:Nat) q,p.fns[i]? = Ay q->∀ c∈q.code,c.n<18446744073709551616:=by
 intro i q hq c hc;obtain⟨b,o,p',q',r,s,_,_,_,_,_,_,_,_,_,_,a⟩:=aVy h hq;obtain⟨j,d⟩:=List.mem_iff_getElem?.1 hc;obtain⟨A,c',rfl,_⟩:=a.len;obtain⟨_,_,_,_,_,_,_,_,_,_,_,_,e,_⟩:=a.code d;exact e.1
theorem cVu{p:RowsD}(hp:ProgP p)(lost n:Nat){g:SigD}(a:List Nat)(s:StD)(hg:p.env.sigs[n]? = some g):∃ s2 e2 dc wd l,CDid p lost 0 n g a s s2 e2 dc wd l:=by
 by_cases hi:(n:Int)<p.env.imports
 ·exact⟨_,_,_,_,_,.host hi⟩
 ·have h1:=(List.getElem?_eq_some_iff.1 hg).1;have h2:=mW hp.env;have h3:=hp.len;obtain⟨q,hq⟩:∃ q,p.fns[n - p.env.imports.toNat]? = Ay q:=⟨_,Aq (by omega)⟩;have hc:=(hp.row _ q hq).1;obtain⟨R,b⟩:=Ev.some hp lost hc (0+1) 0 (initV q (lowL g.inn a)) s (by have:=hc.n1;omega);exact⟨_,_,_,_,_,.call hi (by omega) hq b⟩
theorem bWd{p:RowsD}(hp:ProgP p){g:SigD}{s s2:StD}{wd:Nat}(h:CDid p lost d n g a s s2 e2 dc wd l)(ha:a.length<=8):dc<=4098*s.fuel+1/\s2.log.length<=s.log.length+9*(dc+1)/\l.length<=s.input.length+8:=by
 cases h with
 | host hi=>
  have c:(lowL g.inn a).length<=8:=Ad (aKt _ _) ha;have h1:=bZa (n:=n) (outs:=g.out) (s:=s) c;refine⟨by omega,by omega,?_⟩;unfold hostV
  split
  ·rename_i h2;show(lowL g.out (s.input.take g.out.length)).length<=_;have:=aKt g.out (s.input.take g.out.length);rw[AJ]at this;omega
  ·exact AX _
 | deep hi hd=>exact⟨by omega,by omega,AX _⟩
 | @call q R hi hd hq h1=>
  have hc:=(hp.row _ q hq).1;refine⟨h1.eJd hp hc,?_,?_⟩
  ·have:=h1.log hp hc;omega
  ·by_cases b:R.e=0
   ·have h2:=h1.eZg hc b;have h3:=(aJo hc.sig).2;omega
   ·rw[cQr h1 b];exact AX _
theorem dZw{p:RowsD}(hp:ProgP p)(b:∀ (i:Nat) q,p.fns[i]? = Ay q->∀ c∈q.code,c.n<18446744073709551616){g:SigD}{s s2:StD}{wd:Nat}(h:CDid p lost d n g a s s2 e2 dc wd l)(hs:StOk p.env s)(ha:All64 a)(hn:n<18446744073709551616):StOk p.env s2:=by
 cases h with
 | host hi=>exact(aJm hs (rX _ _ ha) hn).1
 | deep hi hd=>exact hs
 | call hi hd hq h1=>exact(h1.ok b (b _ _ hq) hs (xV _ (rX _ _ ha))).1
theorem rY(g:Array Ag)(W:Af)(h:Nat)(a b c d e f o x:Ag)(h1:g.getD 10 undef=o)(h2:g.getD 11 undef = .pointer (some ⟨h,0,none⟩))(i:g.getD 12 undef=x)(k:Blk W h 33 #[a,b,c,d,e,f]):
  (results Tryz.f16 g).run fZ W = .ok (.tuple #[o,.agg #[a,b,c,d,e,f],x]) W:=by
 obtain⟨j,l,m,n,p,q⟩:=kJ k;simp only[Array.getD_eq_getD_getElem?]at h1 h2 i;simp[results,results16,go_sem,h1,h2,i,j,l,m,n,p,q]
theorem bWu{e:EnvD}(h:envOk e=true):e.globals.length<=100000:=by
 unfold envOk kK at h;simp only[Bool.and_eq_true,decide_eq_true_eq]at h;have:=h.2.1.1;omega
theorem aKu(w:Af):UR w (.slice none 0 0) []:=⟨none,0,rfl,Src.nil _ _,Aj _,fun _=>rfl,⟨AX _,by omega⟩,qQ⟩
theorem bWe{a:Act}{o:Oper}{w:Af}{po vo:Operand}{e:TypeId}{x0 x1 x2 x3 x4 x5:Ag}{A B C D:Option Addr}{n1 n2 b c c1 d f h:Nat}{u v:Int}(ho:o.op = .store 33 po vo)(hp:a.eval po = .pointer (some ⟨g,0,none⟩))
  (i:a.eval vo = .agg #[.slice A n1 c1,.int .i64 u,.slice B n2 d,.int .i64 v,.slice C b f,.slice D c h]) (k:Blk w g e #[x0,x1,x2,x3,x4,x5]) :
  (execOp a.eval o).run fZ w = .ok .skip ((((((w.setCell ⟨g,0,none⟩ (.slice A n1 c1)).setCell ⟨g,1,none⟩ (.int .i64 u)).setCell ⟨g,2,none⟩ (.slice B n2 d)).setCell ⟨g,3,none⟩ (.int .i64 v)).setCell ⟨g,4,none⟩ (.slice C b f)).setCell ⟨g,5,none⟩ (.slice D c h)):=by
 obtain⟨z0,z1,z2,z3,z4,z5⟩:=kJ k;have f0:=frz k 0;have f1:=frz k 1;have f2:=frz k 2;have f3:=frz k 3;have f4:=frz k 4;have f5:=frz k 5;have y:=k.lt;clear k;unfold execOp;rw[ho];simp only[hp,i];clear hp i ho;go_simp
theorem tQ{ops:Array Oper}{o:Oper}{a:Act}{w:Af}{K:Act->Af->Prop}{Q:Exit->Act->Af->Prop}{E:Prop}(j:o.guard=none){po vo:Operand}{e:TypeId}{x0 x1 x2 x3 x4 x5:Ag}{A B C D:Option Addr}{n1 n2 b c c1 d f i:Nat}{u v:Int}(ho:o.op = .store 33 po vo)(hp:a.eval po = .pointer (some ⟨g,0,none⟩))
  (l:a.eval vo = .agg #[.slice A n1 c1,.int .i64 u,.slice B n2 d,.int .i64 v,.slice C b f,.slice D c i]) (k:Blk w g e #[x0,x1,x2,x3,x4,x5])
  (h:K (a.put o.dst undef) ((((((w.setCell ⟨g,0,none⟩ (.slice A n1 c1)).setCell ⟨g,1,none⟩ (.int .i64 u)).setCell ⟨g,2,none⟩ (.slice B n2 d)).setCell ⟨g,3,none⟩ (.int .i64 v)).setCell ⟨g,4,none⟩ (.slice C b f)).setCell ⟨g,5,none⟩ (.slice D c i))) :
  if Region.wanted o (yielded ops a.tmps)=true then Oper.wp fZ o a w K Q else E:=by
 have m:Region.wanted o (yielded ops a.tmps)=true:=(by simp[Region.wanted,j]);rw[if_pos m];have he:=bWe ho hp l k;unfold Oper.wp;rw[he];exact h
theorem bZh{a:Act}{o:Oper}{w:Af}{o0 o1 o2:Operand}(ho:o.op = .build 89 #[(0,o0),(1,o1),(2,o2)]){y0 y1 y2 y3 y4 y5:Ag}{lo:Int}(b:a.eval o0 = .agg #[x0,x1,x2,x3,x4,x5])(h1:a.eval o1 = .agg #[y0,y1,y2,y3,y4,y5])(h2:a.eval o2 = .int .i64 lo):
  (execOp a.eval o).run fZ w = .ok (.value (.agg #[x0,x1,x2,x3,x4,x5,y0,y1,y2,y3,y4,y5,.int .i64 lo,.int .i64 0,.int .i64 0,.int .i64 0,.int .i64 0,.int .i64 0])) w:=by
 unfold execOp;rw[ho];simp only[List.map_toArray,List.map_cons,List.map_nil,b,h1,h2]
 kernel_rfl
theorem aWb{l:List Bool}(h:Bools w v l):∃ A c,v = .slice A l.length c:=by
 obtain⟨A,c,e,_⟩:=h;exact⟨A,c,e⟩
structure WiB (w:Af) (p0 p1 p2 p3 p4 p5 s0 s1 s2 s3 s4 s5:Ag) (wr:Af):Prop where
 kp:Blk wr w.heap.size 29 #[p0,p1,p2,p3,p4,p5]
 ks:Blk wr (w.heap.size+1) 33 #[s0,s1,s2,s3,s4,s5]
 kz:Blk wr (w.heap.size+1+1) 33 #[.slice none 0 0,.int .i64 0,.slice none 0 0,.int .i64 0,.slice none 0 0,.slice none 0 0]
 b:Ah w.heap.size w wr
theorem WiB.below{w:Af}{p0 p1 p2 p3 p4 p5 s0 s1 s2 s3 s4 s5:Ag}{wr w':Af}(h:WiB w p0 p1 p2 p3 p4 p5 s0 s1 s2 s3 s4 s5 wr)(hb:Ah wr.heap.size wr w'):WiB w p0 p1 p2 p3 p4 p5 s0 s1 s2 s3 s4 s5 w':=
 ⟨h.kp.below hb h.kp.lt,h.ks.below hb h.ks.lt,h.kz.below hb h.kz.lt,h.b.trans (hb.mono h.b.size)⟩
structure OnlyBlk (w w':Af) (g:Nat):Prop where
 os:w'.os=w.os
 tape:w'.tape=w.tape
 output:w'.output=w.output
 size:w'.heap.size=w.heap.size
 other:∀ k,k≠g->w'.heap[k]? = w.heap[k]?
theorem OnlyBlk.refl(w:Af)(g:Nat):OnlyBlk w w g:=⟨rfl,rfl,rfl,rfl,fun _ _=>rfl⟩
theorem OnlyBlk.set(h:OnlyBlk w w' g)(i:Nat)(u:Ag):OnlyBlk w (w'.setCell ⟨g,i,none⟩ u) g:=
 ⟨h.os,h.tape,h.output,(by rw[rW];exact h.size),fun k a=>(Aw _ _ _ _ a).trans (h.other k a)⟩
theorem OnlyBlk.below(h:OnlyBlk w w' g)(hb:Ah B w0 w)(hg:B<=g):Ah B w0 w':=
 ⟨h.os.trans hb.os,h.tape.trans hb.tape,h.output.trans hb.output,by rw[h.size];exact hb.size,fun k a=>(h.other k (by omega)).trans (hb.block k a)⟩
theorem OnlyBlk.own{a:Nat}{b:List Ag}(h:OnlyBlk w w' g)(k:w.ownsRow base e a v n b)(hg:∀ j,v.ownBlock=some j->j≠g):w'.ownsRow base e a v n b:=yX k (fun j c _=>h.other j (hg j c))
theorem aKv{a:Nat}{b:List Ag}(k:w.ownsRow base e a v n b)(hg:g<base):∀ j,v.ownBlock=some j->j≠g:=fun j c=>by have:=(k.lt j c).1;omega
theorem xQ{s:RawS}(h:StV w v s):AllB s.mem/\All64 s.globals/\All64 s.input/\All64 s.log:=by
 obtain⟨a,g,i,l,_,⟨_,_,_,_,_,_,_,h1⟩,⟨_,_,_,_,_,_,_,h2⟩,⟨_,_,_,_,_,_,_,b⟩,⟨_,_,_,_,_,_,_,c⟩⟩:=h;exact⟨h1,h2,b,c⟩
theorem bKm{a:Act}{o:Oper}{w:Af}{po vo:Operand}{e:TypeId}{x0 x1 x2 x3 x4 x5 c d f h i j k l m n p q:Ag}{A0 r s t u v x z:Option Addr}{A n2 B C D E F G H I J K L M N O:Nat}{P Q R S:Int}{T:Bool}(ho:o.op = .store 89 po vo)(hp:a.eval po = .pointer (some ⟨g,0,none⟩))
  (U:a.eval vo = .agg #[.slice A0 A H,.int .i64 P,.slice r n2 I,.slice s B J,.bool T,.slice t C K,.slice u D L,.int .i64 Q,.slice v E M,.int .i64 R,.slice x F N,.slice z G O,.int .i64 S,.int .i64 0,.int .i64 0,.int .i64 0,.int .i64 0,.int .i64 0]) (b:Blk w g e #[x0,x1,x2,x3,x4,x5,c,d,f,h,i,j,k,l,m,n,p,q]):(execOp a.eval o).run fZ w = .ok .skip ((((((((((((((((((w.setCell ⟨g,0,none⟩ (.slice A0 A H)).setCell ⟨g,1,none⟩ (.int .i64 P)).setCell ⟨g,2,none⟩ (.slice r n2 I)).setCell ⟨g,3,none⟩ (.slice s B J)).setCell ⟨g,4,none⟩ (.bool T)).setCell ⟨g,5,none⟩ (.slice t C K)).setCell ⟨g,6,none⟩ (.slice u D L)).setCell ⟨g,7,none⟩ (.int .i64 Q)).setCell ⟨g,8,none⟩ (.slice v E M)).setCell ⟨g,9,none⟩ (.int .i64 R)).setCell ⟨g,10,none⟩ (.slice x F N)).setCell ⟨g,11,none⟩ (.slice z G O)).setCell ⟨g,12,none⟩ (.int .i64 S)).setCell ⟨g,13,none⟩ (.int .i64 0)).setCell ⟨g,14,none⟩ (.int .i64 0)).setCell ⟨g,15,none⟩ (.int .i64 0)).setCell ⟨g,16,none⟩ (.int .i64 0)).setCell ⟨g,17,none⟩ (.int .i64 0)):=by
 have z0:w.cell? ⟨g,0,none⟩=some x0:=(by simpa using b.cell 0);have f0:=frz b 0;have z1:w.cell? ⟨g,1,none⟩=some x1:=(by simpa using b.cell 1);have f1:=frz b 1;have z2:w.cell? ⟨g,2,none⟩=some x2:=(by simpa using b.cell 2);have f2:=frz b 2;have z3:w.cell? ⟨g,3,none⟩=some x3:=(by simpa using b.cell 3);have f3:=frz b 3;have z4:w.cell? ⟨g,4,none⟩=some x4:=(by simpa using b.cell 4);have f4:=frz b 4;have z5:w.cell? ⟨g,5,none⟩=some x5:=(by simpa using b.cell 5);have f5:=frz b 5;have z6:w.cell? ⟨g,6,none⟩=some c:=(by simpa using b.cell 6);have f6:=frz b 6;have z7:w.cell? ⟨g,7,none⟩=some d:=(by simpa using b.cell 7);have f7:=frz b 7;have z8:w.cell? ⟨g,8,none⟩=some f:=(by simpa using b.cell 8);have f8:=frz b 8;have z9:w.cell? ⟨g,9,none⟩=some h:=(by simpa using b.cell 9);have f9:=frz b 9;have au:w.cell? ⟨g,10,none⟩=some i:=(by simpa using b.cell 10);have f10:=frz b 10;have av:w.cell? ⟨g,11,none⟩=some j:=(by simpa using b.cell 11);have f11:=frz b 11;have z12:w.cell? ⟨g,12,none⟩=some k:=(by simpa using b.cell 12);have f12:=frz b 12;have aw:w.cell? ⟨g,13,none⟩=some l:=(by simpa using b.cell 13);have f13:=frz b 13;have ax:w.cell? ⟨g,14,none⟩=some m:=(by simpa using b.cell 14);have f14:=frz b 14;have ay:w.cell? ⟨g,15,none⟩=some n:=(by simpa using b.cell 15);have f15:=frz b 15;have az:w.cell? ⟨g,16,none⟩=some p:=(by simpa using b.cell 16);have f16:=frz b 16;have aA:w.cell? ⟨g,17,none⟩=some q:=(by simpa using b.cell 17);have f17:=frz b 17;have y:=b.lt;clear b;unfold execOp;rw[ho];simp only[hp,U];clear hp U ho;go_simp
theorem bKn{ops:Array Oper}{o:Oper}{a:Act}{w:Af}{K:Act->Af->Prop}{Q:Exit->Act->Af->Prop}{E:Prop}(J:o.guard=none){po vo:Operand}{e:TypeId}{x0 x1 x2 x3 x4 x5 L M N O P R S T U V W X:Ag}{A0 b c d f i j k:Option Addr}{l n2 m n p q r s t u v x y z A B:Nat}{C D F G:Int}{H:Bool}(ho:o.op = .store 89 po vo)(hp:a.eval po = .pointer (some ⟨g,0,none⟩))
  (Y:a.eval vo = .agg #[.slice A0 l t,.int .i64 C,.slice b n2 u,.slice c m v,.bool H,.slice d n x,.slice f p y,.int .i64 D,.slice i q z,.int .i64 F,.slice j r A,.slice k s B,.int .i64 G,.int .i64 0,.int .i64 0,.int .i64 0,.int .i64 0,.int .i64 0]) (I:Blk w g e #[x0,x1,x2,x3,x4,x5,L,M,N,O,P,R,S,T,U,V,W,X]) (h:∀ w',Blk w' g e #[.slice A0 l t,.int .i64 C,.slice b n2 u,.slice c m v,.bool H,.slice d n x,.slice f p y,.int .i64 D,.slice i q z,.int .i64 F,.slice j r A,.slice k s B,.int .i64 G,.int .i64 0,.int .i64 0,.int .i64 0,.int .i64 0,.int .i64 0]->OnlyBlk w w' g->K (a.put o.dst undef) w'):if Region.wanted o (yielded ops a.tmps)=true then Oper.wp fZ o a w K Q else E:=by
 have Z:Region.wanted o (yielded ops a.tmps)=true:=(by simp[Region.wanted,J]);rw[if_pos Z];have he:=bKm ho hp Y I;have hb:=(gQ (gQ (gQ (gQ (gQ (gQ (gQ (gQ (gQ (gQ (gQ (gQ (gQ (gQ (gQ (gQ (gQ (gQ I 0 (.slice A0 l t)) 1 (.int .i64 C)) 2 (.slice b n2 u)) 3 (.slice c m v)) 4 (.bool H)) 5 (.slice d n x)) 6 (.slice f p y)) 7 (.int .i64 D)) 8 (.slice i q z)) 9 (.int .i64 F)) 10 (.slice j r A)) 11 (.slice k s B)) 12 (.int .i64 G)) 13 (.int .i64 0)) 14 (.int .i64 0)) 15 (.int .i64 0)) 16 (.int .i64 0)) 17 (.int .i64 0));unfold Oper.wp;rw[he];exact h _ (by simpa using hb) (((((((((((((((((((OnlyBlk.refl w g).set 0 (.slice A0 l t)).set 1 (.int .i64 C)).set 2 (.slice b n2 u)).set 3 (.slice c m v)).set 4 (.bool H)).set 5 (.slice d n x)).set 6 (.slice f p y)).set 7 (.int .i64 D)).set 8 (.slice i q z)).set 9 (.int .i64 F)).set 10 (.slice j r A)).set 11 (.slice k s B)).set 12 (.int .i64 G)).set 13 (.int .i64 0)).set 14 (.int .i64 0)).set 15 (.int .i64 0)).set 16 (.int .i64 0)).set 17 (.int .i64 0))
def MkR(w:Af)(p:RowsD)(s:RawS)(lost:Nat)(p0 p2 p3 p5 s0 s2 s4 s5:Ag)(a:Ag)(wx:Af):Prop:=∃ (mb:Nat) (lv iv mv gv:Ag),a = .pointer (some ⟨mb,0,none⟩)/\MRef ⟨w,p0,p2,p3,p5,p,lost,mb,gv⟩ ⟨stD s,lv,iv,mv,0,0,0,0,0⟩ wx/\WiB w p0 (.int .i64 p.env.imports) p2 p3 (.bool p.env.mem) p5 s0 (.int .i64 s.most) s2 (.int .i64 s.fuel) s4 s5 wx/\¬MOwn ⟨w,p0,p2,p3,p5,p,lost,mb,gv⟩ ⟨stD s,lv,iv,mv,0,0,0,0,0⟩ (w.heap.size+1+1)
theorem cVv{p:RowsD}{s:RawS}{lost mb base:Nat}{s0 s2 s4 s5 lv iv mv gv:Ag}(e:WiB w p0 (.int .i64 p.env.imports) p2 p3 (.bool p.env.mem) p5 s0 (.int .i64 s.most) s2 (.int .i64 s.fuel) s4 s5 wx)(d:HoldsP p.env.globals p.env.mem s)
  (a:Blk wx mb 89 #[p0,.int .i64 p.env.imports,p2,p3,.bool p.env.mem,p5,mv,.int .i64 s.most,gv,.int .i64 s.fuel,iv,lv,.int .i64 lost,.int .i64 0,.int .i64 0,.int .i64 0,.int .i64 0,.int .i64 0])
  (o1:wx.ownsRow base 5 1 mv s.mem.length (bys s.mem)) (o2:wx.ownsRow base 50 1 gv s.globals.length (u64V s.globals)) (o3:wx.ownsRow base 50 1 iv s.input.length (u64V s.input)) (o4:wx.ownsRow base 50 1 lv s.log.length (u64V s.log))
  (f:∀ k,gv.ownBlock=some k->lv.ownBlock≠some k/\iv.ownBlock≠some k/\mv.ownBlock≠some k) (g:∀ k,lv.ownBlock=some k->iv.ownBlock≠some k/\mv.ownBlock≠some k) (hb:w.heap.size+1+1<base) (hm:w.heap.size+1+1<mb)
  (b1:AllB s.mem) (i:All64 s.globals) (j:All64 s.input) (l:All64 s.log):MkR w p s lost p0 p2 p3 p5 s0 s2 s4 s5 (.pointer (some ⟨mb,0,none⟩)) wx:=by
 have m:s.mem.length<=4096:=(by have:=d.le;have:=d.mx;omega);have ab:=d.il;have ad:=d.ll;refine⟨mb,lv,iv,mv,gv,rfl,⟨?_,?_,aYk o3 (by omega) j,lZ o2 (by show w.heap.size<=base;omega),lZ o4 (by show w.heap.size<=base;omega),e.b,(by show w.heap.size<=mb;omega),f,g,?_,?_,fun k a=>?_,fun k a=>?_,i,l⟩,e,?_⟩
 ·have hf:((s.fuel.toNat:Nat):Int)=s.fuel:=Int.toNat_of_nonneg d.f0;show Blk wx mb _ #[_,_,_,_,_,_,_,_,_,.int .i64 ((s.fuel.toNat:Nat):Int),_,_,_,_,_,_,_,_];rw[hf];exact a
 ·obtain⟨A,c,rfl,_⟩:=gZ o1;exact bKf o1 m b1
 ·exact own_ne o3 a (by decide)
 ·exact own_ne o1 a (by decide)
 ·have:=o3.lt k a;exact⟨by show w.heap.size<=k;omega,this.2⟩
 ·have:=o1.lt k a;exact⟨by show w.heap.size<=k;omega,this.2⟩
 ·rintro(h | h | h | h | h)
  ·have h:w.heap.size+1+1=mb:=h;omega
  ·have:=(o2.lt _ h).1;omega
  ·have:=(o4.lt _ h).1;omega
  ·have:=(o3.lt _ h).1;omega
  ·have:=(o1.lt _ h).1;omega
theorem dVs{C:MaC}{x:MaS}(h:MRef C x w)(hg:x.s.globals.length<=100000)(hl:x.s.log.length<=1000000000):StV w (.agg #[x.mv,.int .i64 x.s.most,C.gv,.int .i64 x.s.fuel,x.iv,x.lv]) (RawS.of x.s):=
 ⟨_,_,_,_,rfl,h.mem,aYk h.glo (by omega) h.g64,h.inp,aYk h.log (by omega) h.l64⟩
theorem cVw{C:MaC}{x:MaS}(h:MRef C x w)(ho:OnlyBlk w w' g)(hg:¬MOwn C x g)(a:C.w0.heap.size<=g):MRef C x w':=
 h.heap (by rw[ho.size];exact Aj _) (fun k b _=>ho.other k (fun e=>hg (e ▸ b))) (ho.below h.bel a)
theorem aQt(w:Af)(g:Nat)(a b c d e f:Ag):OnlyBlk w ((((((w.setCell ⟨g,0,none⟩ a).setCell ⟨g,1,none⟩ b).setCell ⟨g,2,none⟩ c).setCell ⟨g,3,none⟩ d).setCell ⟨g,4,none⟩ e).setCell ⟨g,5,none⟩ f) g:=
 ((((((OnlyBlk.refl w g).set 0 a).set 1 b).set 2 c).set 3 d).set 4 e).set 5 f
theorem bKo{p:RowsD}{s:RawS}{n e2:Int}{args out:List Nat}{mb:Nat}{c b:Af}{gv v:Ag}{a:MaS}{s2:StD}{d f g LL:Option Addr}{mm h i ml base:Nat}{cs:Array Ag}{e:TypeId}(k:MRef ⟨w,p0,p2,p3,p5,p,lost,mb,gv⟩ a c)(hs:a.s=s2)(l:s2.log.length<=1000000000)(hg:a.s.globals.length<=100000)
  (hz:¬MOwn ⟨w,p0,p2,p3,p5,p,lost,mb,gv⟩ a (w.heap.size+1+1)) (hk:Blk c.drew (w.heap.size+1+1) e cs) (ho:OnlyBlk c.drew b (w.heap.size+1+1)) (m:a.mv = .slice d a.s.mem.length mm/\gv = .slice f a.s.globals.length h/\a.iv = .slice g a.s.input.length i/\a.lv = .slice LL a.s.log.length ml)
  (o:WithD p s n args lost out (RawS.of s2) e2) (q:b.ownsRow base 50 1 v out.length (u64V out)) (hle:out.length<=5000) (r:All64 out) :
  aJs p s n args lost w (.returned (.tuple #[v,.agg #[.slice d a.s.mem.length mm,.int .i64 a.s.most,.slice f a.s.globals.length h,.int .i64 (a.s.fuel:Int),.slice g a.s.input.length i,.slice LL a.s.log.length ml],.int .i64 e2])) b:=by
 have h1:MRef ⟨w,p0,p2,p3,p5,p,lost,mb,gv⟩ a b:=cVw (k.below (gY _)) ho hz (by show w.heap.size<=_;omega);have h2:=dVs h1 hg (by rw[hs];exact l);obtain⟨t,u,x,y⟩:=m;have j:StV b (.agg #[a.mv,.int .i64 a.s.most,gv,.int .i64 a.s.fuel,a.iv,a.lv]) (RawS.of a.s):=h2;rw[t,u,x,y,hs]at j;rw[hs];exact⟨out,RawS.of s2,e2,_,_,o,rfl,aYk q (by omega) r,j,h1.bel⟩
theorem bXq{a:Nat}{b:List Ag}(h:w.ownsRow base e a v n b)(hg:v.ownBlock=some g):∃ cs,Blk w g e cs:=by
 rcases h.2 with⟨h1,h2⟩ | ⟨c,cap,cur,h1,h2,d,_⟩
 ·rw[h1]at hg;cases hg
 ·rw[h1]at hg;injection hg with hg;have hg:c=g:=hg;subst hg;exact⟨_,d⟩
theorem aXm{l:List Int}(h:w.ownsRow base 3 1 v n (i64s l))(hl:n<=1000000):Ints w v l:=by
 obtain⟨A,c,rfl,hc⟩:=gZ h;have e:l.length=n:=(by have:=h.1;simpa[i64s]using this);subst e
 have d:c<=9223372036854775807/\(A=none->c=0):=by
  rcases h.2 with⟨e,_⟩ | ⟨g,cap,cur,e,_,_,_,f,_⟩
  ·injection e with a e2 b;subst a;subst b;exact⟨by omega,fun _=>rfl⟩
  ·injection e with a e2 b;subst a;subst b;exact⟨by unfold maxLen at f;omega,fun e=>by cases e⟩
 exact⟨A,c,rfl,Src.eXq h,hc,d.2,by omega⟩
def CodeM(w0 w:Af)(base:Nat)(cs:List Ag)(c:CodeD):Prop:=∃ a b d,cs = [.int .i64 c.op,.int .u64 (c.n:Int),a,b,d]/\c.ok/\w.ownsRow base 3 1 a c.args.length (i64s c.args)/\w.ownsRow base 3 1 b c.outs.length (i64s c.outs)/\Ints w0 d c.to
def CodesM(w0 w:Af)(base:Nat)(v:Ag)(C:List CodeD):Prop:=∃ vs:List (List Ag),w.ownsRow base 52 5 v C.length vs.flatten/\vs.length=C.length/\∀ (i:Nat) cs c,vs[i]? = some cs->C[i]? = some c->CodeM w0 w base cs c
def RowM(w0 w:Af)(base:Nat)(cs:List Ag)(r:RowD):Prop:=RowC w0 cs r\/∃ a b p d,cs = [a,b,.int .i64 r.places,p,d]/\Ints w0 a r.sig.inn/\Ints w0 b r.sig.out/\w.ownsRow base 3 1 p r.params.length (i64s r.params)/\CodesM w0 w base d r.code
def From(w w':Af)(base:Nat):Prop:=∀ k,base<=k->k<w.heap.size->w'.heap[k]? = w.heap[k]?
theorem From.own{a:Nat}{b:List Ag}(h:From w w' base)(k:w.ownsRow base e a v n b):w'.ownsRow base e a v n b:=yX k (fun g hg c=>h g (k.lt g hg).1 c)
theorem CodeM.from{cs:List Ag}{c:CodeD}(h:CodeM w0 w base cs c)(hf:From w w' base):CodeM w0 w' base cs c:=by
 obtain⟨a,b,d,e,f,h1,h2,g⟩:=h;exact⟨a,b,d,e,f,hf.own h1,hf.own h2,g⟩
theorem CodesM.from{w0 w w':Af}{base:Nat}{v:Ag}{C:List CodeD}(h:CodesM w0 w base v C)(hf:From w w' base):CodesM w0 w' base v C:=by
 obtain⟨vs,h1,h2,a⟩:=h;exact⟨vs,hf.own h1,h2,fun i cs c q1 b=>(a i cs c q1 b).from hf⟩
theorem RowM.from{w0 w w':Af}{base:Nat}{cs:List Ag}{r:RowD}(h:RowM w0 w base cs r)(hf:From w w' base):RowM w0 w' base cs r:=by
 rcases h with h | ⟨a,b,p,d,e,h1,h2,c,f⟩
 ·exact .inl h
 ·exact .inr ⟨a,b,p,d,e,h1,h2,hf.own c,f.from hf⟩
theorem aJg(h:Ah w.heap.size w w'):From w w' base:=fun k _ a=>h.block k a
theorem aKj(h:OnlyBlk w w' g)(hg:g<base):From w w' base:=fun k hk _=>h.other k (by omega)
theorem CodesM.nil(w0 w:Af)(base:Nat):CodesM w0 w base (.slice none 0 0) []:=⟨[],World.ownsRow_nil _ _ _ _,rfl,fun i cs c h=>by simp at h⟩
theorem CodeM.grown{cs:List Ag}{c:CodeD}{r:Option Nat}(h:CodeM w0 w base cs c)(hg:w.grownBy w' r)(i:∀ g cs,Blk w g 3 cs->r≠some g):CodeM w0 w' base cs c:=by
 obtain⟨a,b,d,e,j,h1,h2,l⟩:=h
 have k:∀ {v:Ag} {n:Nat} {f:List Ag},w.ownsRow base 3 1 v n f->w'.ownsRow base 3 1 v n f:=fun ho=>yX ho (fun g m o=>hg.block g o (fun e=>by
  obtain⟨cur,hb⟩:=bXq ho m
  exact i g cur hb e.symm))
 exact⟨a,b,d,e,j,k h1,k h2,l⟩
theorem CodesM.push{w':Af}{d:Ag}{C:List CodeD}{cs:List Ag}{c:CodeD}{vs:List (List Ag)}(h1:w.ownsRow base 52 5 v C.length vs.flatten)(h2:vs.length=C.length)(h:∀ (i:Nat) cs c,vs[i]? = some cs->C[i]? = some c->CodeM w0 w base cs c)
  (hc:CodeM w0 w base cs c) (ho:w'.ownsRow base 52 5 d (C.length+1) (vs.flatten++cs)) (hg:w.grownBy w' v.ownBlock):CodesM w0 w' base d (C ++ [c]):=by
 have e:∀ g cs,Blk w g 3 cs->v.ownBlock≠some g:=fun g cs hb=>own_ne h1 hb (by decide);refine⟨vs ++ [cs],by rw[List.length_append,List.flatten_append];simpa using ho,by simp[h2],fun i u x a b=>?_⟩;by_cases hi:i<vs.length
 ·rw[AV hi]at a;rw[AV (by omega)]at b;exact(h i u x a b).grown hg e
 ·rw[AK (by omega)]at a;rw[AK (by omega)]at b
  have f:i - vs.length=0:=by
   have:=(List.getElem?_eq_some_iff.1 a).1;simp at this;omega
  rw[f]at a;rw[<-h2,f]at b;simp at a b;subst a;subst b;exact hc.grown hg e
theorem CodesM.structs{B:Nat}{C:List CodeD}(h:CodesM w0 w base v C)(hb:Ah w0.heap.size w0 w)(hl:C.length<=100000)(n:∀ c∈C,c.args.length<=1000/\c.outs.length<=1000):Structs 5 CodeC w v C:=by
 obtain⟨vs,h1,h2,k⟩:=h;obtain⟨A,c,rfl,hc⟩:=gZ h1
 have l:c<=9223372036854775807/\(A=none->c=0):=by
  rcases h1.2 with⟨e,_⟩ | ⟨g,cap,cur,e,_,_,_,o,_⟩
  ·injection e with f e2 j;subst f;subst j;exact⟨by omega,fun _=>rfl⟩
  ·injection e with f e2 j;subst f;subst j;exact⟨by unfold maxLen at o;omega,fun e=>by cases e⟩
 refine⟨A,c,vs,rfl,hc,l.2,⟨by omega,l.1⟩,h2,fun r p=>?_,fun i r y q1 m=>?_,aVr h1⟩
 ·obtain⟨i,hi,rfl⟩:=Ab p;obtain⟨a,b,d,e,_⟩:=k i _ _ (Aq hi) (Aq (by omega));rw[e];rfl
 ·obtain⟨a,b,d,e,q,s,k2,t⟩:=k i r y q1 m;have hy:=n y (Ak m);exact⟨a,b,d,e,q,aXm s (by omega),aXm k2 (by omega),t.below hb (Aj _)⟩
theorem RowM.row{cs:List Ag}{r:RowD}(h:RowM w0 w base cs r)(hb:Ah w0.heap.size w0 w)(h1:r.params.length<=1000)(h2:r.code.length<=100000)(f:∀ c∈r.code,c.args.length<=1000/\c.outs.length<=1000):RowC w cs r:=by
 rcases h with h | ⟨a,b,p,d,e,g,k2,i,j⟩
 ·exact h.below hb (Aj _)
 ·exact⟨a,b,p,d,e,g.below hb (Aj _),k2.below hb (Aj _),aXm i (by omega),j.structs (B:=0) hb h2 f⟩
theorem RowM.eXr{cs:List Ag}{r:RowD}(h:RowM w0 w base cs r):cs.length=5:=by
 rcases h with⟨_,_,_,_,e,_⟩ | ⟨_,_,_,_,e,_⟩ <;> (rw[e];rfl)
def FnsM(w0 w:Af)(base Z n:Nat)(G:Nat->RowD):Prop:=∃ (cs:Array Ag) (vs:Nat->List Ag),Blk w Z 43 cs/\n*5<=cs.size/\Z<base/\∀ i,i<n->(∀ j,j<5->cs[i*5+j]? = (vs i)[j]?)/\RowM w0 w base (vs i) (G i)
theorem FnsM.from{w0 w w':Af}{base Z n:Nat}{G:Nat->RowD}(h:FnsM w0 w base Z n G)(hf:From w w' Z):FnsM w0 w' base Z n G:=by
 obtain⟨cs,vs,h1,h2,b,a⟩:=h;exact⟨cs,vs,(hf Z (Aj _) h1.lt).trans h1,h2,b,fun i hi=>⟨(a i hi).1,(a i hi).2.from (fun k hk c=>hf k (by omega) c)⟩⟩
theorem FnsM.cell{w0 w:Af}{base Z n:Nat}{G:Nat->RowD}(h:FnsM w0 w base Z n G){i:Nat}(hi:i<n):∃ cs,RowM w0 w base cs (G i)/\∀ j,j<5->w.cell? ⟨Z,i*5+j,none⟩=cs[j]?:=by
 obtain⟨ca,vs,h1,h2,h3,a⟩:=h;exact⟨vs i,(a i hi).2,fun j b=>(h1.cell _).trans ((a i hi).1 j b)⟩
theorem FnsM.lt{w0 w:Af}{base Z n:Nat}{G:Nat->RowD}(h:FnsM w0 w base Z n G):Z<w.heap.size:=by
 obtain⟨ca,vs,h1,_⟩:=h;exact h1.lt
theorem FnsM.frz{w0 w:Af}{base Z n:Nat}{G:Nat->RowD}(h:FnsM w0 w base Z n G)(i:Nat):w.frozen? ⟨Z,i,none⟩=false:=by
 obtain⟨ca,vs,h1,_⟩:=h;exact _root_.Go.Proofs.YtabibkpfgmolkaaGreat.frz h1 i
theorem FnsM.put{G:Nat->RowD}{r:RowD}(h:FnsM w0 w base Z n G)(hk:k<n)(e:RowM w0 w base [x0,x1,x2,x3,x4] r):
  FnsM w0 (((((w.setCell ⟨Z,k*5,none⟩ x0).setCell ⟨Z,k*5+1,none⟩ x1).setCell ⟨Z,k*5+2,none⟩ x2).setCell ⟨Z,k*5+3,none⟩ x3).setCell ⟨Z,k*5+4,none⟩ x4) base Z n (fun i=>if i=k then r else G i):=by
 obtain⟨cs,vs,h1,h2,a,c⟩:=h;have hs:=gQ (gQ (gQ (gQ (gQ h1 (k*5) x0) (k*5+1) x1) (k*5+2) x2) (k*5+3) x3) (k*5+4) x4;have ho:OnlyBlk w (((((w.setCell ⟨Z,k*5,none⟩ x0).setCell ⟨Z,k*5+1,none⟩ x1).setCell ⟨Z,k*5+2,none⟩ x2).setCell ⟨Z,k*5+3,none⟩ x3).setCell ⟨Z,k*5+4,none⟩ x4) Z:=(((((OnlyBlk.refl w Z).set _ x0).set _ x1).set _ x2).set _ x3).set _ x4;refine⟨_,fun i=>if i=k then[x0,x1,x2,x3,x4]else vs i,hs,by simpa using h2,a,fun i hi=>?_⟩;by_cases d:i=k
 ·subst d;simp only[if_true];refine⟨fun j b=>?_,e.from (aKj ho a)⟩
  have hz:∀ q,q<5->i*5+q<cs.size:=fun q hq=>by omega
  match j,b with
  | 0,_=>simp[Ax];have:=hz 0 (by omega);omega
  | 1,_=>simp[Ax];have:=hz 1 (by omega);omega
  | 2,_=>simp[Ax];have:=hz 2 (by omega);omega
  | 3,_=>simp[Ax];have:=hz 3 (by omega);omega
  | 4,_=>simp[Ax];have:=hz 4 (by omega);omega
  | q+5,hq=>omega
 ·simp only[if_neg d];refine⟨fun j b=>?_,(c i hi).2.from (aKj ho a)⟩;rw[<-(c i hi).1 j b];simp only[Ax];rw[if_neg (by omega),if_neg (by omega),if_neg (by omega),if_neg (by omega),if_neg (by omega)]
theorem FnsM.structs{G:Nat->RowD}(h:FnsM w0 w base Z n G)(hb:Ah w0.heap.size w0 w)(hn:n<=1000)(hc:n<=c)(m:c<=9223372036854775807)(o:∀ i,i<n->(G i).params.length<=1000/\(G i).code.length<=100000/\∀ c∈(G i).code,c.args.length<=1000/\c.outs.length<=1000):
  Structs 5 RowC w (.slice (some ⟨Z,0,none⟩) n c) ((AQ n).map G):=by
 obtain⟨cs,vs,h1,h2,h3,a⟩:=h;have b:((AQ n).map G).length=n:=(by simp)
 have f:∀ r∈(AQ n).map vs,r.length=5:=fun r p=>by
  obtain⟨i,hi,rfl⟩:=List.mem_map.1 p;exact(a i (List.mem_range.1 hi)).2.eXr
 refine⟨some ⟨Z,0,none⟩,c,(AQ n).map vs,by rw[b],by rw[b];exact hc,(fun e=>by cases e),by rw[b];exact⟨by omega,m⟩,by simp,f,fun i r x q1 d=>?_,?_⟩
 ·have hi:i<n:=(by have:=(List.getElem?_eq_some_iff.1 d).1;simpa using this);simp[hi]at q1 d;subst q1;subst d;have:=o i hi;exact(a i hi).2.row hb this.1 this.2.1 this.2.2
 ·have g:((AQ n).map vs).flatten.length=n*5:=by
   rw[List.length_flatten]
   have:((AQ n).map vs).map List.length=List.replicate n 5:=by
    apply List.ext_getElem?;intro i;by_cases hi:i<n
    ·simp[hi,AW,(a i hi).2.eXr]
    ·simp[hi,AW]
   rw[this];simp
  rw[b];refine⟨g,fun hp=>⟨Z,0,rfl,h1.lt,fun j u k=>?_⟩⟩;have q:=(List.getElem?_eq_some_iff.1 k).1;rw[g]at q;have hi:j / 5<n:=(by omega);have s:((AQ n).map vs)[j / 5]? = some (vs (j / 5)):=(by simp[hi]);obtain⟨y,l⟩:∃ y,(vs (j / 5))[j % 5]? = some y:=⟨_,Aq (by rw[(a _ hi).2.eXr];omega)⟩;have hf:=uX f s l;rw[show j / 5*5+j % 5=j by omega,k]at hf;injection hf with hf;subst hf;rw[Nat.zero_add,h1.cell];have:=(a _ hi).1 (j % 5) (by omega);rw[show j / 5*5+j % 5=j by omega]at this;rw[this,l]
def noRow:RowD:=⟨⟨[],[]⟩,0,[],[]⟩
theorem FnsM.start{b:Nat}{vs:List (List Ag)}{L:List RowD}(h:w.ownsRow b 43 5 v n vs.flatten)(hn:1<=n)(d:∀ r∈vs,r.length=5)(ab:vs.length=n)(hL:L.length=n)(g:∀ (i:Nat) r x,vs[i]? = some r->L[i]? = some x->RowC w0 r x):
  ∃ Z c,v = .slice (some ⟨Z,0,none⟩) n c/\b<=Z/\n<=c/\c<=9223372036854775807/\Z<w.heap.size/\∀ base,Z<base->FnsM w0 w base Z n (fun i=>(L[i]?).getD noRow):=by
 rcases h.2 with⟨h1,h2⟩ | ⟨Z,cap,cur,h1,h2,k,l,m,o,p⟩
 ·omega
 ·have hb:Blk w Z 43 cur:=k;refine⟨Z,cap,h1,h2,l,by unfold maxLen at m;omega,hb.lt,fun base q=>⟨cur,fun i=>(vs[i]?).getD [],hb,by rw[o];omega,q,fun i hi=>?_⟩⟩;obtain⟨r,a⟩:∃ r,vs[i]? = some r:=⟨_,Aq (by omega)⟩;obtain⟨x,e⟩:∃ x,L[i]? = some x:=⟨_,Aq (by omega)⟩;simp only[a,e,Option.getD_some];refine⟨fun j s=>?_,.inl (g i r x a e)⟩;obtain⟨y,f⟩:∃ y,r[j]? = some y:=⟨_,Aq (by rw[d r (Ak a)];exact s)⟩;have hf:=uX d a f;rw[<-p,List.getElem?_take,if_pos (by omega),Array.getElem?_toList]at hf;rw[hf];exact f.symm
theorem bWa:(fZ.info? 52).map (fun i=>(i.zero,i.size,i.bytes))=some (some (.agg #[.int .i64 0,.int .u64 0,.slice none 0 0,.slice none 0 0,.slice none 0 0]),5,88):=by kernel_rfl
def CodeT(w0 w:Af)(r:List Ag)(c:CodeD):Prop:=∃ a b d,r = [.int .i64 c.op,.int .u64 (c.n:Int),a,b,d]/\c.ok/\Ints w a c.args/\Ints w b c.outs/\Ints w0 d c.to
theorem CodesM.eZy{C:List CodeD}(h:CodesM w0 w base v C)(hl:C.length<=100000)(n:∀ c∈C,c.args.length<=1000/\c.outs.length<=1000):Structs 5 (CodeT w0) w v C:=by
 obtain⟨vs,h1,h2,k⟩:=h;obtain⟨A,c,rfl,hc⟩:=gZ h1
 have l:c<=9223372036854775807/\(A=none->c=0):=by
  rcases h1.2 with⟨e,_⟩ | ⟨g,cap,cur,e,_,_,_,o,_⟩
  ·injection e with f e2 j;subst f;subst j;exact⟨by omega,fun _=>rfl⟩
  ·injection e with f e2 j;subst f;subst j;exact⟨by unfold maxLen at o;omega,fun e=>by cases e⟩
 refine⟨A,c,vs,rfl,hc,l.2,⟨by omega,l.1⟩,h2,fun r p=>?_,fun i r y q1 m=>?_,aVr h1⟩
 ·obtain⟨i,hi,rfl⟩:=Ab p;obtain⟨a,b,d,e,_⟩:=k i _ _ (Aq hi) (Aq (by omega));rw[e];rfl
 ·obtain⟨a,b,d,e,q,s,k2,t⟩:=k i r y q1 m;have hy:=n y (Ak m);exact⟨a,b,d,e,q,aXm s (by omega),aXm k2 (by omega),t⟩
theorem RowM.eZb{a b x p d:Ag}{r:RowD}(h:RowM w0 w base [a,b,x,p,d] r)(hb:Ah w0.heap.size w0 w)(j:r.code.length<=100000)(k:∀ c∈r.code,c.args.length<=1000/\c.outs.length<=1000):
  Structs 5 (CodeT w0) w d r.code/\Ints w0 a r.sig.inn/\Ints w0 b r.sig.out:=by
 rcases h with⟨l,m,p',n,e,h1,h2,o,f⟩ | ⟨l,m,p',n,e,h1,h2,o,f⟩
 ·simp only[List.cons.injEq,and_true]at e;obtain⟨rfl,rfl,_,rfl,rfl⟩:=e;refine⟨?_,h1,h2⟩;obtain⟨A,c,vs,e,q1,q,s,t,u,v,hs⟩:=f;refine⟨A,c,vs,e,q1,q,s,t,u,fun i r x g k2=>?_,hs.below hb (Aj _)⟩;obtain⟨a,b,d,e,y,g,k2,z⟩:=v i r x g k2;exact⟨a,b,d,e,y,g.below hb (Aj _),k2.below hb (Aj _),z⟩
 ·simp only[List.cons.injEq,and_true]at e;obtain⟨rfl,rfl,_,rfl,rfl⟩:=e;exact⟨f.eZy j k,h1,h2⟩
theorem CodeT.below{w0 w w':Af}{B:Nat}{r:List Ag}{c:CodeD}(h:CodeT w0 w r c)(hb:Ah B w w')(f:w.heap.size<=B):CodeT w0 w' r c:=by
 obtain⟨a,b,d,e,g,h1,h2,i⟩:=h;exact⟨a,b,d,e,g,h1.below hb f,h2.below hb f,i⟩
theorem Structs.eZz{l:List CodeD}(h:Structs 5 (CodeT w0) w (.slice A n c) l){x:CodeD}(a:l[k]? = some x):
  ∃ b o p q r,A=some ⟨b,o,none⟩/\b<w.heap.size/\w.cell? ⟨b,o+k*5,none⟩=some (.int .i64 x.op)/\w.cell? ⟨b,o+k*5+1,none⟩=some (.int .u64 (x.n:Int))/\w.cell? ⟨b,o+k*5+2,none⟩=some p/\w.cell? ⟨b,o+k*5+3,none⟩=some q/\w.cell? ⟨b,o+k*5+4,none⟩=some r /\
   x.ok/\Ints w p x.args/\Ints w q x.outs/\Ints w0 r x.to:=by
 obtain⟨b,o,c',rr,e,hb,hr,⟨p,q,r,rfl,d,h1,h2,f⟩,hc⟩:=h.at (by omega) a;injection e with g e2 e3;exact⟨b,o,p,q,r,g,hb,hc 0 _ rfl,hc 1 _ rfl,hc 2 _ rfl,hc 3 _ rfl,hc 4 _ rfl,d,h1,h2,f⟩
theorem CodeM.mono{base':Nat}{cs:List Ag}{c:CodeD}(h:CodeM w0 w base cs c)(hb:base'<=base):CodeM w0 w base' cs c:=by
 obtain⟨a,b,d,e,f,h1,h2,g⟩:=h;exact⟨a,b,d,e,f,lZ h1 hb,lZ h2 hb,g⟩
theorem CodesM.mono{w0 w:Af}{base base':Nat}{v:Ag}{C:List CodeD}(h:CodesM w0 w base v C)(hb:base'<=base):CodesM w0 w base' v C:=by
 obtain⟨vs,h1,h2,a⟩:=h;exact⟨vs,lZ h1 hb,h2,fun i cs c q1 b=>(a i cs c q1 b).mono hb⟩
structure LvJ (w wr:Af) (x0 x1 x2 x4:Ag) (r:RowD) (a b:Int) (v9 v16:Ag) (j:Nat) (wx:Af):Prop where
 hb:Ah wr.heap.size wr wx
 kr:Blk wx wr.heap.size 43 #[x0,x1,x2,v9,x4]
 ho:wx.ownsRow wr.heap.size 3 1 v9 r.params.length (i64s (r.params.map (mgH a b)))
 hc:CodesM w wx wr.heap.size v16 ((r.code.map (mgC a b)).take j)
theorem LvJ.below{w wr:Af}{x0 x1 x2 x4:Ag}{r:RowD}{a b:Int}{v9 v16:Ag}{j:Nat}{wx c:Af}(h:LvJ w wr x0 x1 x2 x4 r a b v9 v16 j wx)(hb:Ah wx.heap.size wx c):LvJ w wr x0 x1 x2 x4 r a b v9 v16 j c:=
 ⟨h.hb.trans (hb.mono h.hb.size),h.kr.below hb h.kr.lt,oY h.ho hb (Aj _),h.hc.from (aJg hb)⟩
theorem LvJ.shape{r:RowD}{a:Int}(h:LvJ w wr x0 x1 x2 x4 r a b v9 v16 j wx)(d:j<=r.code.length):∃ A c,v16 = .slice A j c:=by
 obtain⟨vs,h1,_⟩:=h.hc;obtain⟨A,c,e,_⟩:=gZ h1;rw[AJ,Az,AY d]at e;exact⟨A,c,e⟩
theorem LvJ.code{e:Af}{c:CodeD}{a:Int}{vb d:Ag}(g:c.ok)(h:e.ownsRow base 3 1 f c.args.length (i64s (c.args.map (mgH a b))))(i:e.ownsRow base 3 1 vb c.outs.length (i64s (c.outs.map (mgH a b))))(j:Ints w d c.to):
  CodeM w e base [.int .i64 c.op,.int .u64 (c.n:Int),f,vb,d] (mgC a b c):=by
 refine⟨f,vb,d,rfl,g,?_,?_,j⟩
 ·show e.ownsRow base 3 1 f (c.args.map (mgH a b)).length (i64s (c.args.map (mgH a b)));rw[Az];exact h
 ·show e.ownsRow base 3 1 vb (c.outs.map (mgH a b)).length (i64s (c.outs.map (mgH a b)));rw[Az];exact i
theorem LvJ.row{r:RowD}{a:Int}(h:LvJ w wr x0 x1 x2 x4 r a b v9 v16 j wx)(d:j<=r.code.length):
  ∃ vs:List (List Ag),wx.ownsRow wr.heap.size 52 5 v16 j vs.flatten/\vs.length=j/\∀ (i:Nat) cs c,vs[i]? = some cs->((r.code.map (mgC a b)).take j)[i]? = some c->CodeM w wx wr.heap.size cs c:=by
 obtain⟨vs,h1,h2,f⟩:=h.hc;have e:((r.code.map (mgC a b)).take j).length=j:=(by rw[AJ,Az,AY d]);rw[e]at h1 h2;exact⟨vs,h1,h2,f⟩
theorem LvJ.app{e wc:Af}{r:RowD}{a:Int}{c:CodeD}{vb d:Ag}(h:LvJ w e x0 x1 x2 x4 r a b v9 v16 j wr)(m:j<=r.code.length)(g:Ah wr.heap.size wr wc)(p:c.ok)(q:wc.ownsRow wr.heap.size 3 1 f c.args.length (i64s (c.args.map (mgH a b))))(s:wc.ownsRow wr.heap.size 3 1 vb c.outs.length (i64s (c.outs.map (mgH a b))))(t:Ints w d c.to)(o:Obj):
  ∃ vs:List (List Ag),Hid (LvJ w e x0 x1 x2 x4 r a b v9 v16 j (wc.alloc o))/\Hid ((wc.alloc o).ownsRow e.heap.size 52 5 v16 j vs.flatten)/\Hid (vs.length=j)/\Hid (∀ (i:Nat) cs c,vs[i]? = some cs->((r.code.map (mgC a b)).take j)[i]? = some c->CodeM w (wc.alloc o) e.heap.size cs c)/\Hid (CodeM w (wc.alloc o) e.heap.size [.int .i64 c.op,.int .u64 (c.n:Int),f,vb,d] (mgC a b c))/\e.heap.size<=wc.heap.size:=by
 have k:=(Ac wc.heap.size wc).alloc (Aj _) o;have l:=(h.below g).below k;have u:=((LvJ.code p q s t).mono h.hb.size).from (aJg k);obtain⟨vs,v,x,y⟩:=l.row m;exact⟨vs,fQ l,fQ v,fQ x,fQ y,fQ u,Ad h.hb.size g.size⟩
theorem LvJ.push{w wr:Af}{x0 x1 x2 x4:Ag}{r:RowD}{a b:Int}{v9 v16 l:Ag}{j:Nat}{wx w':Af}{c:CodeD}{cs:List Ag}{vs:List (List Ag)}(h:LvJ w wr x0 x1 x2 x4 r a b v9 v16 j wx)(m:r.code[j]? = some c)
  (h1:wx.ownsRow wr.heap.size 52 5 v16 j vs.flatten) (h2:vs.length=j) (d:∀ (i:Nat) cs c,vs[i]? = some cs->((r.code.map (mgC a b)).take j)[i]? = some c->CodeM w wx wr.heap.size cs c)
  (hc:CodeM w wx wr.heap.size cs (mgC a b c)) (ho:w'.ownsRow wr.heap.size 52 5 l (j+1) (vs.flatten++cs)) (hg:wx.grownBy w' v16.ownBlock):LvJ w wr x0 x1 x2 x4 r a b v9 l (j+1) w':=by
 have ab:=(List.getElem?_eq_some_iff.1 m).1;have e:((r.code.map (mgC a b)).take j).length=j:=(by rw[AJ,Az,AY (by omega)])
 have n:(r.code.map (mgC a b)).take (j+1)=(r.code.map (mgC a b)).take j ++ [mgC a b c]:=by
  have h2:(r.code.map (mgC a b))[j]? = some (mgC a b c):=(by rw[List.getElem?_map,m];rfl);obtain⟨h1,d⟩:=List.getElem?_eq_some_iff.1 h2;rw[List.take_succ_eq_append_getElem h1,d]
 refine⟨jV h.hb hg h.hb.size (fun k f=>(h1.lt k f).1),h.kr.grown hg (own_ne h1 h.kr (by decide)),lV h.ho hg (fun g o=>?_),?_⟩
 ·obtain⟨cur,f⟩:=bXq h.ho o;exact own_ne h1 f (by decide)
 ·rw[n];exact CodesM.push (by rw[e];exact h1) (by rw[e];exact h2) d hc (by rw[e];exact ho) hg
theorem LvJ.done{r:RowD}{a:Int}(h:LvJ w wr x0 x1 (.int .i64 r.places) x4 r a b v9 v16 r.code.length wx)(hb:base<=wr.heap.size)(hi:Ints w x0 r.sig.inn)(ho:Ints w x1 r.sig.out):
  RowM w wx base [x0,x1,.int .i64 r.places,v9,v16] (mgR r a b):=by
 refine .inr ⟨x0,x1,v9,v16,rfl,hi,ho,?_,?_⟩
 ·show wx.ownsRow base 3 1 v9 (r.params.map (mgH a b)).length (i64s (r.params.map (mgH a b)));rw[Az];exact lZ h.ho hb
 ·show CodesM w wx base v16 (r.code.map (mgC a b));have:=h.hc;rw[List.take_of_length_le (by rw[Az];exact Aj _)]at this;exact this.mono hb
structure LvB (w:Af) (p0 p1 p2 p3 p4 p5:Ag) (A:Array Ag) (T:Array Ag) (wr:Af):Prop where
 kp:Blk wr w.heap.size 29 #[p0,p1,p2,p3,p4,p5]
 ka:Blk wr (w.heap.size+1) 35 A
 kt:Blk wr (w.heap.size+1+1) 36 T
 b:Ah w.heap.size w wr
theorem LvB.below{w:Af}{p0 p1 p2 p3 p4 p5:Ag}{A T:Array Ag}{wr w':Af}(h:LvB w p0 p1 p2 p3 p4 p5 A T wr)(hb:Ah wr.heap.size wr w'):LvB w p0 p1 p2 p3 p4 p5 A T w':=
 ⟨h.kp.below hb h.kp.lt,h.ka.below hb h.ka.lt,h.kt.below hb h.kt.lt,h.b.trans (hb.mono h.b.size)⟩
theorem LvB.only{A T:Array Ag}(h:LvB w p0 p1 p2 p3 p4 p5 A T wr)(ho:OnlyBlk wr w' g)(hg:w.heap.size+1+1<g):LvB w p0 p1 p2 p3 p4 p5 A T w':=
 ⟨(ho.other _ (by omega)).trans h.kp,(ho.other _ (by omega)).trans h.ka,(ho.other _ (by omega)).trans h.kt,ho.below h.b (by omega)⟩
structure LvI (p:RowsD) (w:Af) (p0 p1 p2 p3 p4 p5:Ag) (A T:Array Ag) (gb base Z nf:Nat) (gs:Array Ag) (k:Nat) (wr:Af):Prop where
 b:LvB w p0 p1 p2 p3 p4 p5 A T wr
 g:Blk wr gb 29 gs
 f:∃ G,FnsM w wr base Z nf G/\(∀ i,k<=i->i<nf->G i=(p.fns[i]?).getD noRow)/\∀ i,i<k->MgRow ((p.fns[i]?).getD noRow) (G i)
 s:base<=wr.heap.size
theorem LvI.below{p:RowsD}{w:Af}{p0 p1 p2 p3 p4 p5:Ag}{A T:Array Ag}{gb base Z nf:Nat}{gs:Array Ag}{k:Nat}{wr w':Af}(h:LvI p w p0 p1 p2 p3 p4 p5 A T gb base Z nf gs k wr)(hb:Ah wr.heap.size wr w'):LvI p w p0 p1 p2 p3 p4 p5 A T gb base Z nf gs k w':=by
 obtain⟨G,h1,h2,a⟩:=h.f;exact⟨h.b.below hb,h.g.below hb h.g.lt,⟨G,h1.from (aJg hb),h2,a⟩,Ad h.s hb.size⟩
theorem LvI.skip{p:RowsD}{A T:Array Ag}{gb nf:Nat}{gs:Array Ag}(h:LvI p w p0 p1 p2 p3 p4 p5 A T gb base Z nf gs k wr)(c:k<nf):LvI p w p0 p1 p2 p3 p4 p5 A T gb base Z nf gs (k+1) wr:=by
 obtain⟨G,h1,h2,d⟩:=h.f;refine⟨h.b,h.g,⟨G,h1,fun i hi hn=>h2 i (by omega) hn,fun i hi=>?_⟩,h.s⟩;rcases Nat.lt_or_ge i k with a | a
 ·exact d i a
 ·obtain rfl:i=k:=(by omega);exact .inl (h2 i (Aj _) c)
theorem CodesM.other{u:Ag}{C:List CodeD}{t:TypeId}{l:Array Ag}(h:CodesM w0 w base v C)(k:Blk w g t l)(h1:52≠t)(h2:3≠t):CodesM w0 (w.setCell ⟨g,i,none⟩ u) base v C:=by
 obtain⟨vs,a1,m,n⟩:=h;refine⟨vs,iQ a1 (own_ne a1 k h1),m,fun j cs c q1 o=>?_⟩;obtain⟨a,b,d,e,b0,b1,f,p⟩:=n j cs c q1 o;exact⟨a,b,d,e,b0,iQ b1 (own_ne b1 k h2),iQ f (own_ne f k h2),p⟩
theorem RowM.other{w0 w:Af}{base g i:Nat}{u:Ag}{cs:List Ag}{r:RowD}{t:TypeId}{f:Array Ag}(h:RowM w0 w base cs r)(k:Blk w g t f)(h1:52≠t)(h2:3≠t):RowM w0 (w.setCell ⟨g,i,none⟩ u) base cs r:=by
 rcases h with h | ⟨a,b,p,d,e,j,k2,c,l⟩
 ·exact .inl h
 ·exact .inr ⟨a,b,p,d,e,j,k2,iQ c (own_ne c k h2),l.other k h1 h2⟩
theorem LvI.cells{p:RowsD}{A T:Array Ag}{gb nf:Nat}{gs:Array Ag}(h:LvI p w p0 p1 p2 p3 p4 p5 A T gb base Z nf gs k wr)(a:k<nf):
  ∃ y0 y1 y2 y3 y4,wr.cell? ⟨Z,k*5,none⟩=some y0/\wr.cell? ⟨Z,k*5+1,none⟩=some y1/\wr.cell? ⟨Z,k*5+2,none⟩=some y2/\wr.cell? ⟨Z,k*5+3,none⟩=some y3/\wr.cell? ⟨Z,k*5+4,none⟩=some y4/\(∀ i,wr.frozen? ⟨Z,i,none⟩=false)/\Z<wr.heap.size:=by
 obtain⟨G,hf,_,_⟩:=h.f;obtain⟨cs,b,hc⟩:=hf.cell a;have c:=b.eXr
 match cs,c with
 | [y0,y1,y2,y3,y4],_=>exact⟨y0,y1,y2,y3,y4,hc 0 (by omega),hc 1 (by omega),hc 2 (by omega),hc 3 (by omega),hc 4 (by omega),hf.frz,hf.lt⟩
theorem LvI.put{p:RowsD}{w:Af}{p0 p1 p2 p3 p4 p5:Ag}{A T:Array Ag}{gb base Z nf:Nat}{gs:Array Ag}{k:Nat}{wr:Af}{r r':RowD}{x0 x1 x2 x3 x4:Ag}(h:LvI p w p0 p1 p2 p3 p4 p5 A T gb base Z nf gs k wr)(a:k<nf)(c:p.fns[k]? = some r)(d:MgRow r r')
  (j:RowM w wr base [x0,x1,x2,x3,x4] r') (h1:w.heap.size+1+1<gb) (h2:gb<Z) :
  LvI p w p0 p1 p2 p3 p4 p5 A T gb base Z nf gs (k+1) (((((wr.setCell ⟨Z,k*5,none⟩ x0).setCell ⟨Z,k*5+1,none⟩ x1).setCell ⟨Z,k*5+2,none⟩ x2).setCell ⟨Z,k*5+3,none⟩ x3).setCell ⟨Z,k*5+4,none⟩ x4):=by
 obtain⟨G,hf,l,m⟩:=h.f;have ho:OnlyBlk wr (((((wr.setCell ⟨Z,k*5,none⟩ x0).setCell ⟨Z,k*5+1,none⟩ x1).setCell ⟨Z,k*5+2,none⟩ x2).setCell ⟨Z,k*5+3,none⟩ x3).setCell ⟨Z,k*5+4,none⟩ x4) Z:=(((((OnlyBlk.refl wr Z).set _ x0).set _ x1).set _ x2).set _ x3).set _ x4;refine⟨h.b.only ho (by omega),(ho.other _ (by omega)).trans h.g,⟨_,hf.put a j,fun i hi hn=>?_,fun i hi=>?_⟩,by rw[ho.size];exact h.s⟩
 ·show(if i=k then r' else G i)=_;rw[if_neg (by omega)];exact l i (by omega) hn
 ·show MgRow _ (if i=k then r' else G i);by_cases e:i=k
  ·subst e;rw[if_pos rfl,c];exact d
  ·rw[if_neg e];exact m i (by omega)
end Go.Proofs.YtabibkpfgmolkaaGreat
